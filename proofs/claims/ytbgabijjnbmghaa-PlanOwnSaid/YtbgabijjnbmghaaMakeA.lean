/- plan.Make: what it computes, as a plain function over lists, and small laws for its walk. -/
import Derived.Test.YtbgabijjnbmghaaHeapC
import Derived.Test.YtbgabijjnbmghaaP3
import Derived.Test.YtbgabijjnbmghaaShelf
namespace Go.Proofs.Ytbgabijjnbmghaa.P
open Go.RowKit Go.Proofs.YtbgabijjnbmghaaW.PrintWords Go.Proofs.YtbgabijjnbmghaaW.PrintLast Go.Proofs.YtbgabijjnbmghaaW.PrintMore Go.Proofs.Ytbgabijjnbmghaa
set_option linter.unusedVariables false
set_option linter.unusedSimpArgs false

/-- append where there is room, outside a region that draws -/
theorem wpList_append_room {P : Program} {ops : Array Oper} {rest : List Oper} {o : Oper} {a : Act} {w : World} {Q : Exit → Act → World → Prop}
    (hg : o.guard = none) (s x : Operand) (t : TypeId) (hop : o.op = Op.call { callee := Callee.builtin Builtin.append, args := #[s, x], argTypes := #[t, t] })
    (e : TypeId) (i : TypeInfo) (size : Nat) (h1 : P.underlying t = some (.slice e)) (h2 : P.info? e = some i) (h4 : i.size = size)
    (b off n cap : Nat) (hs : a.eval s = .slice (some ⟨b, off, none⟩) n cap)
    (ad : Addr) (m c : Nat) (news : List Value) (hx : a.eval x = .slice (some ad) m c) (hn : news.length = m * size) (hc : ∀ j u, news[j]? = some u → w.cell? (ad.add j) = some u) (h1c : ∀ u ∈ news, u.oneCell' = true)
    (hroom : n + m ≤ cap) (hspare : ∀ j, j < news.length → (w.cell? ⟨b, off + n * size + j, none⟩).isSome = true ∧ w.frozen? ⟨b, off + n * size + j, none⟩ = false)
    (hK : wpList P ops Q rest (a.put o.dst (.slice (some ⟨b, off, none⟩) (n + m) cap)) (w.setCells b (off + n * size) news)) :
    wpList P ops Q (o :: rest) a w := by
  refine wpList_plain hg fun K hK' => ?_
  subst h4
  have hrun := run_append_room_cells (P := P) w t o.type e i h1 h2 b off n cap ad m c news hn hc h1c hroom (fun j hj => (hspare j hj).1) (fun j hj => (hspare j hj).2)
  unfold Oper.wp
  simp [execOp, hop, resolve, invoke, builtin, hs, hx, hrun, Result.andThen]
  exact hK' _ _ hK

/-- the rungs at the start -/
def rungs : Nat → List Int → List Rung
  | _, [] => []
  | i, w :: l => (Int.ofNat i, w) :: rungs (i + 1) l
/-- so many pops: the heap behind them, the runs in their order, the sum -/
def popMany : Nat → List Rung → List Int → Int → List Rung × List Int × Int
  | 0, l, ins, s => (l, ins, s)
  | t + 1, l, ins, s => popMany t ((popL l).take (l.length - 1)) (ins ++ [(at_ (popL l) (l.length - 1)).1]) (wrap64 (s + (at_ (popL l) (l.length - 1)).2))
def sortI (l : List Int) : List Int := l.mergeSort fun x y => decide (x ≤ y)
def pushL (l : List Rung) (x : Rung) : List Rung := upL l.length (l ++ [x]) l.length
/-- one step -/
def stepH (n take : Nat) (l : List Rung) (st : List S51) : List Rung :=
  pushL (popMany take l [] 0).1 (((n + st.length : Nat) : Int), (popMany take l [] 0).2.2)
def stepS (n take : Nat) (l : List Rung) (st : List S51) : List S51 :=
  st ++ [⟨sortI (popMany take l [] 0).2.1, ((n + st.length : Nat) : Int)⟩]
def runL (n fan : Nat) : Nat → Nat → List Rung → List S51 → List S51
  | 0, _, _, st => st
  | f + 1, take, l, st => if 1 < l.length then runL n fan f fan (stepH n take l st) (stepS n take l st) else st
def makeSteps (l : List Int) (fan : Nat) : List S51 :=
  if l.length = 1 then [⟨[0], 1⟩] else runL l.length fan l.length (2 + (l.length - 2) % (fan - 1)) (initL l.length (l.length / 2) (rungs 0 l)) []
def plan_Make.f (k : Nat) (l0 : List Int) (a1 : Int) : Option (List S51 × Int) :=
  (plan_given.f k l0 a1).bind fun t => if t = 0 then some (makeSteps l0 a1.toNat, 0) else some ([], t)
theorem plan_Make.mono : ∀ a0 a1 k, LeO (plan_Make.f k a0 a1) (plan_Make.f (k + 1) a0 a1) := fun a0 a1 k => by
  unfold plan_Make.f
  exact LeO.bind (plan_given.mono _ _ _) (fun _ => LeO.refl _)

theorem rungs_length : ∀ (i : Nat) (l : List Int), (rungs i l).length = l.length
  | _, [] => rfl
  | i, w :: l => by simp [rungs, rungs_length (i + 1) l]
theorem rungs_get : ∀ (l : List Int) (i j : Nat), j < l.length → (rungs i l)[j]? = some (((i + j : Nat) : Int), l.getD j 0)
  | [], i, j, h => by simp at h
  | w :: l, i, 0, h => by simp [rungs]
  | w :: l, i, j + 1, h => by
    simp only [rungs, List.getElem?_cons_succ]
    rw [rungs_get l (i + 1) j (by simpa using h)]
    simp; omega
theorem rungs_take (l : List Int) (i : Nat) (h : i < l.length) : (rungs 0 l).take (i + 1) = (rungs 0 l).take i ++ [((i : Int), rd l i)] := by
  rw [List.take_add_one, rungs_get l 0 i h]
  simp [rd]
theorem pushed_top {w : World} {P g n : Nat} {l : List Rung} (h : Hp w P g n l) (x : Rung) : Top ((w.alloc (.cells #[.int .i64 x.1, .int .i64 x.2] 62)).setCells g (l.length * 2) [.int .i64 x.1, .int .i64 x.2]) P g n l.length :=
  (h.top.alloc _).kept (S := Only g) ((wrote2 g _ _ _ _).kept) (h.lad.ne h.top)
theorem pushed_hp {w : World} {P g n : Nat} {l : List Rung} (h : Hp w P g n l) (x : Rung) (hr : l.length < n) :
    Hp (((w.alloc (.cells #[.int .i64 x.1, .int .i64 x.2] 62)).setCells g (l.length * 2) [.int .i64 x.1, .int .i64 x.2]).setCell ⟨P, 0, none⟩ (.slice (some ⟨g, 0, none⟩) (l.length + 1) n)) P g n (l ++ [x]) := by
  have hs := Lad.snoc (h.lad.alloc (.cells #[.int .i64 x.1, .int .i64 x.2] 62)) x hr
  rw [Nat.zero_add] at hs
  refine ⟨hs.far (h.lad.ne h.top) _, ?_⟩
  rw [List.length_append]
  exact (pushed_top h x).set_ _
theorem pushed_wrote {w : World} {P g n : Nat} {l : List Rung} (x : Rung) :
    Wrote (PG P g) w (((w.alloc (.cells #[.int .i64 x.1, .int .i64 x.2] 62)).setCells g (l.length * 2) [.int .i64 x.1, .int .i64 x.2]).setCell ⟨P, 0, none⟩ (.slice (some ⟨g, 0, none⟩) (l.length + 1) n)) :=
  (((Wrote.refl _ w).alloc _).trans ((wrote2 g _ (l.length * 2) _ _).mono (fun k hk => .inr hk))).setCell (.inl rfl) _

/-! ### what given says -/
theorem given_l0 (l : List Int) (hl : l.length ≤ 65536) : ∀ (k : Nat) (i : Int), 0 ≤ i → plan_given.l0 k l l.length i = some 0 → ∀ j : Nat, i ≤ j → j < l.length → 0 ≤ rd l j ∧ rd l j ≤ 1073741824
  | 0, i, h0, h => by simp [plan_given.l0] at h
  | k + 1, i, h0, h => by
    intro j hij hj
    rw [plan_given.l0, if_pos (by omega), if_pos h0, if_pos (by omega)] at h
    split at h
    · simp at h
    · rename_i h1
      split at h
      · simp at h
      · rename_i h2
        by_cases e : i = j
        · subst e; omega
        · have hw : wrap64 (i + 1) = i + 1 := by unfold wrap64; omega
          rw [hw] at h
          exact given_l0 l hl k (i + 1) (by omega) h j (by omega) hj
theorem given_zero {k : Nat} {l : List Int} {fan : Int} (h : plan_given.f k l fan = some 0) : 2 ≤ fan ∧ fan ≤ 64 ∧ 1 ≤ l.length ∧ l.length ≤ 65536 ∧ ∀ j : Nat, j < l.length → 0 ≤ rd l j ∧ rd l j ≤ 1073741824 := by
  unfold plan_given.f at h
  split at h
  · cases k with
    | zero => simp [plan_given.j0] at h
    | succ k => simp [plan_given.j0] at h
  · cases k with
    | zero => simp [plan_given.j0] at h
    | succ k =>
      rw [plan_given.j0] at h
      split at h
      · simp at h
      · rename_i h1 h2
        simp at h2
        split at h
        · cases k with
          | zero => simp [plan_given.j1] at h
          | succ k => simp [plan_given.j1] at h
        · cases k with
          | zero => simp [plan_given.j1] at h
          | succ k =>
            rw [plan_given.j1] at h
            split at h
            · simp at h
            · rename_i h3 h4
              simp at h4
              exact ⟨by omega, by omega, by omega, by omega, fun j hj => given_l0 l (by omega) k 0 (by omega) h j (by omega) hj⟩
end Go.Proofs.Ytbgabijjnbmghaa.P
