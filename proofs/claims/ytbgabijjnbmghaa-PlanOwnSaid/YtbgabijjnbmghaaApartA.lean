/- milllaw10.apart: what lies in memory while answers are written over and grown: words and plain laws; an append that tells whether the old row was written. -/
import Derived.Test.YtbgabijjnbmghaaP0
import Derived.Maps.AppendAt
namespace Go.Proofs.Ytbgabijjnbmghaa.P
open Go.RowKit Go.Proofs.YtbgabijjnbmghaaW.PrintWords Go.Proofs.YtbgabijjnbmghaaW.PrintLast Go.Proofs.YtbgabijjnbmghaaW.PrintMore
set_option linter.unusedVariables false
set_option linter.unusedSimpArgs false

section
variable {P : Program} (w : World)
/-- append of one element or more onto a row of one's own: in its room (the row's block alone is written), or into a new block (nothing old is written) -/
theorem run_append_own2 (base : Nat) (t ty e : TypeId) (i : TypeInfo) (z : Value) (size bytes : Nat) (ht : P.underlying t = some (.slice e)) (hi : P.info? e = some i) (hz : i.zero = some z)
    (hsize : i.size = size) (hby : i.bytes = bytes) (hzs : z.cells.size = size) (hsz : 0 < size)
    (v : Value) (n : Nat) (xs : List Value) (hown : w.ownsRow base e size v n xs)
    (a : Addr) (m c : Nat) (news : List Value) (hm : 0 < m) (hl : news.length = m * size) (hnews : ∀ j u, news[j]? = some u → w.cell? (a.add j) = some u) (h1 : ∀ u ∈ news, u.oneCell' = true)
    (h63 : n + m ≤ maxLen) (hbytes : (n + m) * bytes ≤ 140737488355328) (hbase : base ≤ w.heap.size) :
    ∃ v' w', (Builtin.append_ #[t, t] ty #[v, .slice (some a) m c]).run P w = .ok v' w' ∧ w'.ownsRow base e size v' (n + m) (xs ++ news) ∧
      ((∃ g cap, v = .slice (some ⟨g, 0, none⟩) n cap ∧ v' = .slice (some ⟨g, 0, none⟩) (n + m) cap ∧ w.grownBy w' (some g)) ∨ (∃ cap, v' = .slice (some ⟨w.heap.size, 0, none⟩) (n + m) cap ∧ w.grownBy w' none)) := by
  subst hsize
  subst hby
  have hsmall : n + m ≤ 9223372036854775807 := by simp only [maxLen] at h63; omega
  have hlen : (xs ++ news).length = (n + m) * i.size := by rw [List.length_append, hown.1, hl, Nat.add_mul]
  have grown : ∀ (old : Nat), old < n + m → ∀ (row : Option Nat),
      (w.drew.alloc (.cells (xs.toArray ++ news.toArray ++ Builtin.zeroCells z.cells (grownCap w (n + m) old e - (n + m))) e)).ownsRow base e i.size
        (.slice (some ⟨w.heap.size, 0, none⟩) (n + m) (grownCap w (n + m) old e)) (n + m) (xs ++ news) ∧
      w.grownBy (w.drew.alloc (.cells (xs.toArray ++ news.toArray ++ Builtin.zeroCells z.cells (grownCap w (n + m) old e - (n + m))) e)) row := by
    intro old ho row
    have hge := grownCap_ge w (n + m) old e
    have hcm : grownCap w (n + m) old e ≤ maxLen := grownCap_le_maxLen w (n + m) old e h63
    refine ⟨⟨hlen, .inr ⟨w.heap.size, _, _, rfl, hbase, heap_alloc_new w.drew _, hge, hcm, ?_, ?_⟩⟩, ⟨rfl, rfl, rfl, by simp, fun k hk _ => heap_alloc_old w.drew _ hk⟩⟩
    · simp only [Array.size_append, List.size_toArray, size_zeroCells, hzs, hown.1, hl, ← Nat.add_mul]
      congr 1
      omega
    · simp only [Array.toList_append, List.append_assoc]
      rw [← List.append_assoc, ← hlen]
      exact List.take_left
  rcases hown.2 with ⟨rfl, rfl⟩ | ⟨g, cap, cur, rfl, hbg, hg, hnc, hcm, hcs, htake⟩
  · have hx : xs = [] := List.eq_nil_of_length_eq_zero (by simpa using hown.1)
    subst hx
    have hr := run_append_nil (P := P) w t ty e i z ht hi hz a m c news hl hnews (by omega) (by omega) (by have hb := hbytes; simp only [Nat.zero_add] at hb; omega)
    have hgr := grown 0 (by omega) none
    simp only [Nat.zero_add, List.nil_append, Array.empty_append] at hgr ⊢
    exact ⟨_, _, hr, hgr.1, .inr ⟨_, rfl, hgr.2⟩⟩
  · by_cases hroom : n + m ≤ cap
    · have hfit : n * i.size + news.length ≤ cur.size := by rw [hl, hcs, ← Nat.add_mul]; exact Nat.mul_le_mul_right _ hroom
      have hr := run_append_room (P := P) w t ty e i ht hi g n cap cur hg a m c news hl hnews h1 hroom hfit
      refine ⟨_, _, hr, ⟨hlen, .inr ⟨g, cap, _, rfl, hbg, setRow_heap w g cur _ e _ hg, hroom, hcm, ?_, ?_⟩⟩, .inl ⟨g, cap, rfl, rfl, ⟨rfl, rfl, rfl, by simp, fun k _ hk => setRow_other w g k _ (fun e => hk (by rw [e]))⟩⟩⟩
      · simp only [List.size_toArray, List.length_append, List.length_take, List.length_drop, Array.length_toList]
        omega
      · rw [htake, ← hlen]
        exact List.take_left
    · have holds : ∀ j u, xs[j]? = some u → w.cell? ((⟨g, 0, none⟩ : Addr).add j) = some u := hown.cells (g := g) rfl
      have hr := run_append_grow (P := P) w t ty e i z ht hi hz ⟨g, 0, none⟩ n cap xs hown.1 holds a m c news hl hnews (by omega) (by omega) (growslice_fits (by omega) hbytes)
      have hgr := grown cap (by omega) none
      exact ⟨_, _, hr, hgr.1, .inr ⟨_, rfl, hgr.2⟩⟩
end
/-- the same at the operation: one element, just laid in a block of its own -/
theorem wpList_append2 {P : Program} {ops : Array Oper} {rest : List Oper} {o : Oper} {a : Act} {Q : Exit → Act → World → Prop} {W : World} (base : Nat) (hgd : o.guard = none) (s x : Operand) (t e : TypeId) (z : Value) (size bytes : Nat)
    (ho : o.op = .call { callee := .builtin .append, args := #[s, x], argTypes := #[t, t] })
    (ht : P.underlying t = some (.slice e)) (hinfo : (P.info? e).map (fun i => (i.zero, i.size, i.bytes)) = some (some z, size, bytes)) (hz : z.cells.size = size) (hs0 : 0 < size) (hb0 : 0 < bytes)
    (v : Value) (n : Nat) (xs ys : List Value) (hs : a.eval s = v) (hx : a.eval x = .slice (some ⟨W.heap.size, 0, none⟩) 1 1) (hys : ys.length = size) (h1 : ∀ u ∈ ys, u.oneCell' = true)
    (HO : W.ownsRow base e size v n xs) (hbase : base ≤ W.heap.size) (hl : (n + 1) * bytes ≤ 140737488355328)
    (h : ∀ v1 w1, w1.ownsRow base e size v1 (n + 1) (xs ++ ys) → ((∃ g cap, v = .slice (some ⟨g, 0, none⟩) n cap ∧ v1 = .slice (some ⟨g, 0, none⟩) (n + 1) cap ∧ W.grownBy w1 (some g)) ∨ (∃ b cap, v1 = .slice (some ⟨b, 0, none⟩) (n + 1) cap ∧ W.heap.size ≤ b ∧ W.grownBy w1 none)) → wpList P ops Q rest (a.put o.dst v1) w1) :
    wpList P ops Q (o :: rest) a (W.alloc (.cells ys.toArray e)) := by
  obtain ⟨i0, hi, hzz⟩ := Option.map_eq_some_iff.1 hinfo
  simp only [Prod.mk.injEq] at hzz
  obtain ⟨hz0, hz1, hz2⟩ := hzz
  have hlen : n + 1 ≤ 140737488355328 := Nat.le_trans (Nat.le_mul_of_pos_right _ hb0) hl
  refine wpList_plain hgd fun K hK => ?_
  obtain ⟨v', w', hr, h2, h3⟩ := run_append_own2 (P := P) (W.alloc (.cells ys.toArray e)) base t o.type e i0 z size bytes ht hi hz0 hz1 hz2 hz hs0 v n xs (HO.alloc _) ⟨W.heap.size, 0, none⟩ 1 1 ys (by omega) (by rw [hys]; simp)
    (by simpa using World.news_of_block (cs := ys.toArray) (t := e) (fr := (0, 0)) (heap_alloc_new W (.cells ys.toArray e))) h1 (by simp only [maxLen]; omega) hl (by simp; omega)
  unfold Oper.wp execOp
  simp only [ho, resolve, invoke, builtin, Sem.run_bind, Sem.run_pure, Result.andThen_ok, List.map_toArray, List.map_cons, List.map_nil, hs, hx, hr]
  refine hK _ _ (h v' w' h2 ?_)
  rcases h3 with ⟨g, cap, e1, e2, h3⟩ | ⟨cap, e2, h3⟩
  · exact .inl ⟨g, cap, e1, e2, World.grownBy.trans (World.grownBy_alloc W _ _) h3⟩
  · exact .inr ⟨_, cap, e2, by simp, World.grownBy.trans (World.grownBy_alloc W _ _) h3⟩

theorem kept_set (w : World) (p : Addr) (u : Value) : Kept w (w.setCell p u) (fun b => b = p.block) := (Kept.refl w (fun b => b = p.block)).setCell (.inl rfl) u
/-! ### a row that grows -/
structure App (e size base : Nat) (W w : World) (g m K : Nat) (F : Nat → Value) (k : Nat) (v : Value) : Prop where
  own : w.ownsRow base e size v (m + k) ((List.range ((m + k) * size)).map F)
  kept : Kept W w (fun b => b = g)
  old : ∃ cells, w.heap[g]? = some (.cells cells e (0, 0)) ∧ cells.size = K * size ∧ ∀ j, j < m * size → cells[j]? = some (F j)
  at_ : v = .slice (some ⟨g, 0, none⟩) (m + k) K ∨ ∃ b c, v = .slice (some ⟨b, 0, none⟩) (m + k) c ∧ W.heap.size ≤ b
theorem take_map {cells : Array Value} {N : Nat} {F : Nat → Value} (h : ∀ j, j < N → cells[j]? = some (F j)) : cells.toList.take N = (List.range N).map F := by
  apply List.ext_getElem?
  intro j
  by_cases hj : j < N
  · rw [List.getElem?_take_of_lt hj, Array.getElem?_toList, h j hj, List.getElem?_map, List.getElem?_range hj]; rfl
  · rw [List.getElem?_eq_none (by rw [List.length_take]; omega), List.getElem?_eq_none (by rw [List.length_map, List.length_range]; omega)]
theorem at_map {cells : Array Value} {N : Nat} {F : Nat → Value} (h : cells.toList.take N = (List.range N).map F) {j : Nat} (hj : j < N) : cells[j]? = some (F j) := by
  have h1 : (cells.toList.take N)[j]? = ((List.range N).map F)[j]? := by rw [h]
  rw [List.getElem?_take_of_lt hj, Array.getElem?_toList, List.getElem?_map, List.getElem?_range hj] at h1
  exact h1
theorem App.start {e size base : Nat} {W : World} {g m K : Nat} {F : Nat → Value} (hb : base ≤ g) (hK : m ≤ K) (hm : K ≤ maxLen) {cells : Array Value} (hg : W.heap[g]? = some (.cells cells e (0, 0))) (hs : cells.size = K * size) (hF : ∀ j, j < m * size → cells[j]? = some (F j)) :
    App e size base W W g m K F 0 (.slice (some ⟨g, 0, none⟩) m K) :=
  ⟨⟨by simp, .inr ⟨g, K, cells, rfl, hb, hg, hK, hm, hs, take_map hF⟩⟩, Kept.refl _ _, ⟨cells, hg, hs, hF⟩, .inl rfl⟩
theorem App.next {e size base : Nat} {W w w1 : World} {g m K : Nat} {F : Nat → Value} {k : Nat} {v v1 : Value} {ys : List Value} (h : App e size base W w g m K F k v) (hgW : g < W.heap.size) (hys : ys = (List.range size).map fun t => F ((m + k) * size + t))
    (ho : w1.ownsRow base e size v1 (m + k + 1) ((List.range ((m + k) * size)).map F ++ ys))
    (hc : (∃ g' cap, v = .slice (some ⟨g', 0, none⟩) (m + k) cap ∧ v1 = .slice (some ⟨g', 0, none⟩) (m + k + 1) cap ∧ w.grownBy w1 (some g')) ∨ (∃ b cap, v1 = .slice (some ⟨b, 0, none⟩) (m + k + 1) cap ∧ w.heap.size ≤ b ∧ w.grownBy w1 none)) :
    App e size base W w1 g m K F (k + 1) v1 := by
  have hl : (List.range ((m + k) * size)).map F ++ ys = (List.range ((m + (k + 1)) * size)).map F := by
    rw [hys, show (m + (k + 1)) * size = (m + k) * size + size by rw [← Nat.add_assoc, Nat.succ_mul], List.range_add, List.map_append, List.map_map]; rfl
  rw [hl] at ho
  obtain ⟨cells, o1, o2, o3⟩ := h.old
  have hgw : g < w.heap.size := blk_lt o1
  rcases hc with ⟨g', cap, e1, e2, hg⟩ | ⟨b, cap, e2, hb, hg⟩
  · subst e2
    rcases h.at_ with e3 | ⟨b, c, e3, hb⟩
    · rw [e3] at e1
      injection e1 with e1 _ e4
      injection e1 with e1
      injection e1 with e1
      subst e1 e4
      refine ⟨ho, Kept.of_grown hg h.kept (fun k hk => .inl (Option.some.inj hk).symm), ?_, .inl rfl⟩
      rcases ho.2 with ⟨h0, _⟩ | ⟨g2, c2, cur, h0, _, hh, _, _, hs, ht⟩
      · cases h0
      · injection h0 with h0 _ h5
        injection h0 with h0
        injection h0 with h0
        subst h0 h5
        exact ⟨cur, hh, hs, fun j hj => at_map ht (Nat.lt_of_lt_of_le hj (Nat.mul_le_mul_right _ (by omega)))⟩
    · rw [e3] at e1
      injection e1 with e1 _ e4
      injection e1 with e1
      injection e1 with e1
      subst e1 e4
      refine ⟨ho, Kept.of_grown hg h.kept (fun k hk => .inr (by rw [← Option.some.inj hk]; exact hb)), ⟨cells, blk_grown o1 hg (fun he => by have := Option.some.inj he; omega), o2, o3⟩, .inr ⟨_, _, rfl, hb⟩⟩
  · subst e2
    exact ⟨ho, Kept.of_grown hg h.kept (fun k hk => by cases hk), ⟨cells, blk_grown o1 hg (by simp), o2, o3⟩, .inr ⟨_, _, rfl, Nat.le_trans h.kept.1 hb⟩⟩
theorem App.below {e size base : Nat} {W w w1 : World} {g m K : Nat} {F : Nat → Value} {k b : Nat} {v : Value} (h : App e size base W w g m K F k v) (hb : Below b W W) : True := trivial

/-! ### the answers -/
structure Ans where
  g : Nat
  cap : Nat
  L : Nat
  hb : Nat → Nat
  m : Nat → Nat
  K : Nat → Nat
/-- an answer's cells: 2 s: the step's row; 2 s + 1: its number -/
def Ans.cell (a : Ans) (out : Nat → Int) (j : Nat) : Value := if j % 2 = 0 then .slice (some ⟨a.hb (j / 2), 0, none⟩) (a.m (j / 2)) (a.K (j / 2)) else .int .i64 (out (j / 2))
structure PicA (w : World) (a : Ans) (out : Nat → Int) (val : Nat → Nat → Int) : Prop where
  row : ∃ cells, w.heap[a.g]? = some (.cells cells 51 (0, 0)) ∧ cells.size = a.cap * 2 ∧ ∀ j, j < a.L * 2 → cells[j]? = some (a.cell out j)
  ins : ∀ s, s < a.L → ∃ cells, w.heap[a.hb s]? = some (.cells cells 3 (0, 0)) ∧ cells.size = a.K s * 1 ∧ ∀ j, j < a.m s * 1 → cells[j]? = some (.int .i64 (val s j))
structure FitA (a : Ans) (lo hi : Nat) : Prop where
  room : a.L ≤ a.cap
  capm : a.cap ≤ maxLen
  few : a.L ≤ 1000
  some_ : 1 ≤ a.L
  mK : ∀ s, s < a.L → a.m s ≤ a.K s
  Km : ∀ s, s < a.L → a.K s ≤ maxLen
  short : ∀ s, s < a.L → a.m s ≤ 1000
  g_in : lo ≤ a.g ∧ a.g < hi
  hb_in : ∀ s, s < a.L → lo ≤ a.hb s ∧ a.hb s < hi
  inj : ∀ s t, s < a.L → t < a.L → a.hb s = a.hb t → s = t
/-- several answers that share nothing -/
structure Sep (A : Nat → Ans) (n lo hi : Nat) : Prop where
  fit : ∀ i, i < n → FitA (A i) lo hi
  g_inj : ∀ i j, i < n → j < n → (A i).g = (A j).g → i = j
  hb_inj : ∀ i j s t, i < n → j < n → s < (A i).L → t < (A j).L → (A i).hb s = (A j).hb t → i = j ∧ s = t
  gh : ∀ i j t, i < n → j < n → t < (A j).L → (A i).g ≠ (A j).hb t
def Pic (w : World) (A : Nat → Ans) (n : Nat) (out : Nat → Nat → Int) (val : Nat → Nat → Nat → Int) : Prop := ∀ i, i < n → PicA w (A i) (out i) (val i)
def Top2 (w : World) (ga : Nat) (A : Nat → Ans) (n : Nat) : Prop := ∃ cells, w.heap[ga]? = some (.cells cells 23 (0, 0)) ∧ ∀ i, i < n → cells[i]? = some (.slice (some ⟨(A i).g, 0, none⟩) (A i).L (A i).cap)
theorem Ans.cell_row (a : Ans) (out : Nat → Int) (s : Nat) : a.cell out (s * 2) = .slice (some ⟨a.hb s, 0, none⟩) (a.m s) (a.K s) := by
  unfold Ans.cell
  rw [if_pos (by omega), show s * 2 / 2 = s by omega]
theorem Ans.cell_out (a : Ans) (out : Nat → Int) (s : Nat) : a.cell out (s * 2 + 1) = .int .i64 (out s) := by
  unfold Ans.cell
  rw [if_neg (by omega), show (s * 2 + 1) / 2 = s by omega]
section
variable {w w1 : World} {A : Nat → Ans} {n ga : Nat} {out : Nat → Nat → Int} {val : Nat → Nat → Nat → Int}
theorem Top2.cell (h : Top2 w ga A n) {i : Nat} (hi : i < n) : w.cell? ⟨ga, i, none⟩ = some (.slice (some ⟨(A i).g, 0, none⟩) (A i).L (A i).cap) := by
  obtain ⟨cells, h1, h2⟩ := h
  rw [blk_cell h1]; exact h2 i hi
theorem Pic.step (h : Pic w A n out val) {i s : Nat} (hi : i < n) (hs : s < (A i).L) : w.cell? ⟨(A i).g, s * 2, none⟩ = some (.slice (some ⟨(A i).hb s, 0, none⟩) ((A i).m s) ((A i).K s)) := by
  obtain ⟨cells, h1, _, h2⟩ := (h i hi).row
  rw [blk_cell h1, h2 _ (by omega), Ans.cell_row]
theorem Pic.outc (h : Pic w A n out val) {i s : Nat} (hi : i < n) (hs : s < (A i).L) : w.cell? ⟨(A i).g, s * 2 + 1, none⟩ = some (.int .i64 (out i s)) := by
  obtain ⟨cells, h1, _, h2⟩ := (h i hi).row
  rw [blk_cell h1, h2 _ (by omega), Ans.cell_out]
theorem Pic.valc (h : Pic w A n out val) {i s k : Nat} (hi : i < n) (hs : s < (A i).L) (hk : k < (A i).m s) : w.cell? ⟨(A i).hb s, k, none⟩ = some (.int .i64 (val i s k)) := by
  obtain ⟨cells, h1, _, h2⟩ := (h i hi).ins s hs
  rw [blk_cell h1, h2 _ (by omega)]
theorem Pic.free (h : Pic w A n out val) {i s : Nat} (hi : i < n) (hs : s < (A i).L) (k : Nat) : w.frozen? ⟨(A i).hb s, k, none⟩ = false := by
  obtain ⟨cells, h1, _⟩ := (h i hi).ins s hs
  exact blk_frozen h1 k
theorem Pic.freeg (h : Pic w A n out val) {i : Nat} (hi : i < n) (k : Nat) : w.frozen? ⟨(A i).g, k, none⟩ = false := by
  obtain ⟨cells, h1, _⟩ := (h i hi).row
  exact blk_frozen h1 k
theorem PicA.kept {a : Ans} {o : Nat → Int} {v : Nat → Nat → Int} {S : Nat → Prop} (h : PicA w a o v) (hk : Kept w w1 S) (hg : ¬ S a.g) (hh : ∀ s, s < a.L → ¬ S (a.hb s)) : PicA w1 a o v := by
  obtain ⟨cells, h1, h2, h3⟩ := h.row
  refine ⟨⟨cells, blk_kept h1 hk hg, h2, h3⟩, fun s hs => ?_⟩
  obtain ⟨cells, h1, h2, h3⟩ := h.ins s hs
  exact ⟨cells, blk_kept h1 hk (hh s hs), h2, h3⟩
theorem Top2.kept {S : Nat → Prop} (h : Top2 w ga A n) (hk : Kept w w1 S) (hg : ¬ S ga) : Top2 w1 ga A n := by
  obtain ⟨cells, h1, h2⟩ := h
  exact ⟨cells, blk_kept h1 hk hg, h2⟩
theorem Pic.kept {S : Nat → Prop} {lo hi : Nat} (h : Pic w A n out val) (hk : Kept w w1 S) (hS : Sep A n lo hi) (hn : ∀ k, lo ≤ k → k < hi → ¬ S k) : Pic w1 A n out val := fun i hi2 =>
  (h i hi2).kept hk (hn _ (hS.fit i hi2).g_in.1 (hS.fit i hi2).g_in.2) (fun s hs => hn _ ((hS.fit i hi2).hb_in s hs).1 ((hS.fit i hi2).hb_in s hs).2)
end
/-- one more place is written -/
def up2 (f : Nat → Nat → Int) (i s : Nat) (x : Int) : Nat → Nat → Int := fun i' s' => if i' = i ∧ s' = s then x else f i' s'
def up3 (f : Nat → Nat → Nat → Int) (i s k : Nat) (x : Int) : Nat → Nat → Nat → Int := fun i' s' k' => if i' = i ∧ s' = s ∧ k' = k then x else f i' s' k'
theorem set_at {cells : Array Value} {j N : Nat} {v : Value} {F G : Nat → Value} (h : ∀ i, i < N → cells[i]? = some (F i)) (hj : j < N) (hG : ∀ i, i < N → G i = if i = j then v else F i) : ∀ i, i < N → (cells.setIfInBounds j v)[i]? = some (G i) := by
  intro i hi
  rw [hG i hi, Array.getElem?_setIfInBounds]
  have hlt : j < cells.size := (Array.getElem?_eq_some_iff.1 (h j hj)).1
  by_cases e : i = j
  · rw [if_pos e, if_pos e.symm, if_pos hlt]
  · rw [if_neg e, if_neg (Ne.symm e)]; exact h i hi
section
variable {w : World} {A : Nat → Ans} {n lo hi : Nat} {out : Nat → Nat → Int} {val : Nat → Nat → Nat → Int}
theorem Pic.setVal (h : Pic w A n out val) (hS : Sep A n lo hi) {i s k : Nat} (hin : i < n) (hs : s < (A i).L) (hk : k < (A i).m s) (x : Int) : Pic (w.setCell ⟨(A i).hb s, k, none⟩ (.int .i64 x)) A n out (up3 val i s k x) := by
  intro i' hi'
  obtain ⟨cells, h1, h2, h3⟩ := (h i' hi').row
  refine ⟨⟨cells, blk_far h1 (hS.gh i' i s hi' hin hs) _, h2, h3⟩, fun s' hs' => ?_⟩
  obtain ⟨cells, h1, h2, h3⟩ := (h i' hi').ins s' hs'
  by_cases e : (A i').hb s' = (A i).hb s
  · obtain ⟨rfl, rfl⟩ := hS.hb_inj _ _ _ _ hi' hin hs' hs e
    refine ⟨_, blk_set h1 k _, by rw [Array.size_setIfInBounds]; exact h2, set_at h3 (by omega) (fun j hj => ?_)⟩
    unfold up3
    by_cases ej : j = k
    · rw [if_pos ⟨rfl, rfl, ej⟩, if_pos ej]
    · rw [if_neg (fun hh => ej hh.2.2), if_neg ej]
  · refine ⟨cells, blk_far h1 e _, h2, fun j hj => ?_⟩
    rw [h3 j hj]
    unfold up3
    rw [if_neg (fun hh => e (by rw [hh.1, hh.2.1]))]
theorem Pic.setOut (h : Pic w A n out val) (hS : Sep A n lo hi) {i s : Nat} (hin : i < n) (hs : s < (A i).L) (x : Int) : Pic (w.setCell ⟨(A i).g, s * 2 + 1, none⟩ (.int .i64 x)) A n (up2 out i s x) val := by
  intro i' hi'
  refine ⟨?_, fun s' hs' => ?_⟩
  · obtain ⟨cells, h1, h2, h3⟩ := (h i' hi').row
    by_cases e : (A i').g = (A i).g
    · have := hS.g_inj _ _ hi' hin e
      subst this
      refine ⟨_, blk_set h1 (s * 2 + 1) _, by rw [Array.size_setIfInBounds]; exact h2, set_at h3 (by omega) (fun j hj => ?_)⟩
      unfold Ans.cell up2
      by_cases ej : j = s * 2 + 1
      · rw [if_pos ej, if_neg (by omega), if_pos ⟨rfl, by omega⟩]
      · rw [if_neg ej]
        by_cases e2 : j % 2 = 0
        · rw [if_pos e2, if_pos e2]
        · rw [if_neg e2, if_neg e2, if_neg (fun hh => ej (by omega))]
    · refine ⟨cells, blk_far h1 e _, h2, fun j hj => ?_⟩
      rw [h3 j hj]
      unfold Ans.cell up2
      by_cases e2 : j % 2 = 0
      · rw [if_pos e2, if_pos e2]
      · rw [if_neg e2, if_neg e2, if_neg (fun hh => e (by rw [hh.1]))]
  · obtain ⟨cells, h1, h2, h3⟩ := (h i' hi').ins s' hs'
    exact ⟨cells, blk_far h1 (Ne.symm (hS.gh i i' s' hin hi' hs')) _, h2, h3⟩
theorem Pic.congr {out' : Nat → Nat → Int} {val' : Nat → Nat → Nat → Int} (h : Pic w A n out val) (ho : ∀ i s, i < n → s < (A i).L → out i s = out' i s) (hv : ∀ i s k, i < n → s < (A i).L → k < (A i).m s → val i s k = val' i s k) : Pic w A n out' val' := by
  intro i hin
  refine ⟨?_, fun s hs => ?_⟩
  · obtain ⟨cells, h1, h2, h3⟩ := (h i hin).row
    refine ⟨cells, h1, h2, fun j hj => ?_⟩
    rw [h3 j hj]
    unfold Ans.cell
    by_cases e2 : j % 2 = 0
    · rw [if_pos e2, if_pos e2]
    · rw [if_neg e2, if_neg e2, ho i (j / 2) hin (by omega)]
  · obtain ⟨cells, h1, h2, h3⟩ := (h i hin).ins s hs
    exact ⟨cells, h1, h2, fun j hj => by rw [h3 j hj, hv i s j hin hs (by omega)]⟩
end
/-! ### what is written -/
def OUT (i s : Nat) : Int := -1000 * (i : Int) - (s : Int) - 1
def VAL (i s k : Nat) : Int := 100000 * (i : Int) + 100 * (s : Int) + (k : Int)
/-- so far: all of the answers before I, of answer I all steps before S, of step S all places before K -/
structure Done (A : Nat → Ans) (out : Nat → Nat → Int) (val : Nat → Nat → Nat → Int) (I S K : Nat) : Prop where
  o1 : ∀ i s, i < I → s < (A i).L → out i s = OUT i s
  o2 : ∀ s, s < S → out I s = OUT I s
  v1 : ∀ i s k, i < I → s < (A i).L → k < (A i).m s → val i s k = VAL i s k
  v2 : ∀ s k, s < S → k < (A I).m s → val I s k = VAL I s k
  v3 : ∀ k, k < K → val I S k = VAL I S k
theorem Done.start (A : Nat → Ans) (out : Nat → Nat → Int) (val : Nat → Nat → Nat → Int) : Done A out val 0 0 0 :=
  ⟨fun _ _ h => absurd h (Nat.not_lt_zero _), fun _ h => absurd h (Nat.not_lt_zero _), fun _ _ _ h => absurd h (Nat.not_lt_zero _), fun _ _ h => absurd h (Nat.not_lt_zero _), fun _ h => absurd h (Nat.not_lt_zero _)⟩
section
variable {A : Nat → Ans} {out : Nat → Nat → Int} {val : Nat → Nat → Nat → Int} {I S K : Nat}
theorem Done.place (h : Done A out val I S K) : Done A out (up3 val I S K (VAL I S K)) I S (K + 1) := by
  refine ⟨h.o1, h.o2, fun i s k hi hs hk => ?_, fun s k hs hk => ?_, fun k hk => ?_⟩
  · unfold up3; rw [if_neg (fun hh => by omega)]; exact h.v1 i s k hi hs hk
  · unfold up3; rw [if_neg (fun hh => by omega)]; exact h.v2 s k hs hk
  · unfold up3
    by_cases e : k = K
    · subst e; rw [if_pos ⟨rfl, rfl, rfl⟩]
    · rw [if_neg (fun hh => e hh.2.2)]; exact h.v3 k (by omega)
theorem Done.step (h : Done A out val I S K) (hK : (A I).m S ≤ K) : Done A (up2 out I S (OUT I S)) val I (S + 1) 0 := by
  refine ⟨fun i s hi hs => ?_, fun s hs => ?_, h.v1, fun s k hs hk => ?_, fun k hk => absurd hk (Nat.not_lt_zero _)⟩
  · unfold up2; rw [if_neg (fun hh => by omega)]; exact h.o1 i s hi hs
  · unfold up2
    by_cases e : s = S
    · subst e; rw [if_pos ⟨rfl, rfl⟩]
    · rw [if_neg (fun hh => e hh.2)]; exact h.o2 s (by omega)
  · by_cases e : s = S
    · subst e; exact h.v3 k (by omega)
    · exact h.v2 s k (by omega) hk
theorem Done.answer (h : Done A out val I S 0) (hS : (A I).L ≤ S) : Done A out val (I + 1) 0 0 := by
  refine ⟨fun i s hi hs => ?_, fun _ hk => absurd hk (Nat.not_lt_zero _), fun i s k hi hs hk => ?_, fun _ _ hk => absurd hk (Nat.not_lt_zero _), fun k hk => absurd hk (Nat.not_lt_zero _)⟩
  · by_cases e : i = I
    · subst e; exact h.o2 s (by omega)
    · exact h.o1 i s (by omega) hs
  · by_cases e : i = I
    · subst e; exact h.v2 s k (by omega) hk
    · exact h.v1 i s k (by omega) hs hk
end
end Go.Proofs.Ytbgabijjnbmghaa.P
