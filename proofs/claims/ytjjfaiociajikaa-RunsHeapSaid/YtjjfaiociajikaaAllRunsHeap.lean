/- RunsHeap answers true, whatever comes in. Several texts of this claim in one (the limit of files): YtjjfaiociajikaaRunE, YtjjfaiociajikaaRunF, YtjjfaiociajikaaRunG, YtjjfaiociajikaaLawRunsHeap. -/
import Derived.Test.YtjjfaiociajikaaRunD
import Derived.Test.YtjjfaiociajikaaRows
import Derived.WalkKit
import Derived.ProofKit
import Derived.OpenShut
import Derived.ShutString
import Derived.ChangeOld
import Derived.Below
import Derived.SizedLaws
import Derived.Test.YtjjfaiociajikaaWSized
/- RunsHeap: the plain law of the round, and what lies in memory between rounds. -/
namespace Go.Proofs.Ytjjfaiociajikaa
open Go.RowKit Go.Proofs.YtjjfaiociajikaaW.PrintWords
set_option linter.unusedVariables false
set_option linter.unusedSimpArgs false

/-! ### which element a push is -/
def pushIx : List Int → Nat → Nat → Nat
  | [], s, _ => s
  | k :: r, s, q => if 0 ≤ k then (if q = 0 then s else pushIx r (s + 1) (q - 1)) else pushIx r (s + 1) q
def cnt : List Int → Nat → Nat
  | [], _ => 0
  | _ :: _, 0 => 0
  | k :: r, i + 1 => (if 0 ≤ k then 1 else 0) + cnt r i
theorem cnt_zero (l : List Int) : cnt l 0 = 0 := by cases l <;> rfl
theorem pushIx_cnt : ∀ (l : List Int) (s i : Nat), i < l.length → 0 ≤ l.getD i 0 → pushIx l s (cnt l i) = s + i
  | [], s, i, h, _ => absurd h (Nat.not_lt_zero _)
  | k :: r, s, 0, _, h0 => by
    rw [cnt_zero]
    have : 0 ≤ k := by simpa using h0
    simp [pushIx, this]
  | k :: r, s, i + 1, h, h0 => by
    have ih := fun s => pushIx_cnt r s i (by simpa using h) (by simpa using h0)
    by_cases c : 0 ≤ k
    · simp only [cnt, pushIx, if_pos c]
      rw [if_neg (by omega), show 1 + cnt r i - 1 = cnt r i by omega, ih]
      omega
    · simp only [cnt, pushIx, if_neg c, Nat.zero_add]
      rw [ih]
      omega
theorem cnt_yes : ∀ (l : List Int) (i : Nat), i < l.length → 0 ≤ l.getD i 0 → cnt l (i + 1) = cnt l i + 1
  | [], i, h, _ => absurd h (Nat.not_lt_zero _)
  | k :: r, 0, _, h0 => by
    have : 0 ≤ k := by simpa using h0
    simp [cnt, cnt_zero, this]
  | k :: r, i + 1, h, h0 => by
    have ih := cnt_yes r i (by simpa using h) (by simpa using h0)
    rw [cnt, cnt, ih]
    omega
theorem cnt_no : ∀ (l : List Int) (i : Nat), (i < l.length → ¬ 0 ≤ l.getD i 0) → cnt l (i + 1) = cnt l i
  | [], i, _ => by simp [cnt]
  | k :: r, 0, h => by
    have : ¬ 0 ≤ k := by simpa using h (by simp)
    simp [cnt, cnt_zero, this]
  | k :: r, i + 1, h => by
    have ih := cnt_no r i (fun hi => by simpa using h (by simpa using hi))
    rw [cnt, cnt, ih]
theorem cnt_le : ∀ (l : List Int) (i : Nat), cnt l i ≤ l.length ∧ cnt l i ≤ i
  | [], i => ⟨Nat.le_refl _, Nat.zero_le _⟩
  | k :: r, 0 => ⟨Nat.zero_le _, Nat.le_refl _⟩
  | k :: r, i + 1 => by
    have ih := cnt_le r i
    rw [cnt, List.length_cons]
    split <;> omega
/-- who comes with a push's number -/
def whoOf (l : List Int) (q : Int) : Int := (pushIx l 0 q.toNat : Nat)
theorem whoOf_cnt {l : List Int} {i : Nat} (h : i < l.length) (h0 : 0 ≤ l.getD i 0) : whoOf l (cnt l i : Nat) = (i : Int) := by
  unfold whoOf
  rw [Int.toNat_natCast, pushIx_cnt l 0 i h h0, Nat.zero_add]

/-! ### the heap's list against what is there -/
structure Sim (q : Nat) (l th : List Rung) : Prop where
  heap : IsHeap l
  perm : l.Perm th
  inc : th.Pairwise (fun x y => x.1 < y.1)
  num : ∀ x ∈ th, x.1 < (q : Int)
  few : th.length ≤ q
theorem Sim.start : Sim 0 [] [] := ⟨fun j h1 h2 _ => absurd h2 (Nat.not_lt_zero _), .refl _, .nil, fun x hx => (by cases hx), Nat.le_refl _⟩
theorem Sim.len {q : Nat} {l th : List Rung} (h : Sim q l th) : l.length = th.length := h.perm.length_eq
theorem Sim.push {q : Nat} {l th : List Rung} (h : Sim q l th) (key : Int) : Sim (q + 1) (upL l.length (l ++ [((q : Int), key)]) l.length) (th ++ [((q : Int), key)]) := by
  refine ⟨push_heap h.heap _, (push_perm l _).trans ?_, ?_, ?_, by rw [List.length_append]; exact Nat.add_le_add_right h.few 1⟩
  · exact (h.perm.cons _).trans (List.perm_append_singleton _ th).symm
  · rw [List.pairwise_append]
    refine ⟨h.inc, List.pairwise_singleton _ _, fun x hx y hy => ?_⟩
    simp at hy
    subst hy
    exact h.num x hx
  · intro x hx
    rw [List.mem_append] at hx
    rcases hx with hx | hx
    · have := h.num x hx; omega
    · simp at hx; subst hx; simp; omega
theorem at_mem {l : List Rung} {j : Nat} (h : j < l.length) : at_ l j ∈ l := List.mem_of_getElem? (at_of_lt h)
theorem mem_at {l : List Rung} {x : Rung} (h : x ∈ l) : ∃ j, j < l.length ∧ at_ l j = x := by
  obtain ⟨j, hj, e⟩ := List.getElem_of_mem h
  refine ⟨j, hj, ?_⟩
  have := at_of_lt hj
  rw [List.getElem?_eq_getElem hj] at this
  injection this with this
  rw [← this, e]
/-- b is the first of the least keys among the first k -/
structure First1 (th : List Rung) (b k : Nat) : Prop where
  lt : b < k
  le : ∀ j, j < k → (at_ th b).2 ≤ (at_ th j).2
  first : ∀ j, j < b → (at_ th b).2 < (at_ th j).2
theorem First1.start (th : List Rung) : First1 th 0 1 := ⟨Nat.zero_lt_one, fun j h => by (obtain rfl : j = 0 := by omega); exact Int.le_refl _, fun j h => absurd h (Nat.not_lt_zero _)⟩
theorem First1.go {th : List Rung} {b k : Nat} (h : First1 th b k) (hlt : (at_ th k).2 < (at_ th b).2) : First1 th k (k + 1) :=
  ⟨Nat.lt_succ_self k, fun j hj => by
    by_cases e : j = k
    · subst e; exact Int.le_refl _
    · have := h.le j (by omega); omega, fun j hj => by have := h.le j hj; omega⟩
theorem First1.stay {th : List Rung} {b k : Nat} (h : First1 th b k) (hlt : ¬ (at_ th k).2 < (at_ th b).2) : First1 th b (k + 1) :=
  ⟨Nat.lt_succ_of_lt h.lt, fun j hj => by
    by_cases e : j = k
    · subst e; omega
    · exact h.le j (by omega), h.first⟩
theorem Sim.best {q : Nat} {l th : List Rung} (h : Sim q l th) {b : Nat} (hb : First1 th b th.length) : at_ l 0 = at_ th b := by
  have h0 : 0 < l.length := by have := hb.lt; have := h.len; omega
  refine le_antisymm ?_ ?_
  · obtain ⟨j, hj, e⟩ := mem_at (h.perm.mem_iff.2 (at_mem hb.lt))
    rw [← e]
    exact heap_min h.heap j hj
  · obtain ⟨j, hj, e⟩ := mem_at (h.perm.mem_iff.1 (at_mem h0))
    rw [← e]
    unfold le
    by_cases c : j < b
    · exact .inl (hb.first j c)
    · rcases Int.lt_or_eq_of_le (hb.le j hj) with h1 | h1
      · exact .inl h1
      · refine .inr ⟨h1, ?_⟩
        by_cases c2 : j = b
        · subst c2; exact Int.le_refl _
        · have := List.pairwise_iff_getElem.1 h.inc b j hb.lt hj (by omega)
          have e1 := at_of_lt hb.lt
          have e2 := at_of_lt hj
          rw [List.getElem?_eq_getElem hb.lt] at e1
          rw [List.getElem?_eq_getElem hj] at e2
          injection e1 with e1
          injection e2 with e2
          rw [e1, e2] at this
          omega
theorem Sim.pop {q : Nat} {l th : List Rung} (h : Sim q l th) {b n : Nat} (hn : th.length = n + 1) (hb : b < th.length) (e : at_ l 0 = at_ th b) : Sim q ((popL l).take n) (th.eraseIdx b) := by
  have hl : l.length = n + 1 := h.len.trans hn
  have hl1 : l.length - 1 = n := by omega
  have h0 : l.length ≠ 0 := by omega
  refine ⟨by have := popL_heap h.heap h0; rwa [hl1] at this, ?_, h.inc.sublist (List.eraseIdx_sublist th b), fun x hx => h.num x (List.mem_of_mem_eraseIdx hx), Nat.le_trans (List.eraseIdx_sublist th b).length_le h.few⟩
  have h1 := popL_perm h0
  rw [hl1] at h1
  have h2 : (th[b] :: th.eraseIdx b).Perm th := by
    rw [List.eraseIdx_eq_take_drop_succ]
    exact List.perm_middle.symm.trans (by rw [← List.drop_eq_getElem_cons hb, List.take_append_drop])
  have e1 := at_of_lt hb
  rw [List.getElem?_eq_getElem hb] at e1
  injection e1 with e1
  rw [e1, ← e] at h2
  exact ((h1.trans h.perm).trans h2.symm).cons_inv
end Go.Proofs.Ytjjfaiociajikaa
/- RunsHeap: what lies in memory between rounds. -/
namespace Go.Proofs.Ytjjfaiociajikaa
open Go.RowKit Go.Proofs.YtjjfaiociajikaaW.PrintWords
set_option linter.unusedVariables false
set_option linter.unusedSimpArgs false

def cells2 (W : Int → Int) (th : List Rung) : List Value := th.flatMap (fun x => [.int .i64 x.2, .int .i64 (W x.1)])
theorem cells2_nil (W : Int → Int) : cells2 W [] = [] := rfl
theorem cells2_len (W : Int → Int) : ∀ (th : List Rung), (cells2 W th).length = th.length * 2
  | [] => rfl
  | x :: r => by have := cells2_len W r; simp [cells2] at this ⊢; omega
theorem cells2_append (W : Int → Int) (a b : List Rung) : cells2 W (a ++ b) = cells2 W a ++ cells2 W b := by simp [cells2]
theorem cells2_one (W : Int → Int) (x : Rung) : cells2 W [x] = [.int .i64 x.2, .int .i64 (W x.1)] := by simp [cells2]
theorem cells2_take (W : Int → Int) (th : List Rung) (m : Nat) (hm : m ≤ th.length) : (cells2 W th).take (m * 2) = cells2 W (th.take m) := by
  have h : cells2 W th = cells2 W (th.take m) ++ cells2 W (th.drop m) := by rw [← cells2_append, List.take_append_drop]
  rw [h, show m * 2 = (cells2 W (th.take m)).length by rw [cells2_len, List.length_take]; omega, List.take_left]
theorem cells2_drop (W : Int → Int) (th : List Rung) (m : Nat) (hm : m ≤ th.length) : (cells2 W th).drop (m * 2) = cells2 W (th.drop m) := by
  have h : cells2 W th = cells2 W (th.take m) ++ cells2 W (th.drop m) := by rw [← cells2_append, List.take_append_drop]
  rw [h, show m * 2 = (cells2 W (th.take m)).length by rw [cells2_len, List.length_take]; omega, List.drop_left]
theorem cells2_at (W : Int → Int) : ∀ (th : List Rung) (i : Nat), i < th.length → (cells2 W th)[i * 2]? = some (.int .i64 (at_ th i).2) ∧ (cells2 W th)[i * 2 + 1]? = some (.int .i64 (W (at_ th i).1))
  | [], i, h => absurd h (Nat.not_lt_zero _)
  | x :: r, 0, _ => ⟨rfl, rfl⟩
  | x :: r, i + 1, h => by
    have ih := cells2_at W r i (by simpa using h)
    rw [show (i + 1) * 2 = i * 2 + 2 by omega, show i * 2 + 2 + 1 = i * 2 + 1 + 2 by omega]
    exact ih
theorem cells2_one_cell (W : Int → Int) (th : List Rung) : ∀ u ∈ cells2 W th, u.oneCell' = true := by
  intro u hu
  unfold cells2 at hu
  rw [List.mem_flatMap] at hu
  obtain ⟨x, _, hu⟩ := hu
  simp at hu
  rcases hu with rfl | rfl <;> rfl
/-- what is there -/
def There (W : Int → Int) (w : World) (base : Nat) (tv : Value) (th : List Rung) : Prop := w.ownsRow base 28 2 tv th.length (cells2 W th)
section
variable {W : Int → Int} {w w1 : World} {base P g n cap : Nat} {q : Int} {v tv : Value} {l th : List Rung} {xs : List Value}
theorem There.move (h : There W w base tv th) (hm : ∀ k, tv.ownBlock = some k → w1.heap[k]? = w.heap[k]?) : There W w1 base tv th := own_move h hm
theorem There.below (h : There W w base tv th) (hb : Below w.heap.size w w1) : There W w1 base tv th := h.move fun k hk => hb.block k (own_lt h k hk)
theorem There.ne_top (h : There W w base tv th) (ht : Top w P v q) (k : Nat) (hk : tv.ownBlock = some k) : k ≠ P := by
  rintro rfl
  obtain ⟨c, hc⟩ := own_typed h k hk
  unfold Top at ht
  rw [ht] at hc
  injection hc with hc
  injection hc with _ hc
  cases hc
theorem There.ne_lad (h : There W w base tv th) (hl : Lad W w g n l) (k : Nat) (hk : tv.ownBlock = some k) : k ≠ g := by
  rintro rfl
  obtain ⟨c, hc⟩ := own_typed h k hk
  obtain ⟨cs, h2, _⟩ := hl
  rw [h2] at hc
  injection hc with hc
  injection hc with _ hc
  cases hc
theorem There.ne_own (h : There W w base tv th) (ho : w.ownsRow base 50 3 v n xs) (k : Nat) (hk : tv.ownBlock = some k) : v.ownBlock ≠ some k := by
  intro h2
  obtain ⟨c, hc⟩ := own_typed h k hk
  obtain ⟨c2, hc2⟩ := own_typed ho k h2
  rw [hc2] at hc
  injection hc with hc
  injection hc with _ hc
  cases hc
theorem There.key (h : There W w base (.slice (some ⟨g, 0, none⟩) n cap) th) (hn : th.length = n) {i : Nat} (hi : i < n) : w.cell? ⟨g, i * 2, none⟩ = some (.int .i64 (at_ th i).2) := by
  subst hn
  rw [World.ownsRow.cellAt h (i * 2) (by omega)]
  exact (cells2_at W th i hi).1
theorem There.who (h : There W w base (.slice (some ⟨g, 0, none⟩) n cap) th) (hn : th.length = n) {i : Nat} (hi : i < n) : w.cell? ⟨g, i * 2 + 1, none⟩ = some (.int .i64 (W (at_ th i).1)) := by
  subst hn
  rw [World.ownsRow.cellAt h (i * 2 + 1) (by omega)]
  exact (cells2_at W th i hi).2
theorem There.form (h : There W w base tv th) (hn : 0 < th.length) : ∃ g cap, tv = .slice (some ⟨g, 0, none⟩) th.length cap ∧ base ≤ g ∧ g < w.heap.size ∧ th.length ≤ cap := by
  obtain ⟨g, cap, e, h1, h2⟩ := World.ownsRow.form h hn
  subst e
  exact ⟨g, cap, rfl, h1, h2, own_cap h⟩
theorem There.nil (h : There W w base tv []) : ∃ A c, tv = .slice A 0 c := own_slice h
theorem Hp.below (h : Hp W w P base q l) (hb : Below w.heap.size w w1) : Hp W w1 P base q l := by
  obtain ⟨v, xs, ht, ho, hr⟩ := h
  exact ⟨v, xs, ht.below hb, own_move ho (fun k hk => hb.block k (own_lt ho k hk)), hr⟩
theorem Hp.top_lt (h : Hp W w P base q l) : P < w.heap.size := by obtain ⟨v, xs, ht, _⟩ := h; exact blk_lt ht
end
/-- between rounds -/
structure St (W : Int → Int) (w wx : World) (P : Nat) (q : Int) (l th : List Rung) (tv : Value) : Prop where
  hp : Hp W wx P w.heap.size q l
  th : There W wx w.heap.size tv th
  below : Below w.heap.size w wx
  low : w.heap.size ≤ P
section
variable {W : Int → Int} {w wx wy : World} {P : Nat} {q q2 : Int} {tv : Value} {l l2 th : List Rung}
theorem St.below_ (h : St W w wx P q l th tv) (hb : Below wx.heap.size wx wy) : St W w wy P q l th tv := ⟨h.hp.below hb, h.th.below hb, below_step h.below hb, h.low⟩
theorem St.size (h : St W w wx P q l th tv) : w.heap.size < wx.heap.size := Nat.lt_of_le_of_lt h.low h.hp.top_lt
/-- behind Push -/
theorem St.push (h : St W w wx P q l th tv) {v : Value} {xs : List Value} (ht : Top wx P v q) (ho : wx.ownsRow w.heap.size 50 3 v l.length xs) (hh : Hp W wy P w.heap.size q2 l2) (hk : Kept wx wy (fun k => k = P ∨ v.ownBlock = some k)) (hb : Below w.heap.size wx wy) : St W w wy P q2 l2 th tv :=
  ⟨hh, h.th.move (fun k hk2 => hk.2 k (own_lt h.th k hk2) (by rintro (e | e); exact h.th.ne_top ht k hk2 e; exact h.th.ne_own ho k hk2 e)), h.below.trans hb, h.low⟩
/-- behind Pop -/
theorem St.pop (h : St W w wx P q l th tv) {v : Value} {g n : Nat} (ht : Top wx P v q) (hl : Lad W wx g n l) (hh : Hp W wy P w.heap.size q2 l2) (hk : Kept wx wy (fun k => k = P ∨ k = g)) (hb : Below w.heap.size wx wy) : St W w wy P q2 l2 th tv :=
  ⟨hh, h.th.move (fun k hk2 => hk.2 k (own_lt h.th k hk2) (by rintro (e | e); exact h.th.ne_top ht k hk2 e; exact h.th.ne_lad hl k hk2 e)), h.below.trans hb, h.low⟩
/-- behind an append to a row of what is there: the old one or another -/
theorem St.grown (h : St W w wx P q l th tv) {v1 v2 : Value} {n : Nat} {xs : List Value} {th2 : List Rung} (ho : wx.ownsRow w.heap.size 28 2 v1 n xs) (hg : wx.grownBy wy v1.ownBlock) (h2 : There W wy w.heap.size v2 th2) : St W w wy P q l th2 v2 := by
  obtain ⟨v, ys, ht, ho2, hr⟩ := h.hp
  have hne : ∀ k, v1.ownBlock = some k → k ≠ P := by
    rintro k hk rfl
    obtain ⟨c, hc⟩ := own_typed ho k hk
    have ht := ht
    unfold Top at ht
    rw [ht] at hc
    injection hc with hc
    injection hc with _ hc
    cases hc
  refine ⟨⟨v, ys, ?_, ?_, hr⟩, h2, h.below.grown hg (Nat.le_of_lt h.size) (own_base ho), h.low⟩
  · exact blk_grown ht hg (fun e => hne P e.symm rfl)
  · exact own_other ho2 hg (own_type_ne ho2 ho (by decide))
end
theorem info28 : (Try.prog.info? 28).map (fun i => (i.zero, i.size, i.bytes)) = some (some (.agg #[.int .i64 0, .int .i64 0]), 2, 16) := by kernel_rfl
theorem x_ne {w : World} {P base n k : Nat} {v : Value} {q : Int} {xs : List Value} {cs : Array Value} (ht : Top w P v q) (ho : w.ownsRow base 50 3 v n xs) (hx : w.heap[k]? = some (.cells cs 28 (0, 0))) : ¬ (k = P ∨ v.ownBlock = some k) := by
  rintro (rfl | h)
  · unfold Top at ht
    rw [hx] at ht
    injection ht with ht
    injection ht with _ ht
    cases ht
  · obtain ⟨c, hc⟩ := own_typed ho k h
    rw [hx] at hc
    injection hc with hc
    injection hc with _ hc
    cases hc
theorem There.snoc {W : Int → Int} {w : World} {base : Nat} {v : Value} {th : List Rung} {q key who : Int} (h : w.ownsRow base 28 2 v (th.length + 1) (cells2 W th ++ [.int .i64 key, .int .i64 who])) (hw : W q = who) : There W w base v (th ++ [(q, key)]) := by
  subst hw
  unfold There
  rw [List.length_append, cells2_append, cells2_one]
  exact h
theorem cells2_new (w : World) (a b : Value) {n t : Nat} (hn : w.heap.size = n) : ∀ j u, [a, b][j]? = some u → (w.alloc (.cells #[a, b] t)).cell? ((⟨n, 0, none⟩ : Addr).add j) = some u := by
  subst hn
  exact World.news_of_block (cs := #[a, b]) (t := t) (fr := (0, 0)) (Go.heap_alloc_new w (.cells #[a, b] t))
theorem There.drop_cells {W : Int → Int} {w : World} {base g n cap m : Nat} {th : List Rung} (h : There W w base (.slice (some ⟨g, 0, none⟩) n cap) th) (hn : th.length = n) (hm : m ≤ n) : ∀ j u, (cells2 W (th.drop m))[j]? = some u → w.cell? ((⟨g, m * 2, none⟩ : Addr).add j) = some u := by
  subst hn
  intro j u hj
  rw [← cells2_drop W th m hm, List.getElem?_drop] at hj
  have hl := (List.getElem?_eq_some_iff.1 hj).1
  rw [cells2_len] at hl
  rw [Addr.add_lit]
  exact (World.ownsRow.cellAt h (m * 2 + j) hl).trans hj
theorem drop_none {W : Int → Int} {w : World} {m : Nat} {th : List Rung} {a : Addr} (hm : th.length ≤ m) : ∀ j u, (cells2 W (th.drop m))[j]? = some u → w.cell? (a.add j) = some u := by
  intro j u hj
  rw [List.drop_eq_nil_of_le hm] at hj
  cases hj
theorem There.join {W : Int → Int} {w : World} {base n b k : Nat} {v : Value} {th : List Rung} (h : w.ownsRow base 28 2 v k (cells2 W (th.take b) ++ cells2 W (th.drop (b + 1)))) (hn : th.length = n + 1) (hb : b < th.length) (hk : k = n) : There W w base v (th.eraseIdx b) := by
  subst hk
  unfold There
  rw [List.length_eraseIdx, if_pos hb, List.eraseIdx_eq_take_drop_succ, cells2_append, hn, Nat.add_sub_cancel]
  exact h
end Go.Proofs.Ytjjfaiociajikaa
/- RunsHeap: the walk. -/
namespace Go.Proofs.Ytjjfaiociajikaa
open Go.RowKit Go.Proofs.YtjjfaiociajikaaW.PrintWords
set_option linter.unusedVariables false
set_option linter.unusedSimpArgs false

theorem heap_far (A0 : Option Addr) (c0 : Nat) (l0 : List Int) (w : World) (h1 : 2000 < l0.length) :
    Calls Try.prog 3 #[.slice A0 l0.length c0] w fun e w' => e = .returned (.bool true) ∧ Below w.heap.size w w' := by
  have c1 : decide (2000 < (l0.length : Int)) = true := decide_eq_true (by omega)
  go_enter Try.func3, Try.ntmps3
  go_wp2_with fail
  refine (new_any _).mono ?_
  rintro e w1 ⟨rfl, rfl⟩
  go_wp2_with fail
  refine (num_any _ _).mono ?_
  rintro e w1 ⟨rfl, rfl⟩
  go_wp2_with fail
  go_ret
  exact ⟨rfl, below_alloc (Below.refl _ _) _⟩
theorem start_st (W : Int → Int) (w : World) : St W w (w.alloc (.cells #[lessF, .slice none 0 0, .int .u64 0] 48)) w.heap.size 0 [] [] (.slice none 0 0) :=
  ⟨⟨_, [], Go.heap_alloc_new w _, own_nil _ _ _ _, ⟨rfl, fun i x h => by simp at h⟩⟩, own_nil _ _ _ _, below_alloc (Below.refl _ _) _, Nat.le_refl _⟩
section
variable {W : Int → Int} {w wx : World} {P n : Nat} {q : Int} {l th : List Rung} {tv : Value} {x0 : Rung}
theorem Peek_0 (h : St W w wx P q [] th tv) : Calls Try.prog 9 #[.pointer (some ⟨P, 0, none⟩)] wx fun e w' => e = .returned (.tuple #[.agg #[.int .i64 0, .int .i64 0], .bool false]) ∧ Below wx.heap.size wx w' := by
  obtain ⟨v, xs, ht, ho, hr⟩ := h.hp
  obtain ⟨A, c, rfl⟩ := own_slice ho
  exact Peek_none P A c q wx ht
theorem Pop_0 (h : St W w wx P q [] th tv) : Calls Try.prog 10 #[.pointer (some ⟨P, 0, none⟩)] wx fun e w' => e = .returned (.tuple #[.agg #[.int .i64 0, .int .i64 0], .bool false]) ∧ Below wx.heap.size wx w' := by
  obtain ⟨v, xs, ht, ho, hr⟩ := h.hp
  obtain ⟨A, c, rfl⟩ := own_slice ho
  exact Pop_none P A c q wx ht
theorem Peek_x (h : St W w wx P q l th tv) (h0 : 0 < l.length) (hx : at_ l 0 = x0) : Calls Try.prog 9 #[.pointer (some ⟨P, 0, none⟩)] wx fun e w' => e = .returned (.tuple #[.agg #[.int .i64 x0.2, .int .i64 (W x0.1)], .bool true]) ∧ Below wx.heap.size wx w' := by
  subst hx
  obtain ⟨v, xs, ht, ho, hr⟩ := h.hp
  obtain ⟨g, cap, rfl, _, _, hl⟩ := lad_of_own ho rfl hr h0
  exact Peek_some W P g cap l q wx ht hl h0
theorem Pop_x (h : St W w wx P q l th tv) (hn : l.length = n + 1) (hn2 : n ≤ 100000) (hx : at_ l 0 = x0) : Calls Try.prog 10 #[.pointer (some ⟨P, 0, none⟩)] wx fun e w' => e = .returned (.tuple #[.agg #[.int .i64 x0.2, .int .i64 (W x0.1)], .bool true]) ∧ St W w w' P q ((popL l).take n) th tv ∧ ∀ (k : Nat) (cs : Array Value), wx.heap[k]? = some (Obj.cells cs 28 (0, 0)) → w'.heap[k]? = some (Obj.cells cs 28 (0, 0)) := by
  subst hx
  obtain ⟨v, xs, ht, ho, hr⟩ := h.hp
  obtain ⟨g, cap, rfl, hb, hm, hl⟩ := lad_of_own ho rfl hr (by omega)
  refine (Pop_some W P w.heap.size g cap n l q wx (ht.len hn.symm) hl hn hn2 hm h.low hb).mono ?_
  rintro e w' ⟨rfl, hh, hk, hB⟩
  refine ⟨rfl, h.pop ht hl hh hk hB, fun k cs hx => blk_kept hx hk ?_⟩
  intro e
  exact x_ne ht ho hx (e.imp id (fun e => by subst e; rfl))
theorem Len_x (h : St W w wx P q l th tv) (hn : l.length = n) : Calls Try.prog 11 #[.pointer (some ⟨P, 0, none⟩)] wx fun e w' => e = .returned (.int .i64 n) ∧ wx = w' := by
  subst hn
  obtain ⟨v, xs, ht, ho, hr⟩ := h.hp
  obtain ⟨A, c, rfl⟩ := own_slice ho
  exact Len_any P A l.length c q wx ht
end
set_option maxRecDepth 100000 in
set_option maxHeartbeats 4000000 in
theorem heap_true (A0 : Option Addr) (c0 : Nat) (l0 : List Int) (w : World) (hr0 : Kd.C (Kd.int .i64) w A0 l0.length l0) (hc0 : l0.length ≤ c0) :
    Calls Try.prog 3 #[.slice A0 l0.length c0] w fun e w' => e = .returned (.bool true) ∧ Below w.heap.size w w' := by
  by_cases h1 : 2000 < l0.length
  · exact heap_far A0 c0 l0 w h1
  have c1 : decide (2000 < (l0.length : Int)) = false := decide_eq_false (by omega)
  have HR0 := Aside0.mk hr0
  obtain ⟨i0, hi, hz0, hz1, hz2⟩ := info_parts info28
  have Hi := Aside0.mk hi
  have Hz0 := Aside0.mk hz0
  have Hz1 := Aside0.mk hz1
  have Hz2 := Aside0.mk hz2
  clear hr0 hi hz0 hz1 hz2
  go_enter Try.func3, Try.ntmps3
  go_wp2_with fail
  refine (new_any _).mono ?_
  rintro e w1 ⟨rfl, rfl⟩
  go_wp2_with fail
  refine (num_any _ _).mono ?_
  rintro e w1 ⟨rfl, rfl⟩
  go_wp2_with fail
  generalize hP : w.heap.size = P at *
  have HP := Aside0.mk hP
  clear hP
  go_loopw [5, 6] (fun v5 v6 w9 => ∃ (i : Nat) (l th : List Rung), v6 = .int .i64 i ∧ i ≤ 2 * l0.length + 1 ∧ Aside0 (Sim (cnt l0 i) l th) ∧ Aside0 (St (whoOf l0) w w9 P (cnt l0 i : Nat) l th v5)) (fun _ v6 _ => 2 * l0.length + 1 - (intOf v6).toNat)
  case atStart => exact ⟨0, [], [], rfl, Nat.zero_le _, ⟨by rw [cnt_zero]; exact Sim.start⟩, ⟨by rw [cnt_zero, ← HP.out]; exact start_st _ w⟩⟩
  case round =>
    obtain ⟨i, l, th, rfl, hi, HSIM, HST⟩ := hrel
    by_cases d1 : i ≤ 2 * l0.length
    · have d1b : decide ((i : Int) ≤ 2 * (l0.length : Int)) = true := decide_eq_true (by omega)
      by_cases d2 : i < l0.length
      · have d2b : decide ((i : Int) < (l0.length : Int)) = true := decide_eq_true (by omega)
        obtain ⟨ad, e, hx⟩ := Kd.at_int (Kd.C_below HR0.out HST.out.below) (i : Int) (by omega) (by omega)
        cases e
        rw [Int.toNat_natCast] at hx
        by_cases d3 : 0 ≤ rd l0 (i : Int)
        · have d3b : decide (0 ≤ rd l0 (i : Int)) = true := decide_eq_true d3
          have HWHO := Aside0.mk (whoOf_cnt d2 (show 0 ≤ l0.getD i 0 from d3))
          have HQ := Aside0.mk (cnt_le l0 i)
          go_wp2_with fail
          have HS1 := Aside0.mk (HST.out.below_ (below_alloc (Below.refl _ _) (.cells #[.int .i64 (rd l0 i), .int .i64 i] 28)))
          obtain ⟨v, xs, ht, ho, hr⟩ := HS1.out.hp
          have HX0 := Aside0.mk (Go.heap_alloc_new wr (.cells #[.int .i64 (rd l0 i), .int .i64 i] 28))
          have HXN := Aside0.mk (x_ne ht ho HX0.out)
          have hfew := HSIM.out.few
          have hsl := HSIM.out.len
          have hq := HQ.out
          refine (Push_v (whoOf l0) P w.heap.size v _ (rd l0 i) i l xs _ ht HS1.out.low ho hr (by omega) (by omega) (by omega) HWHO.out).mono ?_
          rintro e w2 ⟨rfl, hh, hk, hb⟩
          have HS2 := Aside0.mk (HS1.out.push ht ho hh hk hb)
          have HX2 := Aside0.mk (blk_kept HX0.out hk HXN.out)
          clear ht ho hr hh hk hb HS1 HX0 HXN HST
          have z0 : w2.cell? ⟨wr.heap.size, 0, none⟩ = some (.int .i64 (rd l0 i)) := by rw [blk_cell HX2.out]; rfl
          have z1 : w2.cell? ⟨wr.heap.size, 1, none⟩ = some (.int .i64 i) := by rw [blk_cell HX2.out]; rfl
          have z2 := blk_frozen HX2.out 0
          have z3 := blk_frozen HX2.out 1
          clear HX2
          have HTL := Aside0.mk (show th.length ≤ 2000 by omega)
          have HBS := Aside0.mk (Nat.le_of_lt HS2.out.size)
          clear hfew hsl hq hx
          go_wp2_with (at_builtin; refine wpList_append_own _ rfl (.tmp 66) (.tmp 68) 31 rfl w.heap.size 28 i0 _ 2 16 Try.underlying31 Hi.out Hz0.out Hz1.out Hz2.out rfl (by decide) u5 th.length (cells2 (whoOf l0) th) rfl ?hown ⟨w2.heap.size, 0, none⟩ 1 1 [.int .i64 (rd l0 i), .int .i64 i] rfl rfl ?news ?h1 ?h63 ?hby ?hbase ?rest)
          case hown => exact HS2.out.th.below (below_alloc (Below.refl _ _) _)
          case news => exact cells2_new _ _ _ rfl
          case h1 => intro u hu; simp at hu; rcases hu with rfl | rfl <;> rfl
          case h63 => have := HTL.out; simp only [maxLen]; omega
          case hby => have := HTL.out; omega
          case hbase => have := HBS.out; simp; omega
          case rest =>
            intro v' w3 ho3 hg3 _
            have HS3 := Aside0.mk ((HS2.out.below_ (below_alloc (Below.refl _ _) _)).grown (HS2.out.th.below (below_alloc (Below.refl _ _) _)) hg3 (There.snoc ho3 HWHO.out))
            clear ho3 hg3
            go_wp2_with fail
            go_roundw
            case rel => exact ⟨i + 1, _, _, by go_num, by omega, ⟨by rw [cnt_yes l0 i d2 d3]; exact HSIM.out.push (rd l0 (i : Int))⟩, ⟨by rw [cnt_yes l0 i d2 d3]; exact HS3.out⟩⟩
            case measure => simp [intOf]; omega
        · have d3b : decide (0 ≤ rd l0 (i : Int)) = false := decide_eq_false d3
          have hno : i < l0.length → ¬ 0 ≤ l0.getD i 0 := fun _ => d3
          have HNO := Aside0.mk (cnt_no l0 i hno)
          rcases Nat.eq_zero_or_pos th.length with e0 | e0
          · obtain rfl : th = [] := List.eq_nil_of_length_eq_zero e0
            obtain rfl : l = [] := List.eq_nil_of_length_eq_zero (by rw [HSIM.out.len]; rfl)
            obtain ⟨A5, c5, rfl⟩ := HST.out.th.nil
            clear e0
            go_wp2_with fail
            go_loopw [8, 9] (fun v8 v9 w9 => v8 = .int .i64 (-1) ∧ v9 = .int .i64 0 ∧ w9 = wr) (fun _ _ _ => 0)
            case atStart => exact ⟨rfl, rfl, rfl⟩
            case round =>
              obtain ⟨rfl, rfl, rfl⟩ := hrel
              go_wp2_with fail
              refine (Peek_0 HST.out).mono ?_
              rintro e w2 ⟨rfl, hb⟩
              have HS2 := Aside0.mk ((HST.out.below_ hb).below_ (below_alloc (Below.refl _ _) (.cells #[.int .i64 0, .int .i64 0] 28)))
              clear hb
              have HX0 := Aside0.mk (Go.heap_alloc_new w2 (.cells #[.int .i64 0, .int .i64 0] 28))
              go_wp2_with fail
              refine (Pop_0 HS2.out).mono ?_
              rintro e w3 ⟨rfl, hb⟩
              have HS3 := Aside0.mk (HS2.out.below_ hb)
              have HX1 := Aside0.mk (blk_below HX0.out hb)
              clear hb HS2 HX0
              have z0 : ∀ o, (w3.alloc o).cell? ⟨w2.heap.size, 0, none⟩ = some (.int .i64 0) := fun o => by rw [blk_cell (blk_alloc HX1.out o)]; rfl
              have z1 : ∀ o, (w3.alloc o).cell? ⟨w2.heap.size, 1, none⟩ = some (.int .i64 0) := fun o => by rw [blk_cell (blk_alloc HX1.out o)]; rfl
              clear HX1
              go_wp2_with fail
              go_roundw
              case rel => exact ⟨i + 1, [], [], by go_num, by omega, ⟨by rw [HNO.out]; exact HSIM.out⟩, ⟨by rw [HNO.out]; exact HS3.out.below_ (below_alloc (Below.refl _ _) _)⟩⟩
              case measure => simp [intOf]; omega
          · obtain ⟨g5, c5, rfl, hg5, _, hc5⟩ := HST.out.th.form e0
            have htl : th.length ≤ 2000 := by have := HSIM.out.few; have := cnt_le l0 i; omega
            go_wp2_with fail
            go_loopw [8, 9] (fun v8 v9 w9 => ∃ (b : Int) (k : Nat), v8 = .int .i64 b ∧ v9 = .int .i64 k ∧ k ≤ th.length ∧ ((b = -1 ∧ k = 0) ∨ ∃ b' : Nat, b = b' ∧ First1 th b' k) ∧ Aside0 (St (whoOf l0) w w9 P (cnt l0 i : Nat) l th (.slice (some ⟨g5, 0, none⟩) th.length c5))) (fun _ v9 _ => th.length - (intOf v9).toNat)
            case atStart => exact ⟨-1, 0, rfl, rfl, Nat.zero_le _, .inl ⟨rfl, rfl⟩, HST⟩
            case round =>
              clear HST
              obtain ⟨b, k, rfl, rfl, hk, hbk, HS9⟩ := hrel
              by_cases d4 : k < th.length
              · have d4b : decide ((k : Int) < (th.length : Int)) = true := decide_eq_true (by omega)
                have K4 := Aside0.mk d4
                rcases hbk with ⟨rfl, rfl⟩ | ⟨b', rfl, hf⟩
                · go_wp2_with fail
                  go_quiet (fail)
                  go_wp2_with fail
                  go_roundw
                  case rel => exact ⟨0, 1, by go_num, by go_num, by omega, .inr ⟨0, rfl, First1.start th⟩, ⟨HS9.out.below_ (pw_below_drewN (Below.refl _ _) _)⟩⟩
                  case measure => simp [intOf]; omega
                · have hbl : b' < th.length := by have := hf.lt; omega
                  have ka := HS9.out.th.key rfl d4
                  have kb := HS9.out.th.key rfl hbl
                  have kl := hf.lt
                  have HF := Aside0.mk hf
                  clear hf
                  by_cases d5 : (at_ th k).2 < (at_ th b').2
                  · have d5b : decide ((at_ th k).2 < (at_ th b').2) = true := decide_eq_true d5
                    have D5 := Aside0.mk d5
                    go_wp2_with fail
                    go_quiet (fail)
                    go_wp2_with fail
                    go_roundw
                    case rel => exact ⟨k, k + 1, by go_num, by go_num, K4.out, .inr ⟨k, rfl, HF.out.go D5.out⟩, ⟨HS9.out.below_ (pw_below_drewN (Below.refl _ _) _)⟩⟩
                    case measure => simp [intOf]; have := K4.out; omega
                  · have d5b : decide ((at_ th k).2 < (at_ th b').2) = false := decide_eq_false d5
                    have D5 := Aside0.mk (Int.not_lt.mp d5)
                    go_wp2_with fail
                    go_quiet (fail)
                    go_wp2_with fail
                    go_roundw
                    case rel => exact ⟨b', k + 1, by go_num, by go_num, K4.out, .inr ⟨b', rfl, HF.out.stay (by have := D5.out; omega)⟩, ⟨HS9.out.below_ (pw_below_drewN (Below.refl _ _) _)⟩⟩
                    case measure => simp [intOf]; have := K4.out; omega
              · obtain rfl : k = th.length := by omega
                rcases hbk with ⟨rfl, h0⟩ | ⟨b', rfl, hf⟩
                · exact absurd h0 (by omega)
                have HE := Aside0.mk (HSIM.out.best hf)
                have hbl : b' < th.length := hf.lt
                clear hf
                obtain ⟨n, hn⟩ : ∃ n, th.length = n + 1 := ⟨th.length - 1, by omega⟩
                have HN := Aside0.mk hn
                clear hn
                have HLN := Aside0.mk (HSIM.out.len.trans HN.out)
                have HTL := Aside0.mk htl
                go_wp2_with fail
                refine (Peek_x HS9.out (by rw [HLN.out]; exact Nat.succ_pos n) HE.out).mono ?_
                rintro e w2 ⟨rfl, hb⟩
                have HS2 := Aside0.mk ((HS9.out.below_ hb).below_ (below_alloc (Below.refl _ _) (.cells #[.int .i64 (at_ th b').2, .int .i64 (whoOf l0 (at_ th b').1)] 28)))
                clear hb
                have HX0 := Aside0.mk (Go.heap_alloc_new w2 (.cells #[.int .i64 (at_ th b').2, .int .i64 (whoOf l0 (at_ th b').1)] 28))
                go_wp2_with fail
                refine (Pop_x HS2.out HLN.out (by have := HTL.out; have := HN.out; omega) HE.out).mono ?_
                rintro e w3 ⟨rfl, hs3, hx3⟩
                have HS3 := Aside0.mk (hs3.below_ (below_alloc (Below.refl _ _) (.cells #[.int .i64 (at_ th b').2, .int .i64 (whoOf l0 (at_ th b').1)] 28)))
                have HX1 := Aside0.mk (hx3 _ _ HX0.out)
                clear hs3 hx3 HS2 HX0 HS9
                have z0 : ∀ o, (w3.alloc o).cell? ⟨w2.heap.size, 0, none⟩ = some (.int .i64 (at_ th b').2) := fun o => by rw [blk_cell (blk_alloc HX1.out o)]; rfl
                have z1 : ∀ o, (w3.alloc o).cell? ⟨w2.heap.size, 1, none⟩ = some (.int .i64 (whoOf l0 (at_ th b').1)) := fun o => by rw [blk_cell (blk_alloc HX1.out o)]; rfl
                clear HX1
                have ka := HS3.out.th.key rfl hbl
                have kb := HS3.out.th.who rfl hbl
                have db0 : decide (0 ≤ (b' : Int)) = true := decide_eq_true (by omega)
                have db1 : decide ((b' : Int) < 0) = false := decide_eq_false (by omega)
                go_wp2_with fail
                go_quiet (fail)
                generalize hw4 : World.drewN (w3.alloc _) _ = w4
                have HS4 := Aside0.mk (show St (whoOf l0) w w4 P (cnt l0 i : Nat) ((popL l).take n) th (.slice (some ⟨g5, 0, none⟩) th.length c5) by rw [← hw4]; exact HS3.out.below_ (pw_below_drewN (Below.refl _ _) _))
                clear hw4 HS3 z0 z1 ka kb
                have HOT := Aside0.mk (World.ownsRow.cells (g := g5) (own_take HS4.out.th (Nat.le_of_lt hbl)) rfl)
                have HB4 := Aside0.mk (Nat.le_of_lt HS4.out.size)
                have HBL := Aside0.mk hbl
                go_wp2_with (at_builtin; refine wpList_append_own _ rfl (.tmp 132) (.tmp 135) 31 rfl w.heap.size 28 i0 _ 2 16 Try.underlying31 Hi.out Hz0.out Hz1.out Hz2.out rfl (by decide) (.slice none 0 0) 0 [] rfl (own_nil _ _ _ _) ⟨g5, 0, none⟩ b' c5 (cells2 (whoOf l0) (th.take b')) rfl ?hl ?news ?h1 ?h63 ?hby ?hbase ?rest)
                case hl => rw [cells2_len, List.length_take]; have := HBL.out; omega
                case news => rw [← cells2_take _ _ _ (Nat.le_of_lt HBL.out)]; exact HOT.out
                case h1 => exact cells2_one_cell _ _
                case h63 => have := HTL.out; have := HBL.out; simp only [maxLen]; omega
                case hby => have := HTL.out; have := HBL.out; omega
                case hbase => exact HB4.out
                case rest =>
                  intro v1 w5 ho5 hg5 _
                  have HT5 := Aside0.mk (show There (whoOf l0) w5 w.heap.size (.slice (some ⟨g5, 0, none⟩) th.length c5) th from own_other HS4.out.th hg5 (.inr (by simp [Value.ownBlock])))
                  have HS5 := Aside0.mk (HS4.out.grown (own_nil _ _ _ _) hg5 HT5.out)
                  have HO5 := Aside0.mk ho5
                  clear ho5 hg5 HS4 HOT HB4
                  have HLL := Aside0.mk (show ((popL l).take n).length = n by rw [List.length_take, popL_length, HLN.out]; omega)
                  by_cases d6 : c5 = b' + 1
                  · have HTC := Aside0.mk (show th.length ≤ b' + 1 by rw [← d6]; exact hc5)
                    go_wp2_with (at_builtin; refine wpList_append_own _ rfl (.tmp 137) (.tmp 141) 31 rfl w.heap.size 28 i0 _ 2 16 Try.underlying31 Hi.out Hz0.out Hz1.out Hz2.out rfl (by decide) v1 b' (cells2 (whoOf l0) (th.take b')) rfl HO5.out _ (th.length - (b' + 1)) _ (cells2 (whoOf l0) (th.drop (b' + 1))) rfl ?hl ?news ?h1 ?h63 ?hby ?hbase ?rest)
                    case hl => rw [cells2_len, List.length_drop]
                    case news => exact drop_none (by have := HTC.out; omega)
                    case h1 => exact cells2_one_cell _ _
                    case h63 => have := HTL.out; have := HBL.out; simp only [maxLen]; omega
                    case hby => have := HTL.out; have := HBL.out; omega
                    case hbase => exact Nat.le_of_lt HS5.out.size
                    case rest =>
                      intro v6 w6 ho6 hg6 _
                      have HT6 := Aside0.mk (There.join ho6 HN.out HBL.out (by have := HN.out; have := HBL.out; omega))
                      have HS6 := Aside0.mk (HS5.out.grown HO5.out hg6 HT6.out)
                      clear ho6 hg6
                      obtain ⟨A6, c6, h6⟩ := own_slice HT6.out
                      obtain rfl : v6 = .slice A6 n c6 := by rw [h6, List.length_eraseIdx, if_pos HBL.out, HN.out, Nat.add_sub_cancel]
                      clear h6
                      go_wp2_with fail
                      refine (Len_x HS6.out HLL.out).mono ?_
                      rintro e w7 ⟨rfl, rfl⟩
                      go_wp2_with fail
                      go_roundw
                      case rel => exact ⟨i + 1, (popL l).take n, th.eraseIdx b', by go_num, by omega, ⟨by rw [HNO.out]; exact HSIM.out.pop HN.out HBL.out HE.out⟩, ⟨by rw [HNO.out]; exact HS6.out⟩⟩
                      case measure => simp [intOf]; omega
                  · go_wp2_with (at_builtin; refine wpList_append_own _ rfl (.tmp 137) (.tmp 141) 31 rfl w.heap.size 28 i0 _ 2 16 Try.underlying31 Hi.out Hz0.out Hz1.out Hz2.out rfl (by decide) v1 b' (cells2 (whoOf l0) (th.take b')) rfl HO5.out _ (th.length - (b' + 1)) _ (cells2 (whoOf l0) (th.drop (b' + 1))) rfl ?hl ?news ?h1 ?h63 ?hby ?hbase ?rest)
                    case hl => rw [cells2_len, List.length_drop]
                    case news => exact There.drop_cells HT5.out rfl HBL.out
                    case h1 => exact cells2_one_cell _ _
                    case h63 => have := HTL.out; have := HBL.out; simp only [maxLen]; omega
                    case hby => have := HTL.out; have := HBL.out; omega
                    case hbase => exact Nat.le_of_lt HS5.out.size
                    case rest =>
                      intro v6 w6 ho6 hg6 _
                      have HT6 := Aside0.mk (There.join ho6 HN.out HBL.out (by have := HN.out; have := HBL.out; omega))
                      have HS6 := Aside0.mk (HS5.out.grown HO5.out hg6 HT6.out)
                      clear ho6 hg6
                      obtain ⟨A6, c6, h6⟩ := own_slice HT6.out
                      obtain rfl : v6 = .slice A6 n c6 := by rw [h6, List.length_eraseIdx, if_pos HBL.out, HN.out, Nat.add_sub_cancel]
                      clear h6
                      go_wp2_with fail
                      refine (Len_x HS6.out HLL.out).mono ?_
                      rintro e w7 ⟨rfl, rfl⟩
                      go_wp2_with fail
                      go_roundw
                      case rel => exact ⟨i + 1, (popL l).take n, th.eraseIdx b', by go_num, by omega, ⟨by rw [HNO.out]; exact HSIM.out.pop HN.out HBL.out HE.out⟩, ⟨by rw [HNO.out]; exact HS6.out⟩⟩
                      case measure => simp [intOf]; omega
      · have d2b : decide ((i : Int) < (l0.length : Int)) = false := decide_eq_false (by omega)
        have hno : i < l0.length → ¬ 0 ≤ l0.getD i 0 := fun h => absurd h d2
        have HNO := Aside0.mk (cnt_no l0 i hno)
        rcases Nat.eq_zero_or_pos th.length with e0 | e0
        · obtain rfl : th = [] := List.eq_nil_of_length_eq_zero e0
          obtain rfl : l = [] := List.eq_nil_of_length_eq_zero (by rw [HSIM.out.len]; rfl)
          obtain ⟨A5, c5, rfl⟩ := HST.out.th.nil
          clear e0
          go_wp2_with fail
          go_loopw [8, 9] (fun v8 v9 w9 => v8 = .int .i64 (-1) ∧ v9 = .int .i64 0 ∧ w9 = wr) (fun _ _ _ => 0)
          case atStart => exact ⟨rfl, rfl, rfl⟩
          case round =>
            obtain ⟨rfl, rfl, rfl⟩ := hrel
            go_wp2_with fail
            refine (Peek_0 HST.out).mono ?_
            rintro e w2 ⟨rfl, hb⟩
            have HS2 := Aside0.mk ((HST.out.below_ hb).below_ (below_alloc (Below.refl _ _) (.cells #[.int .i64 0, .int .i64 0] 28)))
            clear hb
            have HX0 := Aside0.mk (Go.heap_alloc_new w2 (.cells #[.int .i64 0, .int .i64 0] 28))
            go_wp2_with fail
            refine (Pop_0 HS2.out).mono ?_
            rintro e w3 ⟨rfl, hb⟩
            have HS3 := Aside0.mk (HS2.out.below_ hb)
            have HX1 := Aside0.mk (blk_below HX0.out hb)
            clear hb HS2 HX0
            have z0 : ∀ o, (w3.alloc o).cell? ⟨w2.heap.size, 0, none⟩ = some (.int .i64 0) := fun o => by rw [blk_cell (blk_alloc HX1.out o)]; rfl
            have z1 : ∀ o, (w3.alloc o).cell? ⟨w2.heap.size, 1, none⟩ = some (.int .i64 0) := fun o => by rw [blk_cell (blk_alloc HX1.out o)]; rfl
            clear HX1
            go_wp2_with fail
            go_roundw
            case rel => exact ⟨i + 1, [], [], by go_num, by omega, ⟨by rw [HNO.out]; exact HSIM.out⟩, ⟨by rw [HNO.out]; exact HS3.out.below_ (below_alloc (Below.refl _ _) _)⟩⟩
            case measure => simp [intOf]; omega
        · obtain ⟨g5, c5, rfl, hg5, _, hc5⟩ := HST.out.th.form e0
          have htl : th.length ≤ 2000 := by have := HSIM.out.few; have := cnt_le l0 i; omega
          go_wp2_with fail
          go_loopw [8, 9] (fun v8 v9 w9 => ∃ (b : Int) (k : Nat), v8 = .int .i64 b ∧ v9 = .int .i64 k ∧ k ≤ th.length ∧ ((b = -1 ∧ k = 0) ∨ ∃ b' : Nat, b = b' ∧ First1 th b' k) ∧ Aside0 (St (whoOf l0) w w9 P (cnt l0 i : Nat) l th (.slice (some ⟨g5, 0, none⟩) th.length c5))) (fun _ v9 _ => th.length - (intOf v9).toNat)
          case atStart => exact ⟨-1, 0, rfl, rfl, Nat.zero_le _, .inl ⟨rfl, rfl⟩, HST⟩
          case round =>
            clear HST
            obtain ⟨b, k, rfl, rfl, hk, hbk, HS9⟩ := hrel
            by_cases d4 : k < th.length
            · have d4b : decide ((k : Int) < (th.length : Int)) = true := decide_eq_true (by omega)
              have K4 := Aside0.mk d4
              rcases hbk with ⟨rfl, rfl⟩ | ⟨b', rfl, hf⟩
              · go_wp2_with fail
                go_quiet (fail)
                go_wp2_with fail
                go_roundw
                case rel => exact ⟨0, 1, by go_num, by go_num, by omega, .inr ⟨0, rfl, First1.start th⟩, ⟨HS9.out.below_ (pw_below_drewN (Below.refl _ _) _)⟩⟩
                case measure => simp [intOf]; omega
              · have hbl : b' < th.length := by have := hf.lt; omega
                have ka := HS9.out.th.key rfl d4
                have kb := HS9.out.th.key rfl hbl
                have kl := hf.lt
                have HF := Aside0.mk hf
                clear hf
                by_cases d5 : (at_ th k).2 < (at_ th b').2
                · have d5b : decide ((at_ th k).2 < (at_ th b').2) = true := decide_eq_true d5
                  have D5 := Aside0.mk d5
                  go_wp2_with fail
                  go_quiet (fail)
                  go_wp2_with fail
                  go_roundw
                  case rel => exact ⟨k, k + 1, by go_num, by go_num, K4.out, .inr ⟨k, rfl, HF.out.go D5.out⟩, ⟨HS9.out.below_ (pw_below_drewN (Below.refl _ _) _)⟩⟩
                  case measure => simp [intOf]; have := K4.out; omega
                · have d5b : decide ((at_ th k).2 < (at_ th b').2) = false := decide_eq_false d5
                  have D5 := Aside0.mk (Int.not_lt.mp d5)
                  go_wp2_with fail
                  go_quiet (fail)
                  go_wp2_with fail
                  go_roundw
                  case rel => exact ⟨b', k + 1, by go_num, by go_num, K4.out, .inr ⟨b', rfl, HF.out.stay (by have := D5.out; omega)⟩, ⟨HS9.out.below_ (pw_below_drewN (Below.refl _ _) _)⟩⟩
                  case measure => simp [intOf]; have := K4.out; omega
            · obtain rfl : k = th.length := by omega
              rcases hbk with ⟨rfl, h0⟩ | ⟨b', rfl, hf⟩
              · exact absurd h0 (by omega)
              have HE := Aside0.mk (HSIM.out.best hf)
              have hbl : b' < th.length := hf.lt
              clear hf
              obtain ⟨n, hn⟩ : ∃ n, th.length = n + 1 := ⟨th.length - 1, by omega⟩
              have HN := Aside0.mk hn
              clear hn
              have HLN := Aside0.mk (HSIM.out.len.trans HN.out)
              have HTL := Aside0.mk htl
              go_wp2_with fail
              refine (Peek_x HS9.out (by rw [HLN.out]; exact Nat.succ_pos n) HE.out).mono ?_
              rintro e w2 ⟨rfl, hb⟩
              have HS2 := Aside0.mk ((HS9.out.below_ hb).below_ (below_alloc (Below.refl _ _) (.cells #[.int .i64 (at_ th b').2, .int .i64 (whoOf l0 (at_ th b').1)] 28)))
              clear hb
              have HX0 := Aside0.mk (Go.heap_alloc_new w2 (.cells #[.int .i64 (at_ th b').2, .int .i64 (whoOf l0 (at_ th b').1)] 28))
              go_wp2_with fail
              refine (Pop_x HS2.out HLN.out (by have := HTL.out; have := HN.out; omega) HE.out).mono ?_
              rintro e w3 ⟨rfl, hs3, hx3⟩
              have HS3 := Aside0.mk (hs3.below_ (below_alloc (Below.refl _ _) (.cells #[.int .i64 (at_ th b').2, .int .i64 (whoOf l0 (at_ th b').1)] 28)))
              have HX1 := Aside0.mk (hx3 _ _ HX0.out)
              clear hs3 hx3 HS2 HX0 HS9
              have z0 : ∀ o, (w3.alloc o).cell? ⟨w2.heap.size, 0, none⟩ = some (.int .i64 (at_ th b').2) := fun o => by rw [blk_cell (blk_alloc HX1.out o)]; rfl
              have z1 : ∀ o, (w3.alloc o).cell? ⟨w2.heap.size, 1, none⟩ = some (.int .i64 (whoOf l0 (at_ th b').1)) := fun o => by rw [blk_cell (blk_alloc HX1.out o)]; rfl
              clear HX1
              have ka := HS3.out.th.key rfl hbl
              have kb := HS3.out.th.who rfl hbl
              have db0 : decide (0 ≤ (b' : Int)) = true := decide_eq_true (by omega)
              have db1 : decide ((b' : Int) < 0) = false := decide_eq_false (by omega)
              go_wp2_with fail
              go_quiet (fail)
              generalize hw4 : World.drewN (w3.alloc _) _ = w4
              have HS4 := Aside0.mk (show St (whoOf l0) w w4 P (cnt l0 i : Nat) ((popL l).take n) th (.slice (some ⟨g5, 0, none⟩) th.length c5) by rw [← hw4]; exact HS3.out.below_ (pw_below_drewN (Below.refl _ _) _))
              clear hw4 HS3 z0 z1 ka kb
              have HOT := Aside0.mk (World.ownsRow.cells (g := g5) (own_take HS4.out.th (Nat.le_of_lt hbl)) rfl)
              have HB4 := Aside0.mk (Nat.le_of_lt HS4.out.size)
              have HBL := Aside0.mk hbl
              go_wp2_with (at_builtin; refine wpList_append_own _ rfl (.tmp 132) (.tmp 135) 31 rfl w.heap.size 28 i0 _ 2 16 Try.underlying31 Hi.out Hz0.out Hz1.out Hz2.out rfl (by decide) (.slice none 0 0) 0 [] rfl (own_nil _ _ _ _) ⟨g5, 0, none⟩ b' c5 (cells2 (whoOf l0) (th.take b')) rfl ?hl ?news ?h1 ?h63 ?hby ?hbase ?rest)
              case hl => rw [cells2_len, List.length_take]; have := HBL.out; omega
              case news => rw [← cells2_take _ _ _ (Nat.le_of_lt HBL.out)]; exact HOT.out
              case h1 => exact cells2_one_cell _ _
              case h63 => have := HTL.out; have := HBL.out; simp only [maxLen]; omega
              case hby => have := HTL.out; have := HBL.out; omega
              case hbase => exact HB4.out
              case rest =>
                intro v1 w5 ho5 hg5 _
                have HT5 := Aside0.mk (show There (whoOf l0) w5 w.heap.size (.slice (some ⟨g5, 0, none⟩) th.length c5) th from own_other HS4.out.th hg5 (.inr (by simp [Value.ownBlock])))
                have HS5 := Aside0.mk (HS4.out.grown (own_nil _ _ _ _) hg5 HT5.out)
                have HO5 := Aside0.mk ho5
                clear ho5 hg5 HS4 HOT HB4
                have HLL := Aside0.mk (show ((popL l).take n).length = n by rw [List.length_take, popL_length, HLN.out]; omega)
                by_cases d6 : c5 = b' + 1
                · have HTC := Aside0.mk (show th.length ≤ b' + 1 by rw [← d6]; exact hc5)
                  go_wp2_with (at_builtin; refine wpList_append_own _ rfl (.tmp 137) (.tmp 141) 31 rfl w.heap.size 28 i0 _ 2 16 Try.underlying31 Hi.out Hz0.out Hz1.out Hz2.out rfl (by decide) v1 b' (cells2 (whoOf l0) (th.take b')) rfl HO5.out _ (th.length - (b' + 1)) _ (cells2 (whoOf l0) (th.drop (b' + 1))) rfl ?hl ?news ?h1 ?h63 ?hby ?hbase ?rest)
                  case hl => rw [cells2_len, List.length_drop]
                  case news => exact drop_none (by have := HTC.out; omega)
                  case h1 => exact cells2_one_cell _ _
                  case h63 => have := HTL.out; have := HBL.out; simp only [maxLen]; omega
                  case hby => have := HTL.out; have := HBL.out; omega
                  case hbase => exact Nat.le_of_lt HS5.out.size
                  case rest =>
                    intro v6 w6 ho6 hg6 _
                    have HT6 := Aside0.mk (There.join ho6 HN.out HBL.out (by have := HN.out; have := HBL.out; omega))
                    have HS6 := Aside0.mk (HS5.out.grown HO5.out hg6 HT6.out)
                    clear ho6 hg6
                    obtain ⟨A6, c6, h6⟩ := own_slice HT6.out
                    obtain rfl : v6 = .slice A6 n c6 := by rw [h6, List.length_eraseIdx, if_pos HBL.out, HN.out, Nat.add_sub_cancel]
                    clear h6
                    go_wp2_with fail
                    refine (Len_x HS6.out HLL.out).mono ?_
                    rintro e w7 ⟨rfl, rfl⟩
                    go_wp2_with fail
                    go_roundw
                    case rel => exact ⟨i + 1, (popL l).take n, th.eraseIdx b', by go_num, by omega, ⟨by rw [HNO.out]; exact HSIM.out.pop HN.out HBL.out HE.out⟩, ⟨by rw [HNO.out]; exact HS6.out⟩⟩
                    case measure => simp [intOf]; omega
                · go_wp2_with (at_builtin; refine wpList_append_own _ rfl (.tmp 137) (.tmp 141) 31 rfl w.heap.size 28 i0 _ 2 16 Try.underlying31 Hi.out Hz0.out Hz1.out Hz2.out rfl (by decide) v1 b' (cells2 (whoOf l0) (th.take b')) rfl HO5.out _ (th.length - (b' + 1)) _ (cells2 (whoOf l0) (th.drop (b' + 1))) rfl ?hl ?news ?h1 ?h63 ?hby ?hbase ?rest)
                  case hl => rw [cells2_len, List.length_drop]
                  case news => exact There.drop_cells HT5.out rfl HBL.out
                  case h1 => exact cells2_one_cell _ _
                  case h63 => have := HTL.out; have := HBL.out; simp only [maxLen]; omega
                  case hby => have := HTL.out; have := HBL.out; omega
                  case hbase => exact Nat.le_of_lt HS5.out.size
                  case rest =>
                    intro v6 w6 ho6 hg6 _
                    have HT6 := Aside0.mk (There.join ho6 HN.out HBL.out (by have := HN.out; have := HBL.out; omega))
                    have HS6 := Aside0.mk (HS5.out.grown HO5.out hg6 HT6.out)
                    clear ho6 hg6
                    obtain ⟨A6, c6, h6⟩ := own_slice HT6.out
                    obtain rfl : v6 = .slice A6 n c6 := by rw [h6, List.length_eraseIdx, if_pos HBL.out, HN.out, Nat.add_sub_cancel]
                    clear h6
                    go_wp2_with fail
                    refine (Len_x HS6.out HLL.out).mono ?_
                    rintro e w7 ⟨rfl, rfl⟩
                    go_wp2_with fail
                    go_roundw
                    case rel => exact ⟨i + 1, (popL l).take n, th.eraseIdx b', by go_num, by omega, ⟨by rw [HNO.out]; exact HSIM.out.pop HN.out HBL.out HE.out⟩, ⟨by rw [HNO.out]; exact HS6.out⟩⟩
                    case measure => simp [intOf]; omega
    · have d1b : decide ((i : Int) ≤ 2 * (l0.length : Int)) = false := decide_eq_false (by omega)
      go_wp2_with fail
      go_ret
      exact ⟨rfl, HST.out.below⟩
end Go.Proofs.Ytjjfaiociajikaa
/- RunsHeap answers true, whatever comes in: from the printed row of RunsHeap, turned by hand. -/
namespace Go.Proofs.Ytjjfaiociajikaa.runsHeap
open Go.ChangeShapes Go.WideShapes Go.ChangeAt Go.RowKit Go.Proofs.YtjjfaiociajikaaW.PrintWords
open Go.ChangeMaps (open_string shut_string)
set_option linter.unusedVariables false
theorem own : ownKnob Try.prog.godebug = none := by kernel_rfl
theorem laidOut : laidOutB Try.prog = true := by kernel_rfl
def IsRow (k : IntKind) (w : World) (a : Option Addr) (len cap : Nat) (zs : List Int) : Prop :=
  (a = none ∧ len = 0 ∧ cap = 0 ∧ zs = []) ∨
  ∃ x, a = some x ∧ len ≤ cap ∧ cap ≤ maxLen ∧ zs.length = cap ∧ (∀ i, i < zs.length → w.cell? (x.add i) = some (.int k (zs.getD i 0))) ∧ ∀ n ∈ zs, (Lit.int k n).wf = true
set_option maxRecDepth 100000 in
theorem lifted (os : Os) (started : os.Started) (H : Type) (enc : TypeId × Value → H) :
    ReturnsInHanded {} Try.checked os 3 .any (Rows.runsHeapSpec.pre6 enc Try.prog Try.f3 Rows.runsHeapRow.domain false) (Rows.runsHeapSpec.post enc Try.prog Try.f3 false true false false) := by
  refine returnsInHanded_of_change_sized (C := Try.checked) own started (by kernel_rfl) Try.func3
    (ChangeSpec.witness6 (enc := enc) (C := Try.checked) false ⟨#[], #[.slice none 0 0], []⟩ 8 (by kernel_rfl) (by kernel_rfl) (by kernel_rfl) (by kernel_rfl)) ?_
  intro W base args ds gs before hval0 hW hcnd hsz0 _
  have hsz : (DataW.weightsEach Try.prog (Try.f3.params.toList ++ Rows.runsHeapSpec.plain.varTypes Try.prog) (ds ++ gs)).all (· ≤ reachBytes) = true := hsz0
  have hval : ∀ (j : Nat) t v, Try.f3.params[j]? = some t → args[j]? = some v → Value.okWide Try.prog W .any base t v := hval0
  have hW' := hW
  obtain ⟨p, q, hA0, hV, rfl, hfz, hnd⟩ := hW
  have hA : DataW.TrodAll enc Try.prog W 0 (fun _ => true) true Try.f3.params.toList args.toList ds p := hA0
  rw [Try.params3] at hA hval hsz
  obtain ⟨v0, vs0, d0, ds0, p0, q0, hargs, rfl, rfl, h0, r0⟩ := trodAll_cons hA
  obtain ⟨rfl, rfl, rfl⟩ := trodAll_nil r0
  obtain rfl : args = #[v0] := by cases args; simp_all
  obtain ⟨rfl, rfl⟩ := trodVars_none hV
  obtain ⟨a0, len0, cap0, rfl⟩ := okWide_slice Try.underlying22 (hval 0 22 v0 rfl rfl)
  have k0 := h0
  have lt0 : ∀ x ∈ p0, x.block < W.heap.size := by obtain ⟨m, hm⟩ := k0; exact DataW.trod_lt m _ _ _ hm
  obtain ⟨z0, w0⟩ : ∃ zs, IsRow .i64 W a0 len0 cap0 zs := by
    obtain ⟨fuel, hf⟩ := h0
    rcases open_ints Try.underlying22 Try.underlying3 (by kernel_rfl) hf with ⟨hcs, _⟩ | ⟨x, l, c, zs, hcs, _, hl, hm, hz, _, hcell, hwz⟩
    · simp [Value.cells] at hcs
      obtain ⟨rfl, rfl, rfl⟩ := hcs
      exact ⟨[], .inl ⟨rfl, rfl, rfl, rfl⟩⟩
    · simp [Value.cells] at hcs
      obtain ⟨rfl, rfl, rfl⟩ := hcs
      exact ⟨zs, .inr ⟨_, rfl, hl, hm, by simpa using hz, hcell, hwz⟩⟩
  have y0 : len0 * 8 ≤ 140737488351232 := Go.Proofs.YtjjfaiociajikaaW.PrintWords.sized_ints hsz (j := 0) (t := 22) rfl rfl Try.underlying22 Try.underlying3 (by kernel_rfl) (by kernel_rfl) h0
  clear hA0 hval0 hsz0 hsz
  obtain ⟨l0, rfl, hr0, hm0, hw0, hc0⟩ := ReadsInt.ofRowC w0
  refine (heap_true _ _ l0 W (Kd.C_of_reads (d := (0 : Int)) (h1 := fun _ => rfl) hr0) hc0).mono fun e W' ⟨he, bel⟩ => ?_
  subst he
  exact ⟨_, rfl, _, _, _, [], _, [], hW', trodAll_mk1 (shut_bool Try.underlying4 _), (trodAll_cons_mk (Below.trod laidOut (by kernel_rfl) (of_decide_eq_true (by kernel_rfl)) k0 bel lt0) trodAll_mk0), rfl, bel.frame _, fun h => by cases h⟩
theorem over : Rows.runsHeapRow.holds Try.pinned (OpenSpec.ofChange Rows.runsHeapSpec) :=
  OpenClaim.holds_of_wide 3 Try.f3 rfl rfl rfl rfl rfl rfl rfl ⟨rfl, rfl, rfl, rfl, rfl⟩ rfl rfl rfl rfl rfl (by kernel_rfl) Try.func3 (by kernel_rfl)
    (of_decide_eq_true (by kernel_rfl)) (by unfold Func.isWrapper; first | (rw [if_pos (by decide +kernel)]; kernel_rfl) | (rw [if_neg (by decide +kernel)]; exact ⟨rfl, rfl⟩))
    (fun os started H enc _ => lifted os started H enc)
theorem proved : Rows.RunsHeapSaid := over
#print axioms proved
end Go.Proofs.Ytjjfaiociajikaa.runsHeap
namespace Go.Proofs.Ytjjfaiociajikaa
/-- The row, under a short name, for the claim. -/
theorem runsHeap_holds : Rows.RunsHeapSaid := runsHeap.proved
end Go.Proofs.Ytjjfaiociajikaa
