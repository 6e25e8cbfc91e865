/- The heap of plan.Make as a list: what its two moves do (plain law, no program), and how such a list lies in memory. -/
import Derived.Test.YtbgabijjnbmghaaWKept
namespace Go.Proofs.Ytbgabijjnbmghaa
open Go.RowKit Go.Proofs.YtbgabijjnbmghaaW.PrintWords
set_option linter.unusedVariables false
set_option linter.unusedSimpArgs false

/-- a rung: its run, its weight -/
abbrev Rung := Int × Int
def lessB (x y : Rung) : Bool := decide (x.2 < y.2) || (decide (x.2 = y.2) && decide (x.1 < y.1))
def at_ (l : List Rung) (i : Nat) : Rung := l.getD i (0, 0)
def swapAt (l : List Rung) (i j : Nat) : List Rung := (l.set i (at_ l j)).set j (at_ l i)

theorem at_of_lt {l : List Rung} {i : Nat} (h : i < l.length) : l[i]? = some (at_ l i) := by
  unfold at_; rw [List.getElem?_eq_getElem h, List.getD_eq_getElem?_getD, List.getElem?_eq_getElem h]; rfl
theorem swapAt_length (l : List Rung) (i j : Nat) : (swapAt l i j).length = l.length := by simp [swapAt]
theorem swapAt_get {l : List Rung} {i j : Nat} (hi : i < l.length) (hj : j < l.length) (m : Nat) : (swapAt l i j)[m]? = if m = j then some (at_ l i) else if m = i then some (at_ l j) else l[m]? := by
  unfold swapAt
  by_cases h1 : m = j
  · subst h1; rw [if_pos rfl, List.getElem?_set]; simp [hj]
  · rw [if_neg h1, List.getElem?_set_ne (by omega)]
    by_cases h2 : m = i
    · subst h2; rw [if_pos rfl, List.getElem?_set]; simp [hi]
    · rw [if_neg h2, List.getElem?_set_ne (by omega)]

/-- a list of rungs lies in block g, which has room for n -/
def Lad (w : World) (g n : Nat) (l : List Rung) : Prop :=
  ∃ cs : Array Value, w.heap[g]? = some (.cells cs 62 (0, 0)) ∧ cs.size = n * 2 ∧ l.length ≤ n ∧ ∀ i x, l[i]? = some x → cs[i * 2]? = some (.int .i64 x.1) ∧ cs[i * 2 + 1]? = some (.int .i64 x.2)
/-- the variable rungs, in block P -/
def Top (w : World) (P g n len : Nat) : Prop := w.heap[P]? = some (.cells #[.slice (some ⟨g, 0, none⟩) len n] 60 (0, 0))

theorem Lad.run {w : World} {g n : Nat} {l : List Rung} (h : Lad w g n l) {i : Nat} (hi : i < l.length) : w.cell? ⟨g, i * 2, none⟩ = some (.int .i64 (at_ l i).1) := by
  obtain ⟨cs, hb, _, _, hc⟩ := h
  rw [blk_cell hb]; exact (hc i _ (at_of_lt hi)).1
theorem Lad.weight {w : World} {g n : Nat} {l : List Rung} (h : Lad w g n l) {i : Nat} (hi : i < l.length) : w.cell? ⟨g, i * 2 + 1, none⟩ = some (.int .i64 (at_ l i).2) := by
  obtain ⟨cs, hb, _, _, hc⟩ := h
  rw [blk_cell hb]; exact (hc i _ (at_of_lt hi)).2
theorem Lad.free {w : World} {g n : Nat} {l : List Rung} (h : Lad w g n l) (o : Nat) : w.frozen? ⟨g, o, none⟩ = false := by
  obtain ⟨cs, hb, _⟩ := h
  exact blk_frozen hb o
theorem Lad.lt {w : World} {g n : Nat} {l : List Rung} (h : Lad w g n l) : g < w.heap.size := by
  obtain ⟨cs, hb, _⟩ := h
  exact blk_lt hb
theorem Lad.room {w : World} {g n : Nat} {l : List Rung} (h : Lad w g n l) : l.length ≤ n := by
  obtain ⟨cs, _, _, hl, _⟩ := h
  exact hl
theorem Lad.kept {w w' : World} {g n : Nat} {l : List Rung} {S : Nat → Prop} (h : Lad w g n l) (hk : Kept w w' S) (hg : ¬ S g) : Lad w' g n l := by
  obtain ⟨cs, hb, r⟩ := h
  exact ⟨cs, blk_kept hb hk hg, r⟩
theorem Top.kept {w w' : World} {P g n len : Nat} {S : Nat → Prop} (h : Top w P g n len) (hk : Kept w w' S) (hg : ¬ S P) : Top w' P g n len := blk_kept h hk hg
theorem Top.cell {w : World} {P g n len : Nat} (h : Top w P g n len) : w.cell? ⟨P, 0, none⟩ = some (.slice (some ⟨g, 0, none⟩) len n) := by
  have := blk_cell h 0; rw [this]; rfl
theorem Top.free {w : World} {P g n len : Nat} (h : Top w P g n len) (o : Nat) : w.frozen? ⟨P, o, none⟩ = false := blk_frozen h o
theorem Lad.ne {w : World} {P g n m len : Nat} {l : List Rung} (h : Lad w g n l) (t : Top w P g m len) : P ≠ g := by
  obtain ⟨cs, hb, _⟩ := h
  exact blk_ne t hb (by decide)
theorem Lad.put {w : World} {g n : Nat} {l : List Rung} (h : Lad w g n l) (i : Nat) (x : Rung) : Lad ((w.setCell ⟨g, i * 2, none⟩ (.int .i64 x.1)).setCell ⟨g, i * 2 + 1, none⟩ (.int .i64 x.2)) g n (l.set i x) := by
  obtain ⟨cs, hb, hs, hl, hc⟩ := h
  refine ⟨_, blk_set (blk_set hb _ _) _ _, by simpa using hs, by simpa using hl, ?_⟩
  intro j y hj
  by_cases e : j = i
  · subst e
    have hlt : j < l.length := by have := (List.getElem?_eq_some_iff.1 hj).1; simpa using this
    rw [List.getElem?_set] at hj
    simp [hlt] at hj
    subst hj
    constructor
    · rw [Array.getElem?_setIfInBounds_ne (by omega), Array.getElem?_setIfInBounds_self_of_lt (by omega)]
    · rw [Array.getElem?_setIfInBounds_self_of_lt (by simp; omega)]
  · rw [List.getElem?_set_ne (by omega)] at hj
    obtain ⟨h1, h2⟩ := hc j y hj
    constructor
    · rw [Array.getElem?_setIfInBounds_ne (by omega), Array.getElem?_setIfInBounds_ne (by omega)]; exact h1
    · rw [Array.getElem?_setIfInBounds_ne (by omega), Array.getElem?_setIfInBounds_ne (by omega)]; exact h2
theorem Lad.swap {w : World} {g n : Nat} {l : List Rung} (h : Lad w g n l) (i j : Nat) : Lad ((((w.setCell ⟨g, i * 2, none⟩ (.int .i64 (at_ l j).1)).setCell ⟨g, i * 2 + 1, none⟩ (.int .i64 (at_ l j).2)).setCell ⟨g, j * 2, none⟩ (.int .i64 (at_ l i).1)).setCell ⟨g, j * 2 + 1, none⟩ (.int .i64 (at_ l i).2)) g n (swapAt l i j) :=
  (h.put i (at_ l j)).put j (at_ l i)
theorem Lad.drewN {w : World} {g n : Nat} {l : List Rung} (h : Lad w g n l) (m : Nat) : Lad (w.drewN m) g n l := h
theorem Lad.take {w : World} {g n : Nat} {l : List Rung} (h : Lad w g n l) (m : Nat) : Lad w g n (l.take m) := by
  obtain ⟨cs, hb, hs, hl, hc⟩ := h
  refine ⟨cs, hb, hs, by simp; omega, fun i x hx => hc i x ?_⟩
  rw [List.getElem?_take] at hx
  split at hx
  · exact hx
  · cases hx
/-- writes to blocks of S alone, of what was there before -/
structure Wrote (S : Nat → Prop) (w w' : World) : Prop where
  kept : Kept w w' S
  below : ∀ B, B ≤ w.heap.size → (∀ k, S k → B ≤ k) → Below B w w'
theorem Wrote.refl (S : Nat → Prop) (w : World) : Wrote S w w := ⟨Kept.refl _ _, fun _ _ _ => Below.refl _ _⟩
theorem Wrote.trans {S : Nat → Prop} {w w1 w2 : World} (h : Wrote S w w1) (k : Wrote S w1 w2) : Wrote S w w2 :=
  ⟨h.kept.then_ k.kept (fun _ hk => .inl hk), fun B hB hS => (h.below B hB hS).trans (k.below B (Nat.le_trans hB h.kept.1) hS)⟩
theorem Wrote.mono {S S' : Nat → Prop} {w w1 : World} (h : Wrote S w w1) (hs : ∀ k, S k → S' k) : Wrote S' w w1 :=
  ⟨h.kept.mono hs, fun B hB hS => h.below B hB (fun k hk => hS k (hs k hk))⟩
theorem Wrote.setCell {S : Nat → Prop} {w w1 : World} (h : Wrote S w w1) {p : Addr} (hp : S p.block) (u : Value) : Wrote S w (w1.setCell p u) :=
  ⟨h.kept.setCell (.inl hp) u, fun B hB hS => (h.below B hB hS).setCell (hS _ hp) u⟩
theorem Wrote.drewN {S : Nat → Prop} {w w1 : World} (h : Wrote S w w1) (n : Nat) : Wrote S w (w1.drewN n) :=
  ⟨h.kept.drewN n, fun B hB hS => pw_below_drewN (h.below B hB hS) n⟩
theorem Wrote.drew {S : Nat → Prop} {w w1 : World} (h : Wrote S w w1) : Wrote S w w1.drew := ⟨h.kept.drew, fun B hB hS => below_drew (h.below B hB hS)⟩
theorem Wrote.alloc {S : Nat → Prop} {w w1 : World} (h : Wrote S w w1) (o : Obj) : Wrote S w (w1.alloc o) := ⟨h.kept.alloc o, fun B hB hS => (h.below B hB hS).alloc (Nat.le_trans hB h.kept.1) o⟩
/-- writes to block g -/
abbrev Only (g : Nat) : Nat → Prop := fun k => k = g
theorem Wrote.at_ {g : Nat} {w w1 : World} (h : Wrote (Only g) w w1) (o : Nat) (u : Value) : Wrote (Only g) w (w1.setCell ⟨g, o, none⟩ u) := h.setCell rfl u
theorem wrote4 (g : Nat) (w : World) (a b c d : Nat) (x y z u : Value) (k : Nat) : Wrote (Only g) w (((((w.setCell ⟨g, a, none⟩ x).setCell ⟨g, b, none⟩ y).setCell ⟨g, c, none⟩ z).setCell ⟨g, d, none⟩ u).drewN k) :=
  (((((Wrote.refl (Only g) w).at_ a x).at_ b y).at_ c z).at_ d u).drewN k
theorem wrote2 (g : Nat) (w : World) (a : Nat) (x y : Value) : Wrote (Only g) w (w.setCells g a [x, y]) := ((Wrote.refl (Only g) w).at_ a x).at_ (a + 1) y
theorem Top.set_ {w : World} {P g n len : Nat} (h : Top w P g n len) (m : Nat) : Top (w.setCell ⟨P, 0, none⟩ (.slice (some ⟨g, 0, none⟩) m n)) P g n m := by
  have := blk_set h 0 (.slice (some ⟨g, 0, none⟩) m n)
  unfold Top; rw [this]; rfl
theorem Lad.alloc {w : World} {g n : Nat} {l : List Rung} (h : Lad w g n l) (o : Obj) : Lad (w.alloc o) g n l :=
  h.kept ((Kept.refl w (fun _ => False)).alloc o) (fun h => h)
theorem Top.alloc {w : World} {P g n len : Nat} (h : Top w P g n len) (o : Obj) : Top (w.alloc o) P g n len :=
  h.kept ((Kept.refl w (fun _ => False)).alloc o) (fun h => h)
theorem Lad.far {w : World} {g n : Nat} {l : List Rung} (h : Lad w g n l) {P : Nat} (hP : P ≠ g) (u : Value) : Lad (w.setCell ⟨P, 0, none⟩ u) g n l := by
  obtain ⟨cs, hb, r⟩ := h
  exact ⟨cs, blk_far hb (p := ⟨P, 0, none⟩) (fun e => hP e.symm) u, r⟩
theorem Lad.snoc {w : World} {g n : Nat} {l : List Rung} (h : Lad w g n l) (x : Rung) (hr : l.length < n) : Lad (w.setCells g (0 + l.length * 2) [.int .i64 x.1, .int .i64 x.2]) g n (l ++ [x]) := by
  obtain ⟨cs, hb, hs, hl, hc⟩ := h
  refine ⟨(cs.setIfInBounds (0 + l.length * 2) (.int .i64 x.1)).setIfInBounds (0 + l.length * 2 + 1) (.int .i64 x.2), ?_, by simpa using hs, by simp; omega, ?_⟩
  · exact blk_set (blk_set hb _ _) _ _
  · intro j y hj
    by_cases e : j = l.length
    · subst e
      simp at hj
      subst hj
      constructor
      · rw [Array.getElem?_setIfInBounds_ne (by omega), Nat.zero_add, Array.getElem?_setIfInBounds_self_of_lt (by omega)]
      · rw [Nat.zero_add, Array.getElem?_setIfInBounds_self_of_lt (by simp; omega)]
    · have hlt : j < l.length := by have := (List.getElem?_eq_some_iff.1 hj).1; simp at this; omega
      rw [List.getElem?_append_left hlt] at hj
      obtain ⟨h1, h2⟩ := hc j y hj
      constructor
      · rw [Array.getElem?_setIfInBounds_ne (by omega), Array.getElem?_setIfInBounds_ne (by omega)]; exact h1
      · rw [Array.getElem?_setIfInBounds_ne (by omega), Array.getElem?_setIfInBounds_ne (by omega)]; exact h2
theorem Lad.spare {w : World} {g n : Nat} {l : List Rung} (h : Lad w g n l) (hr : l.length < n) (j : Nat) (hj : j < 2) : (w.cell? ⟨g, 0 + l.length * 2 + j, none⟩).isSome = true ∧ w.frozen? ⟨g, 0 + l.length * 2 + j, none⟩ = false := by
  refine ⟨?_, h.free _⟩
  obtain ⟨cs, hb, hs, hl, hc⟩ := h
  rw [blk_cell hb, Array.getElem?_eq_getElem (by omega)]; rfl
end Go.Proofs.Ytbgabijjnbmghaa
