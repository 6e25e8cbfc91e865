/- runs.Heap[Thing]: how a heap lies in memory; the walks of less and ahead. -/
import Derived.Test.YtjjfaiociajikaaProg
import Derived.Test.YtjjfaiociajikaaOrd
import Derived.Test.YtjjfaiociajikaaWMore
import Derived.WalkKit
import Derived.KernelRfl
import Derived.Deep.QuietTactic
import Derived.BigQuiet
import Derived.BigRegion
import Derived.RegionTactic
import Derived.ChangeAlike
import Derived.Laws.IdiomCopy
import Derived.Deep.RegionWith
import Derived.Deep.RegionHeld3
import Derived.Outline
import Derived.Deep.RegionLaw
import Derived.Deep.DeepMust
import Derived.StillTailTactics
namespace Go.Proofs.Ytjjfaiociajikaa
open Go.RowKit Go.Proofs.YtjjfaiociajikaaW.PrintWords
set_option linter.unusedVariables false
set_option linter.unusedSimpArgs false

/-- less, as a value -/
abbrev lessF : Value := .func (.func 6) #[] #[]
/-- a list of rungs (number, key) lies in block g, which has room for n; W: who goes with a number -/
def Lad (W : Int → Int) (w : World) (g n : Nat) (l : List Rung) : Prop :=
  ∃ cs : Array Value, w.heap[g]? = some (.cells cs 50 (0, 0)) ∧ cs.size = n * 3 ∧ l.length ≤ n ∧ ∀ i x, l[i]? = some x → cs[i * 3]? = some (.int .i64 x.2) ∧ cs[i * 3 + 1]? = some (.int .i64 (W x.1)) ∧ cs[i * 3 + 2]? = some (.int .u64 x.1)
/-- the heap itself, in block P -/
def Top (w : World) (P : Nat) (v : Value) (q : Int) : Prop := w.heap[P]? = some (.cells #[lessF, v, .int .u64 q] 48 (0, 0))
theorem less_any (k1 w1 k2 w2 : Int) (w : World) :
    Calls Try.prog 6 #[.agg #[.int .i64 k1, .int .i64 w1], .agg #[.int .i64 k2, .int .i64 w2]] w fun e w' => e = .returned (.bool (decide (k1 < k2))) ∧ Below w.heap.size w w' := by
  go_enter Try.func6, Try.ntmps6
  go_wp2
  go_ret
  exact ⟨rfl, below_alloc (below_alloc (Below.refl _ _) _) _⟩
section
variable {W : Int → Int} {w w' : World} {g n P : Nat} {l : List Rung} {v : Value} {q : Int} {S : Nat → Prop}
theorem Lad.key (h : Lad W w g n l) {i : Nat} (hi : i < l.length) : w.cell? ⟨g, i * 3, none⟩ = some (.int .i64 (at_ l i).2) := by
  obtain ⟨cs, hb, _, _, hc⟩ := h
  rw [blk_cell hb]; exact (hc i _ (at_of_lt hi)).1
theorem Lad.who (h : Lad W w g n l) {i : Nat} (hi : i < l.length) : w.cell? ⟨g, i * 3 + 1, none⟩ = some (.int .i64 (W (at_ l i).1)) := by
  obtain ⟨cs, hb, _, _, hc⟩ := h
  rw [blk_cell hb]; exact (hc i _ (at_of_lt hi)).2.1
theorem Lad.num (h : Lad W w g n l) {i : Nat} (hi : i < l.length) : w.cell? ⟨g, i * 3 + 2, none⟩ = some (.int .u64 (at_ l i).1) := by
  obtain ⟨cs, hb, _, _, hc⟩ := h
  rw [blk_cell hb]; exact (hc i _ (at_of_lt hi)).2.2
theorem Lad.free (h : Lad W w g n l) (o : Nat) : w.frozen? ⟨g, o, none⟩ = false := by
  obtain ⟨cs, hb, _⟩ := h
  exact blk_frozen hb o
theorem Lad.kept (h : Lad W w g n l) (hk : Kept w w' S) (hg : ¬ S g) : Lad W w' g n l := by
  obtain ⟨cs, hb, r⟩ := h
  exact ⟨cs, blk_kept hb hk hg, r⟩
theorem Lad.below (h : Lad W w g n l) (hb : Below w.heap.size w w') : Lad W w' g n l := h.kept (Kept.of_below hb (fun _ => False)) (fun h => h)
theorem Top.kept (h : Top w P v q) (hk : Kept w w' S) (hg : ¬ S P) : Top w' P v q := blk_kept h hk hg
theorem Top.below (h : Top w P v q) (hb : Below w.heap.size w w') : Top w' P v q := h.kept (Kept.of_below hb (fun _ => False)) (fun h => h)
theorem Top.c0 (h : Top w P v q) : w.cell? ⟨P, 0, none⟩ = some lessF := by have := blk_cell h 0; rw [this]; rfl
theorem Top.c1 (h : Top w P v q) : w.cell? ⟨P, 1, none⟩ = some v := by have := blk_cell h 1; rw [this]; rfl
theorem Top.c2 (h : Top w P v q) : w.cell? ⟨P, 2, none⟩ = some (.int .u64 q) := by have := blk_cell h 2; rw [this]; rfl
theorem Top.free (h : Top w P v q) (o : Nat) : w.frozen? ⟨P, o, none⟩ = false := blk_frozen h o
end
theorem dec_not (a b : Int) : decide (b < a) = !decide (a ≤ b) := by
  by_cases h : b < a
  · rw [decide_eq_true h, decide_eq_false (by omega)]; rfl
  · rw [decide_eq_false h, decide_eq_true (by omega)]; rfl
theorem less_not {x y : Rung} (c : x.1 < y.1) : lessB x y = decide (x.2 ≤ y.2) := by
  unfold lessB
  rw [decide_eq_true c, Bool.and_true, Bool.eq_iff_iff]
  simp only [Bool.or_eq_true, decide_eq_true_eq]
  omega
theorem less_yes {x y : Rung} (c : ¬ x.1 < y.1) : lessB x y = decide (x.2 < y.2) := by
  unfold lessB
  rw [decide_eq_false c, Bool.and_false, Bool.or_false]
theorem ahead_any (W : Int → Int) (P g n : Nat) (l : List Rung) (q : Int) (i j : Nat) (w : World) (ht : Top w P (.slice (some ⟨g, 0, none⟩) l.length n) q) (hl : Lad W w g n l) (hi : i < l.length) (hj : j < l.length) :
    Calls Try.prog 19 #[.pointer (some ⟨P, 0, none⟩), .int .i64 i, .int .i64 j] w fun e w' => e = .returned (.bool (lessB (at_ l i) (at_ l j))) ∧ Below w.heap.size w w' := by
  have t0 := ht.c0
  have t1 := ht.c1
  have a0 := hl.key hi
  have a1 := hl.who hi
  have a2 := hl.num hi
  have b0 := hl.key hj
  have b1 := hl.who hj
  have b2 := hl.num hj
  generalize hx : at_ l i = x at *
  generalize hy : at_ l j = y at *
  clear hx hy ht hl
  by_cases c : x.1 < y.1
  · have c1 : decide (x.1 < y.1) = true := decide_eq_true c
    have HL := Aside0.mk (less_not c)
    clear c
    go_enter Try.func19, Try.ntmps19
    go_wp2
    go_quiet (fail)
    go_wp2
    go_quiet (fail)
    go_wp2
    generalize hw2 : World.drewN (World.drewN w _) _ = w2
    have HB2 := Aside0.mk (show Below w.heap.size w w2 by rw [← hw2]; exact pw_below_drewN (pw_below_drewN (Below.refl _ _) _) _)
    replace t0 : w2.cell? ⟨P, 0, none⟩ = some lessF := by rw [← hw2]; exact t0
    replace a0 : w2.cell? ⟨g, i * 3, none⟩ = some (.int .i64 x.2) := by rw [← hw2]; exact a0
    replace a1 : w2.cell? ⟨g, i * 3 + 1, none⟩ = some (.int .i64 (W x.1)) := by rw [← hw2]; exact a1
    replace b0 : w2.cell? ⟨g, j * 3, none⟩ = some (.int .i64 y.2) := by rw [← hw2]; exact b0
    replace b1 : w2.cell? ⟨g, j * 3 + 1, none⟩ = some (.int .i64 (W y.1)) := by rw [← hw2]; exact b1
    clear hw2 t1 a2 b2
    go_still_tail 12, (by kernel_rfl)
    change wpList _ _ _ _ _ w2.drew
    have HB3 := Aside0.mk (show Below w.heap.size w w2.drew from below_drew1 HB2.out)
    generalize w2.drew = w3 at HB3 ⊢
    go_wp2_with (go_at_call 6; refine (less_any _ _ _ _ _).mono ?_; rintro e w' ⟨rfl, hb⟩; have HB4 := Aside0.mk (below_step HB3.out hb); clear hb)
    go_ret
    exact ⟨by rw [HL.out]; first | rfl | simp [dec_not], HB4.out⟩
  · have c1 : decide (x.1 < y.1) = false := decide_eq_false c
    have HL := Aside0.mk (less_yes c)
    clear c
    go_enter Try.func19, Try.ntmps19
    go_wp2
    go_quiet (fail)
    go_wp2
    go_quiet (fail)
    go_wp2
    generalize hw2 : World.drewN (World.drewN w _) _ = w2
    have HB2 := Aside0.mk (show Below w.heap.size w w2 by rw [← hw2]; exact pw_below_drewN (pw_below_drewN (Below.refl _ _) _) _)
    replace t0 : w2.cell? ⟨P, 0, none⟩ = some lessF := by rw [← hw2]; exact t0
    replace a0 : w2.cell? ⟨g, i * 3, none⟩ = some (.int .i64 x.2) := by rw [← hw2]; exact a0
    replace a1 : w2.cell? ⟨g, i * 3 + 1, none⟩ = some (.int .i64 (W x.1)) := by rw [← hw2]; exact a1
    replace b0 : w2.cell? ⟨g, j * 3, none⟩ = some (.int .i64 y.2) := by rw [← hw2]; exact b0
    replace b1 : w2.cell? ⟨g, j * 3 + 1, none⟩ = some (.int .i64 (W y.1)) := by rw [← hw2]; exact b1
    clear hw2 t1 a2 b2
    go_still_tail 12, (by kernel_rfl)
    change wpList _ _ _ _ _ w2.drew
    have HB3 := Aside0.mk (show Below w.heap.size w w2.drew from below_drew1 HB2.out)
    generalize w2.drew = w3 at HB3 ⊢
    go_wp2_with (go_at_call 6; refine (less_any _ _ _ _ _).mono ?_; rintro e w' ⟨rfl, hb⟩; have HB4 := Aside0.mk (below_step HB3.out hb); clear hb)
    go_ret
    exact ⟨by rw [HL.out]; first | rfl | simp, HB4.out⟩
end Go.Proofs.Ytjjfaiociajikaa
