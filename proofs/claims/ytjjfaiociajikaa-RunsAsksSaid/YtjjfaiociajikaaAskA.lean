/- runs.Heap[int]: how a heap lies in memory; the walks of less and ahead. -/
import Derived.Test.YtjjfaiociajikaaProg
import Derived.Test.YtjjfaiociajikaaOrd
import Derived.Test.YtjjfaiociajikaaWMore
import Derived.WalkKit
import Derived.KernelRfl
import Derived.Deep.QuietTactic
import Derived.BigQuiet
import Derived.BigRegion
import Derived.RegionTactic
import Derived.ChangeAlike
import Derived.Laws.IdiomCopy
import Derived.Deep.RegionWith
import Derived.Deep.RegionHeld3
import Derived.Outline
import Derived.Deep.RegionLaw
import Derived.Deep.DeepMust
import Derived.StillTailTactics
namespace Go.Proofs.Ytjjfaiociajikaa.Ask
open Go.RowKit Go.Proofs.YtjjfaiociajikaaW.PrintWords
set_option linter.unusedVariables false
set_option linter.unusedSimpArgs false

/-- less, as a value: what it counts lies in block A -/
abbrev askF (A : Nat) : Value := .func (.func 13) #[] #[.pointer (some ⟨A, 0, none⟩)]
/-- a list of rungs (number, key) lies in block g, which has room for n -/
def Lad (w : World) (g n : Nat) (l : List Rung) : Prop :=
  ∃ cs : Array Value, w.heap[g]? = some (.cells cs 55 (0, 0)) ∧ cs.size = n * 2 ∧ l.length ≤ n ∧ ∀ i x, l[i]? = some x → cs[i * 2]? = some (.int .i64 x.2) ∧ cs[i * 2 + 1]? = some (.int .u64 x.1)
/-- the heap itself, in block P -/
def Top (w : World) (A P : Nat) (v : Value) (q : Int) : Prop := w.heap[P]? = some (.cells #[askF A, v, .int .u64 q] 53 (0, 0))
/-- so often it was asked -/
def Cnt (w : World) (A : Nat) (t : Int) : Prop := w.heap[A]? = some (.cells #[.int .i64 t] 3 (0, 0))
theorem less_any (A base : Nat) (a b t : Int) (w : World) (hc : Cnt w A t) (hb : base ≤ A) (h0 : 0 ≤ t) (h1 : t ≤ 1000000000) :
    Calls Try.prog 13 #[.int .i64 a, .int .i64 b, .pointer (some ⟨A, 0, none⟩)] w fun e w' => e = .returned (.bool (decide (a < b))) ∧ Cnt w' A (t + 1) ∧ Kept w w' (fun k => k = A) ∧ Below base w w' := by
  have t1 : w.cell? ⟨A, 0, none⟩ = some (.int .i64 t) := by rw [blk_cell hc]; rfl
  have t2 := blk_frozen hc 0
  have HC := Aside0.mk hc
  have HB := Aside0.mk hb
  clear hc hb
  go_enter Try.func13, Try.ntmps13
  go_wp2
  go_ret
  exact ⟨rfl, blk_set HC.out 0 _, (Kept.refl w (fun k => k = A)).setCell (.inl rfl) _, (Below.refl base w).setCell HB.out _⟩
section
variable {w w' : World} {A g n P : Nat} {l : List Rung} {v : Value} {q t : Int} {S : Nat → Prop}
theorem Cnt.c0 (h : Cnt w A t) : w.cell? ⟨A, 0, none⟩ = some (.int .i64 t) := by rw [blk_cell h]; rfl
theorem Cnt.kept (h : Cnt w A t) (hk : Kept w w' S) (hg : ¬ S A) : Cnt w' A t := blk_kept h hk hg
theorem Cnt.below (h : Cnt w A t) (hb : Below w.heap.size w w') : Cnt w' A t := h.kept (Kept.of_below hb (fun _ => False)) (fun h => h)
theorem Lad.key (h : Lad w g n l) {i : Nat} (hi : i < l.length) : w.cell? ⟨g, i * 2, none⟩ = some (.int .i64 (at_ l i).2) := by
  obtain ⟨cs, hb, _, _, hc⟩ := h
  rw [blk_cell hb]; exact (hc i _ (at_of_lt hi)).1
theorem Lad.num (h : Lad w g n l) {i : Nat} (hi : i < l.length) : w.cell? ⟨g, i * 2 + 1, none⟩ = some (.int .u64 (at_ l i).1) := by
  obtain ⟨cs, hb, _, _, hc⟩ := h
  rw [blk_cell hb]; exact (hc i _ (at_of_lt hi)).2
theorem Lad.free (h : Lad w g n l) (o : Nat) : w.frozen? ⟨g, o, none⟩ = false := by
  obtain ⟨cs, hb, _⟩ := h
  exact blk_frozen hb o
theorem Lad.kept (h : Lad w g n l) (hk : Kept w w' S) (hg : ¬ S g) : Lad w' g n l := by
  obtain ⟨cs, hb, r⟩ := h
  exact ⟨cs, blk_kept hb hk hg, r⟩
theorem Lad.below (h : Lad w g n l) (hb : Below w.heap.size w w') : Lad w' g n l := h.kept (Kept.of_below hb (fun _ => False)) (fun h => h)
theorem Top.kept (h : Top w A P v q) (hk : Kept w w' S) (hg : ¬ S P) : Top w' A P v q := blk_kept h hk hg
theorem Top.below (h : Top w A P v q) (hb : Below w.heap.size w w') : Top w' A P v q := h.kept (Kept.of_below hb (fun _ => False)) (fun h => h)
theorem Top.c0 (h : Top w A P v q) : w.cell? ⟨P, 0, none⟩ = some (askF A) := by have := blk_cell h 0; rw [this]; rfl
theorem Top.c1 (h : Top w A P v q) : w.cell? ⟨P, 1, none⟩ = some v := by have := blk_cell h 1; rw [this]; rfl
theorem Top.c2 (h : Top w A P v q) : w.cell? ⟨P, 2, none⟩ = some (.int .u64 q) := by have := blk_cell h 2; rw [this]; rfl
theorem Top.free (h : Top w A P v q) (o : Nat) : w.frozen? ⟨P, o, none⟩ = false := blk_frozen h o
theorem Lad.ne_cnt (hl : Lad w g n l) (hc : Cnt w A t) : g ≠ A := by
  rintro rfl
  obtain ⟨cs, h2, _⟩ := hl
  unfold Cnt at hc
  rw [hc] at h2
  injection h2 with h2
  injection h2 with _ h2
  cases h2
theorem Top.ne_cnt {A' : Nat} (ht : Top w A' P v q) (hc : Cnt w A t) : P ≠ A := by
  rintro rfl
  unfold Cnt at hc
  unfold Top at ht
  rw [hc] at ht
  injection ht with ht
  injection ht with _ ht
  cases ht
end
theorem dec_not (a b : Int) : decide (b < a) = !decide (a ≤ b) := by
  by_cases h : b < a
  · rw [decide_eq_true h, decide_eq_false (by omega)]; rfl
  · rw [decide_eq_false h, decide_eq_true (by omega)]; rfl
theorem less_not {x y : Rung} (c : x.1 < y.1) : lessB x y = decide (x.2 ≤ y.2) := by
  unfold lessB
  rw [decide_eq_true c, Bool.and_true, Bool.eq_iff_iff]
  simp only [Bool.or_eq_true, decide_eq_true_eq]
  omega
theorem less_yes {x y : Rung} (c : ¬ x.1 < y.1) : lessB x y = decide (x.2 < y.2) := by
  unfold lessB
  rw [decide_eq_false c, Bool.and_false, Bool.or_false]
theorem ahead_any (A base P g n : Nat) (l : List Rung) (q t : Int) (i j : Nat) (w : World) (hc : Cnt w A t) (hb : base ≤ A) (ht0 : 0 ≤ t) (ht1 : t ≤ 1000000000) (ht : Top w A P (.slice (some ⟨g, 0, none⟩) l.length n) q) (hl : Lad w g n l) (hi : i < l.length) (hj : j < l.length) :
    Calls Try.prog 20 #[.pointer (some ⟨P, 0, none⟩), .int .i64 i, .int .i64 j] w fun e w' => e = .returned (.bool (lessB (at_ l i) (at_ l j))) ∧ Cnt w' A (t + 1) ∧ Kept w w' (fun k => k = A) ∧ Below base w w' := by
  have HC := Aside0.mk hc
  have HBA := Aside0.mk hb
  have HT0 := Aside0.mk ht0
  have HT1 := Aside0.mk ht1
  clear hc hb ht0 ht1
  have t0 := ht.c0
  have t1 := ht.c1
  have a0 := hl.key hi
  have a1 := hl.num hi
  have b0 := hl.key hj
  have b1 := hl.num hj
  generalize hx : at_ l i = x at *
  generalize hy : at_ l j = y at *
  clear hx hy ht hl
  by_cases c : x.1 < y.1
  · have c1 : decide (x.1 < y.1) = true := decide_eq_true c
    have HL := Aside0.mk (less_not c)
    clear c
    go_enter Try.func20, Try.ntmps20
    go_wp2
    go_quiet (fail)
    go_wp2
    go_quiet (fail)
    go_wp2
    generalize hw2 : World.drewN (World.drewN w _) _ = w2
    have HB2 := Aside0.mk (show Below base w w2 by rw [← hw2]; exact pw_below_drewN (pw_below_drewN (Below.refl _ _) _) _)
    replace t0 : w2.cell? ⟨P, 0, none⟩ = some (askF A) := by rw [← hw2]; exact t0
    replace a0 : w2.cell? ⟨g, i * 2, none⟩ = some (.int .i64 x.2) := by rw [← hw2]; exact a0
    replace b0 : w2.cell? ⟨g, j * 2, none⟩ = some (.int .i64 y.2) := by rw [← hw2]; exact b0
    have HC2 := Aside0.mk (show Cnt w2 A t by rw [← hw2]; exact HC.out)
    have HK2 := Aside0.mk (show Kept w w2 (fun k => k = A) by rw [← hw2]; exact ((Kept.refl w _).drewN _).drewN _)
    clear hw2 t1 a1 b1
    go_still_tail 12, (by kernel_rfl)
    change wpList _ _ _ _ _ w2.drew
    have HB3 := Aside0.mk (show Below base w w2.drew from below_drew1 HB2.out)
    have HC3 := Aside0.mk (show Cnt w2.drew A t from HC2.out)
    have HK3 := Aside0.mk (show Kept w w2.drew (fun k => k = A) from HK2.out.drew)
    clear HB2 HC2 HK2
    generalize w2.drew = w3 at HB3 HC3 HK3 ⊢
    go_wp2_with (go_at_call 13; refine (less_any A base _ _ t _ HC3.out HBA.out HT0.out HT1.out).mono ?_; rintro e w' ⟨rfl, hc, hk, hb⟩; have HR := Aside0.mk (And.intro hc (And.intro (HK3.out.then_ hk (fun k h => .inl h)) (HB3.out.trans hb))); clear hc hk hb)
    go_ret
    exact ⟨by rw [HL.out]; first | rfl | simp [dec_not], HR.out⟩
  · have c1 : decide (x.1 < y.1) = false := decide_eq_false c
    have HL := Aside0.mk (less_yes c)
    clear c
    go_enter Try.func20, Try.ntmps20
    go_wp2
    go_quiet (fail)
    go_wp2
    go_quiet (fail)
    go_wp2
    generalize hw2 : World.drewN (World.drewN w _) _ = w2
    have HB2 := Aside0.mk (show Below base w w2 by rw [← hw2]; exact pw_below_drewN (pw_below_drewN (Below.refl _ _) _) _)
    replace t0 : w2.cell? ⟨P, 0, none⟩ = some (askF A) := by rw [← hw2]; exact t0
    replace a0 : w2.cell? ⟨g, i * 2, none⟩ = some (.int .i64 x.2) := by rw [← hw2]; exact a0
    replace b0 : w2.cell? ⟨g, j * 2, none⟩ = some (.int .i64 y.2) := by rw [← hw2]; exact b0
    have HC2 := Aside0.mk (show Cnt w2 A t by rw [← hw2]; exact HC.out)
    have HK2 := Aside0.mk (show Kept w w2 (fun k => k = A) by rw [← hw2]; exact ((Kept.refl w _).drewN _).drewN _)
    clear hw2 t1 a1 b1
    go_still_tail 12, (by kernel_rfl)
    change wpList _ _ _ _ _ w2.drew
    have HB3 := Aside0.mk (show Below base w w2.drew from below_drew1 HB2.out)
    have HC3 := Aside0.mk (show Cnt w2.drew A t from HC2.out)
    have HK3 := Aside0.mk (show Kept w w2.drew (fun k => k = A) from HK2.out.drew)
    clear HB2 HC2 HK2
    generalize w2.drew = w3 at HB3 HC3 HK3 ⊢
    go_wp2_with (go_at_call 13; refine (less_any A base _ _ t _ HC3.out HBA.out HT0.out HT1.out).mono ?_; rintro e w' ⟨rfl, hc, hk, hb⟩; have HR := Aside0.mk (And.intro hc (And.intro (HK3.out.then_ hk (fun k h => .inl h)) (HB3.out.trans hb))); clear hc hk hb)
    go_ret
    exact ⟨by rw [HL.out]; first | rfl | simp, HR.out⟩
end Go.Proofs.Ytjjfaiociajikaa.Ask
