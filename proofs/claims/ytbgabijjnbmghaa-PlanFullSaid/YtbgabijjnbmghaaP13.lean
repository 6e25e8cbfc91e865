-- Written by my own program wip/Plan/myprint.py over the kit's print.py; two ends of rounds put right by hand (the printed ones fell). Not trusted: Lean checks it.
import Derived.Test.YtbgabijjnbmghaaP0
import Derived.Test.YtbgabijjnbmghaaP12
namespace Go.Proofs.Ytbgabijjnbmghaa.P
open Go.RowKit Go.Proofs.YtbgabijjnbmghaaW.PrintWords Go.Proofs.YtbgabijjnbmghaaW.PrintLast Go.Proofs.YtbgabijjnbmghaaW.PrintMore
attribute [local go_sem] max2_int min2_int max_two min_two max_three min_three max_four min_four   -- for this text's walks alone
set_option linter.unusedVariables false
set_option linter.unusedSimpArgs false

/-! ### millref10_Check: function 19 -/
mutual
def millref10_Check.j0 : Nat → Int → List (S51) → Int → Bool → Option (Int)
  | 0, _, _, _, _ => none
  | k + 1, x1, x2, x8, x30 => if x30 = true then (some 101) else (if 0 ≤ (wrap64 (x8 + (x2.length : Int))) then (if (wrap64 (x8 + (x2.length : Int)) : Int).toNat ≤ 35184372088832 then (millref10_Check.l0 k x1 x2 x8 (List.replicate (wrap64 (x8 + (x2.length : Int)) : Int).toNat 0) 0) else (none)) else (none))
def millref10_Check.l0 : Nat → Int → List (S51) → Int → List Int → Int → Option (Int)
  | 0, _, _, _, _, _ => none
  | k + 1, x1, x2, x8, x9, x10 => if x10 < (x2.length : Int) then (if 0 ≤ x10 then (if ((rd_T51 x2 x10).f1) = (wrap64 (x8 + x10)) then (if (((rd_T51 x2 x10).f0).length : Int) = 0 then (millref10_Check.j2 k x1 x2 x8 x9 x10 ((rd_T51 x2 x10).f0) true) else (millref10_Check.j2 k x1 x2 x8 x9 x10 ((rd_T51 x2 x10).f0) (decide ((((rd_T51 x2 x10).f0).length : Int) > x1)))) else (millref10_Check.j2 k x1 x2 x8 x9 x10 ((rd_T51 x2 x10).f0) true)) else (none)) else (millref10_Check.l2 k x2 x8 x9 0)
def millref10_Check.j2 : Nat → Int → List (S51) → Int → List Int → Int → List Int → Bool → Option (Int)
  | 0, _, _, _, _, _, _, _ => none
  | k + 1, x1, x2, x8, x9, x10, x11, x66 => if x66 = true then (some 101) else (if (x11.length : Int) = 1 then (millref10_Check.j3 k x1 x2 x8 x9 x10 x11 (decide (x8 > 1))) else (millref10_Check.j3 k x1 x2 x8 x9 x10 x11 false))
def millref10_Check.j3 : Nat → Int → List (S51) → Int → List Int → Int → List Int → Bool → Option (Int)
  | 0, _, _, _, _, _, _, _ => none
  | k + 1, x1, x2, x8, x9, x10, x11, x73 => if x73 = true then (some 101) else (millref10_Check.l1 k x1 x2 x8 x9 x10 x11 0)
def millref10_Check.l1 : Nat → Int → List (S51) → Int → List Int → Int → List Int → Int → Option (Int)
  | 0, _, _, _, _, _, _, _ => none
  | k + 1, x1, x2, x8, x9, x10, x11, x12 => if x12 < (x11.length : Int) then (if 0 ≤ x12 then (if (rd x11 x12) < 0 then (millref10_Check.j5 k x1 x2 x8 x9 x10 x11 x12 true) else (millref10_Check.j5 k x1 x2 x8 x9 x10 x11 x12 (decide ((rd x11 x12) ≥ (wrap64 (x8 + x10)))))) else (none)) else (millref10_Check.l0 k x1 x2 x8 x9 (wrap64 (x10 + 1)))
def millref10_Check.j5 : Nat → Int → List (S51) → Int → List Int → Int → List Int → Int → Bool → Option (Int)
  | 0, _, _, _, _, _, _, _, _ => none
  | k + 1, x1, x2, x8, x9, x10, x11, x12, x94 => if x94 = true then (some 101) else (if x12 > 0 then (if 0 ≤ (wrap64 (x12 - 1)) then (if (wrap64 (x12 - 1)) < (x11.length : Int) then (if 0 ≤ x12 then (if x12 < (x11.length : Int) then (if (rd x11 (wrap64 (x12 - 1))) ≥ (rd x11 x12) then (some 101) else (if 0 ≤ (rd x11 x12) then (if (rd x11 x12) < (x9.length : Int) then (millref10_Check.l1 k x1 x2 x8 (x9.set ((rd x11 x12) : Int).toNat (wrap64 ((rd x9 (rd x11 x12)) + 1))) x10 x11 (wrap64 (x12 + 1))) else (none)) else (none))) else (none)) else (none)) else (none)) else (none)) else (if 0 ≤ x12 then (if x12 < (x11.length : Int) then (if 0 ≤ (rd x11 x12) then (if (rd x11 x12) < (x9.length : Int) then (millref10_Check.l1 k x1 x2 x8 (x9.set ((rd x11 x12) : Int).toNat (wrap64 ((rd x9 (rd x11 x12)) + 1))) x10 x11 (wrap64 (x12 + 1))) else (none)) else (none)) else (none)) else (none)))
def millref10_Check.l2 : Nat → List (S51) → Int → List Int → Int → Option (Int)
  | 0, _, _, _, _ => none
  | k + 1, x2, x8, x9, x13 => if x13 < (wrap64 ((wrap64 (x8 + (x2.length : Int))) - 1)) then (if 0 ≤ x13 then (if x13 < (x9.length : Int) then (if (rd x9 x13) = 1 then (millref10_Check.l2 k x2 x8 x9 (wrap64 (x13 + 1))) else (some 101)) else (none)) else (none)) else (some 0)
end
def millref10_Check.f (k : Nat) (l0 : List Int) (a1 : Int) (l2 : List (S51)) : Option (Int) := (millref10_Given.f k l0 a1).bind fun t164 => (if t164 = 0 then (if (l2.length : Int) = 0 then (millref10_Check.j0 k a1 l2 (l0.length : Int) true) else (millref10_Check.j0 k a1 l2 (l0.length : Int) (decide ((l2.length : Int) > (l0.length : Int))))) else (some t164))
theorem millref10_Check.mono_l : ∀ k, (∀ y0 y1 y2 y3, LeO (millref10_Check.j0 k y0 y1 y2 y3) (millref10_Check.j0 (k + 1) y0 y1 y2 y3)) ∧ (∀ y0 y1 y2 y3 y4, LeO (millref10_Check.l0 k y0 y1 y2 y3 y4) (millref10_Check.l0 (k + 1) y0 y1 y2 y3 y4)) ∧ (∀ y0 y1 y2 y3 y4 y5 y6, LeO (millref10_Check.j2 k y0 y1 y2 y3 y4 y5 y6) (millref10_Check.j2 (k + 1) y0 y1 y2 y3 y4 y5 y6)) ∧ (∀ y0 y1 y2 y3 y4 y5 y6, LeO (millref10_Check.j3 k y0 y1 y2 y3 y4 y5 y6) (millref10_Check.j3 (k + 1) y0 y1 y2 y3 y4 y5 y6)) ∧ (∀ y0 y1 y2 y3 y4 y5 y6, LeO (millref10_Check.l1 k y0 y1 y2 y3 y4 y5 y6) (millref10_Check.l1 (k + 1) y0 y1 y2 y3 y4 y5 y6)) ∧ (∀ y0 y1 y2 y3 y4 y5 y6 y7, LeO (millref10_Check.j5 k y0 y1 y2 y3 y4 y5 y6 y7) (millref10_Check.j5 (k + 1) y0 y1 y2 y3 y4 y5 y6 y7)) ∧ (∀ y0 y1 y2 y3, LeO (millref10_Check.l2 k y0 y1 y2 y3) (millref10_Check.l2 (k + 1) y0 y1 y2 y3))
  | 0 => ⟨fun _ _ _ _ r h => by simp [millref10_Check.j0] at h, fun _ _ _ _ _ r h => by simp [millref10_Check.l0] at h, fun _ _ _ _ _ _ _ r h => by simp [millref10_Check.j2] at h, fun _ _ _ _ _ _ _ r h => by simp [millref10_Check.j3] at h, fun _ _ _ _ _ _ _ r h => by simp [millref10_Check.l1] at h, fun _ _ _ _ _ _ _ _ r h => by simp [millref10_Check.j5] at h, fun _ _ _ _ r h => by simp [millref10_Check.l2] at h⟩
  | k + 1 => by
    obtain ⟨ih0, ih1, ih2, ih3, ih4, ih5, ih6⟩ := millref10_Check.mono_l k
    refine ⟨?_, ?_, ?_, ?_, ?_, ?_, ?_⟩
    · intro y0 y1 y2 y3
      unfold millref10_Check.j0
      repeat' first
      | (with_reducible exact ih0 _ _ _ _)
      | (with_reducible exact ih1 _ _ _ _ _)
      | (with_reducible exact ih2 _ _ _ _ _ _ _)
      | (with_reducible exact ih3 _ _ _ _ _ _ _)
      | (with_reducible exact ih4 _ _ _ _ _ _ _)
      | (with_reducible exact ih5 _ _ _ _ _ _ _ _)
      | (with_reducible exact ih6 _ _ _ _)
      | (with_reducible exact millref10_Given.mono _ _ _)
      | (with_reducible exact LeO.refl _)
      | (with_reducible exact LeO.none _)
      | (with_reducible refine LeO.ite ?_ ?_)
      | (with_reducible refine LeO.bind ?_ (fun _ => ?_))
      | exact ih0 _ _ _ _
      | exact ih1 _ _ _ _ _
      | exact ih2 _ _ _ _ _ _ _
      | exact ih3 _ _ _ _ _ _ _
      | exact ih4 _ _ _ _ _ _ _
      | exact ih5 _ _ _ _ _ _ _ _
      | exact ih6 _ _ _ _
      | exact millref10_Given.mono _ _ _
      | exact LeO.none _
      | refine LeO.ite ?_ ?_
      | refine LeO.bind ?_ (fun _ => ?_)
    · intro y0 y1 y2 y3 y4
      unfold millref10_Check.l0
      repeat' first
      | (with_reducible exact ih0 _ _ _ _)
      | (with_reducible exact ih1 _ _ _ _ _)
      | (with_reducible exact ih2 _ _ _ _ _ _ _)
      | (with_reducible exact ih3 _ _ _ _ _ _ _)
      | (with_reducible exact ih4 _ _ _ _ _ _ _)
      | (with_reducible exact ih5 _ _ _ _ _ _ _ _)
      | (with_reducible exact ih6 _ _ _ _)
      | (with_reducible exact millref10_Given.mono _ _ _)
      | (with_reducible exact LeO.refl _)
      | (with_reducible exact LeO.none _)
      | (with_reducible refine LeO.ite ?_ ?_)
      | (with_reducible refine LeO.bind ?_ (fun _ => ?_))
      | exact ih0 _ _ _ _
      | exact ih1 _ _ _ _ _
      | exact ih2 _ _ _ _ _ _ _
      | exact ih3 _ _ _ _ _ _ _
      | exact ih4 _ _ _ _ _ _ _
      | exact ih5 _ _ _ _ _ _ _ _
      | exact ih6 _ _ _ _
      | exact millref10_Given.mono _ _ _
      | exact LeO.none _
      | refine LeO.ite ?_ ?_
      | refine LeO.bind ?_ (fun _ => ?_)
    · intro y0 y1 y2 y3 y4 y5 y6
      unfold millref10_Check.j2
      repeat' first
      | (with_reducible exact ih0 _ _ _ _)
      | (with_reducible exact ih1 _ _ _ _ _)
      | (with_reducible exact ih2 _ _ _ _ _ _ _)
      | (with_reducible exact ih3 _ _ _ _ _ _ _)
      | (with_reducible exact ih4 _ _ _ _ _ _ _)
      | (with_reducible exact ih5 _ _ _ _ _ _ _ _)
      | (with_reducible exact ih6 _ _ _ _)
      | (with_reducible exact millref10_Given.mono _ _ _)
      | (with_reducible exact LeO.refl _)
      | (with_reducible exact LeO.none _)
      | (with_reducible refine LeO.ite ?_ ?_)
      | (with_reducible refine LeO.bind ?_ (fun _ => ?_))
      | exact ih0 _ _ _ _
      | exact ih1 _ _ _ _ _
      | exact ih2 _ _ _ _ _ _ _
      | exact ih3 _ _ _ _ _ _ _
      | exact ih4 _ _ _ _ _ _ _
      | exact ih5 _ _ _ _ _ _ _ _
      | exact ih6 _ _ _ _
      | exact millref10_Given.mono _ _ _
      | exact LeO.none _
      | refine LeO.ite ?_ ?_
      | refine LeO.bind ?_ (fun _ => ?_)
    · intro y0 y1 y2 y3 y4 y5 y6
      unfold millref10_Check.j3
      repeat' first
      | (with_reducible exact ih0 _ _ _ _)
      | (with_reducible exact ih1 _ _ _ _ _)
      | (with_reducible exact ih2 _ _ _ _ _ _ _)
      | (with_reducible exact ih3 _ _ _ _ _ _ _)
      | (with_reducible exact ih4 _ _ _ _ _ _ _)
      | (with_reducible exact ih5 _ _ _ _ _ _ _ _)
      | (with_reducible exact ih6 _ _ _ _)
      | (with_reducible exact millref10_Given.mono _ _ _)
      | (with_reducible exact LeO.refl _)
      | (with_reducible exact LeO.none _)
      | (with_reducible refine LeO.ite ?_ ?_)
      | (with_reducible refine LeO.bind ?_ (fun _ => ?_))
      | exact ih0 _ _ _ _
      | exact ih1 _ _ _ _ _
      | exact ih2 _ _ _ _ _ _ _
      | exact ih3 _ _ _ _ _ _ _
      | exact ih4 _ _ _ _ _ _ _
      | exact ih5 _ _ _ _ _ _ _ _
      | exact ih6 _ _ _ _
      | exact millref10_Given.mono _ _ _
      | exact LeO.none _
      | refine LeO.ite ?_ ?_
      | refine LeO.bind ?_ (fun _ => ?_)
    · intro y0 y1 y2 y3 y4 y5 y6
      unfold millref10_Check.l1
      repeat' first
      | (with_reducible exact ih0 _ _ _ _)
      | (with_reducible exact ih1 _ _ _ _ _)
      | (with_reducible exact ih2 _ _ _ _ _ _ _)
      | (with_reducible exact ih3 _ _ _ _ _ _ _)
      | (with_reducible exact ih4 _ _ _ _ _ _ _)
      | (with_reducible exact ih5 _ _ _ _ _ _ _ _)
      | (with_reducible exact ih6 _ _ _ _)
      | (with_reducible exact millref10_Given.mono _ _ _)
      | (with_reducible exact LeO.refl _)
      | (with_reducible exact LeO.none _)
      | (with_reducible refine LeO.ite ?_ ?_)
      | (with_reducible refine LeO.bind ?_ (fun _ => ?_))
      | exact ih0 _ _ _ _
      | exact ih1 _ _ _ _ _
      | exact ih2 _ _ _ _ _ _ _
      | exact ih3 _ _ _ _ _ _ _
      | exact ih4 _ _ _ _ _ _ _
      | exact ih5 _ _ _ _ _ _ _ _
      | exact ih6 _ _ _ _
      | exact millref10_Given.mono _ _ _
      | exact LeO.none _
      | refine LeO.ite ?_ ?_
      | refine LeO.bind ?_ (fun _ => ?_)
    · intro y0 y1 y2 y3 y4 y5 y6 y7
      unfold millref10_Check.j5
      repeat' first
      | (with_reducible exact ih0 _ _ _ _)
      | (with_reducible exact ih1 _ _ _ _ _)
      | (with_reducible exact ih2 _ _ _ _ _ _ _)
      | (with_reducible exact ih3 _ _ _ _ _ _ _)
      | (with_reducible exact ih4 _ _ _ _ _ _ _)
      | (with_reducible exact ih5 _ _ _ _ _ _ _ _)
      | (with_reducible exact ih6 _ _ _ _)
      | (with_reducible exact millref10_Given.mono _ _ _)
      | (with_reducible exact LeO.refl _)
      | (with_reducible exact LeO.none _)
      | (with_reducible refine LeO.ite ?_ ?_)
      | (with_reducible refine LeO.bind ?_ (fun _ => ?_))
      | exact ih0 _ _ _ _
      | exact ih1 _ _ _ _ _
      | exact ih2 _ _ _ _ _ _ _
      | exact ih3 _ _ _ _ _ _ _
      | exact ih4 _ _ _ _ _ _ _
      | exact ih5 _ _ _ _ _ _ _ _
      | exact ih6 _ _ _ _
      | exact millref10_Given.mono _ _ _
      | exact LeO.none _
      | refine LeO.ite ?_ ?_
      | refine LeO.bind ?_ (fun _ => ?_)
    · intro y0 y1 y2 y3
      unfold millref10_Check.l2
      repeat' first
      | (with_reducible exact ih0 _ _ _ _)
      | (with_reducible exact ih1 _ _ _ _ _)
      | (with_reducible exact ih2 _ _ _ _ _ _ _)
      | (with_reducible exact ih3 _ _ _ _ _ _ _)
      | (with_reducible exact ih4 _ _ _ _ _ _ _)
      | (with_reducible exact ih5 _ _ _ _ _ _ _ _)
      | (with_reducible exact ih6 _ _ _ _)
      | (with_reducible exact millref10_Given.mono _ _ _)
      | (with_reducible exact LeO.refl _)
      | (with_reducible exact LeO.none _)
      | (with_reducible refine LeO.ite ?_ ?_)
      | (with_reducible refine LeO.bind ?_ (fun _ => ?_))
      | exact ih0 _ _ _ _
      | exact ih1 _ _ _ _ _
      | exact ih2 _ _ _ _ _ _ _
      | exact ih3 _ _ _ _ _ _ _
      | exact ih4 _ _ _ _ _ _ _
      | exact ih5 _ _ _ _ _ _ _ _
      | exact ih6 _ _ _ _
      | exact millref10_Given.mono _ _ _
      | exact LeO.none _
      | refine LeO.ite ?_ ?_
      | refine LeO.bind ?_ (fun _ => ?_)
theorem millref10_Check.mono : ∀ a0 a1 a2 k, LeO (millref10_Check.f k a0 a1 a2) (millref10_Check.f (k + 1) a0 a1 a2) := by
  intro a0 a1 a2 k
  obtain ⟨ih0, ih1, ih2, ih3, ih4, ih5, ih6⟩ := millref10_Check.mono_l k
  unfold millref10_Check.f
  repeat' first
      | (with_reducible exact ih0 _ _ _ _)
      | (with_reducible exact ih1 _ _ _ _ _)
      | (with_reducible exact ih2 _ _ _ _ _ _ _)
      | (with_reducible exact ih3 _ _ _ _ _ _ _)
      | (with_reducible exact ih4 _ _ _ _ _ _ _)
      | (with_reducible exact ih5 _ _ _ _ _ _ _ _)
      | (with_reducible exact ih6 _ _ _ _)
      | (with_reducible exact millref10_Given.mono _ _ _)
      | (with_reducible exact LeO.refl _)
      | (with_reducible exact LeO.none _)
      | (with_reducible refine LeO.ite ?_ ?_)
      | (with_reducible refine LeO.bind ?_ (fun _ => ?_))
      | exact ih0 _ _ _ _
      | exact ih1 _ _ _ _ _
      | exact ih2 _ _ _ _ _ _ _
      | exact ih3 _ _ _ _ _ _ _
      | exact ih4 _ _ _ _ _ _ _
      | exact ih5 _ _ _ _ _ _ _ _
      | exact ih6 _ _ _ _
      | exact millref10_Given.mono _ _ _
      | exact LeO.none _
      | refine LeO.ite ?_ ?_
      | refine LeO.bind ?_ (fun _ => ?_)
set_option maxHeartbeats 8000000 in
set_option maxRecDepth 100000 in
theorem millref10_Check.calls (k : Nat) (A0 : Option Addr) (c0 : Nat) (l0 : List Int) (a1 : Int) (A2 : Option Addr) (c2 : Nat) (l2 : List (S51)) (r : Int) (w : World) (hr0 : Kd.C (Kd.int .i64) w A0 l0.length l0) (hc0 : l0.length ≤ c0) (hr2 : Kd.C k51 w A2 l2.length l2) (hc2 : l2.length ≤ c2) (h : millref10_Check.f k l0 a1 l2 = some r) :
    Calls Try.prog 19 #[.slice A0 l0.length c0, .int .i64 a1, .slice A2 l2.length c2] w fun e w' => e = .returned (.int .i64 r) ∧ Below w.heap.size w w' := by
  have HR0 := Aside0.mk hr0
  have HC0 := Aside0.mk hc0
  clear hr0 hc0
  have HR2 := Aside0.mk hr2
  have HC2 := Aside0.mk hc2
  clear hr2 hc2
  have HB := Aside0.mk (Below.refl w.heap.size w)
  have H : ((millref10_Given.f k l0 a1).bind fun t164 => (if t164 = 0 then (if (l2.length : Int) = 0 then (millref10_Check.j0 k a1 l2 (l0.length : Int) true) else (millref10_Check.j0 k a1 l2 (l0.length : Int) (decide ((l2.length : Int) > (l0.length : Int))))) else (some t164))) = some r := h
  clear h
  replace H := Option.bind_eq_some_iff.mp H
  obtain ⟨t164, A40, H⟩ := H
  replace H : (if t164 = 0 then (if (l2.length : Int) = 0 then (millref10_Check.j0 k a1 l2 (l0.length : Int) true) else (millref10_Check.j0 k a1 l2 (l0.length : Int) (decide ((l2.length : Int) > (l0.length : Int))))) else (some t164)) = some r := H
  have A4 := Aside0.mk A40
  clear A40
  by_cases c5 : t164 = 0
  · rw [if_pos c5] at H
    have c5b0 : (t164 == 0) = true := beq_iff_eq.mpr c5
    have c5b1 : (t164 != 0) = false := bne_eq_false_iff_eq.mpr c5
    clear c5
    have HC6 := Aside0.mk H
    clear H
    go_enter Try.func19, Try.ntmps19
    go_upto_region 5 with (first | (go_at_call 26; (with_reducible refine (millref10_Given.calls k _ _ l0 a1 t164 _ ?side1 ?side2 A4.out).mono ?_); (case side1 => repeat (first | exact HR0.out | (with_reducible refine Kd.C_alloc ?_ _) | (with_reducible refine Kd.C_drewN ?_ _) | (with_reducible refine Kd.C_drew ?_))); (case side2 => exact HC0.out); rintro e w' ⟨rfl, ⟨nd, rfl⟩⟩; (try first | exact ⟨rfl, _, World.drewN_drewN _ _ _⟩ | exact ⟨rfl, _, Eq.trans (World.drewN_drewN _ _ _) (congrArg (World.drewN _) (Nat.add_assoc _ _ _))⟩)))
    repeat (go_quiet (first | (go_at_call 26; (with_reducible refine (millref10_Given.calls k _ _ l0 a1 t164 _ ?side1 ?side2 A4.out).mono ?_); (case side1 => repeat (first | exact HR0.out | (with_reducible refine Kd.C_alloc ?_ _) | (with_reducible refine Kd.C_drewN ?_ _) | (with_reducible refine Kd.C_drew ?_))); (case side2 => exact HC0.out); rintro e w' ⟨rfl, ⟨nd, rfl⟩⟩; (try first | exact ⟨rfl, _, World.drewN_drewN _ _ _⟩ | exact ⟨rfl, _, Eq.trans (World.drewN_drewN _ _ _) (congrArg (World.drewN _) (Nat.add_assoc _ _ _))⟩))); go_upto_region 5 with (first | (go_at_call 26; (with_reducible refine (millref10_Given.calls k _ _ l0 a1 t164 _ ?side1 ?side2 A4.out).mono ?_); (case side1 => repeat (first | exact HR0.out | (with_reducible refine Kd.C_alloc ?_ _) | (with_reducible refine Kd.C_drewN ?_ _) | (with_reducible refine Kd.C_drew ?_))); (case side2 => exact HC0.out); rintro e w' ⟨rfl, ⟨nd, rfl⟩⟩; (try first | exact ⟨rfl, _, World.drewN_drewN _ _ _⟩ | exact ⟨rfl, _, Eq.trans (World.drewN_drewN _ _ _) (congrArg (World.drewN _) (Nat.add_assoc _ _ _))⟩))))
    (try simp only [Act.put, List.setIfInBounds_toArray, List.set_cons_zero, List.set_cons_succ])
    go_cut [30] (fun v30 wc => ∃ (kq : Nat) (x30_5 : Bool), v30 = .bool x30_5 ∧ Aside0 (millref10_Check.j0 kq a1 l2 (l0.length : Int) x30_5 = some r) ∧ Aside0 (kq ≤ k) ∧ Aside0 (Below w.heap.size w wc))
    case first =>
      have H := HC6.out
      clear HC6
      by_cases c7 : (l2.length : Int) = 0
      · rw [if_pos c7] at H
        have c7b0 : ((l2.length : Int) == 0) = true := beq_iff_eq.mpr c7
        have c7b1 : ((l2.length : Int) != 0) = false := bne_eq_false_iff_eq.mpr c7
        clear c7
        (first | rw [c7b0] | (simp only [i64_w, i32_w]; rw [c7b0]) | skip)
        have H' := Aside0.mk H
        clear H
        go_wp2
        repeat (go_quiet (fail); try go_wp2)
        go_meet
        case rel => exact ⟨_, (true), (by first | rfl | (simp; done) | (simp [*]; done)), H', ⟨by first | omega | exact Nat.le_refl _⟩, ⟨by repeat (first | (with_reducible first | exact HB.out | apply below_alloc | apply pw_below_drewN | apply below_drew1) | exact HB.out)⟩⟩
      · rw [if_neg c7] at H
        have c7b0 : ((l2.length : Int) == 0) = false := beq_eq_false_iff_ne.mpr c7
        have c7b1 : ((l2.length : Int) != 0) = true := bne_iff_ne.mpr c7
        have c7b2 : ¬ (l2 = []) := fun h_ => c7 (by rw [h_]; rfl)
        (first | rw [c7b0] | (simp only [i64_w, i32_w]; rw [c7b0]) | skip)
        have H' := Aside0.mk H
        clear H
        go_wp2
        repeat (go_quiet (fail); try go_wp2)
        go_meet
        case rel => exact ⟨_, (decide ((l2.length : Int) > (l0.length : Int))), (by first | rfl | (simp; done) | (simp [*]; done)), H', ⟨by first | omega | exact Nat.le_refl _⟩, ⟨by repeat (first | (with_reducible first | exact HB.out | apply below_alloc | apply pw_below_drewN | apply below_drew1) | exact HB.out)⟩⟩
    case rest =>
      clear HC6
      try clear c1
      try clear c2
      try clear p2
      try clear c5
      try clear c5b0
      try clear c5b1
      try clear c7
      try clear c7b0
      try clear c7b1
      try clear c7b2
      obtain ⟨kq, x30_5, rfl, HA, HJ5, HB⟩ := hcut
      cases kq with
      | zero => exact absurd HA.out (by simp [millref10_Check.j0])
      | succ kj5 =>
        have H := HA.out
        clear HA
        simp only [millref10_Check.j0] at H
        by_cases c8 : x30_5 = true
        · subst c8
          have H1 : (some 101) = some r := by rw [if_pos rfl] at H; exact H
          clear H
          have H := H1
          clear H1
          obtain rfl := Option.some.inj H
          go_wp2
          repeat (go_quiet (fail); try go_wp2)
          go_ret
          exact ⟨by first | rfl | (simp [errW_none, errW_some] <;> rfl) | (simp [*, errW_none, errW_some] <;> rfl), by repeat (first | (with_reducible first | exact HB.out | apply below_alloc | apply pw_below_drewN | apply below_drew1) | exact HB.out)⟩
        · replace c8 := Bool.eq_false_iff.mpr c8
          subst c8
          have H1 : (if 0 ≤ (wrap64 ((l0.length : Int) + (l2.length : Int))) then (if (wrap64 ((l0.length : Int) + (l2.length : Int)) : Int).toNat ≤ 35184372088832 then (millref10_Check.l0 kj5 a1 l2 (l0.length : Int) (List.replicate (wrap64 ((l0.length : Int) + (l2.length : Int)) : Int).toNat 0) 0) else (none)) else (none)) = some r := by rw [if_neg (show ¬ (false = true) by decide)] at H; exact H
          clear H
          have H := H1
          clear H1
          obtain ⟨ji9, hji9⟩ : ∃ j_ : Int, (wrap64 ((l0.length : Int) + (l2.length : Int))) = j_ := ⟨_, rfl⟩
          replace H : (if 0 ≤ (ji9) then (if (ji9 : Int).toNat ≤ 35184372088832 then (millref10_Check.l0 kj5 a1 l2 (l0.length : Int) (List.replicate (ji9 : Int).toNat 0) 0) else (none)) else (none)) = some r := by first | (rw [hji9] at H; exact H) | (simp only [hji9] at H ⊢; exact H)
          have hji9w : (IntKind.i64.wrap ((l0.length : Int) + (l2.length : Int))) = ji9 := (i64_w _).trans hji9
          by_cases c10 : 0 ≤ (ji9)
          · rw [if_pos c10] at H
            have c10b0 := eq_true c10
            have c10b1 : decide (0 ≤ (ji9)) = true := decide_eq_true c10
            clear c10
            by_cases c11 : (ji9 : Int).toNat ≤ 35184372088832
            · rw [if_pos c11] at H
              have c11b0 := eq_true c11
              have c11b1 : decide ((ji9 : Int).toNat ≤ 35184372088832) = true := decide_eq_true c11
              clear c11
              obtain ⟨y165, hy165⟩ : ∃ y_ : List Int, y_ = (List.replicate (ji9 : Int).toNat 0) := ⟨_, rfl⟩
              replace H : (millref10_Check.l0 kj5 a1 l2 (l0.length : Int) y165 0) = some r := by first | (rw [hy165]; with_reducible exact H) | (have H2_ := (Option.bind_some _ _).symm.trans H; rw [hy165]; with_reducible exact H2_) | (have H2_ := (Option.bind_some _ _).symm.trans H; with_reducible exact H2_) | with_reducible exact H | (rw [hy165]; exact H) | exact H
              have Ny165 := Aside0.mk hy165
              clear hy165
              have H' := Aside0.mk H
              clear H
              go_wp2_with (first | ((with_reducible refine gate_dst (N := 35) rfl ?_); (try (refine gate_guard (by rfl) ?_; dsimp only)); refine Kd.R_make (Kd.int .i64) _ 3 rfl (N := 35) rfl 22 _ _ rfl ji9 rfl rfl Try.underlying22 (.int .i64 0) 8 info3 rfl (by decide) (by omega) 0 (ok := fun _ => True) (okp := fun _ => True) rfl (fun _ hk => hk) trivial (of_decide_eq_true (by first | (with_reducible assumption) | assumption)) (Nat.le_trans (Nat.mul_le_mul_right _ (of_decide_eq_true (by first | (with_reducible assumption) | assumption) : ji9.toNat ≤ 35184372088832)) (by omega)) (Below.refl _ _) (Nat.le_refl _) ?_; intro v166 w12 ho13 hb hg_ hnew_; clear hg_ hnew_; (first | rw [← Ny165.out] at ho13 | (simp only [Int.reduceToNat] at ho13; rw [← Ny165.out] at ho13)); have n0_ := Aside0.mk (Kd.R_lower ho13 (below_size (by repeat (first | (with_reducible first | exact HB.out | apply below_alloc | apply pw_below_drewN | apply below_drew1) | exact HB.out)))); have n1_ := Aside0.mk (below_step (by repeat (first | (with_reducible first | exact HB.out | apply below_alloc | apply pw_below_drewN | apply below_drew1) | exact HB.out)) hb); clear HB; have HO167 := n0_; have HB := n1_; clear n0_ n1_; clear hb ho13))
              repeat (go_quiet (first | ((with_reducible refine gate_dst (N := 35) rfl ?_); (try (refine gate_guard (by rfl) ?_; dsimp only)); refine Kd.R_make (Kd.int .i64) _ 3 rfl (N := 35) rfl 22 _ _ rfl ji9 rfl rfl Try.underlying22 (.int .i64 0) 8 info3 rfl (by decide) (by omega) 0 (ok := fun _ => True) (okp := fun _ => True) rfl (fun _ hk => hk) trivial (of_decide_eq_true (by first | (with_reducible assumption) | assumption)) (Nat.le_trans (Nat.mul_le_mul_right _ (of_decide_eq_true (by first | (with_reducible assumption) | assumption) : ji9.toNat ≤ 35184372088832)) (by omega)) (Below.refl _ _) (Nat.le_refl _) ?_; intro v166 w12 ho13 hb hg_ hnew_; clear hg_ hnew_; (first | rw [← Ny165.out] at ho13 | (simp only [Int.reduceToNat] at ho13; rw [← Ny165.out] at ho13)); have n0_ := Aside0.mk (Kd.R_lower ho13 (below_size (by repeat (first | (with_reducible first | exact HB.out | apply below_alloc | apply pw_below_drewN | apply below_drew1) | exact HB.out)))); have n1_ := Aside0.mk (below_step (by repeat (first | (with_reducible first | exact HB.out | apply below_alloc | apply pw_below_drewN | apply below_drew1) | exact HB.out)) hb); clear HB; have HO167 := n0_; have HB := n1_; clear n0_ n1_; clear hb ho13)); try go_wp2_with (first | ((with_reducible refine gate_dst (N := 35) rfl ?_); (try (refine gate_guard (by rfl) ?_; dsimp only)); refine Kd.R_make (Kd.int .i64) _ 3 rfl (N := 35) rfl 22 _ _ rfl ji9 rfl rfl Try.underlying22 (.int .i64 0) 8 info3 rfl (by decide) (by omega) 0 (ok := fun _ => True) (okp := fun _ => True) rfl (fun _ hk => hk) trivial (of_decide_eq_true (by first | (with_reducible assumption) | assumption)) (Nat.le_trans (Nat.mul_le_mul_right _ (of_decide_eq_true (by first | (with_reducible assumption) | assumption) : ji9.toNat ≤ 35184372088832)) (by omega)) (Below.refl _ _) (Nat.le_refl _) ?_; intro v166 w12 ho13 hb hg_ hnew_; clear hg_ hnew_; (first | rw [← Ny165.out] at ho13 | (simp only [Int.reduceToNat] at ho13; rw [← Ny165.out] at ho13)); have n0_ := Aside0.mk (Kd.R_lower ho13 (below_size (by repeat (first | (with_reducible first | exact HB.out | apply below_alloc | apply pw_below_drewN | apply below_drew1) | exact HB.out)))); have n1_ := Aside0.mk (below_step (by repeat (first | (with_reducible first | exact HB.out | apply below_alloc | apply pw_below_drewN | apply below_drew1) | exact HB.out)) hb); clear HB; have HO167 := n0_; have HB := n1_; clear n0_ n1_; clear hb ho13)))
              go_loopg [10] kj5 (fun kq v10 w' => ∃ (x9_2 : List Int) (x10_2 : Int), v10 = .int .i64 x10_2 ∧ Aside0 (millref10_Check.l0 kq a1 l2 (l0.length : Int) x9_2 x10_2 = some r) ∧ Aside0 (kq ≤ kj5) ∧ Aside0 (Kd.R (Kd.int .i64) 3 w' w.heap.size (fun _ => True) v166 x9_2) ∧ Aside0 (Below w.heap.size w w'))
              case atStart => exact ⟨(y165), (0), (by first | rfl | (simp; done) | (simp [*]; done)), H', ⟨Nat.le_refl _⟩, ⟨by (with_reducible repeat (first | apply Kd.R_alloc | apply Kd.R_drewN | apply Kd.R_drew)); exact HO167.out⟩, ⟨by repeat (first | (with_reducible first | exact HB.out | apply below_alloc | apply pw_below_drewN | apply below_drew1) | exact HB.out)⟩⟩
              case round =>
                clear H'
                try clear c1
                try clear c2
                try clear p2
                try clear c5
                try clear c5b0
                try clear c5b1
                try clear p6
                try clear c7
                try clear c7b0
                try clear c7b1
                try clear c7b2
                try clear c8
                try clear c10
                try clear c10b0
                try clear c10b1
                try clear c11
                try clear c11b0
                try clear c11b1
                try clear p2
                obtain ⟨x9_2, x10_2, rfl, HA, HK2, HO_9, HB⟩ := hrel
                cases gk with
                | zero => exact absurd HA.out (by simp [millref10_Check.l0])
                | succ k2 =>
                  have H := HA.out
                  clear HA
                  simp only [millref10_Check.l0] at H
                  by_cases c14 : x10_2 < (l2.length : Int)
                  · rw [if_pos c14] at H
                    have c14b0 : decide (x10_2 < (l2.length : Int)) = true := decide_eq_true c14
                    clear c14
                    by_cases c15 : 0 ≤ x10_2
                    · rw [if_pos c15] at H
                      have c15b0 : decide (0 ≤ x10_2) = true := decide_eq_true c15
                      clear c15
                      have HC16 := Aside0.mk H
                      clear H
                      have p168 : 0 ≤ (x10_2 : Int) := of_decide_eq_true (by first | (with_reducible assumption) | assumption)
                      have q168 : x10_2 < (l2.length : Int) := of_decide_eq_true (by first | (with_reducible assumption) | assumption)
                      obtain ⟨ad168, A168_0, c168_0, e168, hx168_0, hx168_1, hl168_0, hi168_0⟩ := at_T51 HR2.out x10_2 p168 q168
                      cases e168
                      replace hx168_0 := (HB.out.cell (World.block_lt_of_cell? w _ hx168_0)).trans hx168_0
                      replace hx168_1 := (HB.out.cell (World.block_lt_of_cell? w _ hx168_1)).trans hx168_1
                      have HR168_0 := Aside0.mk hi168_0
                      have HC168_0 := Aside0.mk hl168_0
                      clear hi168_0 hl168_0
                      replace p168 := eq_true p168
                      replace q168 := eq_true q168
                      go_upto_region 12 with (fail)
                      repeat (go_quiet (fail); go_upto_region 12 with (fail))
                      go_cut [66] (fun v66 wc => ∃ (kq : Nat) (x66_15 : Bool), v66 = .bool x66_15 ∧ Aside0 (millref10_Check.j2 kq a1 l2 (l0.length : Int) x9_2 x10_2 ((rd_T51 l2 x10_2).f0) x66_15 = some r) ∧ Aside0 (kq ≤ k2) ∧ Aside0 (Kd.R (Kd.int .i64) 3 wc w.heap.size (fun _ => True) v166 x9_2) ∧ Aside0 (Below w.heap.size w wc))
                      case first =>
                        have H := HC16.out
                        clear HC16
                        by_cases c17 : ((rd_T51 l2 x10_2).f1) = (wrap64 ((l0.length : Int) + x10_2))
                        · rw [if_pos c17] at H
                          have c17b0 : (((rd_T51 l2 x10_2).f1) == (wrap64 ((l0.length : Int) + x10_2))) = true := beq_iff_eq.mpr c17
                          have c17b1 : (((rd_T51 l2 x10_2).f1) != (wrap64 ((l0.length : Int) + x10_2))) = false := bne_eq_false_iff_eq.mpr c17
                          clear c17
                          (first | rw [c17b0] | (simp only [i64_w, i32_w]; rw [c17b0]) | skip)
                          by_cases c18 : (((rd_T51 l2 x10_2).f0).length : Int) = 0
                          · rw [if_pos c18] at H
                            have c18b0 : ((((rd_T51 l2 x10_2).f0).length : Int) == 0) = true := beq_iff_eq.mpr c18
                            have c18b1 : ((((rd_T51 l2 x10_2).f0).length : Int) != 0) = false := bne_eq_false_iff_eq.mpr c18
                            clear c18
                            have H' := Aside0.mk H
                            clear H
                            have p169 : 0 ≤ (x10_2 : Int) := of_decide_eq_true (by first | (with_reducible assumption) | assumption)
                            have q169 : x10_2 < (l2.length : Int) := of_decide_eq_true (by first | (with_reducible assumption) | assumption)
                            obtain ⟨ad169, A169_0, c169_0, e169, hx169_0, hx169_1, hl169_0, hi169_0⟩ := at_T51 HR2.out x10_2 p169 q169
                            obtain rfl : ad168 = ad169 := (by injection e169)
                            replace hx169_0 := (HB.out.cell (World.block_lt_of_cell? w _ hx169_0)).trans hx169_0
                            replace hx169_1 := (HB.out.cell (World.block_lt_of_cell? w _ hx169_1)).trans hx169_1
                            have HR169_0 := Aside0.mk hi169_0
                            have HC169_0 := Aside0.mk hl169_0
                            clear hi169_0 hl169_0
                            replace p169 := eq_true p169
                            replace q169 := eq_true q169
                            go_wp2
                            repeat (go_quiet (fail); try go_wp2)
                            go_meet
                            case rel => exact ⟨_, (true), (by first | rfl | (simp; done) | (simp [*]; done)), H', ⟨by have := HJ5.out; have := HK2.out; first | omega | exact Nat.le_refl _⟩, ⟨by (with_reducible repeat (first | apply Kd.R_alloc | apply Kd.R_drewN | apply Kd.R_drew)); exact HO_9.out⟩, ⟨by repeat (first | (with_reducible first | exact HB.out | apply below_alloc | apply pw_below_drewN | apply below_drew1) | exact HB.out)⟩⟩
                          · rw [if_neg c18] at H
                            have c18b0 : ((((rd_T51 l2 x10_2).f0).length : Int) == 0) = false := beq_eq_false_iff_ne.mpr c18
                            have c18b1 : ((((rd_T51 l2 x10_2).f0).length : Int) != 0) = true := bne_iff_ne.mpr c18
                            have c18b2 : ¬ (((rd_T51 l2 x10_2).f0) = []) := fun h_ => c18 (by rw [h_]; rfl)
                            have H' := Aside0.mk H
                            clear H
                            have p169 : 0 ≤ (x10_2 : Int) := of_decide_eq_true (by first | (with_reducible assumption) | assumption)
                            have q169 : x10_2 < (l2.length : Int) := of_decide_eq_true (by first | (with_reducible assumption) | assumption)
                            obtain ⟨ad169, A169_0, c169_0, e169, hx169_0, hx169_1, hl169_0, hi169_0⟩ := at_T51 HR2.out x10_2 p169 q169
                            obtain rfl : ad168 = ad169 := (by injection e169)
                            replace hx169_0 := (HB.out.cell (World.block_lt_of_cell? w _ hx169_0)).trans hx169_0
                            replace hx169_1 := (HB.out.cell (World.block_lt_of_cell? w _ hx169_1)).trans hx169_1
                            have HR169_0 := Aside0.mk hi169_0
                            have HC169_0 := Aside0.mk hl169_0
                            clear hi169_0 hl169_0
                            replace p169 := eq_true p169
                            replace q169 := eq_true q169
                            go_wp2
                            repeat (go_quiet (fail); try go_wp2)
                            go_meet
                            case rel => exact ⟨_, (decide ((((rd_T51 l2 x10_2).f0).length : Int) > a1)), (by first | rfl | (simp; done) | (simp [*]; done)), H', ⟨by have := HJ5.out; have := HK2.out; first | omega | exact Nat.le_refl _⟩, ⟨by (with_reducible repeat (first | apply Kd.R_alloc | apply Kd.R_drewN | apply Kd.R_drew)); exact HO_9.out⟩, ⟨by repeat (first | (with_reducible first | exact HB.out | apply below_alloc | apply pw_below_drewN | apply below_drew1) | exact HB.out)⟩⟩
                        · rw [if_neg c17] at H
                          have c17b0 : (((rd_T51 l2 x10_2).f1) == (wrap64 ((l0.length : Int) + x10_2))) = false := beq_eq_false_iff_ne.mpr c17
                          have c17b1 : (((rd_T51 l2 x10_2).f1) != (wrap64 ((l0.length : Int) + x10_2))) = true := bne_iff_ne.mpr c17
                          (first | rw [c17b0] | (simp only [i64_w, i32_w]; rw [c17b0]) | skip)
                          have H' := Aside0.mk H
                          clear H
                          have p169 : 0 ≤ (x10_2 : Int) := of_decide_eq_true (by first | (with_reducible assumption) | assumption)
                          have q169 : x10_2 < (l2.length : Int) := of_decide_eq_true (by first | (with_reducible assumption) | assumption)
                          obtain ⟨ad169, A169_0, c169_0, e169, hx169_0, hx169_1, hl169_0, hi169_0⟩ := at_T51 HR2.out x10_2 p169 q169
                          obtain rfl : ad168 = ad169 := (by injection e169)
                          replace hx169_0 := (HB.out.cell (World.block_lt_of_cell? w _ hx169_0)).trans hx169_0
                          replace hx169_1 := (HB.out.cell (World.block_lt_of_cell? w _ hx169_1)).trans hx169_1
                          have HR169_0 := Aside0.mk hi169_0
                          have HC169_0 := Aside0.mk hl169_0
                          clear hi169_0 hl169_0
                          replace p169 := eq_true p169
                          replace q169 := eq_true q169
                          go_wp2
                          repeat (go_quiet (fail); try go_wp2)
                          go_meet
                          case rel => exact ⟨_, (true), (by first | rfl | (simp; done) | (simp [*]; done)), H', ⟨by have := HJ5.out; have := HK2.out; first | omega | exact Nat.le_refl _⟩, ⟨by (with_reducible repeat (first | apply Kd.R_alloc | apply Kd.R_drewN | apply Kd.R_drew)); exact HO_9.out⟩, ⟨by repeat (first | (with_reducible first | exact HB.out | apply below_alloc | apply pw_below_drewN | apply below_drew1) | exact HB.out)⟩⟩
                      case rest =>
                        clear HC16
                        try clear c1
                        try clear p1
                        try clear q1
                        try clear hx1
                        try clear c2
                        try clear p2
                        try clear c5
                        try clear c5b0
                        try clear c5b1
                        try clear p6
                        try clear c7
                        try clear c7b0
                        try clear c7b1
                        try clear c7b2
                        try clear c8
                        try clear c10
                        try clear c10b0
                        try clear c10b1
                        try clear c11
                        try clear c11b0
                        try clear c11b1
                        try clear c14
                        try clear c14b0
                        try clear c15
                        try clear c15b0
                        try clear c16
                        try clear p16
                        try clear q16
                        try clear hx16
                        try clear c17
                        try clear c17b0
                        try clear c17b1
                        try clear c18
                        try clear c18b0
                        try clear c18b1
                        try clear c18b2
                        try clear hx168_0
                        try clear hx168_1
                        try clear hx169_0
                        try clear hx169_1
                        try clear p168
                        try clear p169
                        try clear p2
                        try clear p6
                        try clear q168
                        try clear q169
                        obtain ⟨kq, x66_15, rfl, HA, HJ15, HO_9, HB⟩ := hcut
                        cases kq with
                        | zero => exact absurd HA.out (by simp [millref10_Check.j2])
                        | succ kj15 =>
                          have H := HA.out
                          clear HA
                          simp only [millref10_Check.j2] at H
                          by_cases c19 : x66_15 = true
                          · subst c19
                            have H1 : (some 101) = some r := by rw [if_pos rfl] at H; exact H
                            clear H
                            have H := H1
                            clear H1
                            obtain rfl := Option.some.inj H
                            go_wp2
                            repeat (go_quiet (fail); try go_wp2)
                            go_ret
                            exact ⟨by first | rfl | (simp [errW_none, errW_some] <;> rfl) | (simp only [← hji9]; first | rfl | (simp [errW_none, errW_some] <;> rfl)) | (simp [*, errW_none, errW_some] <;> rfl), by repeat (first | (with_reducible first | exact HB.out | apply below_alloc | apply pw_below_drewN | apply below_drew1) | exact HB.out)⟩
                          · replace c19 := Bool.eq_false_iff.mpr c19
                            subst c19
                            have H1 : (if (((rd_T51 l2 x10_2).f0).length : Int) = 1 then (millref10_Check.j3 kj15 a1 l2 (l0.length : Int) x9_2 x10_2 ((rd_T51 l2 x10_2).f0) (decide ((l0.length : Int) > 1))) else (millref10_Check.j3 kj15 a1 l2 (l0.length : Int) x9_2 x10_2 ((rd_T51 l2 x10_2).f0) false)) = some r := by rw [if_neg (show ¬ (false = true) by decide)] at H; exact H
                            clear H
                            have H := H1
                            clear H1
                            have HC20 := Aside0.mk H
                            clear H
                            go_upto_region 14 with (fail)
                            repeat (go_quiet (fail); go_upto_region 14 with (fail))
                            go_cut [73] (fun v73 wc => ∃ (kq : Nat) (x73_19 : Bool), v73 = .bool x73_19 ∧ Aside0 (millref10_Check.j3 kq a1 l2 (l0.length : Int) x9_2 x10_2 ((rd_T51 l2 x10_2).f0) x73_19 = some r) ∧ Aside0 (kq ≤ kj15) ∧ Aside0 (Kd.R (Kd.int .i64) 3 wc w.heap.size (fun _ => True) v166 x9_2) ∧ Aside0 (Below w.heap.size w wc))
                            case first =>
                              have H := HC20.out
                              clear HC20
                              by_cases c21 : (((rd_T51 l2 x10_2).f0).length : Int) = 1
                              · rw [if_pos c21] at H
                                have c21b0 : ((((rd_T51 l2 x10_2).f0).length : Int) == 1) = true := beq_iff_eq.mpr c21
                                have c21b1 : ((((rd_T51 l2 x10_2).f0).length : Int) != 1) = false := bne_eq_false_iff_eq.mpr c21
                                clear c21
                                (first | rw [c21b0] | (simp only [i64_w, i32_w]; rw [c21b0]) | skip)
                                have H' := Aside0.mk H
                                clear H
                                go_wp2
                                repeat (go_quiet (fail); try go_wp2)
                                go_meet
                                case rel => exact ⟨_, (decide ((l0.length : Int) > 1)), (by first | rfl | (simp; done) | (simp [*]; done)), H', ⟨by have := HJ5.out; have := HK2.out; have := HJ15.out; first | omega | exact Nat.le_refl _⟩, ⟨by (with_reducible repeat (first | apply Kd.R_alloc | apply Kd.R_drewN | apply Kd.R_drew)); exact HO_9.out⟩, ⟨by repeat (first | (with_reducible first | exact HB.out | apply below_alloc | apply pw_below_drewN | apply below_drew1) | exact HB.out)⟩⟩
                              · rw [if_neg c21] at H
                                have c21b0 : ((((rd_T51 l2 x10_2).f0).length : Int) == 1) = false := beq_eq_false_iff_ne.mpr c21
                                have c21b1 : ((((rd_T51 l2 x10_2).f0).length : Int) != 1) = true := bne_iff_ne.mpr c21
                                (first | rw [c21b0] | (simp only [i64_w, i32_w]; rw [c21b0]) | skip)
                                have H' := Aside0.mk H
                                clear H
                                go_wp2
                                repeat (go_quiet (fail); try go_wp2)
                                go_meet
                                case rel => exact ⟨_, (false), (by first | rfl | (simp; done) | (simp [*]; done)), H', ⟨by have := HJ5.out; have := HK2.out; have := HJ15.out; first | omega | exact Nat.le_refl _⟩, ⟨by (with_reducible repeat (first | apply Kd.R_alloc | apply Kd.R_drewN | apply Kd.R_drew)); exact HO_9.out⟩, ⟨by repeat (first | (with_reducible first | exact HB.out | apply below_alloc | apply pw_below_drewN | apply below_drew1) | exact HB.out)⟩⟩
                            case rest =>
                              clear HC20
                              try clear c1
                              try clear p1
                              try clear q1
                              try clear hx1
                              try clear c2
                              try clear p2
                              try clear c5
                              try clear c5b0
                              try clear c5b1
                              try clear p6
                              try clear c7
                              try clear c7b0
                              try clear c7b1
                              try clear c7b2
                              try clear c8
                              try clear c10
                              try clear c10b0
                              try clear c10b1
                              try clear c11
                              try clear c11b0
                              try clear c11b1
                              try clear c14
                              try clear c14b0
                              try clear c15
                              try clear c15b0
                              try clear c16
                              try clear p16
                              try clear q16
                              try clear hx16
                              try clear c17
                              try clear c17b0
                              try clear c17b1
                              try clear c18
                              try clear c18b0
                              try clear c18b1
                              try clear c18b2
                              try clear c19
                              try clear c21
                              try clear c21b0
                              try clear c21b1
                              try clear hx168_0
                              try clear hx168_1
                              try clear hx169_0
                              try clear hx169_1
                              try clear p1
                              try clear p16
                              try clear p168
                              try clear p169
                              try clear p2
                              try clear p6
                              try clear q1
                              try clear q16
                              try clear q168
                              try clear q169
                              obtain ⟨kq, x73_19, rfl, HA, HJ19, HO_9, HB⟩ := hcut
                              cases kq with
                              | zero => exact absurd HA.out (by simp [millref10_Check.j3])
                              | succ kj19 =>
                                have H := HA.out
                                clear HA
                                simp only [millref10_Check.j3] at H
                                by_cases c22 : x73_19 = true
                                · subst c22
                                  have H1 : (some 101) = some r := by rw [if_pos rfl] at H; exact H
                                  clear H
                                  have H := H1
                                  clear H1
                                  obtain rfl := Option.some.inj H
                                  go_wp2
                                  repeat (go_quiet (fail); try go_wp2)
                                  go_ret
                                  exact ⟨by first | rfl | (simp [errW_none, errW_some] <;> rfl) | (simp only [← hji9]; first | rfl | (simp [errW_none, errW_some] <;> rfl)) | (simp [*, errW_none, errW_some] <;> rfl), by repeat (first | (with_reducible first | exact HB.out | apply below_alloc | apply pw_below_drewN | apply below_drew1) | exact HB.out)⟩
                                · replace c22 := Bool.eq_false_iff.mpr c22
                                  subst c22
                                  have H1 : (millref10_Check.l1 kj19 a1 l2 (l0.length : Int) x9_2 x10_2 ((rd_T51 l2 x10_2).f0) 0) = some r := by rw [if_neg (show ¬ (false = true) by decide)] at H; exact H
                                  clear H
                                  have H := H1
                                  clear H1
                                  have H' := Aside0.mk H
                                  clear H
                                  go_wp2
                                  repeat (go_quiet (fail); try go_wp2)
                                  go_loopg [12] kj19 (fun kq v12 w' => ∃ (x9_5 : List Int) (x12_5 : Int), v12 = .int .i64 x12_5 ∧ Aside0 (millref10_Check.l1 kq a1 l2 (l0.length : Int) x9_5 x10_2 ((rd_T51 l2 x10_2).f0) x12_5 = some r) ∧ Aside0 (kq ≤ kj19) ∧ Aside0 (Kd.R (Kd.int .i64) 3 w' w.heap.size (fun _ => True) v166 x9_5) ∧ Aside0 (Below w.heap.size w w'))
                                  case atStart => exact ⟨(x9_2), (0), (by first | rfl | (simp; done) | (simp [*]; done)), H', ⟨Nat.le_refl _⟩, ⟨by (with_reducible repeat (first | apply Kd.R_alloc | apply Kd.R_drewN | apply Kd.R_drew)); exact HO_9.out⟩, ⟨by repeat (first | (with_reducible first | exact HB.out | apply below_alloc | apply pw_below_drewN | apply below_drew1) | exact HB.out)⟩⟩
                                  case round =>
                                    clear H'
                                    try clear c1
                                    try clear p1
                                    try clear q1
                                    try clear hx1
                                    try clear c2
                                    try clear p2
                                    try clear c5
                                    try clear c5b0
                                    try clear c5b1
                                    try clear p6
                                    try clear c7
                                    try clear c7b0
                                    try clear c7b1
                                    try clear c7b2
                                    try clear c8
                                    try clear c10
                                    try clear c10b0
                                    try clear c10b1
                                    try clear c11
                                    try clear c11b0
                                    try clear c11b1
                                    try clear c14
                                    try clear c14b0
                                    try clear c15
                                    try clear c15b0
                                    try clear c16
                                    try clear p16
                                    try clear q16
                                    try clear hx16
                                    try clear c17
                                    try clear c17b0
                                    try clear c17b1
                                    try clear c18
                                    try clear c18b0
                                    try clear c18b1
                                    try clear c18b2
                                    try clear c19
                                    try clear c21
                                    try clear c21b0
                                    try clear c21b1
                                    try clear c22
                                    try clear hx168_0
                                    try clear hx168_1
                                    try clear hx169_0
                                    try clear hx169_1
                                    try clear p1
                                    try clear p16
                                    try clear p168
                                    try clear p169
                                    try clear p2
                                    try clear p6
                                    try clear q1
                                    try clear q16
                                    try clear q168
                                    try clear q169
                                    obtain ⟨x9_5, x12_5, rfl, HA, HK5, HO_9, HB⟩ := hrel
                                    cases gk with
                                    | zero => exact absurd HA.out (by simp [millref10_Check.l1])
                                    | succ k5 =>
                                      have H := HA.out
                                      clear HA
                                      simp only [millref10_Check.l1] at H
                                      by_cases c23 : x12_5 < (((rd_T51 l2 x10_2).f0).length : Int)
                                      · rw [if_pos c23] at H
                                        have c23b0 : decide (x12_5 < (((rd_T51 l2 x10_2).f0).length : Int)) = true := decide_eq_true c23
                                        clear c23
                                        have HC24 := Aside0.mk H
                                        clear H
                                        go_upto_region 19 with (fail)
                                        repeat (go_quiet (fail); go_upto_region 19 with (fail))
                                        go_cut [94] (fun v94 wc => ∃ (kq : Nat) (x94_23 : Bool), v94 = .bool x94_23 ∧ Aside0 (millref10_Check.j5 kq a1 l2 (l0.length : Int) x9_5 x10_2 ((rd_T51 l2 x10_2).f0) x12_5 x94_23 = some r) ∧ Aside0 (kq ≤ k5) ∧ Aside0 (Kd.R (Kd.int .i64) 3 wc w.heap.size (fun _ => True) v166 x9_5) ∧ Aside0 (Below w.heap.size w wc))
                                        case first =>
                                          have H := HC24.out
                                          clear HC24
                                          by_cases c25 : 0 ≤ x12_5
                                          · rw [if_pos c25] at H
                                            have c25b0 : decide (0 ≤ x12_5) = true := decide_eq_true c25
                                            clear c25
                                            (first | rw [c25b0] | (simp only [i64_w, i32_w]; rw [c25b0]) | skip)
                                            by_cases c26 : (rd ((rd_T51 l2 x10_2).f0) x12_5) < 0
                                            · rw [if_pos c26] at H
                                              have c26b0 : decide ((rd ((rd_T51 l2 x10_2).f0) x12_5) < 0) = true := decide_eq_true c26
                                              clear c26
                                              have H' := Aside0.mk H
                                              clear H
                                              have p170 : 0 ≤ (x12_5 : Int) := of_decide_eq_true (by first | (with_reducible assumption) | assumption)
                                              have q170 : x12_5 < (((rd_T51 l2 x10_2).f0).length : Int) := of_decide_eq_true (by first | (with_reducible assumption) | assumption)
                                              obtain ⟨ad170, e170, hx170_0⟩ := Kd.at_int HR168_0.out x12_5 p170 q170
                                              cases e170
                                              replace hx170_0 := (HB.out.cell (World.block_lt_of_cell? w _ hx170_0)).trans hx170_0
                                              replace p170 := eq_true p170
                                              replace q170 := eq_true q170
                                              go_wp2
                                              repeat (go_quiet (fail); try go_wp2)
                                              go_meet
                                              case rel => exact ⟨_, (true), (by first | rfl | (simp; done) | (simp [*]; done)), H', ⟨by have := HJ5.out; have := HK2.out; have := HJ15.out; have := HJ19.out; have := HK5.out; first | omega | exact Nat.le_refl _⟩, ⟨by (with_reducible repeat (first | apply Kd.R_alloc | apply Kd.R_drewN | apply Kd.R_drew)); exact HO_9.out⟩, ⟨by repeat (first | (with_reducible first | exact HB.out | apply below_alloc | apply pw_below_drewN | apply below_drew1) | exact HB.out)⟩⟩
                                            · rw [if_neg c26] at H
                                              have c26b0 : decide ((rd ((rd_T51 l2 x10_2).f0) x12_5) < 0) = false := decide_eq_false c26
                                              clear c26
                                              have H' := Aside0.mk H
                                              clear H
                                              have p170 : 0 ≤ (x12_5 : Int) := of_decide_eq_true (by first | (with_reducible assumption) | assumption)
                                              have q170 : x12_5 < (((rd_T51 l2 x10_2).f0).length : Int) := of_decide_eq_true (by first | (with_reducible assumption) | assumption)
                                              obtain ⟨ad170, e170, hx170_0⟩ := Kd.at_int HR168_0.out x12_5 p170 q170
                                              cases e170
                                              replace hx170_0 := (HB.out.cell (World.block_lt_of_cell? w _ hx170_0)).trans hx170_0
                                              replace p170 := eq_true p170
                                              replace q170 := eq_true q170
                                              have p171 : 0 ≤ (x12_5 : Int) := of_decide_eq_true (by first | (with_reducible assumption) | assumption)
                                              have q171 : x12_5 < (((rd_T51 l2 x10_2).f0).length : Int) := of_decide_eq_true (by first | (with_reducible assumption) | assumption)
                                              obtain ⟨ad171, e171, hx171_0⟩ := Kd.at_int HR168_0.out x12_5 p171 q171
                                              obtain rfl : ad170 = ad171 := (by injection e171)
                                              replace hx171_0 := (HB.out.cell (World.block_lt_of_cell? w _ hx171_0)).trans hx171_0
                                              replace p171 := eq_true p171
                                              replace q171 := eq_true q171
                                              go_wp2
                                              repeat (go_quiet (fail); try go_wp2)
                                              go_meet
                                              case rel => exact ⟨_, (decide ((rd ((rd_T51 l2 x10_2).f0) x12_5) ≥ (wrap64 ((l0.length : Int) + x10_2)))), (by first | rfl | (simp; done) | (simp [*]; done)), H', ⟨by have := HJ5.out; have := HK2.out; have := HJ15.out; have := HJ19.out; have := HK5.out; first | omega | exact Nat.le_refl _⟩, ⟨by (with_reducible repeat (first | apply Kd.R_alloc | apply Kd.R_drewN | apply Kd.R_drew)); exact HO_9.out⟩, ⟨by repeat (first | (with_reducible first | exact HB.out | apply below_alloc | apply pw_below_drewN | apply below_drew1) | exact HB.out)⟩⟩
                                          · rw [if_neg c25] at H
                                            exact absurd H (by simp)
                                        case rest =>
                                          clear HC24
                                          try clear c1
                                          try clear p1
                                          try clear q1
                                          try clear hx1
                                          try clear c2
                                          try clear p2
                                          try clear c5
                                          try clear c5b0
                                          try clear c5b1
                                          try clear p6
                                          try clear c7
                                          try clear c7b0
                                          try clear c7b1
                                          try clear c7b2
                                          try clear c8
                                          try clear c10
                                          try clear c10b0
                                          try clear c10b1
                                          try clear c11
                                          try clear c11b0
                                          try clear c11b1
                                          try clear c14
                                          try clear c14b0
                                          try clear c15
                                          try clear c15b0
                                          try clear c16
                                          try clear p16
                                          try clear q16
                                          try clear hx16
                                          try clear c17
                                          try clear c17b0
                                          try clear c17b1
                                          try clear p17
                                          try clear q17
                                          try clear hx17
                                          try clear c18
                                          try clear c18b0
                                          try clear c18b1
                                          try clear c18b2
                                          try clear c19
                                          try clear c21
                                          try clear c21b0
                                          try clear c21b1
                                          try clear c22
                                          try clear c23
                                          try clear c23b0
                                          try clear c25
                                          try clear c25b0
                                          try clear c26
                                          try clear c26b0
                                          try clear hx168_0
                                          try clear hx168_1
                                          try clear hx169_0
                                          try clear hx169_1
                                          try clear hx170_0
                                          try clear hx171_0
                                          try clear p1
                                          try clear p16
                                          try clear p168
                                          try clear p169
                                          try clear p170
                                          try clear p171
                                          try clear p2
                                          try clear p6
                                          try clear q1
                                          try clear q16
                                          try clear q168
                                          try clear q169
                                          try clear q170
                                          try clear q171
                                          obtain ⟨kq, x94_23, rfl, HA, HJ23, HO_9, HB⟩ := hcut
                                          cases kq with
                                          | zero => exact absurd HA.out (by simp [millref10_Check.j5])
                                          | succ kj23 =>
                                            have H := HA.out
                                            clear HA
                                            simp only [millref10_Check.j5] at H
                                            by_cases c27 : x94_23 = true
                                            · subst c27
                                              have H1 : (some 101) = some r := by rw [if_pos rfl] at H; exact H
                                              clear H
                                              have H := H1
                                              clear H1
                                              obtain rfl := Option.some.inj H
                                              go_wp2
                                              repeat (go_quiet (fail); try go_wp2)
                                              go_ret
                                              exact ⟨by first | rfl | (simp [errW_none, errW_some] <;> rfl) | (simp only [← hji9]; first | rfl | (simp [errW_none, errW_some] <;> rfl)) | (simp [*, errW_none, errW_some] <;> rfl), by repeat (first | (with_reducible first | exact HB.out | apply below_alloc | apply pw_below_drewN | apply below_drew1) | exact HB.out)⟩
                                            · replace c27 := Bool.eq_false_iff.mpr c27
                                              subst c27
                                              have H1 : (if x12_5 > 0 then (if 0 ≤ (wrap64 (x12_5 - 1)) then (if (wrap64 (x12_5 - 1)) < (((rd_T51 l2 x10_2).f0).length : Int) then (if 0 ≤ x12_5 then (if x12_5 < (((rd_T51 l2 x10_2).f0).length : Int) then (if (rd ((rd_T51 l2 x10_2).f0) (wrap64 (x12_5 - 1))) ≥ (rd ((rd_T51 l2 x10_2).f0) x12_5) then (some 101) else (if 0 ≤ (rd ((rd_T51 l2 x10_2).f0) x12_5) then (if (rd ((rd_T51 l2 x10_2).f0) x12_5) < (x9_5.length : Int) then (millref10_Check.l1 kj23 a1 l2 (l0.length : Int) (x9_5.set ((rd ((rd_T51 l2 x10_2).f0) x12_5) : Int).toNat (wrap64 ((rd x9_5 (rd ((rd_T51 l2 x10_2).f0) x12_5)) + 1))) x10_2 ((rd_T51 l2 x10_2).f0) (wrap64 (x12_5 + 1))) else (none)) else (none))) else (none)) else (none)) else (none)) else (none)) else (if 0 ≤ x12_5 then (if x12_5 < (((rd_T51 l2 x10_2).f0).length : Int) then (if 0 ≤ (rd ((rd_T51 l2 x10_2).f0) x12_5) then (if (rd ((rd_T51 l2 x10_2).f0) x12_5) < (x9_5.length : Int) then (millref10_Check.l1 kj23 a1 l2 (l0.length : Int) (x9_5.set ((rd ((rd_T51 l2 x10_2).f0) x12_5) : Int).toNat (wrap64 ((rd x9_5 (rd ((rd_T51 l2 x10_2).f0) x12_5)) + 1))) x10_2 ((rd_T51 l2 x10_2).f0) (wrap64 (x12_5 + 1))) else (none)) else (none)) else (none)) else (none))) = some r := by rw [if_neg (show ¬ (false = true) by decide)] at H; exact H
                                              clear H
                                              have H := H1
                                              clear H1
                                              by_cases c28 : x12_5 > 0
                                              · rw [if_pos c28] at H
                                                have c28b0 : decide (0 < x12_5) = true := decide_eq_true c28
                                                clear c28
                                                obtain ⟨ji29, hji29⟩ : ∃ j_ : Int, (wrap64 (x12_5 - 1)) = j_ := ⟨_, rfl⟩
                                                replace H : (if 0 ≤ (ji29) then (if (ji29) < (((rd_T51 l2 x10_2).f0).length : Int) then (if 0 ≤ x12_5 then (if x12_5 < (((rd_T51 l2 x10_2).f0).length : Int) then (if (rd ((rd_T51 l2 x10_2).f0) (ji29)) ≥ (rd ((rd_T51 l2 x10_2).f0) x12_5) then (some 101) else (if 0 ≤ (rd ((rd_T51 l2 x10_2).f0) x12_5) then (if (rd ((rd_T51 l2 x10_2).f0) x12_5) < (x9_5.length : Int) then (millref10_Check.l1 kj23 a1 l2 (l0.length : Int) (x9_5.set ((rd ((rd_T51 l2 x10_2).f0) x12_5) : Int).toNat (wrap64 ((rd x9_5 (rd ((rd_T51 l2 x10_2).f0) x12_5)) + 1))) x10_2 ((rd_T51 l2 x10_2).f0) (wrap64 (x12_5 + 1))) else (none)) else (none))) else (none)) else (none)) else (none)) else (none)) = some r := by first | (rw [hji29] at H; exact H) | (simp only [hji29] at H ⊢; exact H)
                                                have hji29w : (IntKind.i64.wrap (x12_5 - 1)) = ji29 := (i64_w _).trans hji29
                                                by_cases c30 : 0 ≤ (ji29)
                                                · rw [if_pos c30] at H
                                                  have c30b0 : decide (0 ≤ (ji29)) = true := decide_eq_true c30
                                                  clear c30
                                                  by_cases c31 : (ji29) < (((rd_T51 l2 x10_2).f0).length : Int)
                                                  · rw [if_pos c31] at H
                                                    have c31b0 : decide ((ji29) < (((rd_T51 l2 x10_2).f0).length : Int)) = true := decide_eq_true c31
                                                    clear c31
                                                    by_cases c32 : 0 ≤ x12_5
                                                    · rw [if_pos c32] at H
                                                      have c32b0 : decide (0 ≤ x12_5) = true := decide_eq_true c32
                                                      clear c32
                                                      by_cases c33 : x12_5 < (((rd_T51 l2 x10_2).f0).length : Int)
                                                      · rw [if_pos c33] at H
                                                        have c33b0 : decide (x12_5 < (((rd_T51 l2 x10_2).f0).length : Int)) = true := decide_eq_true c33
                                                        clear c33
                                                        by_cases c34 : (rd ((rd_T51 l2 x10_2).f0) (ji29)) ≥ (rd ((rd_T51 l2 x10_2).f0) x12_5)
                                                        · rw [if_pos c34] at H
                                                          have c34b0 : decide ((rd ((rd_T51 l2 x10_2).f0) x12_5) ≤ (rd ((rd_T51 l2 x10_2).f0) (ji29))) = true := decide_eq_true c34
                                                          clear c34
                                                          obtain rfl := Option.some.inj H
                                                          have p172 : 0 ≤ ((ji29) : Int) := of_decide_eq_true (by first | (with_reducible assumption) | assumption)
                                                          have q172 : (ji29) < (((rd_T51 l2 x10_2).f0).length : Int) := of_decide_eq_true (by first | (with_reducible assumption) | assumption)
                                                          obtain ⟨ad172, e172, hx172_0⟩ := Kd.at_int HR168_0.out (ji29) p172 q172
                                                          cases e172
                                                          replace hx172_0 := (HB.out.cell (World.block_lt_of_cell? w _ hx172_0)).trans hx172_0
                                                          replace p172 := eq_true p172
                                                          replace q172 := eq_true q172
                                                          have p173 : 0 ≤ (x12_5 : Int) := of_decide_eq_true (by first | (with_reducible assumption) | assumption)
                                                          have q173 : x12_5 < (((rd_T51 l2 x10_2).f0).length : Int) := of_decide_eq_true (by first | (with_reducible assumption) | assumption)
                                                          obtain ⟨ad173, e173, hx173_0⟩ := Kd.at_int HR168_0.out x12_5 p173 q173
                                                          obtain rfl : ad172 = ad173 := (by injection e173)
                                                          replace hx173_0 := (HB.out.cell (World.block_lt_of_cell? w _ hx173_0)).trans hx173_0
                                                          replace p173 := eq_true p173
                                                          replace q173 := eq_true q173
                                                          go_wp2
                                                          repeat (go_quiet (fail); try go_wp2)
                                                          go_ret
                                                          exact ⟨by first | rfl | (simp [errW_none, errW_some] <;> rfl) | (simp only [← hji9, ← hji29]; first | rfl | (simp [errW_none, errW_some] <;> rfl)) | (simp [*, errW_none, errW_some] <;> rfl), by repeat (first | (with_reducible first | exact HB.out | apply below_alloc | apply pw_below_drewN | apply below_drew1) | exact HB.out)⟩
                                                        · rw [if_neg c34] at H
                                                          have c34b0 : decide ((rd ((rd_T51 l2 x10_2).f0) x12_5) ≤ (rd ((rd_T51 l2 x10_2).f0) (ji29))) = false := decide_eq_false c34
                                                          clear c34
                                                          by_cases c35 : 0 ≤ (rd ((rd_T51 l2 x10_2).f0) x12_5)
                                                          · rw [if_pos c35] at H
                                                            have c35b0 : decide (0 ≤ (rd ((rd_T51 l2 x10_2).f0) x12_5)) = true := decide_eq_true c35
                                                            clear c35
                                                            by_cases c36 : (rd ((rd_T51 l2 x10_2).f0) x12_5) < (x9_5.length : Int)
                                                            · rw [if_pos c36] at H
                                                              have c36b0 : decide ((rd ((rd_T51 l2 x10_2).f0) x12_5) < (x9_5.length : Int)) = true := decide_eq_true c36
                                                              clear c36
                                                              obtain ⟨y176, hy176⟩ : ∃ y_ : List Int, y_ = (x9_5.set ((rd ((rd_T51 l2 x10_2).f0) x12_5) : Int).toNat (wrap64 ((rd x9_5 (rd ((rd_T51 l2 x10_2).f0) x12_5)) + 1))) := ⟨_, rfl⟩
                                                              replace H : (millref10_Check.l1 kj23 a1 l2 (l0.length : Int) y176 x10_2 ((rd_T51 l2 x10_2).f0) (wrap64 (x12_5 + 1))) = some r := by first | (rw [hy176]; with_reducible exact H) | (have H2_ := (Option.bind_some _ _).symm.trans H; rw [hy176]; with_reducible exact H2_) | (have H2_ := (Option.bind_some _ _).symm.trans H; with_reducible exact H2_) | with_reducible exact H | (rw [hy176]; exact H) | exact H
                                                              have Ny176 := Aside0.mk hy176
                                                              clear hy176
                                                              have H' := Aside0.mk H
                                                              clear H
                                                              have p172 : 0 ≤ ((ji29) : Int) := of_decide_eq_true (by first | (with_reducible assumption) | assumption)
                                                              have q172 : (ji29) < (((rd_T51 l2 x10_2).f0).length : Int) := of_decide_eq_true (by first | (with_reducible assumption) | assumption)
                                                              obtain ⟨ad172, e172, hx172_0⟩ := Kd.at_int HR168_0.out (ji29) p172 q172
                                                              cases e172
                                                              replace hx172_0 := (HB.out.cell (World.block_lt_of_cell? w _ hx172_0)).trans hx172_0
                                                              replace p172 := eq_true p172
                                                              replace q172 := eq_true q172
                                                              have p173 : 0 ≤ (x12_5 : Int) := of_decide_eq_true (by first | (with_reducible assumption) | assumption)
                                                              have q173 : x12_5 < (((rd_T51 l2 x10_2).f0).length : Int) := of_decide_eq_true (by first | (with_reducible assumption) | assumption)
                                                              obtain ⟨ad173, e173, hx173_0⟩ := Kd.at_int HR168_0.out x12_5 p173 q173
                                                              obtain rfl : ad172 = ad173 := (by injection e173)
                                                              replace hx173_0 := (HB.out.cell (World.block_lt_of_cell? w _ hx173_0)).trans hx173_0
                                                              replace p173 := eq_true p173
                                                              replace q173 := eq_true q173
                                                              have p174 : 0 ≤ (x12_5 : Int) := of_decide_eq_true (by first | (with_reducible assumption) | assumption)
                                                              have q174 : x12_5 < (((rd_T51 l2 x10_2).f0).length : Int) := of_decide_eq_true (by first | (with_reducible assumption) | assumption)
                                                              obtain ⟨ad174, e174, hx174_0⟩ := Kd.at_int HR168_0.out x12_5 p174 q174
                                                              obtain rfl : ad172 = ad174 := (by injection e174)
                                                              replace hx174_0 := (HB.out.cell (World.block_lt_of_cell? w _ hx174_0)).trans hx174_0
                                                              replace p174 := eq_true p174
                                                              replace q174 := eq_true q174
                                                              obtain ⟨Ao38, co38, eo38⟩ := Kd.R_slice HO_9.out
                                                              subst eo38
                                                              have p175 : 0 ≤ ((rd ((rd_T51 l2 x10_2).f0) x12_5) : Int) := of_decide_eq_true (by first | (with_reducible assumption) | assumption)
                                                              have q175 : (rd ((rd_T51 l2 x10_2).f0) x12_5) < (x9_5.length : Int) := of_decide_eq_true (by first | (with_reducible assumption) | assumption)
                                                              obtain ⟨ad175, e175, hx175_0⟩ := Kd.at_int (Kd.R_reads' HO_9.out).2.2 (rd ((rd_T51 l2 x10_2).f0) x12_5) p175 q175
                                                              cases e175
                                                              replace p175 := eq_true p175
                                                              replace q175 := eq_true q175
                                                              have p37 : 0 ≤ ((rd ((rd_T51 l2 x10_2).f0) x12_5) : Int) := of_decide_eq_true (by first | (with_reducible assumption) | assumption)
                                                              have q37 : ((rd ((rd_T51 l2 x10_2).f0) x12_5) : Int) < ((x9_5.length : Int) : Int) := of_decide_eq_true (by first | (with_reducible assumption) | assumption)
                                                              obtain ⟨go37, co37, eo37, gb37, gl37, cl37, HG37⟩ := Kd.R_form HO_9.out (by omega)
                                                              (first | cases eo37 | (injection eo37 with ea_ en_ ec_; (first | subst ea_ | (injection ea_ with ea_; subst ea_)); subst ec_; clear en_))
                                                              have GB37 := Aside0.mk gb37
                                                              have GG37 := Aside0.mk HG37
                                                              clear gb37 gl37 HG37
                                                              (first | simp only [add_plain] at hx175_0 | skip)
                                                              obtain ⟨hx37_0, hf37_0⟩ := Kd.R_celln 0 HO_9.out ((rd ((rd_T51 l2 x10_2).f0) x12_5) : Int) p37 q37
                                                              replace p37 := eq_true p37
                                                              replace q37 := eq_true q37
                                                              have HP39 := Kd.R_putg HO_9.out ((rd ((rd_T51 l2 x10_2).f0) x12_5) : Int) (wrap64 ((rd x9_5 (rd ((rd_T51 l2 x10_2).f0) x12_5)) + 1))
                                                              go_wp2_with (first | ((with_reducible refine gate_store (t := 3) (p := 117) rfl ?_); (try (rw [drewN_self wc]; generalize hq_ : World.drewN wc _ = wc; have n0_ := Aside0.mk (Kd.R_at hq_ HO_9.out); have n1_ := Aside0.mk (below_at hq_ HB.out); clear hq_ HO_9 HB; have HO_9 := n0_; have HB := n1_; clear n0_ n1_; (try (have HP39 := Kd.R_putg HO_9.out ((rd ((rd_T51 l2 x10_2).f0) x12_5) : Int) (wrap64 ((rd x9_5 (rd ((rd_T51 l2 x10_2).f0) x12_5)) + 1)))))); refine store_event (t := 3) (p := 117) (v := ?vo_w40) (w1 := (wc.setCell ⟨go37, ((rd ((rd_T51 l2 x10_2).f0) x12_5) : Int).toNat, none⟩ (.int .i64 (wrap64 ((rd x9_5 (rd ((rd_T51 l2 x10_2).f0) x12_5)) + 1))))) ?hg ?ho ?hn ?hr ?_; (case ho => rfl); (case hg => rfl); (case hn => rfl); (case hr => first | (go_simp; done) | (go_simp; rfl)); intro w40 hw; have hg : wc.grownBy w40 (some go37) := (by rw [hw]; exact HP39.2); have hp_ : Kd.R (Kd.int .i64) 3 w40 w.heap.size (fun _ => True) (.slice (some ⟨go37, 0, none⟩) x9_5.length co38) y176 := (by rw [hw, Ny176.out]; exact HP39.1); clear HP39; have n0_ := Aside0.mk (hp_); have n1_ := Aside0.mk ((by rw [hw]; exact below_set (HB.out) GB37.out : Below w.heap.size w w40)); clear HO_9; clear HB; have HO_9 := n0_; have HB := n1_; clear n0_ n1_; clear hg hw hp_))
                                                              repeat (go_quiet (first | ((with_reducible refine gate_store (t := 3) (p := 117) rfl ?_); (try (rw [drewN_self wc]; generalize hq_ : World.drewN wc _ = wc; have n0_ := Aside0.mk (Kd.R_at hq_ HO_9.out); have n1_ := Aside0.mk (below_at hq_ HB.out); clear hq_ HO_9 HB; have HO_9 := n0_; have HB := n1_; clear n0_ n1_; (try (have HP39 := Kd.R_putg HO_9.out ((rd ((rd_T51 l2 x10_2).f0) x12_5) : Int) (wrap64 ((rd x9_5 (rd ((rd_T51 l2 x10_2).f0) x12_5)) + 1)))))); refine store_event (t := 3) (p := 117) (v := ?vo_w40) (w1 := (wc.setCell ⟨go37, ((rd ((rd_T51 l2 x10_2).f0) x12_5) : Int).toNat, none⟩ (.int .i64 (wrap64 ((rd x9_5 (rd ((rd_T51 l2 x10_2).f0) x12_5)) + 1))))) ?hg ?ho ?hn ?hr ?_; (case ho => rfl); (case hg => rfl); (case hn => rfl); (case hr => first | (go_simp; done) | (go_simp; rfl)); intro w40 hw; have hg : wc.grownBy w40 (some go37) := (by rw [hw]; exact HP39.2); have hp_ : Kd.R (Kd.int .i64) 3 w40 w.heap.size (fun _ => True) (.slice (some ⟨go37, 0, none⟩) x9_5.length co38) y176 := (by rw [hw, Ny176.out]; exact HP39.1); clear HP39; have n0_ := Aside0.mk (hp_); have n1_ := Aside0.mk ((by rw [hw]; exact below_set (HB.out) GB37.out : Below w.heap.size w w40)); clear HO_9; clear HB; have HO_9 := n0_; have HB := n1_; clear n0_ n1_; clear hg hw hp_)); try go_wp2_with (first | ((with_reducible refine gate_store (t := 3) (p := 117) rfl ?_); (try (rw [drewN_self wc]; generalize hq_ : World.drewN wc _ = wc; have n0_ := Aside0.mk (Kd.R_at hq_ HO_9.out); have n1_ := Aside0.mk (below_at hq_ HB.out); clear hq_ HO_9 HB; have HO_9 := n0_; have HB := n1_; clear n0_ n1_; (try (have HP39 := Kd.R_putg HO_9.out ((rd ((rd_T51 l2 x10_2).f0) x12_5) : Int) (wrap64 ((rd x9_5 (rd ((rd_T51 l2 x10_2).f0) x12_5)) + 1)))))); refine store_event (t := 3) (p := 117) (v := ?vo_w40) (w1 := (wc.setCell ⟨go37, ((rd ((rd_T51 l2 x10_2).f0) x12_5) : Int).toNat, none⟩ (.int .i64 (wrap64 ((rd x9_5 (rd ((rd_T51 l2 x10_2).f0) x12_5)) + 1))))) ?hg ?ho ?hn ?hr ?_; (case ho => rfl); (case hg => rfl); (case hn => rfl); (case hr => first | (go_simp; done) | (go_simp; rfl)); intro w40 hw; have hg : wc.grownBy w40 (some go37) := (by rw [hw]; exact HP39.2); have hp_ : Kd.R (Kd.int .i64) 3 w40 w.heap.size (fun _ => True) (.slice (some ⟨go37, 0, none⟩) x9_5.length co38) y176 := (by rw [hw, Ny176.out]; exact HP39.1); clear HP39; have n0_ := Aside0.mk (hp_); have n1_ := Aside0.mk ((by rw [hw]; exact below_set (HB.out) GB37.out : Below w.heap.size w w40)); clear HO_9; clear HB; have HO_9 := n0_; have HB := n1_; clear n0_ n1_; clear hg hw hp_)))
                                                              go_roundg kj23
                                                              case measure => have := HJ5.out; have := HK2.out; have := HJ15.out; have := HJ19.out; have := HK5.out; have := HJ23.out; omega
                                                              case rel => exact ⟨(y176), (wrap64 (x12_5 + 1)), (by first | rfl | (simp; done) | (simp [*]; done)), H', ⟨by have := HJ5.out; have := HK2.out; have := HJ15.out; have := HJ19.out; have := HK5.out; have := HJ23.out; omega⟩, ⟨by (with_reducible repeat (first | apply Kd.R_alloc | apply Kd.R_drewN | apply Kd.R_drew)); first | exact HO_9.out | (rw [Ny176.out]; exact (Kd.R_putg (Kd.R_drewN HO_9.out nq) _ _).1)⟩, ⟨below_set (pw_below_drewN HB.out nq) GB37.out⟩⟩
                                                            · rw [if_neg c36] at H
                                                              exact absurd H (by simp)
                                                          · rw [if_neg c35] at H
                                                            exact absurd H (by simp)
                                                      · rw [if_neg c33] at H
                                                        exact absurd H (by simp)
                                                    · rw [if_neg c32] at H
                                                      exact absurd H (by simp)
                                                  · rw [if_neg c31] at H
                                                    exact absurd H (by simp)
                                                · rw [if_neg c30] at H
                                                  exact absurd H (by simp)
                                              · rw [if_neg c28] at H
                                                have c28b0 : decide (0 < x12_5) = false := decide_eq_false c28
                                                clear c28
                                                by_cases c41 : 0 ≤ x12_5
                                                · rw [if_pos c41] at H
                                                  have c41b0 : decide (0 ≤ x12_5) = true := decide_eq_true c41
                                                  clear c41
                                                  by_cases c42 : x12_5 < (((rd_T51 l2 x10_2).f0).length : Int)
                                                  · rw [if_pos c42] at H
                                                    have c42b0 : decide (x12_5 < (((rd_T51 l2 x10_2).f0).length : Int)) = true := decide_eq_true c42
                                                    clear c42
                                                    by_cases c43 : 0 ≤ (rd ((rd_T51 l2 x10_2).f0) x12_5)
                                                    · rw [if_pos c43] at H
                                                      have c43b0 : decide (0 ≤ (rd ((rd_T51 l2 x10_2).f0) x12_5)) = true := decide_eq_true c43
                                                      clear c43
                                                      by_cases c44 : (rd ((rd_T51 l2 x10_2).f0) x12_5) < (x9_5.length : Int)
                                                      · rw [if_pos c44] at H
                                                        have c44b0 : decide ((rd ((rd_T51 l2 x10_2).f0) x12_5) < (x9_5.length : Int)) = true := decide_eq_true c44
                                                        clear c44
                                                        obtain ⟨y179, hy179⟩ : ∃ y_ : List Int, y_ = (x9_5.set ((rd ((rd_T51 l2 x10_2).f0) x12_5) : Int).toNat (wrap64 ((rd x9_5 (rd ((rd_T51 l2 x10_2).f0) x12_5)) + 1))) := ⟨_, rfl⟩
                                                        replace H : (millref10_Check.l1 kj23 a1 l2 (l0.length : Int) y179 x10_2 ((rd_T51 l2 x10_2).f0) (wrap64 (x12_5 + 1))) = some r := by first | (rw [hy179]; with_reducible exact H) | (have H2_ := (Option.bind_some _ _).symm.trans H; rw [hy179]; with_reducible exact H2_) | (have H2_ := (Option.bind_some _ _).symm.trans H; with_reducible exact H2_) | with_reducible exact H | (rw [hy179]; exact H) | exact H
                                                        have Ny179 := Aside0.mk hy179
                                                        clear hy179
                                                        have H' := Aside0.mk H
                                                        clear H
                                                        have p177 : 0 ≤ (x12_5 : Int) := of_decide_eq_true (by first | (with_reducible assumption) | assumption)
                                                        have q177 : x12_5 < (((rd_T51 l2 x10_2).f0).length : Int) := of_decide_eq_true (by first | (with_reducible assumption) | assumption)
                                                        obtain ⟨ad177, e177, hx177_0⟩ := Kd.at_int HR168_0.out x12_5 p177 q177
                                                        cases e177
                                                        replace hx177_0 := (HB.out.cell (World.block_lt_of_cell? w _ hx177_0)).trans hx177_0
                                                        replace p177 := eq_true p177
                                                        replace q177 := eq_true q177
                                                        obtain ⟨Ao46, co46, eo46⟩ := Kd.R_slice HO_9.out
                                                        subst eo46
                                                        have p178 : 0 ≤ ((rd ((rd_T51 l2 x10_2).f0) x12_5) : Int) := of_decide_eq_true (by first | (with_reducible assumption) | assumption)
                                                        have q178 : (rd ((rd_T51 l2 x10_2).f0) x12_5) < (x9_5.length : Int) := of_decide_eq_true (by first | (with_reducible assumption) | assumption)
                                                        obtain ⟨ad178, e178, hx178_0⟩ := Kd.at_int (Kd.R_reads' HO_9.out).2.2 (rd ((rd_T51 l2 x10_2).f0) x12_5) p178 q178
                                                        cases e178
                                                        replace p178 := eq_true p178
                                                        replace q178 := eq_true q178
                                                        have p45 : 0 ≤ ((rd ((rd_T51 l2 x10_2).f0) x12_5) : Int) := of_decide_eq_true (by first | (with_reducible assumption) | assumption)
                                                        have q45 : ((rd ((rd_T51 l2 x10_2).f0) x12_5) : Int) < ((x9_5.length : Int) : Int) := of_decide_eq_true (by first | (with_reducible assumption) | assumption)
                                                        obtain ⟨go45, co45, eo45, gb45, gl45, cl45, HG45⟩ := Kd.R_form HO_9.out (by omega)
                                                        (first | cases eo45 | (injection eo45 with ea_ en_ ec_; (first | subst ea_ | (injection ea_ with ea_; subst ea_)); subst ec_; clear en_))
                                                        have GB45 := Aside0.mk gb45
                                                        have GG45 := Aside0.mk HG45
                                                        clear gb45 gl45 HG45
                                                        (first | simp only [add_plain] at hx178_0 | skip)
                                                        obtain ⟨hx45_0, hf45_0⟩ := Kd.R_celln 0 HO_9.out ((rd ((rd_T51 l2 x10_2).f0) x12_5) : Int) p45 q45
                                                        replace p45 := eq_true p45
                                                        replace q45 := eq_true q45
                                                        have HP47 := Kd.R_putg HO_9.out ((rd ((rd_T51 l2 x10_2).f0) x12_5) : Int) (wrap64 ((rd x9_5 (rd ((rd_T51 l2 x10_2).f0) x12_5)) + 1))
                                                        go_wp2_with (first | ((with_reducible refine gate_store (t := 3) (p := 117) rfl ?_); (try (rw [drewN_self wc]; generalize hq_ : World.drewN wc _ = wc; have n0_ := Aside0.mk (Kd.R_at hq_ HO_9.out); have n1_ := Aside0.mk (below_at hq_ HB.out); clear hq_ HO_9 HB; have HO_9 := n0_; have HB := n1_; clear n0_ n1_; (try (have HP47 := Kd.R_putg HO_9.out ((rd ((rd_T51 l2 x10_2).f0) x12_5) : Int) (wrap64 ((rd x9_5 (rd ((rd_T51 l2 x10_2).f0) x12_5)) + 1)))))); refine store_event (t := 3) (p := 117) (v := ?vo_w48) (w1 := (wc.setCell ⟨go45, ((rd ((rd_T51 l2 x10_2).f0) x12_5) : Int).toNat, none⟩ (.int .i64 (wrap64 ((rd x9_5 (rd ((rd_T51 l2 x10_2).f0) x12_5)) + 1))))) ?hg ?ho ?hn ?hr ?_; (case ho => rfl); (case hg => rfl); (case hn => rfl); (case hr => first | (go_simp; done) | (go_simp; rfl)); intro w48 hw; have hg : wc.grownBy w48 (some go45) := (by rw [hw]; exact HP47.2); have hp_ : Kd.R (Kd.int .i64) 3 w48 w.heap.size (fun _ => True) (.slice (some ⟨go45, 0, none⟩) x9_5.length co46) y179 := (by rw [hw, Ny179.out]; exact HP47.1); clear HP47; have n0_ := Aside0.mk (hp_); have n1_ := Aside0.mk ((by rw [hw]; exact below_set (HB.out) GB45.out : Below w.heap.size w w48)); clear HO_9; clear HB; have HO_9 := n0_; have HB := n1_; clear n0_ n1_; clear hg hw hp_))
                                                        repeat (go_quiet (first | ((with_reducible refine gate_store (t := 3) (p := 117) rfl ?_); (try (rw [drewN_self wc]; generalize hq_ : World.drewN wc _ = wc; have n0_ := Aside0.mk (Kd.R_at hq_ HO_9.out); have n1_ := Aside0.mk (below_at hq_ HB.out); clear hq_ HO_9 HB; have HO_9 := n0_; have HB := n1_; clear n0_ n1_; (try (have HP47 := Kd.R_putg HO_9.out ((rd ((rd_T51 l2 x10_2).f0) x12_5) : Int) (wrap64 ((rd x9_5 (rd ((rd_T51 l2 x10_2).f0) x12_5)) + 1)))))); refine store_event (t := 3) (p := 117) (v := ?vo_w48) (w1 := (wc.setCell ⟨go45, ((rd ((rd_T51 l2 x10_2).f0) x12_5) : Int).toNat, none⟩ (.int .i64 (wrap64 ((rd x9_5 (rd ((rd_T51 l2 x10_2).f0) x12_5)) + 1))))) ?hg ?ho ?hn ?hr ?_; (case ho => rfl); (case hg => rfl); (case hn => rfl); (case hr => first | (go_simp; done) | (go_simp; rfl)); intro w48 hw; have hg : wc.grownBy w48 (some go45) := (by rw [hw]; exact HP47.2); have hp_ : Kd.R (Kd.int .i64) 3 w48 w.heap.size (fun _ => True) (.slice (some ⟨go45, 0, none⟩) x9_5.length co46) y179 := (by rw [hw, Ny179.out]; exact HP47.1); clear HP47; have n0_ := Aside0.mk (hp_); have n1_ := Aside0.mk ((by rw [hw]; exact below_set (HB.out) GB45.out : Below w.heap.size w w48)); clear HO_9; clear HB; have HO_9 := n0_; have HB := n1_; clear n0_ n1_; clear hg hw hp_)); try go_wp2_with (first | ((with_reducible refine gate_store (t := 3) (p := 117) rfl ?_); (try (rw [drewN_self wc]; generalize hq_ : World.drewN wc _ = wc; have n0_ := Aside0.mk (Kd.R_at hq_ HO_9.out); have n1_ := Aside0.mk (below_at hq_ HB.out); clear hq_ HO_9 HB; have HO_9 := n0_; have HB := n1_; clear n0_ n1_; (try (have HP47 := Kd.R_putg HO_9.out ((rd ((rd_T51 l2 x10_2).f0) x12_5) : Int) (wrap64 ((rd x9_5 (rd ((rd_T51 l2 x10_2).f0) x12_5)) + 1)))))); refine store_event (t := 3) (p := 117) (v := ?vo_w48) (w1 := (wc.setCell ⟨go45, ((rd ((rd_T51 l2 x10_2).f0) x12_5) : Int).toNat, none⟩ (.int .i64 (wrap64 ((rd x9_5 (rd ((rd_T51 l2 x10_2).f0) x12_5)) + 1))))) ?hg ?ho ?hn ?hr ?_; (case ho => rfl); (case hg => rfl); (case hn => rfl); (case hr => first | (go_simp; done) | (go_simp; rfl)); intro w48 hw; have hg : wc.grownBy w48 (some go45) := (by rw [hw]; exact HP47.2); have hp_ : Kd.R (Kd.int .i64) 3 w48 w.heap.size (fun _ => True) (.slice (some ⟨go45, 0, none⟩) x9_5.length co46) y179 := (by rw [hw, Ny179.out]; exact HP47.1); clear HP47; have n0_ := Aside0.mk (hp_); have n1_ := Aside0.mk ((by rw [hw]; exact below_set (HB.out) GB45.out : Below w.heap.size w w48)); clear HO_9; clear HB; have HO_9 := n0_; have HB := n1_; clear n0_ n1_; clear hg hw hp_)))
                                                        go_roundg kj23
                                                        case measure => have := HJ5.out; have := HK2.out; have := HJ15.out; have := HJ19.out; have := HK5.out; have := HJ23.out; omega
                                                        case rel => exact ⟨(y179), (wrap64 (x12_5 + 1)), (by first | rfl | (simp; done) | (simp [*]; done)), H', ⟨by have := HJ5.out; have := HK2.out; have := HJ15.out; have := HJ19.out; have := HK5.out; have := HJ23.out; omega⟩, ⟨by (with_reducible repeat (first | apply Kd.R_alloc | apply Kd.R_drewN | apply Kd.R_drew)); first | exact HO_9.out | (rw [Ny179.out]; exact (Kd.R_putg (Kd.R_drewN HO_9.out nq) _ _).1)⟩, ⟨below_set (pw_below_drewN HB.out nq) GB45.out⟩⟩
                                                      · rw [if_neg c44] at H
                                                        exact absurd H (by simp)
                                                    · rw [if_neg c43] at H
                                                      exact absurd H (by simp)
                                                  · rw [if_neg c42] at H
                                                    exact absurd H (by simp)
                                                · rw [if_neg c41] at H
                                                  exact absurd H (by simp)
                                      · rw [if_neg c23] at H
                                        have c23b0 : decide (x12_5 < (((rd_T51 l2 x10_2).f0).length : Int)) = false := decide_eq_false c23
                                        clear c23
                                        have H' := Aside0.mk H
                                        clear H
                                        go_wp2
                                        repeat (go_quiet (fail); try go_wp2)
                                        go_roundg k5
                                        case measure => have := HJ5.out; have := HK2.out; have := HJ15.out; have := HJ19.out; have := HK5.out; omega
                                        case rel => exact ⟨(x9_5), (wrap64 (x10_2 + 1)), (by first | rfl | (simp; done) | (simp [*]; done)), H', ⟨by have := HJ5.out; have := HK2.out; have := HJ15.out; have := HJ19.out; have := HK5.out; omega⟩, ⟨by (with_reducible repeat (first | apply Kd.R_alloc | apply Kd.R_drewN | apply Kd.R_drew)); exact HO_9.out⟩, ⟨by repeat (first | (with_reducible first | exact HB.out | apply below_alloc | apply pw_below_drewN | apply below_drew1) | exact HB.out)⟩⟩
                    · rw [if_neg c15] at H
                      exact absurd H (by simp)
                  · rw [if_neg c14] at H
                    have c14b0 : decide (x10_2 < (l2.length : Int)) = false := decide_eq_false c14
                    clear c14
                    have H' := Aside0.mk H
                    clear H
                    go_wp2
                    repeat (go_quiet (fail); try go_wp2)
                    go_loopg [13] k2 (fun kq v13 w' => ∃ (x13_3 : Int), v13 = .int .i64 x13_3 ∧ Aside0 (millref10_Check.l2 kq l2 (l0.length : Int) x9_2 x13_3 = some r) ∧ Aside0 (kq ≤ k2) ∧ Aside0 (Kd.R (Kd.int .i64) 3 w' w.heap.size (fun _ => True) v166 x9_2) ∧ Aside0 (Below w.heap.size w w'))
                    case atStart => exact ⟨(0), (by first | rfl | (simp; done) | (simp [*]; done)), H', ⟨Nat.le_refl _⟩, ⟨by (with_reducible repeat (first | apply Kd.R_alloc | apply Kd.R_drewN | apply Kd.R_drew)); exact HO_9.out⟩, ⟨by repeat (first | (with_reducible first | exact HB.out | apply below_alloc | apply pw_below_drewN | apply below_drew1) | exact HB.out)⟩⟩
                    case round =>
                      clear H'
                      try clear c1
                      try clear p1
                      try clear q1
                      try clear hx1
                      try clear c2
                      try clear p2
                      try clear c3
                      try clear p3
                      try clear q3
                      try clear hx3
                      try clear hf3
                      try clear c4
                      try clear p4
                      try clear q4
                      try clear hx4
                      try clear hf4
                      try clear c5
                      try clear c5b0
                      try clear c5b1
                      try clear p6
                      try clear c7
                      try clear c7b0
                      try clear c7b1
                      try clear c7b2
                      try clear c8
                      try clear c10
                      try clear c10b0
                      try clear c10b1
                      try clear c11
                      try clear c11b0
                      try clear c11b1
                      try clear c14
                      try clear c14b0
                      try clear c15
                      try clear c15b0
                      try clear c16
                      try clear p16
                      try clear q16
                      try clear hx16
                      try clear c17
                      try clear c17b0
                      try clear c17b1
                      try clear p17
                      try clear q17
                      try clear hx17
                      try clear c18
                      try clear c18b0
                      try clear c18b1
                      try clear c18b2
                      try clear c19
                      try clear c21
                      try clear c21b0
                      try clear c21b1
                      try clear c22
                      try clear c23
                      try clear c23b0
                      try clear c25
                      try clear c25b0
                      try clear c26
                      try clear c26b0
                      try clear c27
                      try clear c28
                      try clear c28b0
                      try clear c30
                      try clear c30b0
                      try clear c31
                      try clear c31b0
                      try clear c32
                      try clear c32b0
                      try clear c33
                      try clear c33b0
                      try clear c34
                      try clear c34b0
                      try clear c35
                      try clear c35b0
                      try clear c36
                      try clear c36b0
                      try clear p37
                      try clear q37
                      try clear hx37
                      try clear hf37
                      try clear c41
                      try clear c41b0
                      try clear c42
                      try clear c42b0
                      try clear c43
                      try clear c43b0
                      try clear c44
                      try clear c44b0
                      try clear p45
                      try clear q45
                      try clear hx45
                      try clear hf45
                      try clear hx168_0
                      try clear hx168_1
                      try clear hx169_0
                      try clear hx169_1
                      try clear hx170_0
                      try clear hx171_0
                      try clear hx172_0
                      try clear hx173_0
                      try clear hx174_0
                      try clear hx175_0
                      try clear hx177_0
                      try clear hx178_0
                      try clear hx37_0
                      try clear hx45_0
                      try clear p1
                      try clear p16
                      try clear p168
                      try clear p169
                      try clear p17
                      try clear p170
                      try clear p171
                      try clear p172
                      try clear p173
                      try clear p174
                      try clear p175
                      try clear p177
                      try clear p178
                      try clear p2
                      try clear p37
                      try clear p45
                      try clear p6
                      try clear q1
                      try clear q16
                      try clear q168
                      try clear q169
                      try clear q17
                      try clear q170
                      try clear q171
                      try clear q172
                      try clear q173
                      try clear q174
                      try clear q175
                      try clear q177
                      try clear q178
                      try clear q37
                      try clear q45
                      obtain ⟨x13_3, rfl, HA, HK3, HO_9, HB⟩ := hrel
                      cases gk with
                      | zero => exact absurd HA.out (by simp [millref10_Check.l2])
                      | succ k3 =>
                        have H := HA.out
                        clear HA
                        simp only [millref10_Check.l2] at H
                        by_cases c49 : x13_3 < (wrap64 ((wrap64 ((l0.length : Int) + (l2.length : Int))) - 1))
                        · rw [if_pos c49] at H
                          have c49b0 : decide (x13_3 < (wrap64 ((wrap64 ((l0.length : Int) + (l2.length : Int))) - 1))) = true := decide_eq_true c49
                          rw [hji9] at c49b0
                          clear c49
                          by_cases c50 : 0 ≤ x13_3
                          · rw [if_pos c50] at H
                            have c50b0 : decide (0 ≤ x13_3) = true := decide_eq_true c50
                            clear c50
                            by_cases c51 : x13_3 < (x9_2.length : Int)
                            · rw [if_pos c51] at H
                              have c51b0 : decide (x13_3 < (x9_2.length : Int)) = true := decide_eq_true c51
                              clear c51
                              by_cases c52 : (rd x9_2 x13_3) = 1
                              · rw [if_pos c52] at H
                                have c52b0 : ((rd x9_2 x13_3) == 1) = true := beq_iff_eq.mpr c52
                                have c52b1 : ((rd x9_2 x13_3) != 1) = false := bne_eq_false_iff_eq.mpr c52
                                clear c52
                                have H' := Aside0.mk H
                                clear H
                                obtain ⟨Ao53, co53, eo53⟩ := Kd.R_slice HO_9.out
                                subst eo53
                                have p180 : 0 ≤ (x13_3 : Int) := of_decide_eq_true (by first | (with_reducible assumption) | assumption)
                                have q180 : x13_3 < (x9_2.length : Int) := of_decide_eq_true (by first | (with_reducible assumption) | assumption)
                                obtain ⟨ad180, e180, hx180_0⟩ := Kd.at_int (Kd.R_reads' HO_9.out).2.2 x13_3 p180 q180
                                cases e180
                                replace p180 := eq_true p180
                                replace q180 := eq_true q180
                                go_wp2
                                repeat (go_quiet (fail); try go_wp2)
                                go_roundg k3
                                case measure => have := HJ5.out; have := HK2.out; have := HK3.out; omega
                                case rel => exact ⟨(wrap64 (x13_3 + 1)), (by first | rfl | (simp; done) | (simp [*]; done)), H', ⟨by have := HJ5.out; have := HK2.out; have := HK3.out; omega⟩, ⟨by (with_reducible repeat (first | apply Kd.R_alloc | apply Kd.R_drewN | apply Kd.R_drew)); exact HO_9.out⟩, ⟨by repeat (first | (with_reducible first | exact HB.out | apply below_alloc | apply pw_below_drewN | apply below_drew1) | exact HB.out)⟩⟩
                              · rw [if_neg c52] at H
                                have c52b0 : ((rd x9_2 x13_3) == 1) = false := beq_eq_false_iff_ne.mpr c52
                                have c52b1 : ((rd x9_2 x13_3) != 1) = true := bne_iff_ne.mpr c52
                                obtain rfl := Option.some.inj H
                                obtain ⟨Ao54, co54, eo54⟩ := Kd.R_slice HO_9.out
                                subst eo54
                                have p180 : 0 ≤ (x13_3 : Int) := of_decide_eq_true (by first | (with_reducible assumption) | assumption)
                                have q180 : x13_3 < (x9_2.length : Int) := of_decide_eq_true (by first | (with_reducible assumption) | assumption)
                                obtain ⟨ad180, e180, hx180_0⟩ := Kd.at_int (Kd.R_reads' HO_9.out).2.2 x13_3 p180 q180
                                cases e180
                                replace p180 := eq_true p180
                                replace q180 := eq_true q180
                                go_wp2
                                repeat (go_quiet (fail); try go_wp2)
                                go_ret
                                exact ⟨by first | rfl | (simp [errW_none, errW_some] <;> rfl) | (simp only [← hji9]; first | rfl | (simp [errW_none, errW_some] <;> rfl)) | (simp [*, errW_none, errW_some] <;> rfl), by repeat (first | (with_reducible first | exact HB.out | apply below_alloc | apply pw_below_drewN | apply below_drew1) | exact HB.out)⟩
                            · rw [if_neg c51] at H
                              exact absurd H (by simp)
                          · rw [if_neg c50] at H
                            exact absurd H (by simp)
                        · rw [if_neg c49] at H
                          have c49b0 : decide (x13_3 < (wrap64 ((wrap64 ((l0.length : Int) + (l2.length : Int))) - 1))) = false := decide_eq_false c49
                          rw [hji9] at c49b0
                          clear c49
                          obtain rfl := Option.some.inj H
                          go_wp2
                          repeat (go_quiet (fail); try go_wp2)
                          go_ret
                          exact ⟨by first | rfl | (simp [errW_none, errW_some] <;> rfl) | (simp only [← hji9]; first | rfl | (simp [errW_none, errW_some] <;> rfl)) | (simp [*, errW_none, errW_some] <;> rfl), by repeat (first | (with_reducible first | exact HB.out | apply below_alloc | apply pw_below_drewN | apply below_drew1) | exact HB.out)⟩
            · rw [if_neg c11] at H
              exact absurd H (by simp)
          · rw [if_neg c10] at H
            exact absurd H (by simp)
  · rw [if_neg c5] at H
    have c5b0 : (t164 == 0) = false := beq_eq_false_iff_ne.mpr c5
    have c5b1 : (t164 != 0) = true := bne_iff_ne.mpr c5
    obtain rfl := Option.some.inj H
    go_enter Try.func19, Try.ntmps19
    go_wp2_with (first | (go_at_call 26; (with_reducible refine (millref10_Given.calls k _ _ l0 a1 t164 _ ?side1 ?side2 A4.out).mono ?_); (case side1 => repeat (first | exact HR0.out | (with_reducible refine Kd.C_alloc ?_ _) | (with_reducible refine Kd.C_drewN ?_ _) | (with_reducible refine Kd.C_drew ?_))); (case side2 => exact HC0.out); rintro e w' ⟨rfl, ⟨nd, rfl⟩⟩; (try first | exact ⟨rfl, _, World.drewN_drewN _ _ _⟩ | exact ⟨rfl, _, Eq.trans (World.drewN_drewN _ _ _) (congrArg (World.drewN _) (Nat.add_assoc _ _ _))⟩)))
    repeat (go_quiet (first | (go_at_call 26; (with_reducible refine (millref10_Given.calls k _ _ l0 a1 t164 _ ?side1 ?side2 A4.out).mono ?_); (case side1 => repeat (first | exact HR0.out | (with_reducible refine Kd.C_alloc ?_ _) | (with_reducible refine Kd.C_drewN ?_ _) | (with_reducible refine Kd.C_drew ?_))); (case side2 => exact HC0.out); rintro e w' ⟨rfl, ⟨nd, rfl⟩⟩; (try first | exact ⟨rfl, _, World.drewN_drewN _ _ _⟩ | exact ⟨rfl, _, Eq.trans (World.drewN_drewN _ _ _) (congrArg (World.drewN _) (Nat.add_assoc _ _ _))⟩))); try go_wp2_with (first | (go_at_call 26; (with_reducible refine (millref10_Given.calls k _ _ l0 a1 t164 _ ?side1 ?side2 A4.out).mono ?_); (case side1 => repeat (first | exact HR0.out | (with_reducible refine Kd.C_alloc ?_ _) | (with_reducible refine Kd.C_drewN ?_ _) | (with_reducible refine Kd.C_drew ?_))); (case side2 => exact HC0.out); rintro e w' ⟨rfl, ⟨nd, rfl⟩⟩; (try first | exact ⟨rfl, _, World.drewN_drewN _ _ _⟩ | exact ⟨rfl, _, Eq.trans (World.drewN_drewN _ _ _) (congrArg (World.drewN _) (Nat.add_assoc _ _ _))⟩))))
    go_ret
    exact ⟨by first | rfl | (simp [errW_none, errW_some] <;> rfl) | (simp [*, errW_none, errW_some] <;> rfl), by repeat (first | (with_reducible first | exact HB.out | apply below_alloc | apply pw_below_drewN | apply below_drew1) | exact HB.out)⟩

end Go.Proofs.Ytbgabijjnbmghaa.P
