-- Written by my own program wip/Plan/myprint.py over the kit's print.py; an address put right by hand (the printed text fell). Not trusted: Lean checks it.
import Derived.Test.YtbgabijjnbmghaaMakeC
import Derived.Test.YtbgabijjnbmghaaP0
import Derived.Test.YtbgabijjnbmghaaP7
import Derived.Test.YtbgabijjnbmghaaP12
import Derived.Test.YtbgabijjnbmghaaP18
namespace Go.Proofs.Ytbgabijjnbmghaa.P
open Go.RowKit Go.Proofs.YtbgabijjnbmghaaW.PrintWords Go.Proofs.YtbgabijjnbmghaaW.PrintLast Go.Proofs.YtbgabijjnbmghaaW.PrintMore
attribute [local go_sem] max2_int min2_int max_two min_two max_three min_three max_four min_four   -- for this text's walks alone
set_option linter.unusedVariables false
set_option linter.unusedSimpArgs false

/-! ### milllaw10_PlanWhole: function 6 -/
mutual
def milllaw10_PlanWhole.j0 : Nat → List Int → Int → Bool → Option (Bool)
  | 0, _, _, _ => none
  | k + 1, x0, x1, x25 => if x25 = true then (some true) else ((plan_Make.f k x0 x1).bind fun bt257 => (if (x0.length : Int) > 1 then (if (wrap64 (x1 - 1)) = 0 then (none) else (milllaw10_PlanWhole.j1 k x0 x1 bt257.1 bt257.2 (x0.length : Int) (wrap64 (Int.tdiv (wrap64 ((wrap64 ((wrap64 ((x0.length : Int) - 1)) + x1)) - 2)) (wrap64 (x1 - 1)))))) else (milllaw10_PlanWhole.j1 k x0 x1 bt257.1 bt257.2 (x0.length : Int) 1)))
def milllaw10_PlanWhole.j1 : Nat → List Int → Int → List (S51) → Int → Int → Int → Option (Bool)
  | 0, _, _, _, _, _, _ => none
  | k + 1, x0, x1, x6, x7, x8, x9 => (milllaw10_num.f x7).bind fun t261 => (if t261 = 0 then (milllaw10_PlanWhole.j2 k x0 x1 x6 x8 ((x6.length : Int) != x9)) else (milllaw10_PlanWhole.j2 k x0 x1 x6 x8 true))
def milllaw10_PlanWhole.j2 : Nat → List Int → Int → List (S51) → Int → Bool → Option (Bool)
  | 0, _, _, _, _, _ => none
  | k + 1, x0, x1, x6, x8, x52 => if x52 = true then (some false) else (if 0 ≤ (wrap64 (x8 + (x6.length : Int))) then (if (wrap64 (x8 + (x6.length : Int)) : Int).toNat ≤ 35184372088832 then (milllaw10_PlanWhole.l0 k x0 x1 x6 x8 (List.replicate (wrap64 (x8 + (x6.length : Int)) : Int).toNat 0) 0) else (none)) else (none))
def milllaw10_PlanWhole.l0 : Nat → List Int → Int → List (S51) → Int → List Int → Int → Option (Bool)
  | 0, _, _, _, _, _, _ => none
  | k + 1, x0, x1, x6, x8, x10, x11 => if x11 < x8 then (if 0 ≤ x11 then (if x11 < (x10.length : Int) then (milllaw10_PlanWhole.l0 k x0 x1 x6 x8 (x10.set (x11 : Int).toNat 1) (wrap64 (x11 + 1))) else (none)) else (none)) else (milllaw10_PlanWhole.l1 k x0 x1 x6 x8 x10 0)
def milllaw10_PlanWhole.l1 : Nat → List Int → Int → List (S51) → Int → List Int → Int → Option (Bool)
  | 0, _, _, _, _, _, _ => none
  | k + 1, x0, x1, x6, x8, x10, x12 => if x12 < (x6.length : Int) then (if 0 ≤ x12 then (if ((rd_T51 x6 x12).f1) = (wrap64 (x8 + x12)) then (if (((rd_T51 x6 x12).f0).length : Int) > x1 then (milllaw10_PlanWhole.j5 k x0 x1 x6 x8 x10 x12 true) else (if x12 > 0 then (milllaw10_PlanWhole.j5 k x0 x1 x6 x8 x10 x12 ((((rd_T51 x6 x12).f0).length : Int) != x1)) else (milllaw10_PlanWhole.j5 k x0 x1 x6 x8 x10 x12 false))) else (milllaw10_PlanWhole.j5 k x0 x1 x6 x8 x10 x12 true)) else (none)) else ((plan_Check.f k x0 x1 x6).bind fun t266 => (if 0 ≤ (wrap64 ((x10.length : Int) - 1)) then (if (wrap64 ((x10.length : Int) - 1)) < (x10.length : Int) then (if (rd x10 (wrap64 ((x10.length : Int) - 1))) = x8 then ((milllaw10_num.f t266).bind fun t268 => (some (t268 == 0))) else (some false)) else (none)) else (none)))
def milllaw10_PlanWhole.j5 : Nat → List Int → Int → List (S51) → Int → List Int → Int → Bool → Option (Bool)
  | 0, _, _, _, _, _, _, _ => none
  | k + 1, x0, x1, x6, x8, x10, x12, x104 => if x104 = true then (some false) else (milllaw10_PlanWhole.l2 k x0 x1 x6 x8 x10 x12 0)
def milllaw10_PlanWhole.l2 : Nat → List Int → Int → List (S51) → Int → List Int → Int → Int → Option (Bool)
  | 0, _, _, _, _, _, _, _ => none
  | k + 1, x0, x1, x6, x8, x10, x12, x13 => if 0 ≤ x12 then (if x12 < (x6.length : Int) then (if x13 < (((rd_T51 x6 x12).f0).length : Int) then (if 0 ≤ x13 then (if (rd ((rd_T51 x6 x12).f0) x13) < 0 then (some false) else (if (rd ((rd_T51 x6 x12).f0) x13) ≥ (wrap64 (x8 + x12)) then (some false) else (if 0 ≤ (rd ((rd_T51 x6 x12).f0) x13) then (if (rd ((rd_T51 x6 x12).f0) x13) < (x10.length : Int) then (if (rd x10 (rd ((rd_T51 x6 x12).f0) x13)) = 0 then (some false) else (if 0 ≤ (wrap64 (x8 + x12)) then (if (wrap64 (x8 + x12)) < (x10.length : Int) then (milllaw10_PlanWhole.l2 k x0 x1 x6 x8 ((x10.set ((wrap64 (x8 + x12)) : Int).toNat (wrap64 ((rd x10 (wrap64 (x8 + x12))) + (rd x10 (rd ((rd_T51 x6 x12).f0) x13))))).set ((rd ((rd_T51 x6 x12).f0) x13) : Int).toNat 0) x12 (wrap64 (x13 + 1))) else (none)) else (none))) else (none)) else (none)))) else (none)) else (milllaw10_PlanWhole.l1 k x0 x1 x6 x8 x10 (wrap64 (x12 + 1)))) else (none)) else (none)
end
def milllaw10_PlanWhole.f (k : Nat) (l0 : List Int) (a1 : Int) : Option (Bool) := (millref10_Given.f k l0 a1).bind fun t256 => (if t256 = 0 then (milllaw10_PlanWhole.j0 k l0 a1 (decide ((l0.length : Int) > 2048))) else (milllaw10_PlanWhole.j0 k l0 a1 true))
theorem milllaw10_PlanWhole.mono_l : ∀ k, (∀ y0 y1 y2, LeO (milllaw10_PlanWhole.j0 k y0 y1 y2) (milllaw10_PlanWhole.j0 (k + 1) y0 y1 y2)) ∧ (∀ y0 y1 y2 y3 y4 y5, LeO (milllaw10_PlanWhole.j1 k y0 y1 y2 y3 y4 y5) (milllaw10_PlanWhole.j1 (k + 1) y0 y1 y2 y3 y4 y5)) ∧ (∀ y0 y1 y2 y3 y4, LeO (milllaw10_PlanWhole.j2 k y0 y1 y2 y3 y4) (milllaw10_PlanWhole.j2 (k + 1) y0 y1 y2 y3 y4)) ∧ (∀ y0 y1 y2 y3 y4 y5, LeO (milllaw10_PlanWhole.l0 k y0 y1 y2 y3 y4 y5) (milllaw10_PlanWhole.l0 (k + 1) y0 y1 y2 y3 y4 y5)) ∧ (∀ y0 y1 y2 y3 y4 y5, LeO (milllaw10_PlanWhole.l1 k y0 y1 y2 y3 y4 y5) (milllaw10_PlanWhole.l1 (k + 1) y0 y1 y2 y3 y4 y5)) ∧ (∀ y0 y1 y2 y3 y4 y5 y6, LeO (milllaw10_PlanWhole.j5 k y0 y1 y2 y3 y4 y5 y6) (milllaw10_PlanWhole.j5 (k + 1) y0 y1 y2 y3 y4 y5 y6)) ∧ (∀ y0 y1 y2 y3 y4 y5 y6, LeO (milllaw10_PlanWhole.l2 k y0 y1 y2 y3 y4 y5 y6) (milllaw10_PlanWhole.l2 (k + 1) y0 y1 y2 y3 y4 y5 y6))
  | 0 => ⟨fun _ _ _ r h => by simp [milllaw10_PlanWhole.j0] at h, fun _ _ _ _ _ _ r h => by simp [milllaw10_PlanWhole.j1] at h, fun _ _ _ _ _ r h => by simp [milllaw10_PlanWhole.j2] at h, fun _ _ _ _ _ _ r h => by simp [milllaw10_PlanWhole.l0] at h, fun _ _ _ _ _ _ r h => by simp [milllaw10_PlanWhole.l1] at h, fun _ _ _ _ _ _ _ r h => by simp [milllaw10_PlanWhole.j5] at h, fun _ _ _ _ _ _ _ r h => by simp [milllaw10_PlanWhole.l2] at h⟩
  | k + 1 => by
    obtain ⟨ih0, ih1, ih2, ih3, ih4, ih5, ih6⟩ := milllaw10_PlanWhole.mono_l k
    refine ⟨?_, ?_, ?_, ?_, ?_, ?_, ?_⟩
    · intro y0 y1 y2
      unfold milllaw10_PlanWhole.j0
      repeat' first
      | (with_reducible exact ih0 _ _ _)
      | (with_reducible exact ih1 _ _ _ _ _ _)
      | (with_reducible exact ih2 _ _ _ _ _)
      | (with_reducible exact ih3 _ _ _ _ _ _)
      | (with_reducible exact ih4 _ _ _ _ _ _)
      | (with_reducible exact ih5 _ _ _ _ _ _ _)
      | (with_reducible exact ih6 _ _ _ _ _ _ _)
      | (with_reducible exact millref10_Given.mono _ _ _)
      | (with_reducible exact plan_Check.mono _ _ _ _)
      | (with_reducible exact plan_Make.mono _ _ _)
      | (with_reducible exact LeO.refl _)
      | (with_reducible exact LeO.none _)
      | (with_reducible refine LeO.ite ?_ ?_)
      | (with_reducible refine LeO.bind ?_ (fun _ => ?_))
      | exact ih0 _ _ _
      | exact ih1 _ _ _ _ _ _
      | exact ih2 _ _ _ _ _
      | exact ih3 _ _ _ _ _ _
      | exact ih4 _ _ _ _ _ _
      | exact ih5 _ _ _ _ _ _ _
      | exact ih6 _ _ _ _ _ _ _
      | exact millref10_Given.mono _ _ _
      | exact plan_Check.mono _ _ _ _
      | exact plan_Make.mono _ _ _
      | exact LeO.none _
      | refine LeO.ite ?_ ?_
      | refine LeO.bind ?_ (fun _ => ?_)
    · intro y0 y1 y2 y3 y4 y5
      unfold milllaw10_PlanWhole.j1
      repeat' first
      | (with_reducible exact ih0 _ _ _)
      | (with_reducible exact ih1 _ _ _ _ _ _)
      | (with_reducible exact ih2 _ _ _ _ _)
      | (with_reducible exact ih3 _ _ _ _ _ _)
      | (with_reducible exact ih4 _ _ _ _ _ _)
      | (with_reducible exact ih5 _ _ _ _ _ _ _)
      | (with_reducible exact ih6 _ _ _ _ _ _ _)
      | (with_reducible exact millref10_Given.mono _ _ _)
      | (with_reducible exact plan_Check.mono _ _ _ _)
      | (with_reducible exact plan_Make.mono _ _ _)
      | (with_reducible exact LeO.refl _)
      | (with_reducible exact LeO.none _)
      | (with_reducible refine LeO.ite ?_ ?_)
      | (with_reducible refine LeO.bind ?_ (fun _ => ?_))
      | exact ih0 _ _ _
      | exact ih1 _ _ _ _ _ _
      | exact ih2 _ _ _ _ _
      | exact ih3 _ _ _ _ _ _
      | exact ih4 _ _ _ _ _ _
      | exact ih5 _ _ _ _ _ _ _
      | exact ih6 _ _ _ _ _ _ _
      | exact millref10_Given.mono _ _ _
      | exact plan_Check.mono _ _ _ _
      | exact plan_Make.mono _ _ _
      | exact LeO.none _
      | refine LeO.ite ?_ ?_
      | refine LeO.bind ?_ (fun _ => ?_)
    · intro y0 y1 y2 y3 y4
      unfold milllaw10_PlanWhole.j2
      repeat' first
      | (with_reducible exact ih0 _ _ _)
      | (with_reducible exact ih1 _ _ _ _ _ _)
      | (with_reducible exact ih2 _ _ _ _ _)
      | (with_reducible exact ih3 _ _ _ _ _ _)
      | (with_reducible exact ih4 _ _ _ _ _ _)
      | (with_reducible exact ih5 _ _ _ _ _ _ _)
      | (with_reducible exact ih6 _ _ _ _ _ _ _)
      | (with_reducible exact millref10_Given.mono _ _ _)
      | (with_reducible exact plan_Check.mono _ _ _ _)
      | (with_reducible exact plan_Make.mono _ _ _)
      | (with_reducible exact LeO.refl _)
      | (with_reducible exact LeO.none _)
      | (with_reducible refine LeO.ite ?_ ?_)
      | (with_reducible refine LeO.bind ?_ (fun _ => ?_))
      | exact ih0 _ _ _
      | exact ih1 _ _ _ _ _ _
      | exact ih2 _ _ _ _ _
      | exact ih3 _ _ _ _ _ _
      | exact ih4 _ _ _ _ _ _
      | exact ih5 _ _ _ _ _ _ _
      | exact ih6 _ _ _ _ _ _ _
      | exact millref10_Given.mono _ _ _
      | exact plan_Check.mono _ _ _ _
      | exact plan_Make.mono _ _ _
      | exact LeO.none _
      | refine LeO.ite ?_ ?_
      | refine LeO.bind ?_ (fun _ => ?_)
    · intro y0 y1 y2 y3 y4 y5
      unfold milllaw10_PlanWhole.l0
      repeat' first
      | (with_reducible exact ih0 _ _ _)
      | (with_reducible exact ih1 _ _ _ _ _ _)
      | (with_reducible exact ih2 _ _ _ _ _)
      | (with_reducible exact ih3 _ _ _ _ _ _)
      | (with_reducible exact ih4 _ _ _ _ _ _)
      | (with_reducible exact ih5 _ _ _ _ _ _ _)
      | (with_reducible exact ih6 _ _ _ _ _ _ _)
      | (with_reducible exact millref10_Given.mono _ _ _)
      | (with_reducible exact plan_Check.mono _ _ _ _)
      | (with_reducible exact plan_Make.mono _ _ _)
      | (with_reducible exact LeO.refl _)
      | (with_reducible exact LeO.none _)
      | (with_reducible refine LeO.ite ?_ ?_)
      | (with_reducible refine LeO.bind ?_ (fun _ => ?_))
      | exact ih0 _ _ _
      | exact ih1 _ _ _ _ _ _
      | exact ih2 _ _ _ _ _
      | exact ih3 _ _ _ _ _ _
      | exact ih4 _ _ _ _ _ _
      | exact ih5 _ _ _ _ _ _ _
      | exact ih6 _ _ _ _ _ _ _
      | exact millref10_Given.mono _ _ _
      | exact plan_Check.mono _ _ _ _
      | exact plan_Make.mono _ _ _
      | exact LeO.none _
      | refine LeO.ite ?_ ?_
      | refine LeO.bind ?_ (fun _ => ?_)
    · intro y0 y1 y2 y3 y4 y5
      unfold milllaw10_PlanWhole.l1
      repeat' first
      | (with_reducible exact ih0 _ _ _)
      | (with_reducible exact ih1 _ _ _ _ _ _)
      | (with_reducible exact ih2 _ _ _ _ _)
      | (with_reducible exact ih3 _ _ _ _ _ _)
      | (with_reducible exact ih4 _ _ _ _ _ _)
      | (with_reducible exact ih5 _ _ _ _ _ _ _)
      | (with_reducible exact ih6 _ _ _ _ _ _ _)
      | (with_reducible exact millref10_Given.mono _ _ _)
      | (with_reducible exact plan_Check.mono _ _ _ _)
      | (with_reducible exact plan_Make.mono _ _ _)
      | (with_reducible exact LeO.refl _)
      | (with_reducible exact LeO.none _)
      | (with_reducible refine LeO.ite ?_ ?_)
      | (with_reducible refine LeO.bind ?_ (fun _ => ?_))
      | exact ih0 _ _ _
      | exact ih1 _ _ _ _ _ _
      | exact ih2 _ _ _ _ _
      | exact ih3 _ _ _ _ _ _
      | exact ih4 _ _ _ _ _ _
      | exact ih5 _ _ _ _ _ _ _
      | exact ih6 _ _ _ _ _ _ _
      | exact millref10_Given.mono _ _ _
      | exact plan_Check.mono _ _ _ _
      | exact plan_Make.mono _ _ _
      | exact LeO.none _
      | refine LeO.ite ?_ ?_
      | refine LeO.bind ?_ (fun _ => ?_)
    · intro y0 y1 y2 y3 y4 y5 y6
      unfold milllaw10_PlanWhole.j5
      repeat' first
      | (with_reducible exact ih0 _ _ _)
      | (with_reducible exact ih1 _ _ _ _ _ _)
      | (with_reducible exact ih2 _ _ _ _ _)
      | (with_reducible exact ih3 _ _ _ _ _ _)
      | (with_reducible exact ih4 _ _ _ _ _ _)
      | (with_reducible exact ih5 _ _ _ _ _ _ _)
      | (with_reducible exact ih6 _ _ _ _ _ _ _)
      | (with_reducible exact millref10_Given.mono _ _ _)
      | (with_reducible exact plan_Check.mono _ _ _ _)
      | (with_reducible exact plan_Make.mono _ _ _)
      | (with_reducible exact LeO.refl _)
      | (with_reducible exact LeO.none _)
      | (with_reducible refine LeO.ite ?_ ?_)
      | (with_reducible refine LeO.bind ?_ (fun _ => ?_))
      | exact ih0 _ _ _
      | exact ih1 _ _ _ _ _ _
      | exact ih2 _ _ _ _ _
      | exact ih3 _ _ _ _ _ _
      | exact ih4 _ _ _ _ _ _
      | exact ih5 _ _ _ _ _ _ _
      | exact ih6 _ _ _ _ _ _ _
      | exact millref10_Given.mono _ _ _
      | exact plan_Check.mono _ _ _ _
      | exact plan_Make.mono _ _ _
      | exact LeO.none _
      | refine LeO.ite ?_ ?_
      | refine LeO.bind ?_ (fun _ => ?_)
    · intro y0 y1 y2 y3 y4 y5 y6
      unfold milllaw10_PlanWhole.l2
      repeat' first
      | (with_reducible exact ih0 _ _ _)
      | (with_reducible exact ih1 _ _ _ _ _ _)
      | (with_reducible exact ih2 _ _ _ _ _)
      | (with_reducible exact ih3 _ _ _ _ _ _)
      | (with_reducible exact ih4 _ _ _ _ _ _)
      | (with_reducible exact ih5 _ _ _ _ _ _ _)
      | (with_reducible exact ih6 _ _ _ _ _ _ _)
      | (with_reducible exact millref10_Given.mono _ _ _)
      | (with_reducible exact plan_Check.mono _ _ _ _)
      | (with_reducible exact plan_Make.mono _ _ _)
      | (with_reducible exact LeO.refl _)
      | (with_reducible exact LeO.none _)
      | (with_reducible refine LeO.ite ?_ ?_)
      | (with_reducible refine LeO.bind ?_ (fun _ => ?_))
      | exact ih0 _ _ _
      | exact ih1 _ _ _ _ _ _
      | exact ih2 _ _ _ _ _
      | exact ih3 _ _ _ _ _ _
      | exact ih4 _ _ _ _ _ _
      | exact ih5 _ _ _ _ _ _ _
      | exact ih6 _ _ _ _ _ _ _
      | exact millref10_Given.mono _ _ _
      | exact plan_Check.mono _ _ _ _
      | exact plan_Make.mono _ _ _
      | exact LeO.none _
      | refine LeO.ite ?_ ?_
      | refine LeO.bind ?_ (fun _ => ?_)
theorem milllaw10_PlanWhole.mono : ∀ a0 a1 k, LeO (milllaw10_PlanWhole.f k a0 a1) (milllaw10_PlanWhole.f (k + 1) a0 a1) := by
  intro a0 a1 k
  obtain ⟨ih0, ih1, ih2, ih3, ih4, ih5, ih6⟩ := milllaw10_PlanWhole.mono_l k
  unfold milllaw10_PlanWhole.f
  repeat' first
      | (with_reducible exact ih0 _ _ _)
      | (with_reducible exact ih1 _ _ _ _ _ _)
      | (with_reducible exact ih2 _ _ _ _ _)
      | (with_reducible exact ih3 _ _ _ _ _ _)
      | (with_reducible exact ih4 _ _ _ _ _ _)
      | (with_reducible exact ih5 _ _ _ _ _ _ _)
      | (with_reducible exact ih6 _ _ _ _ _ _ _)
      | (with_reducible exact millref10_Given.mono _ _ _)
      | (with_reducible exact plan_Check.mono _ _ _ _)
      | (with_reducible exact plan_Make.mono _ _ _)
      | (with_reducible exact LeO.refl _)
      | (with_reducible exact LeO.none _)
      | (with_reducible refine LeO.ite ?_ ?_)
      | (with_reducible refine LeO.bind ?_ (fun _ => ?_))
      | exact ih0 _ _ _
      | exact ih1 _ _ _ _ _ _
      | exact ih2 _ _ _ _ _
      | exact ih3 _ _ _ _ _ _
      | exact ih4 _ _ _ _ _ _
      | exact ih5 _ _ _ _ _ _ _
      | exact ih6 _ _ _ _ _ _ _
      | exact millref10_Given.mono _ _ _
      | exact plan_Check.mono _ _ _ _
      | exact plan_Make.mono _ _ _
      | exact LeO.none _
      | refine LeO.ite ?_ ?_
      | refine LeO.bind ?_ (fun _ => ?_)
def milllaw10_PlanWhole.T27 : Bool × List (List Nat × List Nat) := (true, [([], []), ([], []), ([], []), ([1, 2], [1, 2]), ([], []), ([], []), ([], []), ([5, 6], [5, 6]), ([4, 7], [4, 7]), ([8], [8]), ([], []), ([], []), ([10, 11], [10, 11]), ([12], [12]), ([9, 13], [9, 13]), ([0, 3, 0, 1, 2, 3, 4, 5, 6, 7, 8, 9, 10, 11, 12, 13, 14], [0, 3]), ([15, 14, 0, 1, 2, 3, 4, 5, 6, 7, 8, 9, 10, 11, 12, 13, 14], [14, 15])])
def milllaw10_PlanWhole.B27 : List Nat := [0, 0, 0, 6, 0, 0, 0, 96, 240, 496, 0, 0, 3072, 7168, 16368, 32767, 65535]
theorem milllaw10_PlanWhole.tab27 : rtab .any (opsOf Try.f6 27) = milllaw10_PlanWhole.T27 := by kernel_rfl
theorem milllaw10_PlanWhole.bits27 : waitsOk milllaw10_PlanWhole.T27.2 milllaw10_PlanWhole.B27 = true := by kernel_rfl
set_option maxHeartbeats 8000000 in
set_option maxRecDepth 100000 in
theorem milllaw10_PlanWhole.calls (k : Nat) (A0 : Option Addr) (c0 : Nat) (l0 : List Int) (a1 : Int) (r : Bool) (w : World) (hr0 : Kd.C (Kd.int .i64) w A0 l0.length l0) (hc0 : l0.length ≤ c0) (h : milllaw10_PlanWhole.f k l0 a1 = some r) :
    Calls Try.prog 6 #[.slice A0 l0.length c0, .int .i64 a1] w fun e w' => e = .returned (.bool r) ∧ Below w.heap.size w w' := by
  have HR0 := Aside0.mk hr0
  have HC0 := Aside0.mk hc0
  clear hr0 hc0
  have HB := Aside0.mk (Below.refl w.heap.size w)
  have H : ((millref10_Given.f k l0 a1).bind fun t256 => (if t256 = 0 then (milllaw10_PlanWhole.j0 k l0 a1 (decide ((l0.length : Int) > 2048))) else (milllaw10_PlanWhole.j0 k l0 a1 true))) = some r := h
  clear h
  replace H := Option.bind_eq_some_iff.mp H
  obtain ⟨t256, A30, H⟩ := H
  replace H : (if t256 = 0 then (milllaw10_PlanWhole.j0 k l0 a1 (decide ((l0.length : Int) > 2048))) else (milllaw10_PlanWhole.j0 k l0 a1 true)) = some r := H
  have A3 := Aside0.mk A30
  clear A30
  have HC4 := Aside0.mk H
  clear H
  go_enter Try.func6, Try.ntmps6
  go_upto_region 2 with (first | ((with_reducible refine gate_callee (f := 26) rfl ?_); refine goesL_ (some 18) rfl rfl Try.func26 (by kernel_rfl) rfl #[.slice A0 l0.length c0, .int .i64 a1] rfl (by (try simp only [List.map_toArray, List.map_cons, List.map_nil]); first | done | rfl | (simp only [List.length_drop, List.length_take]; rfl)) ?_; (with_reducible refine (millref10_Given.calls k _ _ l0 a1 t256 _ ?side1 ?side2 A3.out).mono ?_); (case side1 => repeat (first | exact HR0.out | (with_reducible refine Kd.C_alloc ?_ _) | (with_reducible refine Kd.C_drewN ?_ _) | (with_reducible refine Kd.C_drew ?_))); (case side2 => exact HC0.out); rintro e w' ⟨rfl, ⟨nd, rfl⟩⟩; refine ⟨_, rfl, ?_⟩))
  (try simp only [Act.put, List.setIfInBounds_toArray, List.set_cons_zero, List.set_cons_succ])
  go_cut [25] (fun v25 wc => ∃ (kq : Nat) (x25_3 : Bool), v25 = .bool x25_3 ∧ Aside0 (milllaw10_PlanWhole.j0 kq l0 a1 x25_3 = some r) ∧ Aside0 (kq ≤ k) ∧ Aside0 (Below w.heap.size w wc))
  case first =>
    have H := HC4.out
    clear HC4
    by_cases c5 : t256 = 0
    · rw [if_pos c5] at H
      have c5b0 : (t256 == 0) = true := beq_iff_eq.mpr c5
      have c5b1 : (t256 != 0) = false := bne_eq_false_iff_eq.mpr c5
      clear c5
      (first | rw [c5b0] | (simp only [i64_w, i32_w]; rw [c5b0]) | skip)
      have H' := Aside0.mk H
      clear H
      go_wp2
      go_meet
      case rel => exact ⟨_, (decide ((l0.length : Int) > 2048)), (by first | rfl | (simp; done) | (simp [*]; done)), H', ⟨by first | omega | exact Nat.le_refl _⟩, ⟨by repeat (first | (with_reducible first | exact HB.out | apply below_alloc | apply pw_below_drewN | apply below_drew1) | exact HB.out)⟩⟩
    · rw [if_neg c5] at H
      have c5b0 : (t256 == 0) = false := beq_eq_false_iff_ne.mpr c5
      have c5b1 : (t256 != 0) = true := bne_iff_ne.mpr c5
      (first | rw [c5b0] | (simp only [i64_w, i32_w]; rw [c5b0]) | skip)
      have H' := Aside0.mk H
      clear H
      go_wp2
      go_meet
      case rel => exact ⟨_, (true), (by first | rfl | (simp; done) | (simp [*]; done)), H', ⟨by first | omega | exact Nat.le_refl _⟩, ⟨by repeat (first | (with_reducible first | exact HB.out | apply below_alloc | apply pw_below_drewN | apply below_drew1) | exact HB.out)⟩⟩
  case rest =>
    clear HC4
    try clear c2
    try clear p2
    try clear c5
    try clear c5b0
    try clear c5b1
    obtain ⟨kq, x25_3, rfl, HA, HJ3, HB⟩ := hcut
    cases kq with
    | zero => exact absurd HA.out (by simp [milllaw10_PlanWhole.j0])
    | succ kj3 =>
      have H := HA.out
      clear HA
      simp only [milllaw10_PlanWhole.j0] at H
      by_cases c6 : x25_3 = true
      · subst c6
        have H1 : (some true) = some r := by rw [if_pos rfl] at H; exact H
        clear H
        have H := H1
        clear H1
        obtain rfl := Option.some.inj H
        go_wp2
        go_ret
        exact ⟨by first | rfl | (simp [errW_none, errW_some] <;> rfl) | (simp [*, errW_none, errW_some] <;> rfl), by repeat (first | (with_reducible first | exact HB.out | apply below_alloc | apply pw_below_drewN | apply below_drew1) | exact HB.out)⟩
      · replace c6 := Bool.eq_false_iff.mpr c6
        subst c6
        have H1 : ((plan_Make.f kj3 l0 a1).bind fun bt257 => (if (l0.length : Int) > 1 then (if (wrap64 (a1 - 1)) = 0 then (none) else (milllaw10_PlanWhole.j1 kj3 l0 a1 bt257.1 bt257.2 (l0.length : Int) (wrap64 (Int.tdiv (wrap64 ((wrap64 ((wrap64 ((l0.length : Int) - 1)) + a1)) - 2)) (wrap64 (a1 - 1)))))) else (milllaw10_PlanWhole.j1 kj3 l0 a1 bt257.1 bt257.2 (l0.length : Int) 1))) = some r := by rw [if_neg (show ¬ (false = true) by decide)] at H; exact H
        clear H
        have H := H1
        clear H1
        replace H := Option.bind_eq_some_iff.mp H
        obtain ⟨⟨t257, t260⟩, A70, H⟩ := H
        replace H : (if (l0.length : Int) > 1 then (if (wrap64 (a1 - 1)) = 0 then (none) else (milllaw10_PlanWhole.j1 kj3 l0 a1 t257 t260 (l0.length : Int) (wrap64 (Int.tdiv (wrap64 ((wrap64 ((wrap64 ((l0.length : Int) - 1)) + a1)) - 2)) (wrap64 (a1 - 1)))))) else (milllaw10_PlanWhole.j1 kj3 l0 a1 t257 t260 (l0.length : Int) 1)) = some r := H
        have A7 := Aside0.mk A70
        clear A70
        have HC8 := Aside0.mk H
        clear H
        go_upto_if 35 with (first | ((with_reducible refine gate_callee (f := 24) rfl ?_); refine goesL_ (some 29) rfl rfl Try.func24 (by kernel_rfl) rfl #[.slice A0 l0.length c0, .int .i64 a1] rfl (by (try simp only [List.map_toArray, List.map_cons, List.map_nil]); first | done | rfl | (simp only [List.length_drop, List.length_take]; rfl)) ?_; (with_reducible refine (plan_Make.calls kj3 _ _ l0 a1 t257 t260 _ ?side1 ?side2 A7.out).mono ?_); (case side1 => repeat (first | exact (Kd.C_below HR0.out HB.out) | (with_reducible refine Kd.C_alloc ?_ _) | (with_reducible refine Kd.C_drewN ?_ _) | (with_reducible refine Kd.C_drew ?_))); (case side2 => exact HC0.out); rintro e w9 ⟨v258, rfl, ho0, hb⟩; refine ⟨_, rfl, ?_⟩; have n0_ := Aside0.mk (Kd.N_lower (Kd.N_mono (ok' := fun k_ => True) ho0 (fun k_ hk_ => trivial)) (below_size (by repeat (first | (with_reducible first | exact HB.out | apply below_alloc | apply pw_below_drewN | apply below_drew1) | exact HB.out)))); have n1_ := Aside0.mk (below_step (by repeat (first | (with_reducible first | exact HB.out | apply below_alloc | apply pw_below_drewN | apply below_drew1) | exact HB.out)) hb); clear HB; have HO259 := n0_; have HB := n1_; clear n0_ n1_; (try clear hb); (try clear hb2); (try clear hk); (try clear hi); (try clear ho0)))
        (try simp only [Act.put, List.setIfInBounds_toArray, List.set_cons_zero, List.set_cons_succ])
        go_cut [9] (fun v9 wc => ∃ (kq : Nat) (x9_7 : Int), v9 = .int .i64 x9_7 ∧ Aside0 (milllaw10_PlanWhole.j1 kq l0 a1 t257 t260 (l0.length : Int) x9_7 = some r) ∧ Aside0 (kq ≤ kj3) ∧ Aside0 (Kd.N k51 51 wc w.heap.size (fun _ => True) v258 t257) ∧ Aside0 (Below w.heap.size w wc))
        case first =>
          have H := HC8.out
          clear HC8
          by_cases c10 : (l0.length : Int) > 1
          · rw [if_pos c10] at H
            have c10b0 : decide (1 < (l0.length : Int)) = true := decide_eq_true c10
            have c10b1 : decide (1 < l0.length) = true := decide_eq_true (by omega)
            clear c10
            (first | rw [c10b0] | (simp only [i64_w, i32_w]; rw [c10b0]) | skip)
            by_cases c11 : (wrap64 (a1 - 1)) = 0
            · rw [if_pos c11] at H
              exact absurd H (by simp)
            · rw [if_neg c11] at H
              have c11b0 : ((wrap64 (a1 - 1)) == 0) = false := beq_eq_false_iff_ne.mpr c11
              have c11b1 : ((wrap64 (a1 - 1)) != 0) = true := bne_iff_ne.mpr c11
              have H' := Aside0.mk H
              clear H
              go_wp2
              go_meet
              case rel => exact ⟨_, (wrap64 (Int.tdiv (wrap64 ((wrap64 ((wrap64 ((l0.length : Int) - 1)) + a1)) - 2)) (wrap64 (a1 - 1)))), (by first | rfl | (simp; done) | (simp [*]; done)), H', ⟨by have := HJ3.out; first | omega | exact Nat.le_refl _⟩, ⟨by (with_reducible repeat (first | apply Kd.N_alloc | apply Kd.N_drewN | apply Kd.N_drew)); exact HO259.out⟩, ⟨by repeat (first | (with_reducible first | exact HB.out | apply below_alloc | apply pw_below_drewN | apply below_drew1) | exact HB.out)⟩⟩
          · rw [if_neg c10] at H
            have c10b0 : decide (1 < (l0.length : Int)) = false := decide_eq_false c10
            have c10b1 : decide (1 < l0.length) = false := decide_eq_false (by omega)
            clear c10
            (first | rw [c10b0] | (simp only [i64_w, i32_w]; rw [c10b0]) | skip)
            have H' := Aside0.mk H
            clear H
            go_wp2
            go_meet
            case rel => exact ⟨_, (1), (by first | rfl | (simp; done) | (simp [*]; done)), H', ⟨by have := HJ3.out; first | omega | exact Nat.le_refl _⟩, ⟨by (with_reducible repeat (first | apply Kd.N_alloc | apply Kd.N_drewN | apply Kd.N_drew)); exact HO259.out⟩, ⟨by repeat (first | (with_reducible first | exact HB.out | apply below_alloc | apply pw_below_drewN | apply below_drew1) | exact HB.out)⟩⟩
        case rest =>
          clear HC8
          try clear c1
          try clear c2
          try clear p2
          try clear c5
          try clear c5b0
          try clear c5b1
          try clear c6
          try clear p6
          try clear c10
          try clear c10b0
          try clear c10b1
          try clear c11
          try clear c11b0
          try clear c11b1
          try clear p2
          obtain ⟨kq, x9_7, rfl, HA, HJ7, HO_6, HB⟩ := hcut
          cases kq with
          | zero => exact absurd HA.out (by simp [milllaw10_PlanWhole.j1])
          | succ kj7 =>
            have H := HA.out
            clear HA
            simp only [milllaw10_PlanWhole.j1] at H
            have HC12 := Aside0.mk H
            clear H
            go_upto_region 9 with (fail)
            go_cut [52] (fun v52 wc => ∃ (kq : Nat) (x52_11 : Bool), v52 = .bool x52_11 ∧ Aside0 (milllaw10_PlanWhole.j2 kq l0 a1 t257 (l0.length : Int) x52_11 = some r) ∧ Aside0 (kq ≤ kj7) ∧ Aside0 (Kd.N k51 51 wc w.heap.size (fun _ => True) v258 t257) ∧ Aside0 (Below w.heap.size w wc))
            case first =>
              have H := HC12.out
              clear HC12
              replace H := Option.bind_eq_some_iff.mp H
              obtain ⟨t261, A130, H⟩ := H
              replace H : (if t261 = 0 then (milllaw10_PlanWhole.j2 kj7 l0 a1 t257 (l0.length : Int) ((t257.length : Int) != x9_7)) else (milllaw10_PlanWhole.j2 kj7 l0 a1 t257 (l0.length : Int) true)) = some r := H
              have A13 := Aside0.mk A130
              clear A130
              by_cases c14 : t261 = 0
              · rw [if_pos c14] at H
                have c14b0 : (t261 == 0) = true := beq_iff_eq.mpr c14
                have c14b1 : (t261 != 0) = false := bne_eq_false_iff_eq.mpr c14
                clear c14
                (first | rw [c14b0] | (simp only [i64_w, i32_w]; rw [c14b0]) | skip)
                have H' := Aside0.mk H
                clear H
                go_wp2_with (first | ((with_reducible refine gate_callee (f := 23) rfl ?_); refine goesL_ (some 45) rfl rfl Try.func23 (by kernel_rfl) rfl #[.int .i64 t260] rfl (by (try simp only [List.map_toArray, List.map_cons, List.map_nil]); first | done | rfl | (simp only [List.length_drop, List.length_take]; rfl)) ?_; (with_reducible refine (milllaw10_num.calls t260 t261 _ A13.out).mono ?_); rintro e w' ⟨rfl, ⟨nd, rfl⟩⟩; refine ⟨_, rfl, ?_⟩; obtain ⟨Ao15, co15, eo15⟩ := Kd.N_slice HO_6.out; subst eo15))
                go_meet
                case rel => exact ⟨_, (((t257.length : Int) != x9_7)), (by first | rfl | (simp; done) | (simp [*]; done)), H', ⟨by have := HJ3.out; have := HJ7.out; first | omega | exact Nat.le_refl _⟩, ⟨by (with_reducible repeat (first | apply Kd.N_alloc | apply Kd.N_drewN | apply Kd.N_drew)); exact HO_6.out⟩, ⟨by repeat (first | (with_reducible first | exact HB.out | apply below_alloc | apply pw_below_drewN | apply below_drew1) | exact HB.out)⟩⟩
              · rw [if_neg c14] at H
                have c14b0 : (t261 == 0) = false := beq_eq_false_iff_ne.mpr c14
                have c14b1 : (t261 != 0) = true := bne_iff_ne.mpr c14
                (first | rw [c14b0] | (simp only [i64_w, i32_w]; rw [c14b0]) | skip)
                have H' := Aside0.mk H
                clear H
                go_wp2_with (first | ((with_reducible refine gate_callee (f := 23) rfl ?_); refine goesL_ (some 45) rfl rfl Try.func23 (by kernel_rfl) rfl #[.int .i64 t260] rfl (by (try simp only [List.map_toArray, List.map_cons, List.map_nil]); first | done | rfl | (simp only [List.length_drop, List.length_take]; rfl)) ?_; (with_reducible refine (milllaw10_num.calls t260 t261 _ A13.out).mono ?_); rintro e w' ⟨rfl, ⟨nd, rfl⟩⟩; refine ⟨_, rfl, ?_⟩))
                go_meet
                case rel => exact ⟨_, (true), (by first | rfl | (simp; done) | (simp [*]; done)), H', ⟨by have := HJ3.out; have := HJ7.out; first | omega | exact Nat.le_refl _⟩, ⟨by (with_reducible repeat (first | apply Kd.N_alloc | apply Kd.N_drewN | apply Kd.N_drew)); exact HO_6.out⟩, ⟨by repeat (first | (with_reducible first | exact HB.out | apply below_alloc | apply pw_below_drewN | apply below_drew1) | exact HB.out)⟩⟩
            case rest =>
              clear HC12
              try clear c1
              try clear c2
              try clear p2
              try clear c5
              try clear c5b0
              try clear c5b1
              try clear c6
              try clear p6
              try clear c10
              try clear c10b0
              try clear c10b1
              try clear c11
              try clear c11b0
              try clear c11b1
              try clear c14
              try clear c14b0
              try clear c14b1
              try clear p2
              try clear p6
              obtain ⟨kq, x52_11, rfl, HA, HJ11, HO_6, HB⟩ := hcut
              cases kq with
              | zero => exact absurd HA.out (by simp [milllaw10_PlanWhole.j2])
              | succ kj11 =>
                have H := HA.out
                clear HA
                simp only [milllaw10_PlanWhole.j2] at H
                by_cases c16 : x52_11 = true
                · subst c16
                  have H1 : (some false) = some r := by rw [if_pos rfl] at H; exact H
                  clear H
                  have H := H1
                  clear H1
                  obtain rfl := Option.some.inj H
                  go_wp2
                  go_ret
                  exact ⟨by first | rfl | (simp [errW_none, errW_some] <;> rfl) | (simp [*, errW_none, errW_some] <;> rfl), by repeat (first | (with_reducible first | exact HB.out | apply below_alloc | apply pw_below_drewN | apply below_drew1) | exact HB.out)⟩
                · replace c16 := Bool.eq_false_iff.mpr c16
                  subst c16
                  have H1 : (if 0 ≤ (wrap64 ((l0.length : Int) + (t257.length : Int))) then (if (wrap64 ((l0.length : Int) + (t257.length : Int)) : Int).toNat ≤ 35184372088832 then (milllaw10_PlanWhole.l0 kj11 l0 a1 t257 (l0.length : Int) (List.replicate (wrap64 ((l0.length : Int) + (t257.length : Int)) : Int).toNat 0) 0) else (none)) else (none)) = some r := by rw [if_neg (show ¬ (false = true) by decide)] at H; exact H
                  clear H
                  have H := H1
                  clear H1
                  obtain ⟨ji17, hji17⟩ : ∃ j_ : Int, (wrap64 ((l0.length : Int) + (t257.length : Int))) = j_ := ⟨_, rfl⟩
                  replace H : (if 0 ≤ (ji17) then (if (ji17 : Int).toNat ≤ 35184372088832 then (milllaw10_PlanWhole.l0 kj11 l0 a1 t257 (l0.length : Int) (List.replicate (ji17 : Int).toNat 0) 0) else (none)) else (none)) = some r := by first | (rw [hji17] at H; exact H) | (simp only [hji17] at H ⊢; exact H)
                  have hji17w : (IntKind.i64.wrap ((l0.length : Int) + (t257.length : Int))) = ji17 := (i64_w _).trans hji17
                  by_cases c18 : 0 ≤ (ji17)
                  · rw [if_pos c18] at H
                    have c18b0 := eq_true c18
                    have c18b1 : decide (0 ≤ (ji17)) = true := decide_eq_true c18
                    clear c18
                    by_cases c19 : (ji17 : Int).toNat ≤ 35184372088832
                    · rw [if_pos c19] at H
                      have c19b0 := eq_true c19
                      have c19b1 : decide ((ji17 : Int).toNat ≤ 35184372088832) = true := decide_eq_true c19
                      clear c19
                      obtain ⟨y262, hy262⟩ : ∃ y_ : List Int, y_ = (List.replicate (ji17 : Int).toNat 0) := ⟨_, rfl⟩
                      replace H : (milllaw10_PlanWhole.l0 kj11 l0 a1 t257 (l0.length : Int) y262 0) = some r := by first | (rw [hy262]; with_reducible exact H) | (have H2_ := (Option.bind_some _ _).symm.trans H; rw [hy262]; with_reducible exact H2_) | (have H2_ := (Option.bind_some _ _).symm.trans H; with_reducible exact H2_) | with_reducible exact H | (rw [hy262]; exact H) | exact H
                      have Ny262 := Aside0.mk hy262
                      clear hy262
                      have H' := Aside0.mk H
                      clear H
                      obtain ⟨Ao20, co20, eo20⟩ := Kd.N_slice HO_6.out
                      subst eo20
                      go_wp2_with (first | ((with_reducible refine gate_dst (N := 57) rfl ?_); (try (refine gate_guard (by rfl) ?_; dsimp only)); refine Kd.R_make (Kd.int .i64) _ 3 rfl (N := 57) rfl 22 _ _ rfl ji17 rfl rfl Try.underlying22 (.int .i64 0) 8 info3 rfl (by decide) (by omega) 0 (ok := fun _ => True) (okp := fun _ => True) rfl (fun _ hk => hk) trivial (of_decide_eq_true (by first | (with_reducible assumption) | assumption)) (Nat.le_trans (Nat.mul_le_mul_right _ (of_decide_eq_true (by first | (with_reducible assumption) | assumption) : ji17.toNat ≤ 35184372088832)) (by omega)) (Below.refl _ _) (Nat.le_refl _) ?_; intro v263 w21 ho22 hb hg_ hnew_; clear hg_ hnew_; (first | rw [← Ny262.out] at ho22 | (simp only [Int.reduceToNat] at ho22; rw [← Ny262.out] at ho22)); have n0_ := Aside0.mk (Kd.N_elder' (by (with_reducible repeat (first | apply Kd.N_alloc | apply Kd.N_drewN | apply Kd.N_drew)); exact HO_6.out) (Kd.R_base ho22) hb); have n1_ := Aside0.mk (Kd.R_lower ho22 (below_size (by repeat (first | (with_reducible first | exact HB.out | apply below_alloc | apply pw_below_drewN | apply below_drew1) | exact HB.out)))); have n2_ := Aside0.mk (below_step (by repeat (first | (with_reducible first | exact HB.out | apply below_alloc | apply pw_below_drewN | apply below_drew1) | exact HB.out)) hb); clear HO_6; clear HB; have HO_6 := n0_; have HO264 := n1_; have HB := n2_; clear n0_ n1_ n2_; clear hb ho22))
                      go_loopg [11] kj11 (fun kq v11 w' => ∃ (x10_4 : List Int) (x11_4 : Int), v11 = .int .i64 x11_4 ∧ Aside0 (milllaw10_PlanWhole.l0 kq l0 a1 t257 (l0.length : Int) x10_4 x11_4 = some r) ∧ Aside0 (kq ≤ kj11) ∧ Aside0 (Kd.N k51 51 w' w.heap.size (fun k_ => some k_ ≠ (v263 : Value).ownBlock) (.slice Ao20 t257.length co20) t257) ∧ Aside0 (Kd.R (Kd.int .i64) 3 w' w.heap.size (fun _ => True) v263 x10_4) ∧ Aside0 (Below w.heap.size w w'))
                      case atStart => exact ⟨(y262), (0), (by first | rfl | (simp; done) | (simp [*]; done)), H', ⟨Nat.le_refl _⟩, ⟨by (with_reducible repeat (first | apply Kd.N_alloc | apply Kd.N_drewN | apply Kd.N_drew)); exact Kd.N_mono HO_6.out (fun _ hk => hk.2)⟩, ⟨by (with_reducible repeat (first | apply Kd.R_alloc | apply Kd.R_drewN | apply Kd.R_drew)); exact HO264.out⟩, ⟨by repeat (first | (with_reducible first | exact HB.out | apply below_alloc | apply pw_below_drewN | apply below_drew1) | exact HB.out)⟩⟩
                      case round =>
                        clear H'
                        try clear c1
                        try clear c2
                        try clear p2
                        try clear c5
                        try clear c5b0
                        try clear c5b1
                        try clear c6
                        try clear p6
                        try clear c10
                        try clear c10b0
                        try clear c10b1
                        try clear c11
                        try clear c11b0
                        try clear c11b1
                        try clear c14
                        try clear c14b0
                        try clear c14b1
                        try clear c16
                        try clear c18
                        try clear c18b0
                        try clear c18b1
                        try clear c19
                        try clear c19b0
                        try clear c19b1
                        try clear p2
                        try clear p6
                        obtain ⟨x10_4, x11_4, rfl, HA, HK4, HO_6, HO_10, HB⟩ := hrel
                        cases gk with
                        | zero => exact absurd HA.out (by simp [milllaw10_PlanWhole.l0])
                        | succ k4 =>
                          have H := HA.out
                          clear HA
                          simp only [milllaw10_PlanWhole.l0] at H
                          by_cases c23 : x11_4 < (l0.length : Int)
                          · rw [if_pos c23] at H
                            have c23b0 : decide (x11_4 < (l0.length : Int)) = true := decide_eq_true c23
                            clear c23
                            by_cases c24 : 0 ≤ x11_4
                            · rw [if_pos c24] at H
                              have c24b0 : decide (0 ≤ x11_4) = true := decide_eq_true c24
                              clear c24
                              by_cases c25 : x11_4 < (x10_4.length : Int)
                              · rw [if_pos c25] at H
                                have c25b0 : decide (x11_4 < (x10_4.length : Int)) = true := decide_eq_true c25
                                clear c25
                                obtain ⟨y265, hy265⟩ : ∃ y_ : List Int, y_ = (x10_4.set (x11_4 : Int).toNat 1) := ⟨_, rfl⟩
                                replace H : (milllaw10_PlanWhole.l0 k4 l0 a1 t257 (l0.length : Int) y265 (wrap64 (x11_4 + 1))) = some r := by first | (rw [hy265]; with_reducible exact H) | (have H2_ := (Option.bind_some _ _).symm.trans H; rw [hy265]; with_reducible exact H2_) | (have H2_ := (Option.bind_some _ _).symm.trans H; with_reducible exact H2_) | with_reducible exact H | (rw [hy265]; exact H) | exact H
                                have Ny265 := Aside0.mk hy265
                                clear hy265
                                have H' := Aside0.mk H
                                clear H
                                have p26 : 0 ≤ (x11_4 : Int) := of_decide_eq_true (by first | (with_reducible assumption) | assumption)
                                have q26 : (x11_4 : Int) < ((x10_4.length : Int) : Int) := of_decide_eq_true (by first | (with_reducible assumption) | assumption)
                                obtain ⟨go26, co26, eo26, gb26, gl26, cl26, HG26⟩ := Kd.R_form HO_10.out (by omega)
                                (first | cases eo26 | (injection eo26 with ea_ en_ ec_; (first | subst ea_ | (injection ea_ with ea_; subst ea_)); subst ec_; clear en_))
                                have GB26 := Aside0.mk gb26
                                have GG26 := Aside0.mk HG26
                                clear gb26 gl26 HG26
                                obtain ⟨hx26_0, hf26_0⟩ := Kd.R_celln 0 HO_10.out (x11_4 : Int) p26 q26
                                replace p26 := eq_true p26
                                replace q26 := eq_true q26
                                have HP27 := Kd.R_putg HO_10.out (x11_4 : Int) 1
                                go_wp2_with (first | ((with_reducible refine gate_store (t := 3) (p := 65) rfl ?_); refine store_event (t := 3) (p := 65) (v := ?vo_w28) (w1 := (wr.setCell ⟨go26, (x11_4 : Int).toNat, none⟩ (.int .i64 1))) ?hg ?ho ?hn ?hr ?_; (case ho => rfl); (case hg => rfl); (case hn => rfl); (case hr => first | (go_simp; done) | (go_simp; rfl)); intro w28 hw; have hg : wr.grownBy w28 (some go26) := (by rw [hw]; exact HP27.2); have hp_ : Kd.R (Kd.int .i64) 3 w28 w.heap.size (fun _ => True) (.slice (some ⟨go26, 0, none⟩) x10_4.length co26) y265 := (by rw [hw, Ny265.out]; exact HP27.1); clear HP27; have n0_ := Aside0.mk (Kd.N_afterv (v := (.slice (some ⟨go26, 0, none⟩) x10_4.length co26)) (v1 := (.slice (some ⟨go26, 0, none⟩) x10_4.length co26)) (ok := (fun _ => True)) (by (with_reducible repeat (first | apply Kd.N_alloc | apply Kd.N_drewN | apply Kd.N_drew)); exact Kd.N_mono HO_6.out (fun _ hk => ⟨trivial, hk⟩)) hg (.inl rfl)); have n1_ := Aside0.mk (hp_); have n2_ := Aside0.mk ((by rw [hw]; exact below_set (HB.out) GB26.out : Below w.heap.size w w28)); clear HO_6; clear HO_10; clear HB; have HO_6 := n0_; have HO_10 := n1_; have HB := n2_; clear n0_ n1_ n2_; clear hg hw hp_))
                                go_roundg k4
                                case measure => have := HJ3.out; have := HJ7.out; have := HJ11.out; have := HK4.out; omega
                                case rel => exact ⟨(y265), (wrap64 (x11_4 + 1)), (by first | rfl | (simp; done) | (simp [*]; done)), H', ⟨by have := HJ3.out; have := HJ7.out; have := HJ11.out; have := HK4.out; omega⟩, ⟨by (with_reducible repeat (first | apply Kd.N_alloc | apply Kd.N_drewN | apply Kd.N_drew)); exact Kd.N_mono HO_6.out (fun _ hk => hk.2)⟩, ⟨by (with_reducible repeat (first | apply Kd.R_alloc | apply Kd.R_drewN | apply Kd.R_drew)); exact HO_10.out⟩, ⟨by repeat (first | (with_reducible first | exact HB.out | apply below_alloc | apply pw_below_drewN | apply below_drew1) | exact HB.out)⟩⟩
                              · rw [if_neg c25] at H
                                exact absurd H (by simp)
                            · rw [if_neg c24] at H
                              exact absurd H (by simp)
                          · rw [if_neg c23] at H
                            have c23b0 : decide (x11_4 < (l0.length : Int)) = false := decide_eq_false c23
                            clear c23
                            have H' := Aside0.mk H
                            clear H
                            go_wp2
                            go_loopg [12] k4 (fun kq v12 w' => ∃ (x10_5 : List Int) (x12_5 : Int), v12 = .int .i64 x12_5 ∧ Aside0 (milllaw10_PlanWhole.l1 kq l0 a1 t257 (l0.length : Int) x10_5 x12_5 = some r) ∧ Aside0 (kq ≤ k4) ∧ Aside0 (Kd.N k51 51 w' w.heap.size (fun k_ => some k_ ≠ (v263 : Value).ownBlock) (.slice Ao20 t257.length co20) t257) ∧ Aside0 (Kd.R (Kd.int .i64) 3 w' w.heap.size (fun _ => True) v263 x10_5) ∧ Aside0 (Below w.heap.size w w'))
                            case atStart => exact ⟨(x10_4), (0), (by first | rfl | (simp; done) | (simp [*]; done)), H', ⟨Nat.le_refl _⟩, ⟨by (with_reducible repeat (first | apply Kd.N_alloc | apply Kd.N_drewN | apply Kd.N_drew)); exact HO_6.out⟩, ⟨by (with_reducible repeat (first | apply Kd.R_alloc | apply Kd.R_drewN | apply Kd.R_drew)); exact HO_10.out⟩, ⟨by repeat (first | (with_reducible first | exact HB.out | apply below_alloc | apply pw_below_drewN | apply below_drew1) | exact HB.out)⟩⟩
                            case round =>
                              clear H'
                              try clear c1
                              try clear c2
                              try clear p2
                              try clear q2
                              try clear hx2
                              try clear hf2
                              try clear c5
                              try clear c5b0
                              try clear c5b1
                              try clear c6
                              try clear p6
                              try clear c10
                              try clear c10b0
                              try clear c10b1
                              try clear c11
                              try clear c11b0
                              try clear c11b1
                              try clear c14
                              try clear c14b0
                              try clear c14b1
                              try clear c16
                              try clear c18
                              try clear c18b0
                              try clear c18b1
                              try clear c19
                              try clear c19b0
                              try clear c19b1
                              try clear c23
                              try clear c23b0
                              try clear c24
                              try clear c24b0
                              try clear c25
                              try clear c25b0
                              try clear c26
                              try clear p26
                              try clear q26
                              try clear hx26
                              try clear hf26
                              try clear hx26_0
                              try clear p2
                              try clear p26
                              try clear p6
                              try clear q26
                              obtain ⟨x10_5, x12_5, rfl, HA, HK5, HO_6, HO_10, HB⟩ := hrel
                              cases gk with
                              | zero => exact absurd HA.out (by simp [milllaw10_PlanWhole.l1])
                              | succ k5 =>
                                have H := HA.out
                                clear HA
                                simp only [milllaw10_PlanWhole.l1] at H
                                by_cases c29 : x12_5 < (t257.length : Int)
                                · rw [if_pos c29] at H
                                  have c29b0 : decide (x12_5 < (t257.length : Int)) = true := decide_eq_true c29
                                  clear c29
                                  have HC30 := Aside0.mk H
                                  clear H
                                  go_upto_region 19 with (fail)
                                  go_cut [104] (fun v104 wc => ∃ (kq : Nat) (x104_29 : Bool), v104 = .bool x104_29 ∧ Aside0 (milllaw10_PlanWhole.j5 kq l0 a1 t257 (l0.length : Int) x10_5 x12_5 x104_29 = some r) ∧ Aside0 (kq ≤ k5) ∧ Aside0 (Kd.N k51 51 wc w.heap.size (fun k_ => some k_ ≠ (v263 : Value).ownBlock) (.slice Ao20 t257.length co20) t257) ∧ Aside0 (Kd.R (Kd.int .i64) 3 wc w.heap.size (fun _ => True) v263 x10_5) ∧ Aside0 (Below w.heap.size w wc))
                                  case first =>
                                    have H := HC30.out
                                    clear HC30
                                    by_cases c31 : 0 ≤ x12_5
                                    · rw [if_pos c31] at H
                                      have c31b0 : decide (0 ≤ x12_5) = true := decide_eq_true c31
                                      clear c31
                                      (first | rw [c31b0] | (simp only [i64_w, i32_w]; rw [c31b0]) | skip)
                                      by_cases c32 : ((rd_T51 t257 x12_5).f1) = (wrap64 ((l0.length : Int) + x12_5))
                                      · rw [if_pos c32] at H
                                        have c32b0 : (((rd_T51 t257 x12_5).f1) == (wrap64 ((l0.length : Int) + x12_5))) = true := beq_iff_eq.mpr c32
                                        have c32b1 : (((rd_T51 t257 x12_5).f1) != (wrap64 ((l0.length : Int) + x12_5))) = false := bne_eq_false_iff_eq.mpr c32
                                        clear c32
                                        by_cases c33 : (((rd_T51 t257 x12_5).f0).length : Int) > a1
                                        · rw [if_pos c33] at H
                                          have c33b0 : decide (a1 < (((rd_T51 t257 x12_5).f0).length : Int)) = true := decide_eq_true c33
                                          clear c33
                                          have H' := Aside0.mk H
                                          clear H
                                          have p269 : 0 ≤ (x12_5 : Int) := of_decide_eq_true (by first | (with_reducible assumption) | assumption)
                                          have q269 : x12_5 < (t257.length : Int) := of_decide_eq_true (by first | (with_reducible assumption) | assumption)
                                          obtain ⟨ad269, A269_0, c269_0, e269, hx269_0, hx269_1, hl269_0, hi269_0⟩ := at_T51 (Kd.N_reads' HO_6.out).2.2 x12_5 p269 q269
                                          cases e269
                                          obtain ⟨ce269, hce269, hMe269, hcc269⟩ := Kd.N_get HO_6.out z51 x12_5 p269 (by first | exact q269 | exact of_decide_eq_true (by first | (with_reducible assumption) | assumption) | (have e_ := (Kd.N_reads' HO_6.out).1; omega))
                                          obtain ⟨ua269_0, uc269_0, rfl, ul269_0, ge269_0⟩ := k51_openF hMe269
                                          have hv269_0 := hcc269 0 _ rfl
                                          rw [Nat.add_zero] at hv269_0
                                          replace hv269_0 := Option.some.inj (hv269_0.symm.trans hx269_0)
                                          injection hv269_0 with hva_ hvn_ hvc_
                                          rw [hva_] at ge269_0
                                          rw [hvc_] at ul269_0
                                          have HL269_0 := Aside0.mk (show Kd.V (Kd.int .i64) 3 _ w.heap.size _ _ ((rd_T51 t257 x12_5).f0) from Kd.V_mk ul269_0 ge269_0)
                                          clear hva_ hvn_ hvc_ ge269_0 ul269_0
                                          clear hcc269 hce269
                                          have HR269_0 := Aside0.mk hi269_0
                                          have HC269_0 := Aside0.mk hl269_0
                                          clear hi269_0 hl269_0
                                          replace p269 := eq_true p269
                                          replace q269 := eq_true q269
                                          have p270 : 0 ≤ (x12_5 : Int) := of_decide_eq_true (by first | (with_reducible assumption) | assumption)
                                          have q270 : x12_5 < (t257.length : Int) := of_decide_eq_true (by first | (with_reducible assumption) | assumption)
                                          obtain ⟨ad270, A270_0, c270_0, e270, hx270_0, hx270_1, hl270_0, hi270_0⟩ := at_T51 (Kd.N_reads' HO_6.out).2.2 x12_5 p270 q270
                                          obtain rfl : ad269 = ad270 := (by injection e270)
                                          obtain ⟨ce270, hce270, hMe270, hcc270⟩ := Kd.N_get HO_6.out z51 x12_5 p270 (by first | exact q270 | exact of_decide_eq_true (by first | (with_reducible assumption) | assumption) | (have e_ := (Kd.N_reads' HO_6.out).1; omega))
                                          obtain ⟨ua270_0, uc270_0, rfl, ul270_0, ge270_0⟩ := k51_openF hMe270
                                          have hv270_0 := hcc270 0 _ rfl
                                          rw [Nat.add_zero] at hv270_0
                                          replace hv270_0 := Option.some.inj (hv270_0.symm.trans hx270_0)
                                          injection hv270_0 with hva_ hvn_ hvc_
                                          rw [hva_] at ge270_0
                                          rw [hvc_] at ul270_0
                                          have HL270_0 := Aside0.mk (show Kd.V (Kd.int .i64) 3 _ w.heap.size _ _ ((rd_T51 t257 x12_5).f0) from Kd.V_mk ul270_0 ge270_0)
                                          clear hva_ hvn_ hvc_ ge270_0 ul270_0
                                          clear hcc270 hce270
                                          have HR270_0 := Aside0.mk hi270_0
                                          have HC270_0 := Aside0.mk hl270_0
                                          clear hi270_0 hl270_0
                                          replace p270 := eq_true p270
                                          replace q270 := eq_true q270
                                          have ea_ := Option.some.inj (hx269_0.symm.trans hx270_0)
                                          injection ea_ with ea_ en_ ec_
                                          subst ea_
                                          subst ec_
                                          clear en_
                                          go_wp2
                                          go_meet
                                          case rel => exact ⟨_, (true), (by first | rfl | (simp; done) | (simp [*]; done)), H', ⟨by have := HJ3.out; have := HJ7.out; have := HJ11.out; have := HK4.out; have := HK5.out; first | omega | exact Nat.le_refl _⟩, ⟨by (with_reducible repeat (first | apply Kd.N_alloc | apply Kd.N_drewN | apply Kd.N_drew)); exact HO_6.out⟩, ⟨by (with_reducible repeat (first | apply Kd.R_alloc | apply Kd.R_drewN | apply Kd.R_drew)); exact HO_10.out⟩, ⟨by repeat (first | (with_reducible first | exact HB.out | apply below_alloc | apply pw_below_drewN | apply below_drew1) | exact HB.out)⟩⟩
                                        · rw [if_neg c33] at H
                                          have c33b0 : decide (a1 < (((rd_T51 t257 x12_5).f0).length : Int)) = false := decide_eq_false c33
                                          clear c33
                                          by_cases c34 : x12_5 > 0
                                          · rw [if_pos c34] at H
                                            have c34b0 : decide (0 < x12_5) = true := decide_eq_true c34
                                            clear c34
                                            have H' := Aside0.mk H
                                            clear H
                                            have p269 : 0 ≤ (x12_5 : Int) := of_decide_eq_true (by first | (with_reducible assumption) | assumption)
                                            have q269 : x12_5 < (t257.length : Int) := of_decide_eq_true (by first | (with_reducible assumption) | assumption)
                                            obtain ⟨ad269, A269_0, c269_0, e269, hx269_0, hx269_1, hl269_0, hi269_0⟩ := at_T51 (Kd.N_reads' HO_6.out).2.2 x12_5 p269 q269
                                            cases e269
                                            obtain ⟨ce269, hce269, hMe269, hcc269⟩ := Kd.N_get HO_6.out z51 x12_5 p269 (by first | exact q269 | exact of_decide_eq_true (by first | (with_reducible assumption) | assumption) | (have e_ := (Kd.N_reads' HO_6.out).1; omega))
                                            obtain ⟨ua269_0, uc269_0, rfl, ul269_0, ge269_0⟩ := k51_openF hMe269
                                            have hv269_0 := hcc269 0 _ rfl
                                            rw [Nat.add_zero] at hv269_0
                                            replace hv269_0 := Option.some.inj (hv269_0.symm.trans hx269_0)
                                            injection hv269_0 with hva_ hvn_ hvc_
                                            rw [hva_] at ge269_0
                                            rw [hvc_] at ul269_0
                                            have HL269_0 := Aside0.mk (show Kd.V (Kd.int .i64) 3 _ w.heap.size _ _ ((rd_T51 t257 x12_5).f0) from Kd.V_mk ul269_0 ge269_0)
                                            clear hva_ hvn_ hvc_ ge269_0 ul269_0
                                            clear hcc269 hce269
                                            have HR269_0 := Aside0.mk hi269_0
                                            have HC269_0 := Aside0.mk hl269_0
                                            clear hi269_0 hl269_0
                                            replace p269 := eq_true p269
                                            replace q269 := eq_true q269
                                            have p270 : 0 ≤ (x12_5 : Int) := of_decide_eq_true (by first | (with_reducible assumption) | assumption)
                                            have q270 : x12_5 < (t257.length : Int) := of_decide_eq_true (by first | (with_reducible assumption) | assumption)
                                            obtain ⟨ad270, A270_0, c270_0, e270, hx270_0, hx270_1, hl270_0, hi270_0⟩ := at_T51 (Kd.N_reads' HO_6.out).2.2 x12_5 p270 q270
                                            obtain rfl : ad269 = ad270 := (by injection e270)
                                            obtain ⟨ce270, hce270, hMe270, hcc270⟩ := Kd.N_get HO_6.out z51 x12_5 p270 (by first | exact q270 | exact of_decide_eq_true (by first | (with_reducible assumption) | assumption) | (have e_ := (Kd.N_reads' HO_6.out).1; omega))
                                            obtain ⟨ua270_0, uc270_0, rfl, ul270_0, ge270_0⟩ := k51_openF hMe270
                                            have hv270_0 := hcc270 0 _ rfl
                                            rw [Nat.add_zero] at hv270_0
                                            replace hv270_0 := Option.some.inj (hv270_0.symm.trans hx270_0)
                                            injection hv270_0 with hva_ hvn_ hvc_
                                            rw [hva_] at ge270_0
                                            rw [hvc_] at ul270_0
                                            have HL270_0 := Aside0.mk (show Kd.V (Kd.int .i64) 3 _ w.heap.size _ _ ((rd_T51 t257 x12_5).f0) from Kd.V_mk ul270_0 ge270_0)
                                            clear hva_ hvn_ hvc_ ge270_0 ul270_0
                                            clear hcc270 hce270
                                            have HR270_0 := Aside0.mk hi270_0
                                            have HC270_0 := Aside0.mk hl270_0
                                            clear hi270_0 hl270_0
                                            replace p270 := eq_true p270
                                            replace q270 := eq_true q270
                                            have ea_ := Option.some.inj (hx269_0.symm.trans hx270_0)
                                            injection ea_ with ea_ en_ ec_
                                            subst ea_
                                            subst ec_
                                            clear en_
                                            have p271 : 0 ≤ (x12_5 : Int) := of_decide_eq_true (by first | (with_reducible assumption) | assumption)
                                            have q271 : x12_5 < (t257.length : Int) := of_decide_eq_true (by first | (with_reducible assumption) | assumption)
                                            obtain ⟨ad271, A271_0, c271_0, e271, hx271_0, hx271_1, hl271_0, hi271_0⟩ := at_T51 (Kd.N_reads' HO_6.out).2.2 x12_5 p271 q271
                                            obtain rfl : ad269 = ad271 := (by injection e271)
                                            obtain ⟨ce271, hce271, hMe271, hcc271⟩ := Kd.N_get HO_6.out z51 x12_5 p271 (by first | exact q271 | exact of_decide_eq_true (by first | (with_reducible assumption) | assumption) | (have e_ := (Kd.N_reads' HO_6.out).1; omega))
                                            obtain ⟨ua271_0, uc271_0, rfl, ul271_0, ge271_0⟩ := k51_openF hMe271
                                            have hv271_0 := hcc271 0 _ rfl
                                            rw [Nat.add_zero] at hv271_0
                                            replace hv271_0 := Option.some.inj (hv271_0.symm.trans hx271_0)
                                            injection hv271_0 with hva_ hvn_ hvc_
                                            rw [hva_] at ge271_0
                                            rw [hvc_] at ul271_0
                                            have HL271_0 := Aside0.mk (show Kd.V (Kd.int .i64) 3 _ w.heap.size _ _ ((rd_T51 t257 x12_5).f0) from Kd.V_mk ul271_0 ge271_0)
                                            clear hva_ hvn_ hvc_ ge271_0 ul271_0
                                            clear hcc271 hce271
                                            have HR271_0 := Aside0.mk hi271_0
                                            have HC271_0 := Aside0.mk hl271_0
                                            clear hi271_0 hl271_0
                                            replace p271 := eq_true p271
                                            replace q271 := eq_true q271
                                            have ea_ := Option.some.inj (hx269_0.symm.trans hx271_0)
                                            injection ea_ with ea_ en_ ec_
                                            subst ea_
                                            subst ec_
                                            clear en_
                                            go_wp2
                                            go_meet
                                            case rel => exact ⟨_, (((((rd_T51 t257 x12_5).f0).length : Int) != a1)), (by first | rfl | (simp; done) | (simp [*]; done)), H', ⟨by have := HJ3.out; have := HJ7.out; have := HJ11.out; have := HK4.out; have := HK5.out; first | omega | exact Nat.le_refl _⟩, ⟨by (with_reducible repeat (first | apply Kd.N_alloc | apply Kd.N_drewN | apply Kd.N_drew)); exact HO_6.out⟩, ⟨by (with_reducible repeat (first | apply Kd.R_alloc | apply Kd.R_drewN | apply Kd.R_drew)); exact HO_10.out⟩, ⟨by repeat (first | (with_reducible first | exact HB.out | apply below_alloc | apply pw_below_drewN | apply below_drew1) | exact HB.out)⟩⟩
                                          · rw [if_neg c34] at H
                                            have c34b0 : decide (0 < x12_5) = false := decide_eq_false c34
                                            clear c34
                                            have H' := Aside0.mk H
                                            clear H
                                            have p269 : 0 ≤ (x12_5 : Int) := of_decide_eq_true (by first | (with_reducible assumption) | assumption)
                                            have q269 : x12_5 < (t257.length : Int) := of_decide_eq_true (by first | (with_reducible assumption) | assumption)
                                            obtain ⟨ad269, A269_0, c269_0, e269, hx269_0, hx269_1, hl269_0, hi269_0⟩ := at_T51 (Kd.N_reads' HO_6.out).2.2 x12_5 p269 q269
                                            cases e269
                                            obtain ⟨ce269, hce269, hMe269, hcc269⟩ := Kd.N_get HO_6.out z51 x12_5 p269 (by first | exact q269 | exact of_decide_eq_true (by first | (with_reducible assumption) | assumption) | (have e_ := (Kd.N_reads' HO_6.out).1; omega))
                                            obtain ⟨ua269_0, uc269_0, rfl, ul269_0, ge269_0⟩ := k51_openF hMe269
                                            have hv269_0 := hcc269 0 _ rfl
                                            rw [Nat.add_zero] at hv269_0
                                            replace hv269_0 := Option.some.inj (hv269_0.symm.trans hx269_0)
                                            injection hv269_0 with hva_ hvn_ hvc_
                                            rw [hva_] at ge269_0
                                            rw [hvc_] at ul269_0
                                            have HL269_0 := Aside0.mk (show Kd.V (Kd.int .i64) 3 _ w.heap.size _ _ ((rd_T51 t257 x12_5).f0) from Kd.V_mk ul269_0 ge269_0)
                                            clear hva_ hvn_ hvc_ ge269_0 ul269_0
                                            clear hcc269 hce269
                                            have HR269_0 := Aside0.mk hi269_0
                                            have HC269_0 := Aside0.mk hl269_0
                                            clear hi269_0 hl269_0
                                            replace p269 := eq_true p269
                                            replace q269 := eq_true q269
                                            have p270 : 0 ≤ (x12_5 : Int) := of_decide_eq_true (by first | (with_reducible assumption) | assumption)
                                            have q270 : x12_5 < (t257.length : Int) := of_decide_eq_true (by first | (with_reducible assumption) | assumption)
                                            obtain ⟨ad270, A270_0, c270_0, e270, hx270_0, hx270_1, hl270_0, hi270_0⟩ := at_T51 (Kd.N_reads' HO_6.out).2.2 x12_5 p270 q270
                                            obtain rfl : ad269 = ad270 := (by injection e270)
                                            obtain ⟨ce270, hce270, hMe270, hcc270⟩ := Kd.N_get HO_6.out z51 x12_5 p270 (by first | exact q270 | exact of_decide_eq_true (by first | (with_reducible assumption) | assumption) | (have e_ := (Kd.N_reads' HO_6.out).1; omega))
                                            obtain ⟨ua270_0, uc270_0, rfl, ul270_0, ge270_0⟩ := k51_openF hMe270
                                            have hv270_0 := hcc270 0 _ rfl
                                            rw [Nat.add_zero] at hv270_0
                                            replace hv270_0 := Option.some.inj (hv270_0.symm.trans hx270_0)
                                            injection hv270_0 with hva_ hvn_ hvc_
                                            rw [hva_] at ge270_0
                                            rw [hvc_] at ul270_0
                                            have HL270_0 := Aside0.mk (show Kd.V (Kd.int .i64) 3 _ w.heap.size _ _ ((rd_T51 t257 x12_5).f0) from Kd.V_mk ul270_0 ge270_0)
                                            clear hva_ hvn_ hvc_ ge270_0 ul270_0
                                            clear hcc270 hce270
                                            have HR270_0 := Aside0.mk hi270_0
                                            have HC270_0 := Aside0.mk hl270_0
                                            clear hi270_0 hl270_0
                                            replace p270 := eq_true p270
                                            replace q270 := eq_true q270
                                            have ea_ := Option.some.inj (hx269_0.symm.trans hx270_0)
                                            injection ea_ with ea_ en_ ec_
                                            subst ea_
                                            subst ec_
                                            clear en_
                                            go_wp2
                                            go_meet
                                            case rel => exact ⟨_, (false), (by first | rfl | (simp; done) | (simp [*]; done)), H', ⟨by have := HJ3.out; have := HJ7.out; have := HJ11.out; have := HK4.out; have := HK5.out; first | omega | exact Nat.le_refl _⟩, ⟨by (with_reducible repeat (first | apply Kd.N_alloc | apply Kd.N_drewN | apply Kd.N_drew)); exact HO_6.out⟩, ⟨by (with_reducible repeat (first | apply Kd.R_alloc | apply Kd.R_drewN | apply Kd.R_drew)); exact HO_10.out⟩, ⟨by repeat (first | (with_reducible first | exact HB.out | apply below_alloc | apply pw_below_drewN | apply below_drew1) | exact HB.out)⟩⟩
                                      · rw [if_neg c32] at H
                                        have c32b0 : (((rd_T51 t257 x12_5).f1) == (wrap64 ((l0.length : Int) + x12_5))) = false := beq_eq_false_iff_ne.mpr c32
                                        have c32b1 : (((rd_T51 t257 x12_5).f1) != (wrap64 ((l0.length : Int) + x12_5))) = true := bne_iff_ne.mpr c32
                                        have H' := Aside0.mk H
                                        clear H
                                        have p269 : 0 ≤ (x12_5 : Int) := of_decide_eq_true (by first | (with_reducible assumption) | assumption)
                                        have q269 : x12_5 < (t257.length : Int) := of_decide_eq_true (by first | (with_reducible assumption) | assumption)
                                        obtain ⟨ad269, A269_0, c269_0, e269, hx269_0, hx269_1, hl269_0, hi269_0⟩ := at_T51 (Kd.N_reads' HO_6.out).2.2 x12_5 p269 q269
                                        cases e269
                                        obtain ⟨ce269, hce269, hMe269, hcc269⟩ := Kd.N_get HO_6.out z51 x12_5 p269 (by first | exact q269 | exact of_decide_eq_true (by first | (with_reducible assumption) | assumption) | (have e_ := (Kd.N_reads' HO_6.out).1; omega))
                                        obtain ⟨ua269_0, uc269_0, rfl, ul269_0, ge269_0⟩ := k51_openF hMe269
                                        have hv269_0 := hcc269 0 _ rfl
                                        rw [Nat.add_zero] at hv269_0
                                        replace hv269_0 := Option.some.inj (hv269_0.symm.trans hx269_0)
                                        injection hv269_0 with hva_ hvn_ hvc_
                                        rw [hva_] at ge269_0
                                        rw [hvc_] at ul269_0
                                        have HL269_0 := Aside0.mk (show Kd.V (Kd.int .i64) 3 _ w.heap.size _ _ ((rd_T51 t257 x12_5).f0) from Kd.V_mk ul269_0 ge269_0)
                                        clear hva_ hvn_ hvc_ ge269_0 ul269_0
                                        clear hcc269 hce269
                                        have HR269_0 := Aside0.mk hi269_0
                                        have HC269_0 := Aside0.mk hl269_0
                                        clear hi269_0 hl269_0
                                        replace p269 := eq_true p269
                                        replace q269 := eq_true q269
                                        go_wp2
                                        go_meet
                                        case rel => exact ⟨_, (true), (by first | rfl | (simp; done) | (simp [*]; done)), H', ⟨by have := HJ3.out; have := HJ7.out; have := HJ11.out; have := HK4.out; have := HK5.out; first | omega | exact Nat.le_refl _⟩, ⟨by (with_reducible repeat (first | apply Kd.N_alloc | apply Kd.N_drewN | apply Kd.N_drew)); exact HO_6.out⟩, ⟨by (with_reducible repeat (first | apply Kd.R_alloc | apply Kd.R_drewN | apply Kd.R_drew)); exact HO_10.out⟩, ⟨by repeat (first | (with_reducible first | exact HB.out | apply below_alloc | apply pw_below_drewN | apply below_drew1) | exact HB.out)⟩⟩
                                    · rw [if_neg c31] at H
                                      exact absurd H (by simp)
                                  case rest =>
                                    clear HC30
                                    try clear c1
                                    try clear c2
                                    try clear p2
                                    try clear q2
                                    try clear hx2
                                    try clear hf2
                                    try clear c3
                                    try clear c5
                                    try clear c5b0
                                    try clear c5b1
                                    try clear c6
                                    try clear p6
                                    try clear c10
                                    try clear c10b0
                                    try clear c10b1
                                    try clear c11
                                    try clear c11b0
                                    try clear c11b1
                                    try clear c14
                                    try clear c14b0
                                    try clear c14b1
                                    try clear c16
                                    try clear c18
                                    try clear c18b0
                                    try clear c18b1
                                    try clear c19
                                    try clear c19b0
                                    try clear c19b1
                                    try clear c23
                                    try clear c23b0
                                    try clear c24
                                    try clear c24b0
                                    try clear c25
                                    try clear c25b0
                                    try clear c26
                                    try clear p26
                                    try clear q26
                                    try clear hx26
                                    try clear hf26
                                    try clear c27
                                    try clear p27
                                    try clear q27
                                    try clear hx27
                                    try clear c29
                                    try clear c29b0
                                    try clear c31
                                    try clear c31b0
                                    try clear c32
                                    try clear c32b0
                                    try clear c32b1
                                    try clear c33
                                    try clear c33b0
                                    try clear c34
                                    try clear c34b0
                                    try clear hx269_0
                                    try clear hx269_1
                                    try clear hx26_0
                                    try clear hx270_0
                                    try clear hx270_1
                                    try clear hx271_0
                                    try clear hx271_1
                                    try clear p2
                                    try clear p26
                                    try clear p269
                                    try clear p270
                                    try clear p271
                                    try clear p6
                                    try clear q2
                                    try clear q26
                                    try clear q269
                                    try clear q270
                                    try clear q271
                                    obtain ⟨kq, x104_29, rfl, HA, HJ29, HO_6, HO_10, HB⟩ := hcut
                                    cases kq with
                                    | zero => exact absurd HA.out (by simp [milllaw10_PlanWhole.j5])
                                    | succ kj29 =>
                                      have H := HA.out
                                      clear HA
                                      simp only [milllaw10_PlanWhole.j5] at H
                                      by_cases c35 : x104_29 = true
                                      · subst c35
                                        have H1 : (some false) = some r := by rw [if_pos rfl] at H; exact H
                                        clear H
                                        have H := H1
                                        clear H1
                                        obtain rfl := Option.some.inj H
                                        go_wp2
                                        go_ret
                                        exact ⟨by first | rfl | (simp [errW_none, errW_some] <;> rfl) | (simp only [← hji17]; first | rfl | (simp [errW_none, errW_some] <;> rfl)) | (simp [*, errW_none, errW_some] <;> rfl), by repeat (first | (with_reducible first | exact HB.out | apply below_alloc | apply pw_below_drewN | apply below_drew1) | exact HB.out)⟩
                                      · replace c35 := Bool.eq_false_iff.mpr c35
                                        subst c35
                                        have H1 : (milllaw10_PlanWhole.l2 kj29 l0 a1 t257 (l0.length : Int) x10_5 x12_5 0) = some r := by rw [if_neg (show ¬ (false = true) by decide)] at H; exact H
                                        clear H
                                        have H := H1
                                        clear H1
                                        have H' := Aside0.mk H
                                        clear H
                                        go_wp2
                                        go_loopg [13] kj29 (fun kq v13 w' => ∃ (x10_7 : List Int) (x13_7 : Int), v13 = .int .i64 x13_7 ∧ Aside0 (milllaw10_PlanWhole.l2 kq l0 a1 t257 (l0.length : Int) x10_7 x12_5 x13_7 = some r) ∧ Aside0 (kq ≤ kj29) ∧ Aside0 (Kd.N k51 51 w' w.heap.size (fun k_ => some k_ ≠ (v263 : Value).ownBlock) (.slice Ao20 t257.length co20) t257) ∧ Aside0 (Kd.R (Kd.int .i64) 3 w' w.heap.size (fun _ => True) v263 x10_7) ∧ Aside0 (Below w.heap.size w w'))
                                        case atStart => exact ⟨(x10_5), (0), (by first | rfl | (simp; done) | (simp [*]; done)), H', ⟨Nat.le_refl _⟩, ⟨by (with_reducible repeat (first | apply Kd.N_alloc | apply Kd.N_drewN | apply Kd.N_drew)); exact HO_6.out⟩, ⟨by (with_reducible repeat (first | apply Kd.R_alloc | apply Kd.R_drewN | apply Kd.R_drew)); exact HO_10.out⟩, ⟨by repeat (first | (with_reducible first | exact HB.out | apply below_alloc | apply pw_below_drewN | apply below_drew1) | exact HB.out)⟩⟩
                                        case round =>
                                          clear H'
                                          try clear c1
                                          try clear c2
                                          try clear p2
                                          try clear q2
                                          try clear hx2
                                          try clear hf2
                                          try clear c3
                                          try clear c5
                                          try clear c5b0
                                          try clear c5b1
                                          try clear c6
                                          try clear p6
                                          try clear c10
                                          try clear c10b0
                                          try clear c10b1
                                          try clear c11
                                          try clear c11b0
                                          try clear c11b1
                                          try clear c14
                                          try clear c14b0
                                          try clear c14b1
                                          try clear c16
                                          try clear c18
                                          try clear c18b0
                                          try clear c18b1
                                          try clear c19
                                          try clear c19b0
                                          try clear c19b1
                                          try clear c23
                                          try clear c23b0
                                          try clear c24
                                          try clear c24b0
                                          try clear c25
                                          try clear c25b0
                                          try clear c26
                                          try clear p26
                                          try clear q26
                                          try clear hx26
                                          try clear hf26
                                          try clear c27
                                          try clear p27
                                          try clear q27
                                          try clear hx27
                                          try clear c29
                                          try clear c29b0
                                          try clear c31
                                          try clear c31b0
                                          try clear c32
                                          try clear c32b0
                                          try clear c32b1
                                          try clear c33
                                          try clear c33b0
                                          try clear c34
                                          try clear c34b0
                                          try clear c35
                                          try clear hx269_0
                                          try clear hx269_1
                                          try clear hx26_0
                                          try clear hx270_0
                                          try clear hx270_1
                                          try clear hx271_0
                                          try clear hx271_1
                                          try clear p2
                                          try clear p26
                                          try clear p269
                                          try clear p27
                                          try clear p270
                                          try clear p271
                                          try clear p6
                                          try clear q2
                                          try clear q26
                                          try clear q269
                                          try clear q27
                                          try clear q270
                                          try clear q271
                                          obtain ⟨x10_7, x13_7, rfl, HA, HK7, HO_6, HO_10, HB⟩ := hrel
                                          cases gk with
                                          | zero => exact absurd HA.out (by simp [milllaw10_PlanWhole.l2])
                                          | succ k7 =>
                                            have H := HA.out
                                            clear HA
                                            simp only [milllaw10_PlanWhole.l2] at H
                                            by_cases c36 : 0 ≤ x12_5
                                            · rw [if_pos c36] at H
                                              have c36b0 : decide (0 ≤ x12_5) = true := decide_eq_true c36
                                              clear c36
                                              by_cases c37 : x12_5 < (t257.length : Int)
                                              · rw [if_pos c37] at H
                                                have c37b0 : decide (x12_5 < (t257.length : Int)) = true := decide_eq_true c37
                                                clear c37
                                                by_cases c38 : x13_7 < (((rd_T51 t257 x12_5).f0).length : Int)
                                                · rw [if_pos c38] at H
                                                  have c38b0 : decide (x13_7 < (((rd_T51 t257 x12_5).f0).length : Int)) = true := decide_eq_true c38
                                                  clear c38
                                                  by_cases c39 : 0 ≤ x13_7
                                                  · rw [if_pos c39] at H
                                                    have c39b0 : decide (0 ≤ x13_7) = true := decide_eq_true c39
                                                    clear c39
                                                    by_cases c40 : (rd ((rd_T51 t257 x12_5).f0) x13_7) < 0
                                                    · rw [if_pos c40] at H
                                                      have c40b0 : decide ((rd ((rd_T51 t257 x12_5).f0) x13_7) < 0) = true := decide_eq_true c40
                                                      clear c40
                                                      obtain rfl := Option.some.inj H
                                                      have p272 : 0 ≤ (x12_5 : Int) := of_decide_eq_true (by first | (with_reducible assumption) | assumption)
                                                      have q272 : x12_5 < (t257.length : Int) := of_decide_eq_true (by first | (with_reducible assumption) | assumption)
                                                      obtain ⟨ad272, A272_0, c272_0, e272, hx272_0, hx272_1, hl272_0, hi272_0⟩ := at_T51 (Kd.N_reads' HO_6.out).2.2 x12_5 p272 q272
                                                      cases e272
                                                      obtain ⟨ce272, hce272, hMe272, hcc272⟩ := Kd.N_get HO_6.out z51 x12_5 p272 (by first | exact q272 | exact of_decide_eq_true (by first | (with_reducible assumption) | assumption) | (have e_ := (Kd.N_reads' HO_6.out).1; omega))
                                                      obtain ⟨ua272_0, uc272_0, rfl, ul272_0, ge272_0⟩ := k51_openF hMe272
                                                      have hv272_0 := hcc272 0 _ rfl
                                                      rw [Nat.add_zero] at hv272_0
                                                      replace hv272_0 := Option.some.inj (hv272_0.symm.trans hx272_0)
                                                      injection hv272_0 with hva_ hvn_ hvc_
                                                      rw [hva_] at ge272_0
                                                      rw [hvc_] at ul272_0
                                                      have HL272_0 := Aside0.mk (show Kd.V (Kd.int .i64) 3 _ w.heap.size _ _ ((rd_T51 t257 x12_5).f0) from Kd.V_mk ul272_0 ge272_0)
                                                      clear hva_ hvn_ hvc_ ge272_0 ul272_0
                                                      clear hcc272 hce272
                                                      have HR272_0 := Aside0.mk hi272_0
                                                      have HC272_0 := Aside0.mk hl272_0
                                                      clear hi272_0 hl272_0
                                                      replace p272 := eq_true p272
                                                      replace q272 := eq_true q272
                                                      have p273 : 0 ≤ (x12_5 : Int) := of_decide_eq_true (by first | (with_reducible assumption) | assumption)
                                                      have q273 : x12_5 < (t257.length : Int) := of_decide_eq_true (by first | (with_reducible assumption) | assumption)
                                                      obtain ⟨ad273, A273_0, c273_0, e273, hx273_0, hx273_1, hl273_0, hi273_0⟩ := at_T51 (Kd.N_reads' HO_6.out).2.2 x12_5 p273 q273
                                                      obtain rfl : ad272 = ad273 := (by injection e273)
                                                      obtain ⟨ce273, hce273, hMe273, hcc273⟩ := Kd.N_get HO_6.out z51 x12_5 p273 (by first | exact q273 | exact of_decide_eq_true (by first | (with_reducible assumption) | assumption) | (have e_ := (Kd.N_reads' HO_6.out).1; omega))
                                                      obtain ⟨ua273_0, uc273_0, rfl, ul273_0, ge273_0⟩ := k51_openF hMe273
                                                      have hv273_0 := hcc273 0 _ rfl
                                                      rw [Nat.add_zero] at hv273_0
                                                      replace hv273_0 := Option.some.inj (hv273_0.symm.trans hx273_0)
                                                      injection hv273_0 with hva_ hvn_ hvc_
                                                      rw [hva_] at ge273_0
                                                      rw [hvc_] at ul273_0
                                                      have HL273_0 := Aside0.mk (show Kd.V (Kd.int .i64) 3 _ w.heap.size _ _ ((rd_T51 t257 x12_5).f0) from Kd.V_mk ul273_0 ge273_0)
                                                      clear hva_ hvn_ hvc_ ge273_0 ul273_0
                                                      clear hcc273 hce273
                                                      have HR273_0 := Aside0.mk hi273_0
                                                      have HC273_0 := Aside0.mk hl273_0
                                                      clear hi273_0 hl273_0
                                                      replace p273 := eq_true p273
                                                      replace q273 := eq_true q273
                                                      have ea_ := Option.some.inj (hx272_0.symm.trans hx273_0)
                                                      injection ea_ with ea_ en_ ec_
                                                      subst ea_
                                                      subst ec_
                                                      clear en_
                                                      have p274 : 0 ≤ (x13_7 : Int) := of_decide_eq_true (by first | (with_reducible assumption) | assumption)
                                                      have q274 : x13_7 < (((rd_T51 t257 x12_5).f0).length : Int) := of_decide_eq_true (by first | (with_reducible assumption) | assumption)
                                                      obtain ⟨ad274, e274, hx274_0⟩ := Kd.at_int (by repeat (first | (with_reducible exact HR273_0.out) | (with_reducible refine Kd.C_alloc ?_ _) | (with_reducible refine Kd.C_drewN ?_ _) | (with_reducible refine Kd.C_drew ?_) | exact HR273_0.out)) x13_7 p274 q274
                                                      cases e274
                                                      replace p274 := eq_true p274
                                                      replace q274 := eq_true q274
                                                      go_wp2
                                                      go_ret
                                                      exact ⟨by first | rfl | (simp [errW_none, errW_some] <;> rfl) | (simp only [← hji17]; first | rfl | (simp [errW_none, errW_some] <;> rfl)) | (simp [*, errW_none, errW_some] <;> rfl), by repeat (first | (with_reducible first | exact HB.out | apply below_alloc | apply pw_below_drewN | apply below_drew1) | exact HB.out)⟩
                                                    · rw [if_neg c40] at H
                                                      have c40b0 : decide ((rd ((rd_T51 t257 x12_5).f0) x13_7) < 0) = false := decide_eq_false c40
                                                      clear c40
                                                      by_cases c41 : (rd ((rd_T51 t257 x12_5).f0) x13_7) ≥ (wrap64 ((l0.length : Int) + x12_5))
                                                      · rw [if_pos c41] at H
                                                        have c41b0 : decide ((wrap64 ((l0.length : Int) + x12_5)) ≤ (rd ((rd_T51 t257 x12_5).f0) x13_7)) = true := decide_eq_true c41
                                                        clear c41
                                                        obtain rfl := Option.some.inj H
                                                        have p272 : 0 ≤ (x12_5 : Int) := of_decide_eq_true (by first | (with_reducible assumption) | assumption)
                                                        have q272 : x12_5 < (t257.length : Int) := of_decide_eq_true (by first | (with_reducible assumption) | assumption)
                                                        obtain ⟨ad272, A272_0, c272_0, e272, hx272_0, hx272_1, hl272_0, hi272_0⟩ := at_T51 (Kd.N_reads' HO_6.out).2.2 x12_5 p272 q272
                                                        cases e272
                                                        obtain ⟨ce272, hce272, hMe272, hcc272⟩ := Kd.N_get HO_6.out z51 x12_5 p272 (by first | exact q272 | exact of_decide_eq_true (by first | (with_reducible assumption) | assumption) | (have e_ := (Kd.N_reads' HO_6.out).1; omega))
                                                        obtain ⟨ua272_0, uc272_0, rfl, ul272_0, ge272_0⟩ := k51_openF hMe272
                                                        have hv272_0 := hcc272 0 _ rfl
                                                        rw [Nat.add_zero] at hv272_0
                                                        replace hv272_0 := Option.some.inj (hv272_0.symm.trans hx272_0)
                                                        injection hv272_0 with hva_ hvn_ hvc_
                                                        rw [hva_] at ge272_0
                                                        rw [hvc_] at ul272_0
                                                        have HL272_0 := Aside0.mk (show Kd.V (Kd.int .i64) 3 _ w.heap.size _ _ ((rd_T51 t257 x12_5).f0) from Kd.V_mk ul272_0 ge272_0)
                                                        clear hva_ hvn_ hvc_ ge272_0 ul272_0
                                                        clear hcc272 hce272
                                                        have HR272_0 := Aside0.mk hi272_0
                                                        have HC272_0 := Aside0.mk hl272_0
                                                        clear hi272_0 hl272_0
                                                        replace p272 := eq_true p272
                                                        replace q272 := eq_true q272
                                                        have p273 : 0 ≤ (x12_5 : Int) := of_decide_eq_true (by first | (with_reducible assumption) | assumption)
                                                        have q273 : x12_5 < (t257.length : Int) := of_decide_eq_true (by first | (with_reducible assumption) | assumption)
                                                        obtain ⟨ad273, A273_0, c273_0, e273, hx273_0, hx273_1, hl273_0, hi273_0⟩ := at_T51 (Kd.N_reads' HO_6.out).2.2 x12_5 p273 q273
                                                        obtain rfl : ad272 = ad273 := (by injection e273)
                                                        obtain ⟨ce273, hce273, hMe273, hcc273⟩ := Kd.N_get HO_6.out z51 x12_5 p273 (by first | exact q273 | exact of_decide_eq_true (by first | (with_reducible assumption) | assumption) | (have e_ := (Kd.N_reads' HO_6.out).1; omega))
                                                        obtain ⟨ua273_0, uc273_0, rfl, ul273_0, ge273_0⟩ := k51_openF hMe273
                                                        have hv273_0 := hcc273 0 _ rfl
                                                        rw [Nat.add_zero] at hv273_0
                                                        replace hv273_0 := Option.some.inj (hv273_0.symm.trans hx273_0)
                                                        injection hv273_0 with hva_ hvn_ hvc_
                                                        rw [hva_] at ge273_0
                                                        rw [hvc_] at ul273_0
                                                        have HL273_0 := Aside0.mk (show Kd.V (Kd.int .i64) 3 _ w.heap.size _ _ ((rd_T51 t257 x12_5).f0) from Kd.V_mk ul273_0 ge273_0)
                                                        clear hva_ hvn_ hvc_ ge273_0 ul273_0
                                                        clear hcc273 hce273
                                                        have HR273_0 := Aside0.mk hi273_0
                                                        have HC273_0 := Aside0.mk hl273_0
                                                        clear hi273_0 hl273_0
                                                        replace p273 := eq_true p273
                                                        replace q273 := eq_true q273
                                                        have ea_ := Option.some.inj (hx272_0.symm.trans hx273_0)
                                                        injection ea_ with ea_ en_ ec_
                                                        subst ea_
                                                        subst ec_
                                                        clear en_
                                                        have p274 : 0 ≤ (x13_7 : Int) := of_decide_eq_true (by first | (with_reducible assumption) | assumption)
                                                        have q274 : x13_7 < (((rd_T51 t257 x12_5).f0).length : Int) := of_decide_eq_true (by first | (with_reducible assumption) | assumption)
                                                        obtain ⟨ad274, e274, hx274_0⟩ := Kd.at_int (by repeat (first | (with_reducible exact HR273_0.out) | (with_reducible refine Kd.C_alloc ?_ _) | (with_reducible refine Kd.C_drewN ?_ _) | (with_reducible refine Kd.C_drew ?_) | exact HR273_0.out)) x13_7 p274 q274
                                                        cases e274
                                                        replace p274 := eq_true p274
                                                        replace q274 := eq_true q274
                                                        go_wp2
                                                        go_ret
                                                        exact ⟨by first | rfl | (simp [errW_none, errW_some] <;> rfl) | (simp only [← hji17]; first | rfl | (simp [errW_none, errW_some] <;> rfl)) | (simp [*, errW_none, errW_some] <;> rfl), by repeat (first | (with_reducible first | exact HB.out | apply below_alloc | apply pw_below_drewN | apply below_drew1) | exact HB.out)⟩
                                                      · rw [if_neg c41] at H
                                                        have c41b0 : decide ((wrap64 ((l0.length : Int) + x12_5)) ≤ (rd ((rd_T51 t257 x12_5).f0) x13_7)) = false := decide_eq_false c41
                                                        clear c41
                                                        by_cases c42 : 0 ≤ (rd ((rd_T51 t257 x12_5).f0) x13_7)
                                                        · rw [if_pos c42] at H
                                                          have c42b0 : decide (0 ≤ (rd ((rd_T51 t257 x12_5).f0) x13_7)) = true := decide_eq_true c42
                                                          clear c42
                                                          by_cases c43 : (rd ((rd_T51 t257 x12_5).f0) x13_7) < (x10_7.length : Int)
                                                          · rw [if_pos c43] at H
                                                            have c43b0 : decide ((rd ((rd_T51 t257 x12_5).f0) x13_7) < (x10_7.length : Int)) = true := decide_eq_true c43
                                                            clear c43
                                                            by_cases c44 : (rd x10_7 (rd ((rd_T51 t257 x12_5).f0) x13_7)) = 0
                                                            · rw [if_pos c44] at H
                                                              have c44b0 : ((rd x10_7 (rd ((rd_T51 t257 x12_5).f0) x13_7)) == 0) = true := beq_iff_eq.mpr c44
                                                              have c44b1 : ((rd x10_7 (rd ((rd_T51 t257 x12_5).f0) x13_7)) != 0) = false := bne_eq_false_iff_eq.mpr c44
                                                              clear c44
                                                              obtain rfl := Option.some.inj H
                                                              have p272 : 0 ≤ (x12_5 : Int) := of_decide_eq_true (by first | (with_reducible assumption) | assumption)
                                                              have q272 : x12_5 < (t257.length : Int) := of_decide_eq_true (by first | (with_reducible assumption) | assumption)
                                                              obtain ⟨ad272, A272_0, c272_0, e272, hx272_0, hx272_1, hl272_0, hi272_0⟩ := at_T51 (Kd.N_reads' HO_6.out).2.2 x12_5 p272 q272
                                                              cases e272
                                                              obtain ⟨ce272, hce272, hMe272, hcc272⟩ := Kd.N_get HO_6.out z51 x12_5 p272 (by first | exact q272 | exact of_decide_eq_true (by first | (with_reducible assumption) | assumption) | (have e_ := (Kd.N_reads' HO_6.out).1; omega))
                                                              obtain ⟨ua272_0, uc272_0, rfl, ul272_0, ge272_0⟩ := k51_openF hMe272
                                                              have hv272_0 := hcc272 0 _ rfl
                                                              rw [Nat.add_zero] at hv272_0
                                                              replace hv272_0 := Option.some.inj (hv272_0.symm.trans hx272_0)
                                                              injection hv272_0 with hva_ hvn_ hvc_
                                                              rw [hva_] at ge272_0
                                                              rw [hvc_] at ul272_0
                                                              have HL272_0 := Aside0.mk (show Kd.V (Kd.int .i64) 3 _ w.heap.size _ _ ((rd_T51 t257 x12_5).f0) from Kd.V_mk ul272_0 ge272_0)
                                                              clear hva_ hvn_ hvc_ ge272_0 ul272_0
                                                              clear hcc272 hce272
                                                              have HR272_0 := Aside0.mk hi272_0
                                                              have HC272_0 := Aside0.mk hl272_0
                                                              clear hi272_0 hl272_0
                                                              replace p272 := eq_true p272
                                                              replace q272 := eq_true q272
                                                              have p273 : 0 ≤ (x12_5 : Int) := of_decide_eq_true (by first | (with_reducible assumption) | assumption)
                                                              have q273 : x12_5 < (t257.length : Int) := of_decide_eq_true (by first | (with_reducible assumption) | assumption)
                                                              obtain ⟨ad273, A273_0, c273_0, e273, hx273_0, hx273_1, hl273_0, hi273_0⟩ := at_T51 (Kd.N_reads' HO_6.out).2.2 x12_5 p273 q273
                                                              obtain rfl : ad272 = ad273 := (by injection e273)
                                                              obtain ⟨ce273, hce273, hMe273, hcc273⟩ := Kd.N_get HO_6.out z51 x12_5 p273 (by first | exact q273 | exact of_decide_eq_true (by first | (with_reducible assumption) | assumption) | (have e_ := (Kd.N_reads' HO_6.out).1; omega))
                                                              obtain ⟨ua273_0, uc273_0, rfl, ul273_0, ge273_0⟩ := k51_openF hMe273
                                                              have hv273_0 := hcc273 0 _ rfl
                                                              rw [Nat.add_zero] at hv273_0
                                                              replace hv273_0 := Option.some.inj (hv273_0.symm.trans hx273_0)
                                                              injection hv273_0 with hva_ hvn_ hvc_
                                                              rw [hva_] at ge273_0
                                                              rw [hvc_] at ul273_0
                                                              have HL273_0 := Aside0.mk (show Kd.V (Kd.int .i64) 3 _ w.heap.size _ _ ((rd_T51 t257 x12_5).f0) from Kd.V_mk ul273_0 ge273_0)
                                                              clear hva_ hvn_ hvc_ ge273_0 ul273_0
                                                              clear hcc273 hce273
                                                              have HR273_0 := Aside0.mk hi273_0
                                                              have HC273_0 := Aside0.mk hl273_0
                                                              clear hi273_0 hl273_0
                                                              replace p273 := eq_true p273
                                                              replace q273 := eq_true q273
                                                              have ea_ := Option.some.inj (hx272_0.symm.trans hx273_0)
                                                              injection ea_ with ea_ en_ ec_
                                                              subst ea_
                                                              subst ec_
                                                              clear en_
                                                              have p274 : 0 ≤ (x13_7 : Int) := of_decide_eq_true (by first | (with_reducible assumption) | assumption)
                                                              have q274 : x13_7 < (((rd_T51 t257 x12_5).f0).length : Int) := of_decide_eq_true (by first | (with_reducible assumption) | assumption)
                                                              obtain ⟨ad274, e274, hx274_0⟩ := Kd.at_int (by repeat (first | (with_reducible exact HR273_0.out) | (with_reducible refine Kd.C_alloc ?_ _) | (with_reducible refine Kd.C_drewN ?_ _) | (with_reducible refine Kd.C_drew ?_) | exact HR273_0.out)) x13_7 p274 q274
                                                              cases e274
                                                              replace p274 := eq_true p274
                                                              replace q274 := eq_true q274
                                                              obtain ⟨Ao45, co45, eo45⟩ := Kd.R_slice HO_10.out
                                                              subst eo45
                                                              have p275 : 0 ≤ ((rd ((rd_T51 t257 x12_5).f0) x13_7) : Int) := of_decide_eq_true (by first | (with_reducible assumption) | assumption)
                                                              have q275 : (rd ((rd_T51 t257 x12_5).f0) x13_7) < (x10_7.length : Int) := of_decide_eq_true (by first | (with_reducible assumption) | assumption)
                                                              obtain ⟨ad275, e275, hx275_0⟩ := Kd.at_int (Kd.R_reads' HO_10.out).2.2 (rd ((rd_T51 t257 x12_5).f0) x13_7) p275 q275
                                                              cases e275
                                                              replace p275 := eq_true p275
                                                              replace q275 := eq_true q275
                                                              go_wp2
                                                              go_ret
                                                              exact ⟨by first | rfl | (simp [errW_none, errW_some] <;> rfl) | (simp only [← hji17]; first | rfl | (simp [errW_none, errW_some] <;> rfl)) | (simp [*, errW_none, errW_some] <;> rfl), by repeat (first | (with_reducible first | exact HB.out | apply below_alloc | apply pw_below_drewN | apply below_drew1) | exact HB.out)⟩
                                                            · rw [if_neg c44] at H
                                                              have c44b0 : ((rd x10_7 (rd ((rd_T51 t257 x12_5).f0) x13_7)) == 0) = false := beq_eq_false_iff_ne.mpr c44
                                                              have c44b1 : ((rd x10_7 (rd ((rd_T51 t257 x12_5).f0) x13_7)) != 0) = true := bne_iff_ne.mpr c44
                                                              obtain ⟨ji46, hji46⟩ : ∃ j_ : Int, (wrap64 ((l0.length : Int) + x12_5)) = j_ := ⟨_, rfl⟩
                                                              replace H : (if 0 ≤ (ji46) then (if (ji46) < (x10_7.length : Int) then (milllaw10_PlanWhole.l2 k7 l0 a1 t257 (l0.length : Int) ((x10_7.set ((ji46) : Int).toNat (wrap64 ((rd x10_7 (ji46)) + (rd x10_7 (rd ((rd_T51 t257 x12_5).f0) x13_7))))).set ((rd ((rd_T51 t257 x12_5).f0) x13_7) : Int).toNat 0) x12_5 (wrap64 (x13_7 + 1))) else (none)) else (none)) = some r := by first | (rw [hji46] at H; exact H) | (simp only [hji46] at H ⊢; exact H)
                                                              (try rw [hji46] at c41b0)
                                                              have hji46w : (IntKind.i64.wrap ((l0.length : Int) + x12_5)) = ji46 := (i64_w _).trans hji46
                                                              by_cases c47 : 0 ≤ (ji46)
                                                              · rw [if_pos c47] at H
                                                                have c47b0 : decide (0 ≤ (ji46)) = true := decide_eq_true c47
                                                                clear c47
                                                                by_cases c48 : (ji46) < (x10_7.length : Int)
                                                                · rw [if_pos c48] at H
                                                                  have c48b0 : decide ((ji46) < (x10_7.length : Int)) = true := decide_eq_true c48
                                                                  clear c48
                                                                  obtain ⟨y278, hy278⟩ : ∃ y_ : List Int, y_ = (x10_7.set ((ji46) : Int).toNat (wrap64 ((rd x10_7 (ji46)) + (rd x10_7 (rd ((rd_T51 t257 x12_5).f0) x13_7))))) := ⟨_, rfl⟩
                                                                  replace H : (milllaw10_PlanWhole.l2 k7 l0 a1 t257 (l0.length : Int) (y278.set ((rd ((rd_T51 t257 x12_5).f0) x13_7) : Int).toNat 0) x12_5 (wrap64 (x13_7 + 1))) = some r := by first | (rw [hy278]; with_reducible exact H) | (have H2_ := (Option.bind_some _ _).symm.trans H; rw [hy278]; with_reducible exact H2_) | (have H2_ := (Option.bind_some _ _).symm.trans H; with_reducible exact H2_) | with_reducible exact H | (rw [hy278]; exact H) | exact H
                                                                  have Ny278 := Aside0.mk hy278
                                                                  clear hy278
                                                                  obtain ⟨y279, hy279⟩ : ∃ y_ : List Int, y_ = (y278.set ((rd ((rd_T51 t257 x12_5).f0) x13_7) : Int).toNat 0) := ⟨_, rfl⟩
                                                                  replace H : (milllaw10_PlanWhole.l2 k7 l0 a1 t257 (l0.length : Int) y279 x12_5 (wrap64 (x13_7 + 1))) = some r := by first | (rw [hy279]; with_reducible exact H) | (have H2_ := (Option.bind_some _ _).symm.trans H; rw [hy279]; with_reducible exact H2_) | (have H2_ := (Option.bind_some _ _).symm.trans H; with_reducible exact H2_) | with_reducible exact H | (rw [hy279]; exact H) | exact H
                                                                  have Ny279 := Aside0.mk hy279
                                                                  clear hy279
                                                                  have H' := Aside0.mk H
                                                                  clear H
                                                                  have p272 : 0 ≤ (x12_5 : Int) := of_decide_eq_true (by first | (with_reducible assumption) | assumption)
                                                                  have q272 : x12_5 < (t257.length : Int) := of_decide_eq_true (by first | (with_reducible assumption) | assumption)
                                                                  obtain ⟨ad272, A272_0, c272_0, e272, hx272_0, hx272_1, hl272_0, hi272_0⟩ := at_T51 (Kd.N_reads' HO_6.out).2.2 x12_5 p272 q272
                                                                  cases e272
                                                                  obtain ⟨ce272, hce272, hMe272, hcc272⟩ := Kd.N_get HO_6.out z51 x12_5 p272 (by first | exact q272 | exact of_decide_eq_true (by first | (with_reducible assumption) | assumption) | (have e_ := (Kd.N_reads' HO_6.out).1; omega))
                                                                  obtain ⟨ua272_0, uc272_0, rfl, ul272_0, ge272_0⟩ := k51_openF hMe272
                                                                  have hv272_0 := hcc272 0 _ rfl
                                                                  rw [Nat.add_zero] at hv272_0
                                                                  replace hv272_0 := Option.some.inj (hv272_0.symm.trans hx272_0)
                                                                  injection hv272_0 with hva_ hvn_ hvc_
                                                                  rw [hva_] at ge272_0
                                                                  rw [hvc_] at ul272_0
                                                                  have HL272_0 := Aside0.mk (show Kd.V (Kd.int .i64) 3 _ w.heap.size _ _ ((rd_T51 t257 x12_5).f0) from Kd.V_mk ul272_0 ge272_0)
                                                                  clear hva_ hvn_ hvc_ ge272_0 ul272_0
                                                                  clear hcc272 hce272
                                                                  have HR272_0 := Aside0.mk hi272_0
                                                                  have HC272_0 := Aside0.mk hl272_0
                                                                  clear hi272_0 hl272_0
                                                                  replace p272 := eq_true p272
                                                                  replace q272 := eq_true q272
                                                                  have p273 : 0 ≤ (x12_5 : Int) := of_decide_eq_true (by first | (with_reducible assumption) | assumption)
                                                                  have q273 : x12_5 < (t257.length : Int) := of_decide_eq_true (by first | (with_reducible assumption) | assumption)
                                                                  obtain ⟨ad273, A273_0, c273_0, e273, hx273_0, hx273_1, hl273_0, hi273_0⟩ := at_T51 (Kd.N_reads' HO_6.out).2.2 x12_5 p273 q273
                                                                  obtain rfl : ad272 = ad273 := (by injection e273)
                                                                  obtain ⟨ce273, hce273, hMe273, hcc273⟩ := Kd.N_get HO_6.out z51 x12_5 p273 (by first | exact q273 | exact of_decide_eq_true (by first | (with_reducible assumption) | assumption) | (have e_ := (Kd.N_reads' HO_6.out).1; omega))
                                                                  obtain ⟨ua273_0, uc273_0, rfl, ul273_0, ge273_0⟩ := k51_openF hMe273
                                                                  have hv273_0 := hcc273 0 _ rfl
                                                                  rw [Nat.add_zero] at hv273_0
                                                                  replace hv273_0 := Option.some.inj (hv273_0.symm.trans hx273_0)
                                                                  injection hv273_0 with hva_ hvn_ hvc_
                                                                  rw [hva_] at ge273_0
                                                                  rw [hvc_] at ul273_0
                                                                  have HL273_0 := Aside0.mk (show Kd.V (Kd.int .i64) 3 _ w.heap.size _ _ ((rd_T51 t257 x12_5).f0) from Kd.V_mk ul273_0 ge273_0)
                                                                  clear hva_ hvn_ hvc_ ge273_0 ul273_0
                                                                  clear hcc273 hce273
                                                                  have HR273_0 := Aside0.mk hi273_0
                                                                  have HC273_0 := Aside0.mk hl273_0
                                                                  clear hi273_0 hl273_0
                                                                  replace p273 := eq_true p273
                                                                  replace q273 := eq_true q273
                                                                  have ea_ := Option.some.inj (hx272_0.symm.trans hx273_0)
                                                                  injection ea_ with ea_ en_ ec_
                                                                  subst ea_
                                                                  subst ec_
                                                                  clear en_
                                                                  have p274 : 0 ≤ (x13_7 : Int) := of_decide_eq_true (by first | (with_reducible assumption) | assumption)
                                                                  have q274 : x13_7 < (((rd_T51 t257 x12_5).f0).length : Int) := of_decide_eq_true (by first | (with_reducible assumption) | assumption)
                                                                  obtain ⟨ad274, e274, hx274_0⟩ := Kd.at_int (by repeat (first | (with_reducible exact HR273_0.out) | (with_reducible refine Kd.C_alloc ?_ _) | (with_reducible refine Kd.C_drewN ?_ _) | (with_reducible refine Kd.C_drew ?_) | exact HR273_0.out)) x13_7 p274 q274
                                                                  cases e274
                                                                  replace p274 := eq_true p274
                                                                  replace q274 := eq_true q274
                                                                  obtain ⟨Ao51, co51, eo51⟩ := Kd.R_slice HO_10.out
                                                                  subst eo51
                                                                  have p275 : 0 ≤ ((rd ((rd_T51 t257 x12_5).f0) x13_7) : Int) := of_decide_eq_true (by first | (with_reducible assumption) | assumption)
                                                                  have q275 : (rd ((rd_T51 t257 x12_5).f0) x13_7) < (x10_7.length : Int) := of_decide_eq_true (by first | (with_reducible assumption) | assumption)
                                                                  obtain ⟨ad275, e275, hx275_0⟩ := Kd.at_int (Kd.R_reads' HO_10.out).2.2 (rd ((rd_T51 t257 x12_5).f0) x13_7) p275 q275
                                                                  cases e275
                                                                  replace p275 := eq_true p275
                                                                  replace q275 := eq_true q275
                                                                  try go_wp2
                                                                  have n0_ := Aside0.mk (Kd.N_drew HO_6.out)
                                                                  have n1_ := Aside0.mk (Kd.R_drew HO_10.out)
                                                                  have n2_ := Aside0.mk (Kd.V_drew HL272_0.out)
                                                                  have n3_ := Aside0.mk (Kd.V_drew HL273_0.out)
                                                                  have n4_ := Aside0.mk (Kd.C_drew HR272_0.out)
                                                                  have n5_ := Aside0.mk (Kd.C_drew HR273_0.out)
                                                                  have n6_ := Aside0.mk (below_drew1 HB.out)
                                                                  clear HO_6
                                                                  clear HO_10
                                                                  clear HL272_0
                                                                  clear HL273_0
                                                                  clear HR272_0
                                                                  clear HR273_0
                                                                  clear HB
                                                                  have HO_6 := n0_
                                                                  have HO_10 := n1_
                                                                  have HL272_0 := n2_
                                                                  have HL273_0 := n3_
                                                                  have HR272_0 := n4_
                                                                  have HR273_0 := n5_
                                                                  have HB := n6_
                                                                  clear n0_ n1_ n2_ n3_ n4_ n5_ n6_
                                                                  have p276 : 0 ≤ ((ji46) : Int) := of_decide_eq_true (by first | (with_reducible assumption) | assumption)
                                                                  have q276 : (ji46) < (x10_7.length : Int) := of_decide_eq_true (by first | (with_reducible assumption) | assumption)
                                                                  obtain ⟨ad276, e276, hx276_0⟩ := Kd.at_int (Kd.R_reads' HO_10.out).2.2 (ji46) p276 q276
                                                                  obtain rfl : ad275 = ad276 := (by injection e276)
                                                                  replace p276 := eq_true p276
                                                                  replace q276 := eq_true q276
                                                                  have p277 : 0 ≤ ((rd ((rd_T51 t257 x12_5).f0) x13_7) : Int) := of_decide_eq_true (by first | (with_reducible assumption) | assumption)
                                                                  have q277 : (rd ((rd_T51 t257 x12_5).f0) x13_7) < (x10_7.length : Int) := of_decide_eq_true (by first | (with_reducible assumption) | assumption)
                                                                  obtain ⟨ad277, e277, hx277_0⟩ := Kd.at_int (Kd.R_reads' HO_10.out).2.2 (rd ((rd_T51 t257 x12_5).f0) x13_7) p277 q277
                                                                  obtain rfl : ad275 = ad277 := (by injection e277)
                                                                  replace p277 := eq_true p277
                                                                  replace q277 := eq_true q277
                                                                  have p49 : 0 ≤ ((ji46) : Int) := of_decide_eq_true (by first | (with_reducible assumption) | assumption)
                                                                  have q49 : ((ji46) : Int) < ((x10_7.length : Int) : Int) := of_decide_eq_true (by first | (with_reducible assumption) | assumption)
                                                                  obtain ⟨go49, co49, eo49, gb49, gl49, cl49, HG49⟩ := Kd.R_form HO_10.out (by omega)
                                                                  (first | cases eo49 | (injection eo49 with ea_ en_ ec_; (first | subst ea_ | (injection ea_ with ea_; subst ea_)); subst ec_; clear en_))
                                                                  have GB49 := Aside0.mk gb49
                                                                  have GG49 := Aside0.mk HG49
                                                                  clear gb49 gl49 HG49
                                                                  (first | simp only [add_plain] at hx275_0 | skip)
                                                                  (first | simp only [add_plain] at hx276_0 | skip)
                                                                  (first | simp only [add_plain] at hx277_0 | skip)
                                                                  obtain ⟨hx49_0, hf49_0⟩ := Kd.R_celln 0 HO_10.out ((ji46) : Int) p49 q49
                                                                  replace p49 := eq_true p49
                                                                  replace q49 := eq_true q49
                                                                  have HP53 := Kd.R_putn HO_10.out ((ji46) : Int) (wrap64 ((rd x10_7 (ji46)) + (rd x10_7 (rd ((rd_T51 t257 x12_5).f0) x13_7))))
                                                                  rw [← Ny278.out] at HP53
                                                                  have HQ53 := Aside0.mk HP53
                                                                  clear HP53
                                                                  refine start_ (n := 17) (S := fun w' => w'.cell? ⟨go49, ((ji46)).toNat, none⟩ = some (.int .i64 (rd x10_7 (ji46))) ∧ w'.cell? ⟨go49, ((rd ((rd_T51 t257 x12_5).f0) x13_7) : Int).toNat, none⟩ = some (.int .i64 (rd x10_7 (rd ((rd_T51 t257 x12_5).f0) x13_7)))) (ds := [16]) #[false, false, false, false, false, false, false, false, false, false, false, false, false, false, false, false, false] (by kernel_rfl) rfl rfl ⟨hx276_0, hx277_0⟩ (fun hHeld => ?_); refine with_tabW milllaw10_PlanWhole.tab27 milllaw10_PlanWhole.bits27 (fun HT_ HW_ => ?_)
                                                                  generalize wr.drew = w52 at HO_6 HO_10 HL272_0 HL273_0 HR272_0 HR273_0 HB GG49 HQ53 hf49_0 hx275_0 hx276_0 hx277_0 hx49_0 hHeld ⊢
                                                                  refine pure_ (i := 0) (N := some 139) (v := ?_) (a' := ?_) #[true, false, false, false, false, false, false, false, false, false, false, false, false, false, false, false, false] rfl rfl (any_of HT_.out (by kernel_rfl)) (fun _ _ _ h => h) (Or.inl ⟨by rfl, ?_⟩) ?_ ?_
                                                                  rotate_left
                                                                  · intro w'
                                                                    go_simp
                                                                    with_reducible rfl
                                                                  rotate_left
                                                                  · simp only [Act.put, List.setIfInBounds_toArray, List.set_cons_zero, List.set_cons_succ, i64_w, i32_w]
                                                                    rfl
                                                                  refine pure_ (i := 1) (N := some 140) (v := ?_) (a' := ?_) #[true, true, false, false, false, false, false, false, false, false, false, false, false, false, false, false, false] rfl rfl (any_of HT_.out (by kernel_rfl)) (fun _ _ _ h => h) (Or.inl ⟨by rfl, ?_⟩) ?_ ?_
                                                                  rotate_left
                                                                  · intro w'
                                                                    go_simp
                                                                    with_reducible rfl
                                                                  rotate_left
                                                                  · simp only [Act.put, List.setIfInBounds_toArray, List.set_cons_zero, List.set_cons_succ, i64_w, i32_w]
                                                                    rfl
                                                                  refine pure_ (i := 2) (N := some 141) (v := ?_) (a' := ?_) #[true, true, true, false, false, false, false, false, false, false, false, false, false, false, false, false, false] rfl rfl (any_of HT_.out (by kernel_rfl)) (fun _ _ _ h => h) (Or.inl ⟨by rfl, ?_⟩) ?_ ?_
                                                                  rotate_left
                                                                  · intro w'
                                                                    go_simp
                                                                    with_reducible rfl
                                                                  rotate_left
                                                                  · simp only [Act.put, List.setIfInBounds_toArray, List.set_cons_zero, List.set_cons_succ, i64_w, i32_w]
                                                                    rfl
                                                                  refine pure_ (i := 3) (N := some 142) (v := ?_) (a' := ?_) #[true, true, true, true, false, false, false, false, false, false, false, false, false, false, false, false, false] rfl rfl (any_of HT_.out (by kernel_rfl)) (fun _ _ _ h => h) (Or.inl ⟨by rfl, ?_⟩) ?_ ?_
                                                                  rotate_left
                                                                  · intro w'
                                                                    go_simp
                                                                    with_reducible rfl
                                                                  rotate_left
                                                                  · simp only [Act.put, List.setIfInBounds_toArray, List.set_cons_zero, List.set_cons_succ, i64_w, i32_w]
                                                                    rfl
                                                                  refine pure_ (i := 4) (N := some 143) (v := ?_) (a' := ?_) #[true, true, true, true, true, false, false, false, false, false, false, false, false, false, false, false, false] rfl rfl (any_of HT_.out (by kernel_rfl)) (fun _ _ _ h => h) (Or.inl ⟨by rfl, ?_⟩) ?_ ?_
                                                                  rotate_left
                                                                  · intro w'
                                                                    go_simp
                                                                    with_reducible rfl
                                                                  rotate_left
                                                                  · simp only [Act.put, List.setIfInBounds_toArray, List.set_cons_zero, List.set_cons_succ, i64_w, i32_w]
                                                                    rfl
                                                                  refine pure_ (i := 5) (N := some 144) (v := ?_) (a' := ?_) #[true, true, true, true, true, true, false, false, false, false, false, false, false, false, false, false, false] rfl rfl (any_of HT_.out (by kernel_rfl)) (fun _ _ _ h => h) (Or.inl ⟨by rfl, ?_⟩) ?_ ?_
                                                                  rotate_left
                                                                  · intro w'
                                                                    go_simp
                                                                    with_reducible rfl
                                                                  rotate_left
                                                                  · simp only [Act.put, List.setIfInBounds_toArray, List.set_cons_zero, List.set_cons_succ, i64_w, i32_w]
                                                                    rfl
                                                                  refine pure_ (i := 6) (N := some 145) (v := ?_) (a' := ?_) #[true, true, true, true, true, true, true, false, false, false, false, false, false, false, false, false, false] rfl rfl (any_of HT_.out (by kernel_rfl)) (fun _ _ _ h => h) (Or.inl ⟨by rfl, ?_⟩) ?_ ?_
                                                                  rotate_left
                                                                  · intro w'
                                                                    go_simp
                                                                    with_reducible rfl
                                                                  rotate_left
                                                                  · simp only [Act.put, List.setIfInBounds_toArray, List.set_cons_zero, List.set_cons_succ, i64_w, i32_w]
                                                                    rfl
                                                                  refine pure_ (i := 7) (N := some 146) (v := ?_) (a' := ?_) #[true, true, true, true, true, true, true, true, false, false, false, false, false, false, false, false, false] rfl rfl (any_of HT_.out (by kernel_rfl)) (fun _ _ _ h => h) (Or.inl ⟨by rfl, ?_⟩) ?_ ?_
                                                                  rotate_left
                                                                  · intro w'
                                                                    go_simp
                                                                    with_reducible rfl
                                                                  rotate_left
                                                                  · simp only [Act.put, List.setIfInBounds_toArray, List.set_cons_zero, List.set_cons_succ, i64_w, i32_w]
                                                                    rfl
                                                                  refine pure_ (i := 8) (N := some 147) (v := ?_) (a' := ?_) #[true, true, true, true, true, true, true, true, true, false, false, false, false, false, false, false, false] rfl rfl (any_of HT_.out (by kernel_rfl)) (fun _ _ _ h => h) (Or.inl ⟨by rfl, ?_⟩) ?_ ?_
                                                                  rotate_left
                                                                  · intro w'
                                                                    go_simp
                                                                    with_reducible rfl
                                                                  rotate_left
                                                                  · simp only [Act.put, List.setIfInBounds_toArray, List.set_cons_zero, List.set_cons_succ, i64_w, i32_w]
                                                                    rfl
                                                                  refine pure_ (i := 10) (N := some 149) (v := ?_) (a' := ?_) #[true, true, true, true, true, true, true, true, true, false, true, false, false, false, false, false, false] rfl rfl (any_of HT_.out (by kernel_rfl)) (fun _ _ _ h => h) (Or.inl ⟨by rfl, ?_⟩) ?_ ?_
                                                                  rotate_left
                                                                  · intro w'
                                                                    go_simp
                                                                    with_reducible rfl
                                                                  rotate_left
                                                                  · simp only [Act.put, List.setIfInBounds_toArray, List.set_cons_zero, List.set_cons_succ, i64_w, i32_w]
                                                                    rfl
                                                                  refine pure_ (i := 11) (N := some 150) (v := ?_) (a' := ?_) #[true, true, true, true, true, true, true, true, true, false, true, true, false, false, false, false, false] rfl rfl (any_of HT_.out (by kernel_rfl)) (fun _ _ _ h => h) (Or.inl ⟨by rfl, ?_⟩) ?_ ?_
                                                                  rotate_left
                                                                  · intro w'
                                                                    go_simp
                                                                    with_reducible rfl
                                                                  rotate_left
                                                                  · simp only [Act.put, List.setIfInBounds_toArray, List.set_cons_zero, List.set_cons_succ, i64_w, i32_w]
                                                                    rfl
                                                                  refine pure_ (i := 12) (N := some 151) (v := ?_) (a' := ?_) #[true, true, true, true, true, true, true, true, true, false, true, true, true, false, false, false, false] rfl rfl (any_of HT_.out (by kernel_rfl)) (fun _ _ _ h => h) (Or.inl ⟨by rfl, ?_⟩) ?_ ?_
                                                                  rotate_left
                                                                  · intro w'
                                                                    go_simp
                                                                    with_reducible rfl
                                                                  rotate_left
                                                                  · simp only [Act.put, List.setIfInBounds_toArray, List.set_cons_zero, List.set_cons_succ, i64_w, i32_w]
                                                                    rfl
                                                                  refine take_ (i := 9) (N := some 148) (v := ?_) (a' := ?_) #[true, true, true, true, true, true, true, true, true, true, true, true, true, false, false, false, false] rfl rfl (take_ofW HT_.out HW_.out (by kernel_rfl)) (fun _ _ _ h => h) (Or.inl ⟨by rfl, ?_⟩) hHeld ?_ ?_
                                                                  rotate_left
                                                                  · rintro w' ⟨s0, s1⟩
                                                                    go_simp
                                                                    with_reducible rfl
                                                                  rotate_left
                                                                  · simp only [Act.put, List.setIfInBounds_toArray, List.set_cons_zero, List.set_cons_succ, i64_w, i32_w]
                                                                    rfl
                                                                  refine take_ (i := 13) (N := some 152) (v := ?_) (a' := ?_) #[true, true, true, true, true, true, true, true, true, true, true, true, true, true, false, false, false] rfl rfl (take_ofW HT_.out HW_.out (by kernel_rfl)) (fun _ _ _ h => h) (Or.inl ⟨by rfl, ?_⟩) hHeld ?_ ?_
                                                                  rotate_left
                                                                  · rintro w' ⟨s0, s1⟩
                                                                    go_simp
                                                                    with_reducible rfl
                                                                  rotate_left
                                                                  · simp only [Act.put, List.setIfInBounds_toArray, List.set_cons_zero, List.set_cons_succ, i64_w, i32_w]
                                                                    rfl
                                                                  refine pure_ (i := 14) (N := some 153) (v := ?_) (a' := ?_) #[true, true, true, true, true, true, true, true, true, true, true, true, true, true, true, false, false] rfl rfl (any_of HT_.out (by kernel_rfl)) (fun _ _ _ h => h) (Or.inl ⟨by rfl, ?_⟩) ?_ ?_
                                                                  rotate_left
                                                                  · intro w'
                                                                    go_simp
                                                                    with_reducible rfl
                                                                  rotate_left
                                                                  · simp only [Act.put, List.setIfInBounds_toArray, List.set_cons_zero, List.set_cons_succ, i64_w, i32_w]
                                                                    rfl
                                                                  refine pure_ (i := 15) (N := some 154) (v := ?_) (a' := ?_) #[true, true, true, true, true, true, true, true, true, true, true, true, true, true, true, true, false] rfl rfl (any_of HT_.out (by kernel_rfl)) (fun _ _ _ h => h) (Or.inl ⟨by rfl, ?_⟩) ?_ ?_
                                                                  rotate_left
                                                                  · intro w'
                                                                    go_simp
                                                                    with_reducible rfl
                                                                  rotate_left
                                                                  · simp only [Act.put, List.setIfInBounds_toArray, List.set_cons_zero, List.set_cons_succ, i64_w, i32_w]
                                                                    rfl
                                                                  refine last_ (i := 16) (N := none) #[true, true, true, true, true, true, true, true, true, true, true, true, true, true, true, true, true] rfl rfl (one_of HT_.out (by kernel_rfl)) (by decide) (fun K hK => ?_)
                                                                  refine skip_ (w1 := ?_) (by rfl) rfl ?_ ?_
                                                                  rotate_left
                                                                  · go_simp
                                                                    rfl
                                                                  refine hK.out _ _ ?_
                                                                  clear hK K
                                                                  refine done_ (done_of HT_.out (by kernel_rfl)) ?_
                                                                  have n0_ : Aside0 (Kd.N k51 51 (w52.setCell ⟨go49, ((ji46) : Int).toNat, none⟩ (.int .i64 (wrap64 ((rd x10_7 (ji46)) + (rd x10_7 (rd ((rd_T51 t257 x12_5).f0) x13_7)))))) w.heap.size (fun k_ => some k_ ≠ (.slice (some ⟨go49, 0, none⟩) x10_7.length co51 : Value).ownBlock) (.slice (some ad272) t257.length co20) t257) := ⟨by (with_reducible repeat (first | apply Kd.N_alloc | apply Kd.N_drewN | apply Kd.N_drew)); exact Kd.N_mono (Kd.N_far (p := ⟨go49, ((ji46) : Int).toNat, none⟩) (Kd.N_mono HO_6.out (fun k_ hk => (⟨hk, fun e_ => hk (by rw [e_]; rfl)⟩ : _ ∧ k_ ≠ go49))) (fun _ hk => hk.2) (.int .i64 (wrap64 ((rd x10_7 (ji46)) + (rd x10_7 (rd ((rd_T51 t257 x12_5).f0) x13_7)))))) (fun _ hk => hk.1)⟩
                                                                  have n1_ : Aside0 (Kd.R (Kd.int .i64) 3 (w52.setCell ⟨go49, ((ji46) : Int).toNat, none⟩ (.int .i64 (wrap64 ((rd x10_7 (ji46)) + (rd x10_7 (rd ((rd_T51 t257 x12_5).f0) x13_7)))))) w.heap.size (fun _ => True) (.slice (some ⟨go49, 0, none⟩) x10_7.length co51) y278) := ⟨by (with_reducible repeat (first | apply Kd.R_alloc | apply Kd.R_drewN | apply Kd.R_drew)); exact HQ53.out⟩
                                                                  have n2_ : Aside0 (Kd.V (Kd.int .i64) 3 (w52.setCell ⟨go49, ((ji46) : Int).toNat, none⟩ (.int .i64 (wrap64 ((rd x10_7 (ji46)) + (rd x10_7 (rd ((rd_T51 t257 x12_5).f0) x13_7)))))) w.heap.size (fun k_ => some k_ ≠ (.slice (some ad272) t257.length co20 : Value).ownBlock ∧ some k_ ≠ (.slice (some ⟨go49, 0, none⟩) x10_7.length co51 : Value).ownBlock) (.slice (some ad274) ((rd_T51 t257 x12_5).f0).length c272_0) ((rd_T51 t257 x12_5).f0)) := ⟨by (with_reducible repeat (first | apply Kd.V_alloc | apply Kd.V_drewN | apply Kd.V_drew)); exact Kd.V_mono (Kd.V_far (p := ⟨go49, ((ji46) : Int).toNat, none⟩) (Kd.V_mono HL272_0.out (fun k_ hk => (⟨hk, fun e_ => hk.1 (by rw [e_]; rfl)⟩ : _ ∧ k_ ≠ go49))) (fun _ hk => hk.2) (.int .i64 (wrap64 ((rd x10_7 (ji46)) + (rd x10_7 (rd ((rd_T51 t257 x12_5).f0) x13_7)))))) (fun _ hk => ⟨hk.1.2, hk.1.1⟩)⟩
                                                                  have n3_ : Aside0 (Kd.V (Kd.int .i64) 3 (w52.setCell ⟨go49, ((ji46) : Int).toNat, none⟩ (.int .i64 (wrap64 ((rd x10_7 (ji46)) + (rd x10_7 (rd ((rd_T51 t257 x12_5).f0) x13_7)))))) w.heap.size (fun k_ => some k_ ≠ (.slice (some ad272) t257.length co20 : Value).ownBlock ∧ some k_ ≠ (.slice (some ⟨go49, 0, none⟩) x10_7.length co51 : Value).ownBlock) (.slice (some ad274) ((rd_T51 t257 x12_5).f0).length c272_0) ((rd_T51 t257 x12_5).f0)) := ⟨by (with_reducible repeat (first | apply Kd.V_alloc | apply Kd.V_drewN | apply Kd.V_drew)); exact Kd.V_mono (Kd.V_far (p := ⟨go49, ((ji46) : Int).toNat, none⟩) (Kd.V_mono HL273_0.out (fun k_ hk => (⟨hk, fun e_ => hk.1 (by rw [e_]; rfl)⟩ : _ ∧ k_ ≠ go49))) (fun _ hk => hk.2) (.int .i64 (wrap64 ((rd x10_7 (ji46)) + (rd x10_7 (rd ((rd_T51 t257 x12_5).f0) x13_7)))))) (fun _ hk => ⟨hk.1.2, hk.1.1⟩)⟩
                                                                  have n4_ : Aside0 (Below w.heap.size w (w52.setCell ⟨go49, ((ji46) : Int).toNat, none⟩ (.int .i64 (wrap64 ((rd x10_7 (ji46)) + (rd x10_7 (rd ((rd_T51 t257 x12_5).f0) x13_7))))))) := ⟨by repeat (first | (with_reducible first | exact HB.out | apply below_alloc | apply pw_below_drewN | apply below_drew1 | refine below_set ?_ GB49.out) | exact HB.out)⟩
                                                                  (try clear HO_6)
                                                                  (try clear HO_10)
                                                                  (try clear HL272_0)
                                                                  (try clear HL273_0)
                                                                  (try clear HB)
                                                                  generalize (w52.setCell ⟨go49, ((ji46) : Int).toNat, none⟩ (.int .i64 (wrap64 ((rd x10_7 (ji46)) + (rd x10_7 (rd ((rd_T51 t257 x12_5).f0) x13_7)))))) = w54 at n0_ n1_ n2_ n3_ n4_ ⊢
                                                                  have HO_6 := n0_
                                                                  have HO_10 := n1_
                                                                  have HL272_0 := n2_
                                                                  have HL273_0 := n3_
                                                                  have HB := n4_
                                                                  clear n0_ n1_ n2_ n3_ n4_
                                                                  have p50 : 0 ≤ ((rd ((rd_T51 t257 x12_5).f0) x13_7) : Int) := of_decide_eq_true (by first | (with_reducible assumption) | assumption)
                                                                  have q50 : ((rd ((rd_T51 t257 x12_5).f0) x13_7) : Int) < ((x10_7.length : Int) : Int) := of_decide_eq_true (by first | (with_reducible assumption) | assumption)
                                                                  obtain ⟨hx50_0, hf50_0⟩ := Kd.R_celln 0 HO_10.out ((rd ((rd_T51 t257 x12_5).f0) x13_7) : Int) p50 q50
                                                                  replace p50 := eq_true p50
                                                                  replace q50 := eq_true q50
                                                                  obtain ⟨hy55_, hz55_⟩ := Kd.R_celln 0 HO_10.out ((rd ((rd_T51 t257 x12_5).f0) x13_7) : Int) (of_decide_eq_true (by first | (with_reducible assumption) | assumption)) (of_decide_eq_true (by first | (with_reducible assumption) | assumption))
                                                                  have HP55 := Kd.R_putg HO_10.out ((rd ((rd_T51 t257 x12_5).f0) x13_7) : Int) 0
                                                                  try go_wp2_with (first | ((with_reducible refine gate_store (t := 3) (p := 157) rfl ?_); refine store_event (t := 3) (p := 157) (v := ?vo_w56) (w1 := (w54.setCell ⟨go49, ((rd ((rd_T51 t257 x12_5).f0) x13_7) : Int).toNat, none⟩ (.int .i64 0))) ?hg ?ho ?hn ?hr ?_; (case ho => rfl); (case hg => rfl); (case hn => rfl); (case hr => first | (go_simp; done) | (go_simp; rfl)); intro w56 hw; have hg : w54.grownBy w56 (some go49) := (by rw [hw]; exact HP55.2); have hp_ : Kd.R (Kd.int .i64) 3 w56 w.heap.size (fun _ => True) (.slice (some ⟨go49, 0, none⟩) x10_7.length co51) y279 := (by rw [hw, Ny279.out]; exact HP55.1); clear HP55; have n0_ := Aside0.mk (Kd.N_afterv (v := (.slice (some ⟨go49, 0, none⟩) x10_7.length co51)) (v1 := (.slice (some ⟨go49, 0, none⟩) x10_7.length co51)) (ok := (fun _ => True)) (by (with_reducible repeat (first | apply Kd.N_alloc | apply Kd.N_drewN | apply Kd.N_drew)); exact Kd.N_mono HO_6.out (fun _ hk => ⟨trivial, hk⟩)) hg (.inl rfl)); have n1_ := Aside0.mk (hp_); have n2_ := Aside0.mk (Kd.V_afterv (v := (.slice (some ⟨go49, 0, none⟩) x10_7.length co51)) (v1 := (.slice (some ⟨go49, 0, none⟩) x10_7.length co51)) (ok := (fun k_ => some k_ ≠ (.slice (some ad272) t257.length co20 : Value).ownBlock)) (by (with_reducible repeat (first | apply Kd.V_alloc | apply Kd.V_drewN | apply Kd.V_drew)); exact HL272_0.out) hg (.inl rfl)); have n3_ := Aside0.mk (Kd.V_afterv (v := (.slice (some ⟨go49, 0, none⟩) x10_7.length co51)) (v1 := (.slice (some ⟨go49, 0, none⟩) x10_7.length co51)) (ok := (fun k_ => some k_ ≠ (.slice (some ad272) t257.length co20 : Value).ownBlock)) (by (with_reducible repeat (first | apply Kd.V_alloc | apply Kd.V_drewN | apply Kd.V_drew)); exact HL273_0.out) hg (.inl rfl)); have n4_ := Aside0.mk ((by rw [hw]; exact below_set (HB.out) GB49.out : Below w.heap.size w w56)); clear HO_6; clear HO_10; clear HL272_0; clear HL273_0; clear HB; have HO_6 := n0_; have HO_10 := n1_; have HL272_0 := n2_; have HL273_0 := n3_; have HB := n4_; clear n0_ n1_ n2_ n3_ n4_; clear hg hw hp_))
                                                                  go_roundg k7
                                                                  case measure => have := HJ3.out; have := HJ7.out; have := HJ11.out; have := HK4.out; have := HK5.out; have := HJ29.out; have := HK7.out; omega
                                                                  case rel => exact ⟨(y279), (wrap64 (x13_7 + 1)), (by first | rfl | (simp; done) | (simp [*]; done)), H', ⟨by have := HJ3.out; have := HJ7.out; have := HJ11.out; have := HK4.out; have := HK5.out; have := HJ29.out; have := HK7.out; omega⟩, ⟨by (with_reducible repeat (first | apply Kd.N_alloc | apply Kd.N_drewN | apply Kd.N_drew)); exact Kd.N_mono HO_6.out (fun _ hk => hk.2)⟩, ⟨by (with_reducible repeat (first | apply Kd.R_alloc | apply Kd.R_drewN | apply Kd.R_drew)); exact HO_10.out⟩, ⟨by repeat (first | (with_reducible first | exact HB.out | apply below_alloc | apply pw_below_drewN | apply below_drew1) | exact HB.out)⟩⟩
                                                                · rw [if_neg c48] at H
                                                                  exact absurd H (by simp)
                                                              · rw [if_neg c47] at H
                                                                exact absurd H (by simp)
                                                          · rw [if_neg c43] at H
                                                            exact absurd H (by simp)
                                                        · rw [if_neg c42] at H
                                                          exact absurd H (by simp)
                                                  · rw [if_neg c39] at H
                                                    exact absurd H (by simp)
                                                · rw [if_neg c38] at H
                                                  have c38b0 : decide (x13_7 < (((rd_T51 t257 x12_5).f0).length : Int)) = false := decide_eq_false c38
                                                  clear c38
                                                  have H' := Aside0.mk H
                                                  clear H
                                                  have p272 : 0 ≤ (x12_5 : Int) := of_decide_eq_true (by first | (with_reducible assumption) | assumption)
                                                  have q272 : x12_5 < (t257.length : Int) := of_decide_eq_true (by first | (with_reducible assumption) | assumption)
                                                  obtain ⟨ad272, A272_0, c272_0, e272, hx272_0, hx272_1, hl272_0, hi272_0⟩ := at_T51 (Kd.N_reads' HO_6.out).2.2 x12_5 p272 q272
                                                  cases e272
                                                  obtain ⟨ce272, hce272, hMe272, hcc272⟩ := Kd.N_get HO_6.out z51 x12_5 p272 (by first | exact q272 | exact of_decide_eq_true (by first | (with_reducible assumption) | assumption) | (have e_ := (Kd.N_reads' HO_6.out).1; omega))
                                                  obtain ⟨ua272_0, uc272_0, rfl, ul272_0, ge272_0⟩ := k51_openF hMe272
                                                  have hv272_0 := hcc272 0 _ rfl
                                                  rw [Nat.add_zero] at hv272_0
                                                  replace hv272_0 := Option.some.inj (hv272_0.symm.trans hx272_0)
                                                  injection hv272_0 with hva_ hvn_ hvc_
                                                  rw [hva_] at ge272_0
                                                  rw [hvc_] at ul272_0
                                                  have HL272_0 := Aside0.mk (show Kd.V (Kd.int .i64) 3 _ w.heap.size _ _ ((rd_T51 t257 x12_5).f0) from Kd.V_mk ul272_0 ge272_0)
                                                  clear hva_ hvn_ hvc_ ge272_0 ul272_0
                                                  clear hcc272 hce272
                                                  have HR272_0 := Aside0.mk hi272_0
                                                  have HC272_0 := Aside0.mk hl272_0
                                                  clear hi272_0 hl272_0
                                                  replace p272 := eq_true p272
                                                  replace q272 := eq_true q272
                                                  go_wp2
                                                  go_roundg k7
                                                  case measure => have := HJ3.out; have := HJ7.out; have := HJ11.out; have := HK4.out; have := HK5.out; have := HJ29.out; have := HK7.out; omega
                                                  case rel => exact ⟨(x10_7), (wrap64 (x12_5 + 1)), (by first | rfl | (simp; done) | (simp [*]; done)), H', ⟨by have := HJ3.out; have := HJ7.out; have := HJ11.out; have := HK4.out; have := HK5.out; have := HJ29.out; have := HK7.out; omega⟩, ⟨by (with_reducible repeat (first | apply Kd.N_alloc | apply Kd.N_drewN | apply Kd.N_drew)); exact HO_6.out⟩, ⟨by (with_reducible repeat (first | apply Kd.R_alloc | apply Kd.R_drewN | apply Kd.R_drew)); exact HO_10.out⟩, ⟨by repeat (first | (with_reducible first | exact HB.out | apply below_alloc | apply pw_below_drewN | apply below_drew1) | exact HB.out)⟩⟩
                                              · rw [if_neg c37] at H
                                                exact absurd H (by simp)
                                            · rw [if_neg c36] at H
                                              exact absurd H (by simp)
                                · rw [if_neg c29] at H
                                  have c29b0 : decide (x12_5 < (t257.length : Int)) = false := decide_eq_false c29
                                  clear c29
                                  replace H := Option.bind_eq_some_iff.mp H
                                  obtain ⟨t266, A570, H⟩ := H
                                  replace H : (if 0 ≤ (wrap64 ((x10_5.length : Int) - 1)) then (if (wrap64 ((x10_5.length : Int) - 1)) < (x10_5.length : Int) then (if (rd x10_5 (wrap64 ((x10_5.length : Int) - 1))) = (l0.length : Int) then ((milllaw10_num.f t266).bind fun t268 => (some (t268 == 0))) else (some false)) else (none)) else (none)) = some r := H
                                  have A57 := Aside0.mk A570
                                  clear A570
                                  obtain ⟨ji58, hji58⟩ : ∃ j_ : Int, (wrap64 ((x10_5.length : Int) - 1)) = j_ := ⟨_, rfl⟩
                                  replace H : (if 0 ≤ (ji58) then (if (ji58) < (x10_5.length : Int) then (if (rd x10_5 (ji58)) = (l0.length : Int) then ((milllaw10_num.f t266).bind fun t268 => (some (t268 == 0))) else (some false)) else (none)) else (none)) = some r := by first | (rw [hji58] at H; exact H) | (simp only [hji58] at H ⊢; exact H)
                                  (try rw [hji58] at A57)
                                  have hji58w : (IntKind.i64.wrap ((x10_5.length : Int) - 1)) = ji58 := (i64_w _).trans hji58
                                  by_cases c59 : 0 ≤ (ji58)
                                  · rw [if_pos c59] at H
                                    have c59b0 : decide (0 ≤ (ji58)) = true := decide_eq_true c59
                                    clear c59
                                    by_cases c60 : (ji58) < (x10_5.length : Int)
                                    · rw [if_pos c60] at H
                                      have c60b0 : decide ((ji58) < (x10_5.length : Int)) = true := decide_eq_true c60
                                      clear c60
                                      by_cases c61 : (rd x10_5 (ji58)) = (l0.length : Int)
                                      · rw [if_pos c61] at H
                                        have c61b0 : ((rd x10_5 (ji58)) == (l0.length : Int)) = true := beq_iff_eq.mpr c61
                                        have c61b1 : ((rd x10_5 (ji58)) != (l0.length : Int)) = false := bne_eq_false_iff_eq.mpr c61
                                        clear c61
                                        replace H := Option.bind_eq_some_iff.mp H
                                        obtain ⟨t268, A620, H⟩ := H
                                        replace H : (some (t268 == 0)) = some r := H
                                        have A62 := Aside0.mk A620
                                        clear A620
                                        obtain rfl := Option.some.inj H
                                        go_wp2_with (first | ((with_reducible refine gate_callee (f := 13) rfl ?_); refine goesL_ (some 161) rfl rfl Try.func13 (by kernel_rfl) rfl #[.slice A0 l0.length c0, .int .i64 a1, .slice Ao20 t257.length co20] rfl (by (try simp only [List.map_toArray, List.map_cons, List.map_nil]); first | done | rfl | (simp only [List.length_drop, List.length_take]; rfl)) ?_; (with_reducible refine (plan_Check.calls k5 _ _ l0 a1 _ _ t257 t266 _ ?side1 ?side2 ?side3 ?side4 A57.out).mono ?_); (case side1 => repeat (first | exact (Kd.C_below HR0.out HB.out) | (with_reducible refine Kd.C_alloc ?_ _) | (with_reducible refine Kd.C_drewN ?_ _) | (with_reducible refine Kd.C_drew ?_))); (case side2 => exact HC0.out); (case side3 => repeat (first | exact (Kd.N_reads' HO_6.out).2.2 | (with_reducible refine Kd.C_alloc ?_ _) | (with_reducible refine Kd.C_drewN ?_ _) | (with_reducible refine Kd.C_drew ?_))); (case side4 => exact (Kd.N_reads' HO_6.out).2.1); rintro e w63 ⟨rfl, hb⟩; refine ⟨_, rfl, ?_⟩; have n0_ := Aside0.mk (Kd.N_below (by (with_reducible repeat (first | apply Kd.N_alloc | apply Kd.N_drewN | apply Kd.N_drew)); exact HO_6.out) hb); have n1_ := Aside0.mk (Kd.R_below (by (with_reducible repeat (first | apply Kd.R_alloc | apply Kd.R_drewN | apply Kd.R_drew)); exact HO_10.out) hb); have n2_ := Aside0.mk (below_step (by repeat (first | (with_reducible first | exact HB.out | apply below_alloc | apply pw_below_drewN | apply below_drew1) | exact HB.out)) hb); clear HO_6; clear HO_10; clear HB; have HO_6 := n0_; have HO_10 := n1_; have HB := n2_; clear n0_ n1_ n2_; (try clear hb); (try clear hb2); (try clear hk); (try clear hi); obtain ⟨Ao64, co64, eo64⟩ := Kd.R_slice HO_10.out; subst eo64; have p267 : 0 ≤ ((ji58) : Int) := of_decide_eq_true (by first | (with_reducible assumption) | assumption); have q267 : (ji58) < (x10_5.length : Int) := of_decide_eq_true (by first | (with_reducible assumption) | assumption); obtain ⟨ad267, e267, hx267_0⟩ := Kd.at_int (Kd.R_reads' HO_10.out).2.2 (ji58) p267 q267; cases e267; replace p267 := eq_true p267; replace q267 := eq_true q267) | (go_at_call 23; (with_reducible refine (milllaw10_num.calls t266 t268 _ A62.out).mono ?_); rintro e w' ⟨rfl, ⟨nd, rfl⟩⟩))
                                        go_ret
                                        exact ⟨by first | rfl | (simp [errW_none, errW_some] <;> rfl) | (simp only [← hji17, ← hji58]; first | rfl | (simp [errW_none, errW_some] <;> rfl)) | (simp [*, errW_none, errW_some] <;> rfl), by repeat (first | (with_reducible first | exact HB.out | apply below_alloc | apply pw_below_drewN | apply below_drew1) | exact HB.out)⟩
                                      · rw [if_neg c61] at H
                                        have c61b0 : ((rd x10_5 (ji58)) == (l0.length : Int)) = false := beq_eq_false_iff_ne.mpr c61
                                        have c61b1 : ((rd x10_5 (ji58)) != (l0.length : Int)) = true := bne_iff_ne.mpr c61
                                        obtain rfl := Option.some.inj H
                                        go_wp2_with (first | ((with_reducible refine gate_callee (f := 13) rfl ?_); refine goesL_ (some 161) rfl rfl Try.func13 (by kernel_rfl) rfl #[.slice A0 l0.length c0, .int .i64 a1, .slice Ao20 t257.length co20] rfl (by (try simp only [List.map_toArray, List.map_cons, List.map_nil]); first | done | rfl | (simp only [List.length_drop, List.length_take]; rfl)) ?_; (with_reducible refine (plan_Check.calls k5 _ _ l0 a1 _ _ t257 t266 _ ?side1 ?side2 ?side3 ?side4 A57.out).mono ?_); (case side1 => repeat (first | exact (Kd.C_below HR0.out HB.out) | (with_reducible refine Kd.C_alloc ?_ _) | (with_reducible refine Kd.C_drewN ?_ _) | (with_reducible refine Kd.C_drew ?_))); (case side2 => exact HC0.out); (case side3 => repeat (first | exact (Kd.N_reads' HO_6.out).2.2 | (with_reducible refine Kd.C_alloc ?_ _) | (with_reducible refine Kd.C_drewN ?_ _) | (with_reducible refine Kd.C_drew ?_))); (case side4 => exact (Kd.N_reads' HO_6.out).2.1); rintro e w65 ⟨rfl, hb⟩; refine ⟨_, rfl, ?_⟩; have n0_ := Aside0.mk (Kd.N_below (by (with_reducible repeat (first | apply Kd.N_alloc | apply Kd.N_drewN | apply Kd.N_drew)); exact HO_6.out) hb); have n1_ := Aside0.mk (Kd.R_below (by (with_reducible repeat (first | apply Kd.R_alloc | apply Kd.R_drewN | apply Kd.R_drew)); exact HO_10.out) hb); have n2_ := Aside0.mk (below_step (by repeat (first | (with_reducible first | exact HB.out | apply below_alloc | apply pw_below_drewN | apply below_drew1) | exact HB.out)) hb); clear HO_6; clear HO_10; clear HB; have HO_6 := n0_; have HO_10 := n1_; have HB := n2_; clear n0_ n1_ n2_; (try clear hb); (try clear hb2); (try clear hk); (try clear hi); obtain ⟨Ao66, co66, eo66⟩ := Kd.R_slice HO_10.out; subst eo66; have p267 : 0 ≤ ((ji58) : Int) := of_decide_eq_true (by first | (with_reducible assumption) | assumption); have q267 : (ji58) < (x10_5.length : Int) := of_decide_eq_true (by first | (with_reducible assumption) | assumption); obtain ⟨ad267, e267, hx267_0⟩ := Kd.at_int (Kd.R_reads' HO_10.out).2.2 (ji58) p267 q267; cases e267; replace p267 := eq_true p267; replace q267 := eq_true q267))
                                        go_ret
                                        exact ⟨by first | rfl | (simp [errW_none, errW_some] <;> rfl) | (simp only [← hji17, ← hji58]; first | rfl | (simp [errW_none, errW_some] <;> rfl)) | (simp [*, errW_none, errW_some] <;> rfl), by repeat (first | (with_reducible first | exact HB.out | apply below_alloc | apply pw_below_drewN | apply below_drew1) | exact HB.out)⟩
                                    · rw [if_neg c60] at H
                                      exact absurd H (by simp)
                                  · rw [if_neg c59] at H
                                    exact absurd H (by simp)
                    · rw [if_neg c19] at H
                      exact absurd H (by simp)
                  · rw [if_neg c18] at H
                    exact absurd H (by simp)

/-- THE ONE PURE STATEMENT of milllaw10_PlanWhole: yours. -/
def milllaw10_PlanWhole.Pure : Prop := ∀ (l0 : List Int) (a1 : Int), l0.length ≤ maxLen → l0.length * 8 ≤ 140737488351232 → (∀ x ∈ l0, (Lit.int .i64 x).wf = true) → (Lit.int .i64 a1).wf = true → ∃ k, milllaw10_PlanWhole.f k l0 a1 = some true
theorem milllaw10_PlanWhole.walk (P : milllaw10_PlanWhole.Pure) (a0 : Option Addr) (len0 cap0 : Nat) (z0 : List Int) (a1 : Int) (w : World) (w0 : (a0 = none ∧ len0 = 0 ∧ cap0 = 0 ∧ z0 = []) ∨ ∃ x, a0 = some x ∧ len0 ≤ cap0 ∧ cap0 ≤ maxLen ∧ z0.length = cap0 ∧ (∀ i, i < z0.length → w.cell? (x.add i) = some (.int .i64 (z0.getD i 0))) ∧ ∀ n ∈ z0, (Lit.int .i64 n).wf = true) (y0 : len0 * 8 ≤ 140737488351232) (w1 : (Lit.int .i64 a1).wf = true) :
    Calls Try.prog 6 #[.slice a0 len0 cap0, .int .i64 a1] w fun e w' => e = .returned (.bool true) ∧ Below w.heap.size w w' := by
  obtain ⟨l0, rfl, hr0, hm0, hw0, hc0⟩ := ReadsInt.ofRowC w0
  obtain ⟨k, h⟩ := P l0 a1 hm0 y0 hw0 w1
  refine (milllaw10_PlanWhole.calls k _ _ l0 a1 true w (Kd.C_of_reads (d := (0 : Int)) (h1 := fun _ => rfl) hr0) hc0 h).mono ?_
  rintro e w' ⟨rfl, hd⟩
  exact ⟨rfl, hd⟩

end Go.Proofs.Ytbgabijjnbmghaa.P
