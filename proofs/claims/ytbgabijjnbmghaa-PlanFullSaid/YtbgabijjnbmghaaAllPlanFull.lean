/- Proved: milllaw10.PlanFull returns true, whatever comes in; its arguments read behind the call as before. Conditions: none. Several texts of this claim in one (the limit of files): YtbgabijjnbmghaaLoad, YtbgabijjnbmghaaFull, YtbgabijjnbmghaaSpecA, YtbgabijjnbmghaaSpecB, YtbgabijjnbmghaaSpecC, YtbgabijjnbmghaaOrd, YtbgabijjnbmghaaGreedy, YtbgabijjnbmghaaSpecD, YtbgabijjnbmghaaSpecM, YtbgabijjnbmghaaSpecE, YtbgabijjnbmghaaSpecR, YtbgabijjnbmghaaQuo, YtbgabijjnbmghaaLoadV, YtbgabijjnbmghaaQuoB, YtbgabijjnbmghaaPurePlanFull, YtbgabijjnbmghaaLawPlanFull. -/
import Derived.Test.YtbgabijjnbmghaaP0
import Derived.Test.YtbgabijjnbmghaaP7
import Derived.Laws.FloatArith
import Derived.Test.YtbgabijjnbmghaaMakeC
import Derived.Test.YtbgabijjnbmghaaP12
import Derived.Test.YtbgabijjnbmghaaP18
import Derived.Test.YtbgabijjnbmghaaP3
import Derived.Test.YtbgabijjnbmghaaHeapC
import Derived.Test.YtbgabijjnbmghaaMakeA
import Derived.Test.YtbgabijjnbmghaaP13
import Derived.Test.YtbgabijjnbmghaaP14
import Derived.Test.YtbgabijjnbmghaaP15
import Derived.Test.YtbgabijjnbmghaaP16
import Derived.Test.YtbgabijjnbmghaaP17
import Derived.Test.YtbgabijjnbmghaaRows
import Derived.WalkKit
import Derived.ProofKit
import Derived.OpenShut
import Derived.ShutString
import Derived.ChangeOld
import Derived.Below
import Derived.SizedLaws
import Derived.Test.YtbgabijjnbmghaaWSized
/- plan.Load: its walk, from the printed walk of plan.Cost, turned by hand: the answer is the bits of a quotient of two floats. -/
namespace Go.Proofs.Ytbgabijjnbmghaa.P
open Go.RowKit Go.Proofs.YtbgabijjnbmghaaW.PrintWords Go.Proofs.YtbgabijjnbmghaaW.PrintLast Go.Proofs.YtbgabijjnbmghaaW.PrintMore
attribute [local go_sem] max2_int min2_int max_two min_two max_three min_three max_four min_four   -- for this text's walks alone
set_option linter.unusedVariables false
set_option linter.unusedSimpArgs false

/-! ### plan_Load: function 16 -/
/-- the bits of float64(p) / float64(q) -/
def quo64 (p q : Int) : Option Nat := floatBits .quo .f64 (floatOfInt .f64 p) (floatOfInt .f64 q)
def plan_Load.l0 : Nat → Int → Int → List (S51) → Int → Int → Option (Nat × Int)
  | 0, _, _, _, _, _ => none
  | k + 1, x1, x9, x2, n, x21 => if x21 < n then (if 0 ≤ x21 then (if x21 < (x2.length : Int) then (plan_Load.l0 k x1 (wrap64 (x9 + (((rd_T51 x2 x21).f0).length : Int))) x2 n (wrap64 (x21 + 1))) else none) else none) else ((quo64 x9 (wrap64 (x1 * (x2.length : Int)))).map fun b => (b, 0))
def plan_Load.f (k : Nat) (l0 : List Int) (a1 : Int) (l2 : List (S51)) : Option (Nat × Int) := (plan_Check.f k l0 a1 l2).bind fun t245 => (if t245 = 0 then (plan_Load.l0 k a1 0 l2 (l2.length : Int) 0) else (some (0, t245)))
theorem plan_Load.mono_l : ∀ k, (∀ y0 y1 y2 y3 y4, LeO (plan_Load.l0 k y0 y1 y2 y3 y4) (plan_Load.l0 (k + 1) y0 y1 y2 y3 y4))
  | 0 => fun _ _ _ _ _ r h => by simp [plan_Load.l0] at h
  | k + 1 => by
    have ih0 := plan_Load.mono_l k
    · intro y0 y1 y2 y3 y4
      unfold plan_Load.l0
      repeat' first
      | (with_reducible exact ih0 _ _ _ _ _)
      | (with_reducible exact LeO.refl _)
      | (with_reducible exact LeO.none _)
      | (with_reducible refine LeO.ite ?_ ?_)
      | exact ih0 _ _ _ _ _
      | exact LeO.none _
      | refine LeO.ite ?_ ?_
theorem plan_Load.mono : ∀ a0 a1 a2 k, LeO (plan_Load.f k a0 a1 a2) (plan_Load.f (k + 1) a0 a1 a2) := by
  intro a0 a1 a2 k
  have ih0 := plan_Load.mono_l k
  unfold plan_Load.f
  repeat' first
      | (with_reducible exact ih0 _ _ _ _ _)
      | (with_reducible exact plan_Check.mono _ _ _ _)
      | (with_reducible exact LeO.refl _)
      | (with_reducible exact LeO.none _)
      | (with_reducible refine LeO.ite ?_ ?_)
      | (with_reducible refine LeO.bind ?_ (fun _ => ?_))
      | exact ih0 _ _ _ _ _
      | exact plan_Check.mono _ _ _ _
      | exact LeO.none _
      | refine LeO.ite ?_ ?_
      | refine LeO.bind ?_ (fun _ => ?_)
set_option maxHeartbeats 8000000 in
set_option maxRecDepth 100000 in
theorem plan_Load.calls (k : Nat) (A0 : Option Addr) (c0 : Nat) (l0 : List Int) (a1 : Int) (A2 : Option Addr) (c2 : Nat) (l2 : List (S51)) (r1 : Nat) (r2 : Int) (w : World) (hr0 : Kd.C (Kd.int .i64) w A0 l0.length l0) (hc0 : l0.length ≤ c0) (hr2 : Kd.C k51 w A2 l2.length l2) (hc2 : l2.length ≤ c2) (h : plan_Load.f k l0 a1 l2 = some (r1, r2)) :
    Calls Try.prog 16 #[.slice A0 l0.length c0, .int .i64 a1, .slice A2 l2.length c2] w fun e w' => e = .returned (.tuple #[.float .f64 r1, .int .i64 r2]) ∧ Below w.heap.size w w' := by
  have hu51 := Try.underlying51
  have HR0 := Aside0.mk hr0
  have HC0 := Aside0.mk hc0
  clear hr0 hc0
  have HR2 := Aside0.mk hr2
  have HC2 := Aside0.mk hc2
  clear hr2 hc2
  have HB := Aside0.mk (Below.refl w.heap.size w)
  have H : ((plan_Check.f k l0 a1 l2).bind fun t245 => (if t245 = 0 then (plan_Load.l0 k a1 0 l2 (l2.length : Int) 0) else (some (0, t245)))) = some (r1, r2) := h
  clear h
  replace H := Option.bind_eq_some_iff.mp H
  obtain ⟨t245, A40, H⟩ := H
  replace H : (if t245 = 0 then (plan_Load.l0 k a1 0 l2 (l2.length : Int) 0) else (some (0, t245))) = some (r1, r2) := H
  have A4 := Aside0.mk A40
  clear A40
  by_cases c5 : t245 = 0
  · rw [if_pos c5] at H
    have c5b0 : (t245 == 0) = true := beq_iff_eq.mpr c5
    have c5b1 : (t245 != 0) = false := bne_eq_false_iff_eq.mpr c5
    clear c5
    have H' := Aside0.mk H
    clear H
    go_enter Try.func16, Try.ntmps16
    go_wp2_with (first | ((with_reducible refine gate_callee (f := 13) rfl ?_); refine goesL_ (some 15) rfl rfl Try.func13 (by kernel_rfl) rfl #[.slice A0 l0.length c0, .int .i64 a1, .slice A2 l2.length c2] rfl (by (try simp only [List.map_toArray, List.map_cons, List.map_nil]); first | done | rfl | (simp only [List.length_drop, List.length_take]; rfl)) ?_; (with_reducible refine (plan_Check.calls k _ _ l0 a1 _ _ l2 t245 _ ?side1 ?side2 ?side3 ?side4 A4.out).mono ?_); (case side1 => repeat (first | exact HR0.out | (with_reducible refine Kd.C_alloc ?_ _) | (with_reducible refine Kd.C_drewN ?_ _) | (with_reducible refine Kd.C_drew ?_))); (case side2 => exact HC0.out); (case side3 => repeat (first | exact HR2.out | (with_reducible refine Kd.C_alloc ?_ _) | (with_reducible refine Kd.C_drewN ?_ _) | (with_reducible refine Kd.C_drew ?_))); (case side4 => exact HC2.out); rintro e w22 ⟨rfl, hb⟩; refine ⟨_, rfl, ?_⟩; have n0_ := Aside0.mk (below_step (by repeat (first | (with_reducible first | exact HB.out | apply below_alloc | apply pw_below_drewN | apply below_drew1) | exact HB.out)) hb); clear HB; have HB := n0_; clear n0_; (try clear hb); (try clear hb2); (try clear hk); (try clear hi)))
    go_loopg [9, 21] k (fun kq v9 v21 w' => ∃ (x9_1 : Int) (x21_1 : Int), v9 = .int .i64 x9_1 ∧ v21 = .int .i64 x21_1 ∧ Aside0 (plan_Load.l0 kq a1 x9_1 l2 (l2.length : Int) x21_1 = some (r1, r2)) ∧ Aside0 (kq ≤ k) ∧ Aside0 (Below w.heap.size w w'))
    case atStart => exact ⟨(0), (0), (by first | rfl | (simp; done) | (simp [*]; done)), (by first | rfl | (simp; done) | (simp [*]; done)), H', ⟨Nat.le_refl _⟩, ⟨by repeat (first | (with_reducible first | exact HB.out | apply below_alloc | apply pw_below_drewN | apply below_drew1) | exact HB.out)⟩⟩
    case round =>
      clear H'
      try clear c1
      try clear c2
      try clear p2
      try clear c3
      try clear c5
      try clear c5b0
      try clear c5b1
      obtain ⟨x9_1, x21_1, rfl, rfl, HA, HK1, HB⟩ := hrel
      cases gk with
      | zero => exact absurd HA.out (by simp [plan_Load.l0])
      | succ k1 =>
        have H := HA.out
        clear HA
        simp only [plan_Load.l0] at H
        by_cases c9 : x21_1 < (l2.length : Int)
        · rw [if_pos c9] at H
          have c9b0 : decide (x21_1 < (l2.length : Int)) = true := decide_eq_true c9
          by_cases c10 : 0 ≤ x21_1
          · rw [if_pos c10, if_pos c9] at H
            have c10b0 : decide (0 ≤ x21_1) = true := decide_eq_true c10
            have H' := Aside0.mk H
            clear H
            obtain ⟨ad249, A249_0, c249_0, e249, hx249_0, hx249_1, hl249_0, hi249_0⟩ := at_T51 HR2.out x21_1 c10 c9
            cases e249
            replace hx249_0 := (HB.out.cell (World.block_lt_of_cell? w _ hx249_0)).trans hx249_0
            replace hx249_1 := (HB.out.cell (World.block_lt_of_cell? w _ hx249_1)).trans hx249_1
            have HR249_0 := Aside0.mk hi249_0
            have HC249_0 := Aside0.mk hl249_0
            clear hi249_0 hl249_0
            have p249 := eq_true c10
            have q249 := eq_true c9
            clear c9 c10
            go_wp2_with (first | ((with_reducible refine gate_dst (N := 11) rfl ?_); refine box_event ?hg (N := 11) ?hd (cs := #[.slice none 0 0, .int .i64 0]) (t := 51) ?hr ?_; (case hd => rfl); (case hg => rfl); (case hr => first | (go_simp; done) | (go_simp; rfl)); intro gb250 hg w12 hbox hb; have n1_ := Aside0.mk (below_step (by repeat (first | (with_reducible first | exact HB.out | apply below_alloc | apply pw_below_drewN | apply below_drew1) | exact HB.out)) hb); have n2_ := Aside0.mk (hbox); have n3_ := Aside0.mk ((by rw [hg]; exact (below_size (by repeat (first | (with_reducible first | exact HB.out | apply below_alloc | apply pw_below_drewN | apply below_drew1) | exact HB.out))) : w.heap.size ≤ gb250)); have n4_ := Aside0.mk ((by rw [hg]; exact (below_size (by repeat (first | (with_reducible first | exact HB.out | apply below_alloc | apply pw_below_drewN | apply below_drew1) | exact HB.out))) : w.heap.size ≤ gb250)); clear HB; have HB := n1_; have BK250 := n2_; have GW250 := n3_; have GE250 := n4_; clear n1_ n2_ n3_ n4_; clear hb hbox hg; have hcz13_0 : w12.cell? ⟨gb250, 0, none⟩ = some (.slice none 0 0) := (blk_cell BK250.out 0).trans rfl; have hcz13_1 : w12.cell? ⟨gb250, 1, none⟩ = some (.int .i64 0) := (blk_cell BK250.out 1).trans rfl; have hfz13_0 := blk_frozen BK250.out 0; have hfz13_1 := blk_frozen BK250.out 1))
            go_roundg k1
            case measure => have := HK1.out; omega
            case rel => exact ⟨(wrap64 (x9_1 + (((rd_T51 l2 x21_1).f0).length : Int))), (wrap64 (x21_1 + 1)), (by first | rfl | (simp; done) | (simp [*]; done)), (by first | rfl | (simp; done) | (simp [*]; done)), H', ⟨by have := HK1.out; omega⟩, ⟨by repeat (first | (with_reducible first | exact HB.out | apply below_alloc | apply pw_below_drewN | apply below_drew1 | refine below_set ?_ GE250.out) | exact HB.out)⟩⟩
          · rw [if_neg c10] at H
            exact absurd H (by simp)
        · rw [if_neg c9] at H
          have c9b0 : decide (x21_1 < (l2.length : Int)) = false := decide_eq_false c9
          clear c9
          obtain ⟨b_, hb_, e_⟩ := Option.map_eq_some_iff.mp H
          simp only [Prod.mk.injEq] at e_
          obtain ⟨rfl, rfl⟩ := e_
          clear H
          have hop : ∀ t w, (binOp .quo t (.float .f64 (floatOfInt .f64 x9_1)) (.float .f64 (floatOfInt .f64 (wrap64 (a1 * (l2.length : Int)))))).run Try.prog w = .ok (.float .f64 b_) w := fun t w => run_float_arith w .quo t .f64 _ _ _ hb_
          have HQ := Aside0.mk hb_
          clear hb_
          go_wp2_with (simp only [hop])
          go_ret2
          exact ⟨by first | rfl | (simp [errW_none, errW_some] <;> rfl) | (simp [*, errW_none, errW_some] <;> rfl), by repeat (first | (with_reducible first | exact HB.out | apply below_alloc | apply pw_below_drewN | apply below_drew1) | exact HB.out)⟩
  · rw [if_neg c5] at H
    have c5b0 : (t245 == 0) = false := beq_eq_false_iff_ne.mpr c5
    have c5b1 : (t245 != 0) = true := bne_iff_ne.mpr c5
    simp only [Option.some.injEq, Prod.mk.injEq] at H
    obtain ⟨rfl, rfl⟩ := H
    go_enter Try.func16, Try.ntmps16
    go_wp2_with (first | ((with_reducible refine gate_callee (f := 13) rfl ?_); refine goesL_ (some 15) rfl rfl Try.func13 (by kernel_rfl) rfl #[.slice A0 l0.length c0, .int .i64 a1, .slice A2 l2.length c2] rfl (by (try simp only [List.map_toArray, List.map_cons, List.map_nil]); first | done | rfl | (simp only [List.length_drop, List.length_take]; rfl)) ?_; (with_reducible refine (plan_Check.calls k _ _ l0 a1 _ _ l2 t245 _ ?side1 ?side2 ?side3 ?side4 A4.out).mono ?_); (case side1 => repeat (first | exact HR0.out | (with_reducible refine Kd.C_alloc ?_ _) | (with_reducible refine Kd.C_drewN ?_ _) | (with_reducible refine Kd.C_drew ?_))); (case side2 => exact HC0.out); (case side3 => repeat (first | exact HR2.out | (with_reducible refine Kd.C_alloc ?_ _) | (with_reducible refine Kd.C_drewN ?_ _) | (with_reducible refine Kd.C_drew ?_))); (case side4 => exact HC2.out); rintro e w22 ⟨rfl, hb⟩; refine ⟨_, rfl, ?_⟩; have n0_ := Aside0.mk (below_step (by repeat (first | (with_reducible first | exact HB.out | apply below_alloc | apply pw_below_drewN | apply below_drew1) | exact HB.out)) hb); clear HB; have HB := n0_; clear n0_; (try clear hb); (try clear hb2); (try clear hk); (try clear hi)))
    go_ret2
    exact ⟨by first | rfl | (simp [errW_none, errW_some] <;> rfl) | (simp [*, errW_none, errW_some] <;> rfl), by repeat (first | (with_reducible first | exact HB.out | apply below_alloc | apply pw_below_drewN | apply below_drew1) | exact HB.out)⟩

end Go.Proofs.Ytbgabijjnbmghaa.P
/- The walk of PlanFull, along the paths that are taken: written by wip/Plan/mkfull.py. -/
namespace Go.Proofs.Ytbgabijjnbmghaa.P
open Go.RowKit Go.Proofs.YtbgabijjnbmghaaW.PrintWords Go.Proofs.YtbgabijjnbmghaaW.PrintLast Go.Proofs.YtbgabijjnbmghaaW.PrintMore
attribute [local go_sem] max2_int min2_int max_two min_two max_three min_three max_four min_four   -- for this text's walks alone
set_option linter.unusedVariables false
set_option linter.unusedSimpArgs false

set_option maxHeartbeats 8000000 in
set_option maxRecDepth 100000 in
theorem full_bad (k : Nat) (A0 : Option Addr) (c0 : Nat) (l0 : List Int) (a1 : Int) (w : World) (hr0 : Kd.C (Kd.int .i64) w A0 l0.length l0) (hc0 : l0.length ≤ c0) (x : Int) (h1 : millref10_Given.f k l0 a1 = some x) (hx : x ≠ 0) : Calls Try.prog 7 #[.slice A0 l0.length c0, .int .i64 a1] w fun e w' => e = .returned (.bool true) ∧ Below w.heap.size w w' := by
  have HR0 := Aside0.mk hr0
  have HC0 := Aside0.mk hc0
  have HB := Aside0.mk (Below.refl w.heap.size w)
  have H1 := Aside0.mk h1
  have c3b0 : (x == 0) = false := beq_eq_false_iff_ne.mpr hx
  have c3b1 : (x != 0) = true := bne_iff_ne.mpr hx
  clear hr0 hc0 h1 hx
  go_enter Try.func7, Try.ntmps7
  go_wp2_with (((with_reducible refine gate_callee (f := 26) rfl ?_); refine goesL_ (some 13) rfl rfl Try.func26 (by kernel_rfl) rfl #[.slice A0 l0.length c0, .int .i64 a1] rfl (by (try simp only [List.map_toArray, List.map_cons, List.map_nil]); first | done | rfl | (simp only [List.length_drop, List.length_take]; rfl)) ?_; (with_reducible refine (millref10_Given.calls k _ _ l0 a1 x _ ?side1 ?side2 H1.out).mono ?_); (case side1 => repeat (first | exact HR0.out | (with_reducible refine Kd.C_alloc ?_ _) | (with_reducible refine Kd.C_drewN ?_ _) | (with_reducible refine Kd.C_drew ?_))); (case side2 => exact HC0.out); rintro e w' ⟨rfl, ⟨nd, rfl⟩⟩; refine ⟨_, rfl, ?_⟩))
  go_ret
  exact ⟨by first | rfl | (simp; done) | (simp [*]; done), by repeat (first | (with_reducible first | exact HB.out | apply below_alloc | apply pw_below_drewN | apply below_drew1) | exact HB.out)⟩
set_option maxHeartbeats 8000000 in
set_option maxRecDepth 100000 in
theorem full_far (k : Nat) (A0 : Option Addr) (c0 : Nat) (l0 : List Int) (a1 : Int) (w : World) (hr0 : Kd.C (Kd.int .i64) w A0 l0.length l0) (hc0 : l0.length ≤ c0) (h1 : millref10_Given.f k l0 a1 = some 0) (hn : 2048 < l0.length) : Calls Try.prog 7 #[.slice A0 l0.length c0, .int .i64 a1] w fun e w' => e = .returned (.bool true) ∧ Below w.heap.size w w' := by
  have HR0 := Aside0.mk hr0
  have HC0 := Aside0.mk hc0
  have HB := Aside0.mk (Below.refl w.heap.size w)
  have H1 := Aside0.mk h1
  have c3b0 : decide (2048 < (l0.length : Int)) = true := decide_eq_true (by omega)
  have c3b1 : decide (2048 < l0.length) = true := decide_eq_true hn
  clear hr0 hc0 h1 hn
  go_enter Try.func7, Try.ntmps7
  go_wp2_with (((with_reducible refine gate_callee (f := 26) rfl ?_); refine goesL_ (some 13) rfl rfl Try.func26 (by kernel_rfl) rfl #[.slice A0 l0.length c0, .int .i64 a1] rfl (by (try simp only [List.map_toArray, List.map_cons, List.map_nil]); first | done | rfl | (simp only [List.length_drop, List.length_take]; rfl)) ?_; (with_reducible refine (millref10_Given.calls k _ _ l0 a1 0 _ ?side1 ?side2 H1.out).mono ?_); (case side1 => repeat (first | exact HR0.out | (with_reducible refine Kd.C_alloc ?_ _) | (with_reducible refine Kd.C_drewN ?_ _) | (with_reducible refine Kd.C_drew ?_))); (case side2 => exact HC0.out); rintro e w' ⟨rfl, ⟨nd, rfl⟩⟩; refine ⟨_, rfl, ?_⟩))
  go_ret
  exact ⟨by first | rfl | (simp; done) | (simp [*]; done), by repeat (first | (with_reducible first | exact HB.out | apply below_alloc | apply pw_below_drewN | apply below_drew1) | exact HB.out)⟩
set_option maxHeartbeats 8000000 in
set_option maxRecDepth 100000 in
theorem full_few (k : Nat) (A0 : Option Addr) (c0 : Nat) (l0 : List Int) (a1 : Int) (w : World) (hr0 : Kd.C (Kd.int .i64) w A0 l0.length l0) (hc0 : l0.length ≤ c0) (h1 : millref10_Given.f k l0 a1 = some 0) (hn : l0.length < 2) : Calls Try.prog 7 #[.slice A0 l0.length c0, .int .i64 a1] w fun e w' => e = .returned (.bool true) ∧ Below w.heap.size w w' := by
  have HR0 := Aside0.mk hr0
  have HC0 := Aside0.mk hc0
  have HB := Aside0.mk (Below.refl w.heap.size w)
  have H1 := Aside0.mk h1
  have c3b0 : decide (2048 < (l0.length : Int)) = false := decide_eq_false (by omega)
  have c3b1 : decide (2048 < l0.length) = false := decide_eq_false (by omega)
  have c4b0 : decide ((l0.length : Int) < 2) = true := decide_eq_true (by omega)
  have c4b1 : decide (l0.length < 2) = true := decide_eq_true hn
  clear hr0 hc0 h1 hn
  go_enter Try.func7, Try.ntmps7
  go_wp2_with (((with_reducible refine gate_callee (f := 26) rfl ?_); refine goesL_ (some 13) rfl rfl Try.func26 (by kernel_rfl) rfl #[.slice A0 l0.length c0, .int .i64 a1] rfl (by (try simp only [List.map_toArray, List.map_cons, List.map_nil]); first | done | rfl | (simp only [List.length_drop, List.length_take]; rfl)) ?_; (with_reducible refine (millref10_Given.calls k _ _ l0 a1 0 _ ?side1 ?side2 H1.out).mono ?_); (case side1 => repeat (first | exact HR0.out | (with_reducible refine Kd.C_alloc ?_ _) | (with_reducible refine Kd.C_drewN ?_ _) | (with_reducible refine Kd.C_drew ?_))); (case side2 => exact HC0.out); rintro e w' ⟨rfl, ⟨nd, rfl⟩⟩; refine ⟨_, rfl, ?_⟩))
  go_ret
  exact ⟨by first | rfl | (simp; done) | (simp [*]; done), by repeat (first | (with_reducible first | exact HB.out | apply below_alloc | apply pw_below_drewN | apply below_drew1) | exact HB.out)⟩
set_option maxHeartbeats 8000000 in
set_option maxRecDepth 100000 in
theorem full_main (k : Nat) (A0 : Option Addr) (c0 : Nat) (l0 : List Int) (a1 : Int) (st : List S51) (r : Nat) (w : World) (hr0 : Kd.C (Kd.int .i64) w A0 l0.length l0) (hc0 : l0.length ≤ c0) (hn : l0.length ≤ 2048) (hn2 : 2 ≤ l0.length) (hs : 1 ≤ st.length) (hs2 : st.length ≤ 2048)
    (h1 : millref10_Given.f k l0 a1 = some 0) (h2 : plan_Make.f k l0 a1 = some (st, 0)) (h3 : plan_Load.f k l0 a1 st = some (r, 0)) (P Q : Int)
    (hP : (l0.length : Int) + (st.length : Int) - 1 = P) (hQ : wrap64 (a1 * (st.length : Int)) = Q) (hq : quo64 P Q = some r)
    (ho : FloatKind.f64.format.order r r = some .eq) (ho1 : (FloatKind.f64.format.order r 4607182418800017408 == some .lt || FloatKind.f64.format.order r 4607182418800017408 == some .eq) = true)
    (hl : ((rd_T51 st 0).f0.length : Int) = wrap64 (P - wrap64 (a1 * ((st.length : Int) - 1)))) : Calls Try.prog 7 #[.slice A0 l0.length c0, .int .i64 a1] w fun e w' => e = .returned (.bool true) ∧ Below w.heap.size w w' := by
  have HR0 := Aside0.mk hr0
  have HC0 := Aside0.mk hc0
  have HB := Aside0.mk (Below.refl w.heap.size w)
  have H1 := Aside0.mk h1
  have H2 := Aside0.mk h2
  have H3 := Aside0.mk h3
  have HP := Aside0.mk (show (0 : Int) < (st.length : Int) by omega)
  have c3b0 : decide (2048 < (l0.length : Int)) = false := decide_eq_false (by omega)
  have c3b1 : decide (2048 < l0.length) = false := decide_eq_false (by omega)
  have c4b0 : decide ((l0.length : Int) < 2) = false := decide_eq_false (by omega)
  have c4b1 : decide (l0.length < 2) = false := decide_eq_false (by omega)
  have c5b0 : ((st.length : Int) == 0) = false := beq_eq_false_iff_ne.mpr (by omega)
  have c5b1 : (st.length == 0) = false := beq_eq_false_iff_ne.mpr (by omega)
  have c5b2 : ((0 : Int) < (st.length : Int)) = True := eq_true (by omega)
  have c5b3 : (0 < st.length) = True := eq_true (by omega)
  have hop : ∀ t w, (binOp .quo t (.float .f64 (floatOfInt .f64 P)) (.float .f64 (floatOfInt .f64 Q))).run Try.prog w = .ok (.float .f64 r) w := fun t w => run_float_arith w .quo t .f64 _ _ _ hq
  clear hr0 hc0 h1 h2 h3 hq
  go_enter Try.func7, Try.ntmps7
  go_wp2_with (first | ((with_reducible refine gate_callee (f := 26) rfl ?_); refine goesL_ (some 13) rfl rfl Try.func26 (by kernel_rfl) rfl #[.slice A0 l0.length c0, .int .i64 a1] rfl (by (try simp only [List.map_toArray, List.map_cons, List.map_nil]); first | done | rfl | (simp only [List.length_drop, List.length_take]; rfl)) ?_; (with_reducible refine (millref10_Given.calls k _ _ l0 a1 0 _ ?side1 ?side2 H1.out).mono ?_); (case side1 => repeat (first | exact HR0.out | (with_reducible refine Kd.C_alloc ?_ _) | (with_reducible refine Kd.C_drewN ?_ _) | (with_reducible refine Kd.C_drew ?_))); (case side2 => exact HC0.out); rintro e w' ⟨rfl, ⟨nd, rfl⟩⟩; refine ⟨_, rfl, ?_⟩) | ((with_reducible refine gate_callee (f := 24) rfl ?_); refine goesL_ (some 29) rfl rfl Try.func24 (by kernel_rfl) rfl #[.slice A0 l0.length c0, .int .i64 a1] rfl (by (try simp only [List.map_toArray, List.map_cons, List.map_nil]); first | done | rfl | (simp only [List.length_drop, List.length_take]; rfl)) ?_; (with_reducible refine (plan_Make.calls k _ _ l0 a1 st 0 _ ?side1 ?side2 H2.out).mono ?_); (case side1 => repeat (first | exact (Kd.C_below HR0.out (by repeat (first | (with_reducible first | exact HB.out | apply below_alloc | apply pw_below_drewN | apply below_drew1) | exact HB.out))) | (with_reducible refine Kd.C_alloc ?_ _) | (with_reducible refine Kd.C_drewN ?_ _) | (with_reducible refine Kd.C_drew ?_))); (case side2 => exact HC0.out); rintro e w2 ⟨v2_, rfl, hs_, hb⟩; refine ⟨_, rfl, ?_⟩; obtain ⟨As, cs, es_⟩ := Kd.N_slice hs_; subst es_; have HSC := Aside0.mk (Kd.N_reads' hs_).2.1; have HS := Aside0.mk (Kd.N_reads' hs_).2.2; clear hs_; have mb_ := Aside0.mk (below_step (by repeat (first | (with_reducible first | exact HB.out | apply below_alloc | apply pw_below_drewN | apply below_drew1) | exact HB.out)) hb); clear HB; have HB := mb_; clear mb_; (try clear hb)) | ((with_reducible refine gate_callee (f := 16) rfl ?_); refine goesL_ (some 36) rfl rfl Try.func16 (by kernel_rfl) rfl #[.slice A0 l0.length c0, .int .i64 a1, .slice As st.length cs] rfl (by (try simp only [List.map_toArray, List.map_cons, List.map_nil]); first | done | rfl | (simp only [List.length_drop, List.length_take]; rfl)) ?_; (with_reducible refine (plan_Load.calls k _ _ l0 a1 _ _ st r 0 _ ?side1 ?side2 ?side3 ?side4 H3.out).mono ?_); (case side1 => repeat (first | exact (Kd.C_below HR0.out (by repeat (first | (with_reducible first | exact HB.out | apply below_alloc | apply pw_below_drewN | apply below_drew1) | exact HB.out))) | (with_reducible refine Kd.C_alloc ?_ _) | (with_reducible refine Kd.C_drewN ?_ _) | (with_reducible refine Kd.C_drew ?_))); (case side2 => exact HC0.out); (case side3 => repeat (first | exact HS.out | (with_reducible refine Kd.C_alloc ?_ _) | (with_reducible refine Kd.C_drewN ?_ _) | (with_reducible refine Kd.C_drew ?_))); (case side4 => exact HSC.out); rintro e w3 ⟨rfl, hb⟩; refine ⟨_, rfl, ?_⟩; have m0_ := Aside0.mk (Kd.C_below HS.out hb); have mb_ := Aside0.mk (below_step (by repeat (first | (with_reducible first | exact HB.out | apply below_alloc | apply pw_below_drewN | apply below_drew1) | exact HB.out)) hb); (try clear HS); have HS := m0_; clear m0_; clear HB; have HB := mb_; clear mb_; (try clear hb); obtain ⟨ad, Ai, ci, eA, hx0, hx1, hl0, hi0⟩ := at_T51 HS.out 0 (Int.le_refl 0) HP.out; subst eA; have ea_ : ad.add ((0 : Int).toNat * 2) = ad := (show ad.add 0 = ad by simp [Addr.add]); rw [ea_] at hx0 hx1; clear ea_; have HXL := Aside0.mk hl0; have HXI := Aside0.mk hi0; clear hl0 hi0) | (go_at_call 23; (with_reducible refine (milllaw10_num.calls 0 0 _ rfl).mono ?_); rintro e w' ⟨rfl, ⟨nd, rfl⟩⟩) | (simp only [hop]))
  go_ret
  exact ⟨by first | rfl | (simp; done) | (simp [*]; done), by repeat (first | (with_reducible first | exact HB.out | apply below_alloc | apply pw_below_drewN | apply below_drew1) | exact HB.out)⟩
end Go.Proofs.Ytbgabijjnbmghaa.P
/- Plain law: what given (of plan and of the reference) answers. -/
namespace Go.Proofs.Ytbgabijjnbmghaa.P
open Go.RowKit Go.Proofs.YtbgabijjnbmghaaW.PrintWords Go.Proofs.YtbgabijjnbmghaaW.PrintLast Go.Proofs.YtbgabijjnbmghaaW.PrintMore
set_option linter.unusedVariables false
set_option linter.unusedSimpArgs false

theorem w64 (x : Int) (h : -9223372036854775808 ≤ x) (h2 : x ≤ 9223372036854775807) : wrap64 x = x := by unfold wrap64; omega
def okW (x : Int) : Prop := 0 ≤ x ∧ x ≤ 1073741824
instance (x : Int) : Decidable (okW x) := by unfold okW; infer_instance
def givenV (l : List Int) (fan : Int) : Int :=
  if fan < 2 ∨ fan > 64 then 2 else if l.length < 1 ∨ l.length > 65536 then 100 else if ∀ x ∈ l, okW x then 0 else 100
theorem rd_getElem {l : List Int} {i : Nat} (h : i < l.length) : rd l (i : Int) = l[i] := by
  unfold rd; rw [Int.toNat_natCast, List.getD_eq_getElem?_getD, List.getElem?_eq_getElem h]; rfl
theorem drop_cons {α : Type} {l : List α} {i : Nat} (h : i < l.length) : l.drop i = l[i] :: l.drop (i + 1) := List.drop_eq_getElem_cons h
theorem plan_given_l0 (l : List Int) (hl : l.length ≤ 65536) : ∀ (d i : Nat), l.length - i = d → i ≤ l.length → Ev (fun k => plan_given.l0 k l l.length (i : Int)) (if ∀ x ∈ l.drop i, okW x then 0 else 100)
  | 0, i, hd, hi => by
    have e : i = l.length := by omega
    subst e
    refine Ev.step (f := fun _ => some 0) (fun k => ?_) ?_
    · rw [plan_given.l0, if_neg (by omega)]
    · rw [List.drop_length, if_pos (by simp)]; exact Ev.now _
  | d + 1, i, hd, hi => by
    have hlt : i < l.length := by omega
    have ih := plan_given_l0 l hl d (i + 1) (by omega) (by omega)
    have hr := rd_getElem hlt
    by_cases h1 : l[i] < 0
    · refine Ev.step (f := fun _ => some 100) (fun k => ?_) ?_
      · rw [plan_given.l0, if_pos (by omega), if_pos (by omega), if_pos (by omega), hr, if_pos h1]
      · rw [drop_cons hlt, if_neg (fun h => by have := (h _ (List.mem_cons_self ..)).1; omega)]; exact Ev.now _
    · by_cases h2 : l[i] > 1073741824
      · refine Ev.step (f := fun _ => some 100) (fun k => ?_) ?_
        · rw [plan_given.l0, if_pos (by omega), if_pos (by omega), if_pos (by omega), hr, if_neg h1, if_pos h2]
        · rw [drop_cons hlt, if_neg (fun h => by have := (h _ (List.mem_cons_self ..)).2; omega)]; exact Ev.now _
      · refine Ev.step (f := fun k => plan_given.l0 k l l.length ((i + 1 : Nat) : Int)) (fun k => ?_) ?_
        · rw [plan_given.l0, if_pos (by omega), if_pos (by omega), if_pos (by omega), hr, if_neg h1, if_neg h2, w64 _ (by omega) (by omega)]; rfl
        · rw [drop_cons hlt]
          have e : (∀ x ∈ l[i] :: l.drop (i + 1), okW x) ↔ ∀ x ∈ l.drop (i + 1), okW x := by
            constructor
            · exact fun h x hx => h x (List.mem_cons_of_mem _ hx)
            · intro h x hx
              rcases List.mem_cons.1 hx with rfl | hx
              · exact ⟨by omega, by omega⟩
              · exact h x hx
          simp only [e]
          exact ih
theorem plan_given_ev (l : List Int) (fan : Int) : Ev (fun k => plan_given.f k l fan) (givenV l fan) := by
  unfold givenV plan_given.f
  by_cases h1 : fan < 2
  · rw [if_pos (.inl h1)]
    simp only [if_pos h1]
    exact Ev.step (f := fun _ => some 2) (fun k => by rw [plan_given.j0, if_pos rfl]) (Ev.now _)
  · simp only [if_neg h1]
    by_cases h2 : fan > 64
    · rw [if_pos (.inr h2)]
      exact Ev.step (f := fun _ => some 2) (fun k => by rw [plan_given.j0, if_pos (by simpa using h2)]) (Ev.now _)
    · rw [if_neg (by omega)]
      have e2 : ¬ (decide (fan > 64) = true) := by simpa using h2
      by_cases h3 : l.length < 1
      · rw [if_pos (.inl h3)]
        refine Ev.step (f := fun k => plan_given.j1 k l true) (fun k => by rw [plan_given.j0, if_neg e2, if_pos (by omega)]) ?_
        exact Ev.step (f := fun _ => some 100) (fun k => by rw [plan_given.j1, if_pos rfl]) (Ev.now _)
      · refine Ev.step (f := fun k => plan_given.j1 k l (decide ((l.length : Int) > 65536))) (fun k => by rw [plan_given.j0, if_neg e2, if_neg (by omega)]) ?_
        by_cases h4 : l.length > 65536
        · rw [if_pos (.inr h4)]
          exact Ev.step (f := fun _ => some 100) (fun k => by rw [plan_given.j1, if_pos (by simp; omega)]) (Ev.now _)
        · rw [if_neg (by omega)]
          refine Ev.step (f := fun k => plan_given.l0 k l l.length ((0 : Nat) : Int)) (fun k => by rw [plan_given.j1, if_neg (by simp; omega)]; rfl) ?_
          exact plan_given_l0 l (by omega) l.length 0 rfl (Nat.zero_le _)

theorem ref_given_l0 (l : List Int) (hl : l.length ≤ 65536) : ∀ (d i : Nat), l.length - i = d → i ≤ l.length → Ev (fun k => millref10_Given.l0 k l (i : Int)) (if ∀ x ∈ l.drop i, okW x then 0 else 100)
  | 0, i, hd, hi => by
    have e : i = l.length := by omega
    subst e
    refine Ev.step (f := fun _ => some 0) (fun k => ?_) ?_
    · rw [millref10_Given.l0, if_neg (by omega)]
    · rw [List.drop_length, if_pos (by simp)]; exact Ev.now _
  | d + 1, i, hd, hi => by
    have hlt : i < l.length := by omega
    have ih := ref_given_l0 l hl d (i + 1) (by omega) (by omega)
    have hr := rd_getElem hlt
    by_cases h1 : l[i] < 0
    · refine Ev.step (f := fun _ => some 100) (fun k => ?_) ?_
      · rw [millref10_Given.l0, if_pos (by omega), if_pos (by omega), hr, if_pos h1]
      · rw [drop_cons hlt, if_neg (fun h => by have := (h _ (List.mem_cons_self ..)).1; omega)]; exact Ev.now _
    · by_cases h2 : l[i] > 1073741824
      · refine Ev.step (f := fun _ => some 100) (fun k => ?_) ?_
        · rw [millref10_Given.l0, if_pos (by omega), if_pos (by omega), hr, if_neg h1, if_pos h2]
        · rw [drop_cons hlt, if_neg (fun h => by have := (h _ (List.mem_cons_self ..)).2; omega)]; exact Ev.now _
      · refine Ev.step (f := fun k => millref10_Given.l0 k l ((i + 1 : Nat) : Int)) (fun k => ?_) ?_
        · rw [millref10_Given.l0, if_pos (by omega), if_pos (by omega), hr, if_neg h1, if_neg h2, w64 _ (by omega) (by omega)]; rfl
        · rw [drop_cons hlt]
          have e : (∀ x ∈ l[i] :: l.drop (i + 1), okW x) ↔ ∀ x ∈ l.drop (i + 1), okW x := by
            constructor
            · exact fun h x hx => h x (List.mem_cons_of_mem _ hx)
            · intro h x hx
              rcases List.mem_cons.1 hx with rfl | hx
              · exact ⟨by omega, by omega⟩
              · exact h x hx
          simp only [e]
          exact ih
theorem ref_given_ev (l : List Int) (fan : Int) : Ev (fun k => millref10_Given.f k l fan) (givenV l fan) := by
  unfold givenV millref10_Given.f
  by_cases h1 : fan < 2
  · rw [if_pos (.inl h1)]
    simp only [if_pos h1]
    exact Ev.step (f := fun _ => some 2) (fun k => by rw [millref10_Given.j0, if_pos rfl]) (Ev.now _)
  · simp only [if_neg h1]
    by_cases h2 : fan > 64
    · rw [if_pos (.inr h2)]
      exact Ev.step (f := fun _ => some 2) (fun k => by rw [millref10_Given.j0, if_pos (by simpa using h2)]) (Ev.now _)
    · rw [if_neg (by omega)]
      have e2 : ¬ (decide (fan > 64) = true) := by simpa using h2
      by_cases h3 : l.length < 1
      · rw [if_pos (.inl h3)]
        refine Ev.step (f := fun k => millref10_Given.j1 k l true) (fun k => by rw [millref10_Given.j0, if_neg e2, if_pos (by omega)]) ?_
        exact Ev.step (f := fun _ => some 100) (fun k => by rw [millref10_Given.j1, if_pos rfl]) (Ev.now _)
      · refine Ev.step (f := fun k => millref10_Given.j1 k l (decide ((l.length : Int) > 65536))) (fun k => by rw [millref10_Given.j0, if_neg e2, if_neg (by omega)]) ?_
        by_cases h4 : l.length > 65536
        · rw [if_pos (.inr h4)]
          exact Ev.step (f := fun _ => some 100) (fun k => by rw [millref10_Given.j1, if_pos (by simp; omega)]) (Ev.now _)
        · rw [if_neg (by omega)]
          refine Ev.step (f := fun k => millref10_Given.l0 k l ((0 : Nat) : Int)) (fun k => by rw [millref10_Given.j1, if_neg (by simp; omega)]; rfl) ?_
          exact ref_given_l0 l (by omega) l.length 0 rfl (Nat.zero_le _)
theorem givenV_zero {l : List Int} {fan : Int} (h : givenV l fan = 0) : 2 ≤ fan ∧ fan ≤ 64 ∧ 1 ≤ l.length ∧ l.length ≤ 65536 ∧ ∀ x ∈ l, okW x := by
  unfold givenV at h
  split at h
  · omega
  · split at h
    · omega
    · split at h
      · rename_i h1 h2 h3; exact ⟨by omega, by omega, by omega, by omega, h3⟩
      · omega
end Go.Proofs.Ytbgabijjnbmghaa.P
/- Plain law: what plan.Check answers. -/
namespace Go.Proofs.Ytbgabijjnbmghaa.P
open Go.RowKit Go.Proofs.YtbgabijjnbmghaaW.PrintWords Go.Proofs.YtbgabijjnbmghaaW.PrintLast Go.Proofs.YtbgabijjnbmghaaW.PrintMore
set_option linter.unusedVariables false
set_option linter.unusedSimpArgs false

/-- may x stand behind p? -/
def nextOk (p : Option Int) (x : Int) : Prop := ∀ y, p = some y → y < x
instance (p : Option Int) (x : Int) : Decidable (nextOk p x) := by
  unfold nextOk
  cases p with
  | none => exact isTrue (fun y h => by cases h)
  | some z => exact decidable_of_iff (z < x) ⟨fun h y e => by cases e; exact h, fun h => h z rfl⟩
/-- the marks of a step's runs, as plan does it -/
def shapeRun (out : Int) : Option Int → List Int → List Bool → Bool × List Bool
  | _, [], m => (true, m)
  | p, x :: r, m => if 0 ≤ x ∧ x < out ∧ nextOk p x ∧ m.getD x.toNat false = false then shapeRun out (some x) r (m.set x.toNat true) else (false, m)
def prevAt (l : List Int) (i : Nat) : Option Int := if i = 0 then none else l[i - 1]?
theorem shaped_l0 (ins : List Int) (out : Int) (hl : ins.length ≤ 65536) : ∀ (d i : Nat) (m : List Bool), ins.length - i = d → i ≤ ins.length → out ≤ m.length →
    Ev (fun k => plan_shaped.l0 k m ins ins.length (i : Int) ins out) (shapeRun out (prevAt ins i) (ins.drop i) m)
  | 0, i, m, hd, hi, ho => by
    have e : i = ins.length := by omega
    subst e
    refine Ev.step (f := fun _ => some (true, m)) (fun k => ?_) ?_
    · rw [plan_shaped.l0, if_neg (by omega)]
    · rw [List.drop_length]; exact Ev.now _
  | d + 1, i, m, hd, hi, ho => by
    have hlt : i < ins.length := by omega
    have ih := fun m' (h : out ≤ m'.length) => shaped_l0 ins out hl d (i + 1) m' (by omega) (by omega) h
    have hr := rd_getElem hlt
    have hpa : prevAt ins (i + 1) = some ins[i] := by simp [prevAt, hlt]
    rw [drop_cons hlt, shapeRun]
    by_cases h1 : ins[i] < 0
    · rw [if_neg (by omega)]
      exact Ev.step (f := fun _ => some (false, m)) (fun k => by rw [plan_shaped.l0, if_pos (by omega), if_pos (by omega), if_pos (by omega), hr, if_pos h1]) (Ev.now _)
    by_cases h2 : ins[i] ≥ out
    · rw [if_neg (by omega)]
      exact Ev.step (f := fun _ => some (false, m)) (fun k => by rw [plan_shaped.l0, if_pos (by omega), if_pos (by omega), if_pos (by omega), hr, if_neg h1, if_pos h2]) (Ev.now _)
    have hmk : ∀ (hn : nextOk (prevAt ins i) ins[i]) (hg : ∀ k (r : Option (Bool × List Bool)), (if 0 ≤ ins[i] then (if ins[i] < (m.length : Int) then (if rdOf false m ins[i] = true then some (false, m) else plan_shaped.l0 k (m.set (ins[i]).toNat true) ins ins.length (wrap64 ((i : Int) + 1)) ins out) else none) else none) = r → plan_shaped.l0 (k + 1) m ins ins.length (i : Int) ins out = r), Ev (fun k => plan_shaped.l0 k m ins ins.length (i : Int) ins out) (if 0 ≤ ins[i] ∧ ins[i] < out ∧ nextOk (prevAt ins i) ins[i] ∧ m.getD (ins[i]).toNat false = false then shapeRun out (some ins[i]) (ins.drop (i + 1)) (m.set (ins[i]).toNat true) else (false, m)) := by
      intro hn hg
      by_cases h3 : m.getD (ins[i]).toNat false = false
      · rw [if_pos ⟨by omega, by omega, hn, h3⟩]
        refine Ev.step (f := fun k => plan_shaped.l0 k (m.set (ins[i]).toNat true) ins ins.length ((i + 1 : Nat) : Int) ins out) (fun k => ?_) ?_
        · refine hg k _ ?_
          rw [if_pos (by omega), if_pos (by omega), if_neg (by unfold rdOf; rw [h3]; simp), w64 _ (by omega) (by omega)]; rfl
        · rw [← hpa]; exact ih _ (by rw [List.length_set]; exact ho)
      · rw [if_neg (fun h => h3 h.2.2.2)]
        refine Ev.step (f := fun _ => some (false, m)) (fun k => ?_) (Ev.now _)
        refine hg k _ ?_
        rw [if_pos (by omega), if_pos (by omega), if_pos (by unfold rdOf; simpa using h3)]
    by_cases hi0 : i = 0
    · subst hi0
      refine hmk (fun y h => by simp [prevAt] at h) (fun k r h => ?_)
      rw [plan_shaped.l0, if_pos (by omega), if_pos (by omega), if_pos (by omega), hr, if_neg h1, if_neg h2, if_neg (by omega)]
      exact h
    · have hlt2 : i - 1 < ins.length := by omega
      have hr2 : rd ins (wrap64 ((i : Int) - 1)) = ins[i - 1] := by
        rw [w64 _ (by omega) (by omega), show (i : Int) - 1 = ((i - 1 : Nat) : Int) by omega]; exact rd_getElem hlt2
      have hpi : prevAt ins i = some ins[i - 1] := by simp [prevAt, hi0, hlt2]
      by_cases h4 : ins[i] ≤ ins[i - 1]
      · rw [if_neg (fun h => by have := h.2.2.1 _ hpi; omega)]
        refine Ev.step (f := fun _ => some (false, m)) (fun k => ?_) (Ev.now _)
        rw [plan_shaped.l0, if_pos (by omega), if_pos (by omega), if_pos (by omega), hr, if_neg h1, if_neg h2, if_pos (by omega), if_pos (by rw [w64 _ (by omega) (by omega)]; omega), if_pos (by rw [w64 _ (by omega) (by omega)]; omega), hr2, if_pos h4]
      · refine hmk (fun y h => by rw [hpi] at h; cases h; omega) (fun k r h => ?_)
        rw [plan_shaped.l0, if_pos (by omega), if_pos (by omega), if_pos (by omega), hr, if_neg h1, if_neg h2, if_pos (by omega), if_pos (by rw [w64 _ (by omega) (by omega)]; omega), if_pos (by rw [w64 _ (by omega) (by omega)]; omega), hr2, if_neg h4]
        exact h
/-- is a step of the right form, but for its runs? -/
def formOk (n fan s : Nat) (st : S51) : Prop := st.f1 = (n : Int) + s ∧ 1 ≤ st.f0.length ∧ st.f0.length ≤ fan ∧ (st.f0.length = 1 → n ≤ 1)
instance (n fan s : Nat) (st : S51) : Decidable (formOk n fan s st) := by unfold formOk; infer_instance
theorem shaped_ev (st : S51) (n fan s : Nat) (m : List Bool) (hn : n ≤ 65536) (hs : s ≤ 65536) (hf : fan ≤ 64) (hm : n + s ≤ m.length) :
    (formOk n fan s st → Ev (fun k => plan_shaped.f k st.f0 st.f1 (s : Int) (n : Int) (fan : Int) m) (shapeRun st.f1 none st.f0 m)) ∧
    (¬ formOk n fan s st → Ev (fun k => plan_shaped.f k st.f0 st.f1 (s : Int) (n : Int) (fan : Int) m) (false, m)) := by
  have hw : wrap64 ((n : Int) + (s : Int)) = (n : Int) + s := w64 _ (by omega) (by omega)
  have bad : ∀ (g : Nat → Option (Bool × List Bool)), (∀ k, g k = plan_shaped.j0 k m true st.f0 st.f1) → Ev g (false, m) := fun g hg =>
    Ev.congr hg (Ev.step (f := fun _ => some (false, m)) (fun k => by rw [plan_shaped.j0, if_pos rfl]) (Ev.now _))
  refine ⟨fun h => ?_, fun h => ?_⟩
  · obtain ⟨h1, h2, h3, h4⟩ := h
    have good : ∀ (g : Nat → Option (Bool × List Bool)), (∀ k, g k = plan_shaped.j0 k m false st.f0 st.f1) → Ev g (shapeRun st.f1 none st.f0 m) := fun g hg => by
      refine Ev.congr hg (Ev.step (f := fun k => plan_shaped.l0 k m st.f0 st.f0.length ((0 : Nat) : Int) st.f0 st.f1) (fun k => by rw [plan_shaped.j0, if_neg (by simp)]; rfl) ?_)
      exact shaped_l0 st.f0 st.f1 (by omega) st.f0.length 0 m rfl (Nat.zero_le _) (by omega)
    refine good _ (fun k => ?_)
    rw [plan_shaped.f, if_pos (by rw [hw]; exact h1), if_neg (by omega), if_neg (by omega)]
    split
    · rw [decide_eq_false (by have := h4 (by omega); omega)]
    · rfl
  · refine bad _ (fun k => ?_)
    rw [plan_shaped.f]
    split
    · rename_i g1
      rw [hw] at g1
      split
      · rfl
      · split
        · rfl
        · split
          · rw [decide_eq_true]
            exact Classical.byContradiction fun hc => h ⟨g1, by omega, by omega, fun _ => by omega⟩
          · exact absurd ⟨g1, by omega, by omega, fun _ => by omega⟩ h
    · rfl
end Go.Proofs.Ytbgabijjnbmghaa.P
/- Plain law: what a plan is, and that plan.Check tells it. -/
namespace Go.Proofs.Ytbgabijjnbmghaa.P
open Go.RowKit Go.Proofs.YtbgabijjnbmghaaW.PrintWords Go.Proofs.YtbgabijjnbmghaaW.PrintLast Go.Proofs.YtbgabijjnbmghaaW.PrintMore
set_option linter.unusedVariables false
set_option linter.unusedSimpArgs false

def flat (l : List S51) : List Int := l.flatMap (·.f0)
theorem flat_cons (st : S51) (l : List S51) : flat (st :: l) = st.f0 ++ flat l := rfl
theorem flat_append (a b : List S51) : flat (a ++ b) = flat a ++ flat b := by simp [flat]
/-- the steps from number s on are those of a plan, xs being merged already -/
def PlanFrom (n fan : Nat) : Nat → List S51 → List Int → Prop
  | _, [], _ => True
  | s, st :: r, xs => formOk n fan s st ∧ (∀ x ∈ st.f0, 0 ≤ x ∧ x < st.f1) ∧ st.f0.Pairwise (· < ·) ∧ (∀ x ∈ st.f0, x ∉ xs) ∧ PlanFrom n fan (s + 1) r (xs ++ st.f0)
structure Plan (n fan : Nat) (l : List S51) : Prop where
  some : 1 ≤ l.length
  few : l.length ≤ n
  steps : PlanFrom n fan 0 l []
  all : ∀ j : Nat, j + 1 < n + l.length → (j : Int) ∈ flat l

/-! ### marks -/
def Marked (m : List Bool) (xs : List Int) : Prop := ∀ j : Nat, m.getD j false = true ↔ (j : Int) ∈ xs
theorem marked_none (k : Nat) : Marked (List.replicate k false) [] := by
  intro j
  rw [List.getD_eq_getElem?_getD, List.getElem?_replicate]
  split <;> simp
theorem marked_set {m : List Bool} {xs : List Int} (h : Marked m xs) {x : Int} (h0 : 0 ≤ x) (hl : x < m.length) : Marked (m.set x.toNat true) (xs ++ [x]) := by
  intro j
  rw [List.getD_eq_getElem?_getD, List.getElem?_set]
  have := h j
  rw [List.getD_eq_getElem?_getD] at this
  by_cases e : x.toNat = j
  · rw [if_pos e, if_pos (by omega)]
    simp only [List.mem_append, List.mem_singleton]
    constructor
    · intro _; right; omega
    · intro _; rfl
  · rw [if_neg e, this]
    simp only [List.mem_append, List.mem_singleton]
    constructor
    · exact Or.inl
    · rintro (h | h)
      · exact h
      · omega
theorem marked_false {m : List Bool} {xs : List Int} (h : Marked m xs) {x : Int} (h0 : 0 ≤ x) : m.getD x.toNat false = false ↔ x ∉ xs := by
  have := h x.toNat
  rw [Int.toNat_of_nonneg h0] at this
  cases hb : m.getD x.toNat false with
  | false => rw [hb] at this; simpa using this
  | true => rw [hb] at this; simp at this; simpa using this
theorem shapeRun_length (out : Int) : ∀ (l : List Int) (p : Option Int) (m : List Bool), (shapeRun out p l m).2.length = m.length
  | [], p, m => rfl
  | x :: r, p, m => by
    rw [shapeRun]
    split
    · rw [shapeRun_length out r, List.length_set]
    · rfl
theorem shapeRun_iff (out : Int) : ∀ (l : List Int) (p : Option Int) (m : List Bool) (xs : List Int), Marked m xs → out ≤ m.length →
    ((shapeRun out p l m).1 = true ↔ ((∀ x ∈ l, 0 ≤ x ∧ x < out) ∧ l.Pairwise (· < ·) ∧ (∀ y, p = some y → ∀ x ∈ l, y < x) ∧ ∀ x ∈ l, x ∉ xs)) ∧ ((shapeRun out p l m).1 = true → Marked (shapeRun out p l m).2 (xs ++ l))
  | [], p, m, xs, hm, ho => by
    rw [shapeRun]
    exact ⟨by simp, fun _ => by simpa using hm⟩
  | x :: r, p, m, xs, hm, ho => by
    rw [shapeRun]
    split
    · rename_i c
      obtain ⟨c1, c2, c3, c4⟩ := c
      have hx := (marked_false hm c1).1 c4
      obtain ⟨e, k⟩ := shapeRun_iff out r (some x) (m.set x.toNat true) (xs ++ [x]) (marked_set hm c1 (by omega)) (by rw [List.length_set]; exact ho)
      refine ⟨?_, fun h => ?_⟩
      · rw [e]
        constructor
        · rintro ⟨a1, a2, a3, a4⟩
          refine ⟨?_, ?_, ?_, ?_⟩
          · intro y hy
            rcases List.mem_cons.1 hy with rfl | hy
            · exact ⟨c1, c2⟩
            · exact a1 y hy
          · exact List.Pairwise.cons (fun y hy => a3 x rfl y hy) a2
          · intro z hz y hy
            have hzx := c3 z hz
            rcases List.mem_cons.1 hy with rfl | hy
            · exact hzx
            · have := a3 x rfl y hy; omega
          · intro y hy
            rcases List.mem_cons.1 hy with rfl | hy
            · exact hx
            · exact fun h => a4 y hy (List.mem_append_left _ h)
        · rintro ⟨a1, a2, a3, a4⟩
          have a2' := List.pairwise_cons.1 a2
          refine ⟨fun y hy => a1 y (List.mem_cons_of_mem _ hy), a2'.2, ?_, ?_⟩
          · intro z hz y hy; cases hz; exact a2'.1 y hy
          · intro y hy h
            rcases List.mem_append.1 h with h | h
            · exact a4 y (List.mem_cons_of_mem _ hy) h
            · have := a2'.1 y hy
              simp at h
              omega
      · have := k h
        rwa [List.append_assoc] at this
    · rename_i c
      refine ⟨⟨fun h => by simp at h, fun h => ?_⟩, fun h => by simp at h⟩
      refine absurd ⟨(h.1 x (List.mem_cons_self ..)).1, (h.1 x (List.mem_cons_self ..)).2, fun y hy => h.2.2.1 y hy x (List.mem_cons_self ..), ?_⟩ c
      exact (marked_false hm (h.1 x (List.mem_cons_self ..)).1).2 (h.2.2.2 x (List.mem_cons_self ..))
def stepsRun (n fan : Nat) : Nat → List S51 → List Bool → Option (List Bool)
  | _, [], m => Option.some m
  | s, st :: r, m => if formOk n fan s st ∧ (shapeRun st.f1 none st.f0 m).1 = true then stepsRun n fan (s + 1) r (shapeRun st.f1 none st.f0 m).2 else none
theorem stepsRun_iff (n fan : Nat) : ∀ (l : List S51) (s : Nat) (m : List Bool) (xs : List Int), Marked m xs → n + s + l.length ≤ m.length →
    (PlanFrom n fan s l xs → ∃ m', stepsRun n fan s l m = Option.some m' ∧ Marked m' (xs ++ flat l) ∧ m'.length = m.length) ∧ (¬ PlanFrom n fan s l xs → stepsRun n fan s l m = none)
  | [], s, m, xs, hm, hl => ⟨fun _ => ⟨m, rfl, by simpa [flat] using hm, rfl⟩, fun h => absurd trivial h⟩
  | st :: r, s, m, xs, hm, hl => by
    rw [List.length_cons] at hl
    rw [stepsRun]
    by_cases hf : formOk n fan s st
    · have ho : st.f1 ≤ m.length := by have := hf.1; omega
      obtain ⟨e, k⟩ := shapeRun_iff st.f1 st.f0 none m xs hm ho
      by_cases hr : (shapeRun st.f1 none st.f0 m).1 = true
      · rw [if_pos ⟨hf, hr⟩]
        obtain ⟨a1, a2, _, a4⟩ := e.1 hr
        obtain ⟨i1, i2⟩ := stepsRun_iff n fan r (s + 1) _ (xs ++ st.f0) (k hr) (by rw [shapeRun_length]; omega)
        refine ⟨fun h => ?_, fun h => i2 (fun h2 => h ⟨hf, a1, a2, a4, h2⟩)⟩
        obtain ⟨m', g1, g2, g3⟩ := i1 h.2.2.2.2
        exact ⟨m', g1, by rw [flat_cons, ← List.append_assoc]; exact g2, by rw [g3, shapeRun_length]⟩
      · rw [if_neg (fun h => hr h.2)]
        exact ⟨fun h => absurd (e.2 ⟨h.2.1, h.2.2.1, (fun y hy => by cases hy), h.2.2.2.1⟩) hr, fun _ => rfl⟩
    · rw [if_neg (fun h => hf h.1)]
      exact ⟨fun h => absurd h.1 hf, fun _ => rfl⟩

/-! ### the walk's loops -/
theorem index_l0 (l : List Bool) (hl : l.length ≤ 1073741824) : ∀ (d i : Nat), l.length - i = d → i ≤ l.length → ∃ r : Int, Ev (fun k => slices_Index_bool_bool.l0 k l false l.length (i : Int)) r ∧ (r ≥ 0 ↔ ∃ j, i ≤ j ∧ j < l.length ∧ l.getD j true = false)
  | 0, i, hd, hi => by
    have e : i = l.length := by omega
    subst e
    exact ⟨-1, Ev.step (f := fun _ => Option.some (-1)) (fun k => by rw [slices_Index_bool_bool.l0, if_neg (by omega)]) (Ev.now _), ⟨fun h => by omega, fun ⟨j, h1, h2, _⟩ => by omega⟩⟩
  | d + 1, i, hd, hi => by
    have hlt : i < l.length := by omega
    have hro : rdOf false l (i : Int) = l[i] := by unfold rdOf; rw [Int.toNat_natCast, List.getD_eq_getElem?_getD, List.getElem?_eq_getElem hlt]; rfl
    have hg : l.getD i true = l[i] := by rw [List.getD_eq_getElem?_getD, List.getElem?_eq_getElem hlt]; rfl
    cases hb : l[i] with
    | false =>
      refine ⟨i, Ev.step (f := fun _ => Option.some (i : Int)) (fun k => ?_) (Ev.now _), ⟨fun _ => ⟨i, Nat.le_refl _, hlt, by rw [hg, hb]⟩, fun _ => by omega⟩⟩
      rw [slices_Index_bool_bool.l0, if_pos (by omega), if_pos (by omega), if_pos (by omega), hro, hb, if_pos (by decide)]
    | true =>
      obtain ⟨r, h1, h2⟩ := index_l0 l hl d (i + 1) (by omega) (by omega)
      refine ⟨r, Ev.step (f := fun k => slices_Index_bool_bool.l0 k l false l.length ((i + 1 : Nat) : Int)) (fun k => ?_) h1, ?_⟩
      · rw [slices_Index_bool_bool.l0, if_pos (by omega), if_pos (by omega), if_pos (by omega), hro, hb, if_neg (by simp), w64 _ (by omega) (by omega)]; rfl
      · rw [h2]
        constructor
        · rintro ⟨j, a, b, c⟩; exact ⟨j, by omega, b, c⟩
        · rintro ⟨j, a, b, c⟩
          refine ⟨j, ?_, b, c⟩
          by_cases e : j = i
          · subst e; rw [hg, hb] at c; cases c
          · omega
theorem contains_ev (l : List Bool) (hl : l.length ≤ 1073741824) : Ev (fun k => slices_Contains_bool_bool.f k l false) (decide (∃ j, j < l.length ∧ l.getD j true = false)) := by
  obtain ⟨r, h1, h2⟩ := index_l0 l hl l.length 0 rfl (Nat.zero_le _)
  have e : decide (r ≥ 0) = decide (∃ j, j < l.length ∧ l.getD j true = false) := by
    apply decide_eq_decide.2
    rw [h2]
    exact ⟨fun ⟨j, _, a, b⟩ => ⟨j, a, b⟩, fun ⟨j, a, b⟩ => ⟨j, Nat.zero_le _, a, b⟩⟩
  rw [← e]
  exact Ev.bind (g := fun k => slices_Index_bool_bool.f k l false) (a := r) h1 (Ev.now _)
instance : DecidableEq S51 := fun a b => by
  cases a; cases b
  rename_i a0 a1 b0 b1
  exact decidable_of_iff (a0 = b0 ∧ a1 = b1) (by simp)

theorem rdT_getElem {l : List S51} {i : Nat} (h : i < l.length) : rd_T51 l (i : Int) = l[i] := by
  unfold rd_T51; rw [Int.toNat_natCast, List.getD_eq_getElem?_getD, List.getElem?_eq_getElem h]; rfl
open Classical in
/-- the answer at the end of the marks -/
noncomputable def tailV (m : List Bool) : Int := if (∃ j, j + 1 < m.length ∧ m.getD j true = false) then 101 else 0
theorem tailV_pos {m : List Bool} (h : ∃ j, j + 1 < m.length ∧ m.getD j true = false) : tailV m = 101 := by unfold tailV; exact if_pos h
theorem tailV_neg {m : List Bool} (h : ¬ ∃ j, j + 1 < m.length ∧ m.getD j true = false) : tailV m = 0 := by unfold tailV; exact if_neg h
theorem check_l0 (fan n : Nat) (steps : List S51) (hn : n ≤ 65536) (hs : steps.length ≤ 65536) (hf : fan ≤ 64) : ∀ (d s : Nat) (m : List Bool), steps.length - s = d → s ≤ steps.length → m.length = n + steps.length → 1 ≤ m.length →
    Ev (fun k => plan_Check.l0 k (fan : Int) (n : Int) m steps steps.length (s : Int)) (match stepsRun n fan s (steps.drop s) m with | Option.none => 101 | Option.some m' => tailV m')
  | 0, s, m, hd, hi, hm, h1 => by
    have e : s = steps.length := by omega
    subst e
    rw [List.drop_length, stepsRun]
    have hw : wrap64 ((m.length : Int) - 1) = ((m.length - 1 : Nat) : Int) := by rw [w64 _ (by omega) (by omega)]; omega
    refine Ev.step (f := fun k => (slices_Contains_bool_bool.f k (m.take (m.length - 1)) false).bind fun t140 => if t140 = true then Option.some 101 else Option.some 0) (fun k => ?_) ?_
    · rw [plan_Check.l0, if_neg (by omega), hw, if_pos (by omega), if_pos (by omega), Int.toNat_natCast]
    · refine Ev.bind (contains_ev _ (by rw [List.length_take]; omega)) ?_
      show Ev _ (tailV m)
      have e : (∃ j, j < (m.take (m.length - 1)).length ∧ (m.take (m.length - 1)).getD j true = false) ↔ ∃ j, j + 1 < m.length ∧ m.getD j true = false := by
        rw [List.length_take]
        constructor
        · rintro ⟨j, a, b⟩
          rw [List.getD_eq_getElem?_getD, List.getElem?_take_of_lt (by omega), ← List.getD_eq_getElem?_getD] at b
          exact ⟨j, by omega, b⟩
        · rintro ⟨j, a, b⟩
          refine ⟨j, by omega, ?_⟩
          rw [List.getD_eq_getElem?_getD, List.getElem?_take_of_lt (by omega), ← List.getD_eq_getElem?_getD]
          exact b
      by_cases h : ∃ j, j + 1 < m.length ∧ m.getD j true = false
      · rw [tailV_pos h, decide_eq_true (e.2 h)]; exact Ev.now _
      · rw [tailV_neg h, decide_eq_false (fun h2 => h (e.1 h2))]; exact Ev.now _
  | d + 1, s, m, hd, hi, hm, h1 => by
    have hlt : s < steps.length := by omega
    have hr := rdT_getElem hlt
    have hsh := shaped_ev steps[s] n fan s m hn (by omega) hf (by omega)
    rw [drop_cons hlt, stepsRun]
    have head : ∀ k, plan_Check.l0 (k + 1) (fan : Int) (n : Int) m steps steps.length (s : Int) = (plan_shaped.f k (steps[s]).f0 (steps[s]).f1 (s : Int) (n : Int) (fan : Int) m).bind fun bt => if bt.1 = true then plan_Check.l0 k (fan : Int) (n : Int) bt.2 steps steps.length ((s + 1 : Nat) : Int) else Option.some 101 := fun k => by
      rw [plan_Check.l0, if_pos (by omega), if_pos (by omega), if_pos (by omega), hr, w64 _ (by omega) (by omega)]; rfl
    by_cases hfm : formOk n fan s steps[s]
    · by_cases hb : (shapeRun (steps[s]).f1 none (steps[s]).f0 m).1 = true
      · rw [if_pos ⟨hfm, hb⟩]
        refine Ev.step head (Ev.bind (hsh.1 hfm) ?_)
        simp only [hb, if_true]
        exact check_l0 fan n steps hn hs hf d (s + 1) _ (by omega) (by omega) (by rw [shapeRun_length]; exact hm) (by rw [shapeRun_length]; exact h1)
      · rw [if_neg (fun h => hb h.2)]
        refine Ev.step head (Ev.bind (hsh.1 hfm) ?_)
        simp only [hb, if_false]
        exact Ev.now _
    · rw [if_neg (fun h => hfm h.1)]
      refine Ev.step head (Ev.bind (hsh.2 hfm) ?_)
      simp only [Bool.false_eq_true, if_false]
      exact Ev.now _
open Classical in
noncomputable def checkV (l : List Int) (fan : Int) (steps : List S51) : Int :=
  if givenV l fan = 0 then (if Plan l.length fan.toNat steps then 0 else 101) else givenV l fan
open Classical in
theorem check_ev (l : List Int) (fan : Int) (steps : List S51) : Ev (fun k => plan_Check.f k l fan steps) (checkV l fan steps) := by
  unfold checkV
  refine Ev.bind (plan_given_ev l fan) ?_
  by_cases hg : givenV l fan = 0
  · simp only [if_pos hg]
    obtain ⟨hf1, hf2, hn1, hn2, _⟩ := givenV_zero hg
    obtain ⟨F, rfl⟩ : ∃ F : Nat, fan = F := ⟨fan.toNat, by omega⟩
    rw [Int.toNat_natCast]
    by_cases h0 : steps.length = 0
    · rw [if_neg (fun h => by have := h.some; omega)]
      have e0 : (steps.length : Int) = 0 := by omega
      simp only [if_pos e0]
      exact Ev.step (f := fun _ => Option.some 101) (fun k => by rw [plan_Check.j0, if_pos rfl]) (Ev.now _)
    · have e0 : ¬ ((steps.length : Int) = 0) := by omega
      simp only [if_neg e0]
      by_cases h1 : steps.length > l.length
      · rw [if_neg (fun h => by have := h.few; omega)]
        exact Ev.step (f := fun _ => Option.some 101) (fun k => by rw [plan_Check.j0, if_pos (by simp; omega)]) (Ev.now _)
      · have hw : wrap64 ((l.length : Int) + (steps.length : Int)) = ((l.length + steps.length : Nat) : Int) := by rw [w64 _ (by omega) (by omega)]; omega
        refine Ev.step (f := fun k => plan_Check.l0 k (F : Int) (l.length : Int) (List.replicate (l.length + steps.length) false) steps steps.length ((0 : Nat) : Int)) (fun k => ?_) ?_
        · rw [plan_Check.j0, if_neg (by simp; omega), hw, if_pos (by omega), Int.toNat_natCast, if_pos (by omega)]; rfl
        · have hc := check_l0 F l.length steps hn2 (by omega) (by omega) steps.length 0 (List.replicate (l.length + steps.length) false) rfl (Nat.zero_le _) (by simp) (by simp; omega)
          rw [List.drop_zero] at hc
          obtain ⟨i1, i2⟩ := stepsRun_iff l.length F steps 0 (List.replicate (l.length + steps.length) false) [] (marked_none _) (by simp)
          by_cases hp : PlanFrom l.length F 0 steps []
          · obtain ⟨m', g1, g2, g3⟩ := i1 hp
            rw [g1] at hc
            simp only at hc
            rw [List.nil_append] at g2
            rw [List.length_replicate] at g3
            have e : tailV m' = if Plan l.length F steps then 0 else 101 := by
              by_cases ha : ∃ j, j + 1 < m'.length ∧ m'.getD j true = false
              · rw [tailV_pos ha, if_neg]
                intro hpl
                obtain ⟨j, a, b⟩ := ha
                have := (g2 j).2 (hpl.all j (by omega))
                rw [List.getD_eq_getElem?_getD, List.getElem?_eq_getElem (by omega)] at this b
                simp only [Option.getD_some] at this b
                rw [this] at b; cases b
              · rw [tailV_neg ha, if_pos]
                refine ⟨by omega, by omega, hp, fun j hj => (g2 j).1 ?_⟩
                have := fun h => ha ⟨j, by omega, h⟩
                rw [List.getD_eq_getElem?_getD, List.getElem?_eq_getElem (by omega)] at this ⊢
                simpa using this
            rw [← e]; exact hc
          · rw [i2 hp] at hc
            rw [if_neg (fun h => hp h.steps)]
            exact hc
  · simp only [if_neg hg]; exact Ev.now _
end Go.Proofs.Ytbgabijjnbmghaa.P
/- Plain law: the sift of container/heap over rungs makes a heap, and its pops come in order. -/
namespace Go.Proofs.Ytbgabijjnbmghaa
open Go.RowKit
set_option linter.unusedVariables false

/-- the order of rungs -/
def le (x y : Rung) : Prop := x.2 < y.2 ∨ (x.2 = y.2 ∧ x.1 ≤ y.1)
instance (x y : Rung) : Decidable (le x y) := by unfold le; infer_instance
theorem lessB_iff (x y : Rung) : lessB x y = true ↔ ¬ le y x := by
  unfold lessB le
  simp only [Bool.or_eq_true, Bool.and_eq_true, decide_eq_true_eq]
  omega
theorem lessB_false (x y : Rung) : lessB x y = false ↔ le y x := by
  have := lessB_iff x y
  cases h : lessB x y <;> simp [h] at this ⊢ <;> exact this
theorem le_refl (x : Rung) : le x x := by unfold le; omega
theorem le_total (x y : Rung) : le x y ∨ le y x := by unfold le; omega
theorem le_trans {x y z : Rung} (h : le x y) (k : le y z) : le x z := by unfold le at *; omega
theorem le_antisymm {x y : Rung} (h : le x y) (k : le y x) : x = y := by
  unfold le at *
  exact Prod.ext (by omega) (by omega)
theorem le_of_lessB {x y : Rung} (h : lessB x y = true) : le x y := by
  rcases le_total x y with k | k
  · exact k
  · exact absurd k ((lessB_iff x y).1 h)

/-! ### swaps -/
theorem at_swap {l : List Rung} {i j : Nat} (hi : i < l.length) (hj : j < l.length) (m : Nat) : at_ (swapAt l i j) m = if m = j then at_ l i else if m = i then at_ l j else at_ l m := by
  have h := swapAt_get hi hj m
  unfold at_ at *
  rw [List.getD_eq_getElem?_getD, h]
  split
  · rfl
  · split
    · rfl
    · rw [List.getD_eq_getElem?_getD]
theorem swapAt_perm {l : List Rung} {i j : Nat} (hi : i < l.length) (hj : j < l.length) : (swapAt l i j).Perm l := by
  have e1 : at_ l j = l[j] := by have := at_of_lt hj; rw [List.getElem?_eq_getElem hj] at this; exact (Option.some.inj this).symm
  have e2 : at_ l i = l[i] := by have := at_of_lt hi; rw [List.getElem?_eq_getElem hi] at this; exact (Option.some.inj this).symm
  unfold swapAt
  rw [e1, e2]
  exact List.set_set_perm hi hj

/-! ### down -/
/-- parents from s on come ahead of their children, below n -/
def HeapFrom (n s : Nat) (l : List Rung) : Prop := ∀ j, 0 < j → j < n → s ≤ (j - 1) / 2 → le (at_ l ((j - 1) / 2)) (at_ l j)
/-- .. but for i and its children, which stand behind i's parent -/
structure Hole (n s i : Nat) (l : List Rung) : Prop where
  rest : ∀ j, 0 < j → j < n → s ≤ (j - 1) / 2 → (j - 1) / 2 ≠ i → le (at_ l ((j - 1) / 2)) (at_ l j)
  over : 0 < i → s ≤ (i - 1) / 2 → ∀ j, 0 < j → j < n → (j - 1) / 2 = i → le (at_ l ((i - 1) / 2)) (at_ l j)
theorem hole_done {n s i : Nat} {l : List Rung} (h : Hole n s i l) (hc : ∀ j, 0 < j → j < n → (j - 1) / 2 = i → le (at_ l i) (at_ l j)) : HeapFrom n s l := by
  intro j h0 hj hs
  by_cases e : (j - 1) / 2 = i
  · have := hc j h0 hj e; rwa [← e] at this
  · exact h.rest j h0 hj hs e
theorem hole_next {n s i c : Nat} {l : List Rung} (h : Hole n s i l) (hn : n ≤ l.length) (hs : s ≤ i) (hcn : c < n) (hc0 : 0 < c) (hci : (c - 1) / 2 = i) (hmin : ∀ j, 0 < j → j < n → (j - 1) / 2 = i → le (at_ l c) (at_ l j)) (hlt : lessB (at_ l c) (at_ l i) = true) : Hole n s c (swapAt l i c) := by
  have hil : i < l.length := by omega
  have hcl : c < l.length := by omega
  have hic : i ≠ c := by omega
  refine ⟨?_, ?_⟩
  · intro j h0 hj hsj hne
    rw [at_swap hil hcl, at_swap hil hcl]
    rw [if_neg hne]
    by_cases e : (j - 1) / 2 = i
    · rw [if_pos e]
      by_cases ej : j = c
      · subst ej; rw [if_pos rfl]; exact le_of_lessB hlt
      · rw [if_neg ej, if_neg (by omega)]; exact hmin j h0 hj e
    · rw [if_neg e]
      by_cases ej : j = c
      · subst ej; omega
      · rw [if_neg ej]
        by_cases ei : j = i
        · subst ei
          rw [if_pos rfl]
          exact h.over h0 hsj c hc0 hcn hci
        · rw [if_neg ei]; exact h.rest j h0 hj hsj e
  · intro _ _ j h0 hj hjc
    rw [at_swap hil hcl, at_swap hil hcl]
    rw [if_neg (by omega), if_pos hci, if_neg (by omega), if_neg (by omega)]
    have := h.rest j h0 hj (by omega) (by omega)
    rwa [hjc] at this
theorem kids {i j : Nat} (h0 : 0 < j) (h : (j - 1) / 2 = i) : j = 2 * i + 1 ∨ j = 2 * i + 2 := by omega
theorem down_heap (n s : Nat) : ∀ (f : Nat) (l : List Rung) (i : Nat), n - i ≤ f → n ≤ l.length → s ≤ i → Hole n s i l → HeapFrom n s (downL n f l i)
  | 0, l, i, hf, hn, hs, h => hole_done h (fun j h0 hj e => by omega)
  | f + 1, l, i, hf, hn, hs, h => by
    unfold downL
    split
    · rename_i c1
      split
      · rename_i c2
        have hmin : ∀ j, 0 < j → j < n → (j - 1) / 2 = i → le (at_ l (2 * i + 2)) (at_ l j) := fun j h0 hj e => by
          rcases kids h0 e with rfl | rfl
          · exact le_of_lessB c2.2
          · exact le_refl _
        split
        · rename_i c3
          exact down_heap n s f _ _ (by omega) (by rw [swapAt_length]; exact hn) (by omega) (hole_next h hn hs c2.1 (by omega) (by omega) hmin c3)
        · rename_i c3
          have c3' : le (at_ l i) (at_ l (2 * i + 2)) := (lessB_false _ _).1 (by simpa using c3)
          exact hole_done h (fun j h0 hj e => le_trans c3' (hmin j h0 hj e))
      · rename_i c2
        have hmin : ∀ j, 0 < j → j < n → (j - 1) / 2 = i → le (at_ l (2 * i + 1)) (at_ l j) := fun j h0 hj e => by
          rcases kids h0 e with rfl | rfl
          · exact le_refl _
          · refine (lessB_false _ _).1 ?_
            cases hb : lessB (at_ l (2 * i + 2)) (at_ l (2 * i + 1)) with
            | false => rfl
            | true => exact absurd ⟨hj, hb⟩ c2
        split
        · rename_i c3
          exact down_heap n s f _ _ (by omega) (by rw [swapAt_length]; exact hn) (by omega) (hole_next h hn hs c1 (by omega) (by omega) hmin c3)
        · rename_i c3
          have c3' : le (at_ l i) (at_ l (2 * i + 1)) := (lessB_false _ _).1 (by simpa using c3)
          exact hole_done h (fun j h0 hj e => le_trans c3' (hmin j h0 hj e))
    · rename_i c1
      exact hole_done h (fun j h0 hj e => by rcases kids h0 e with rfl | rfl <;> omega)
theorem down_perm (n : Nat) : ∀ (f : Nat) (l : List Rung) (i : Nat), n ≤ l.length → (downL n f l i).Perm l
  | 0, l, i, hn => List.Perm.refl _
  | f + 1, l, i, hn => by
    unfold downL
    split
    · split
      · split
        · exact (down_perm n f _ _ (by rw [swapAt_length]; exact hn)).trans (swapAt_perm (by omega) (by omega))
        · exact List.Perm.refl _
      · split
        · exact (down_perm n f _ _ (by rw [swapAt_length]; exact hn)).trans (swapAt_perm (by omega) (by omega))
        · exact List.Perm.refl _
    · exact List.Perm.refl _
theorem down_far (n : Nat) : ∀ (f : Nat) (l : List Rung) (i m : Nat), n ≤ l.length → n ≤ m → at_ (downL n f l i) m = at_ l m
  | 0, l, i, m, hn, hm => rfl
  | f + 1, l, i, m, hn, hm => by
    unfold downL
    split
    · split
      · split
        · rw [down_far n f _ _ m (by rw [swapAt_length]; exact hn) hm, at_swap (by omega) (by omega), if_neg (by omega), if_neg (by omega)]
        · rfl
      · split
        · rw [down_far n f _ _ m (by rw [swapAt_length]; exact hn) hm, at_swap (by omega) (by omega), if_neg (by omega), if_neg (by omega)]
        · rfl
    · rfl

/-! ### up -/
structure Rise (n j : Nat) (l : List Rung) : Prop where
  rest : ∀ m, 0 < m → m < n → m ≠ j → le (at_ l ((m - 1) / 2)) (at_ l m)
  over : 0 < j → ∀ m, 0 < m → m < n → (m - 1) / 2 = j → le (at_ l ((j - 1) / 2)) (at_ l m)
theorem up_heap (n : Nat) : ∀ (f : Nat) (l : List Rung) (j : Nat), j ≤ f → n ≤ l.length → j < n → Rise n j l → HeapFrom n 0 (upL f l j)
  | 0, l, j, hf, hn, hj, h => fun m h0 hm _ => h.rest m h0 hm (by omega)
  | f + 1, l, j, hf, hn, hj, h => by
    unfold upL
    split
    · rename_i c1; exact fun m h0 hm _ => h.rest m h0 hm (by omega)
    · rename_i c1
      split
      · rename_i c2
        refine up_heap n f _ _ (by omega) (by rw [swapAt_length]; exact hn) (by omega) ?_
        have h1 : (j - 1) / 2 < l.length := by omega
        have h2 : j < l.length := by omega
        have hle := le_of_lessB c2
        refine ⟨?_, ?_⟩
        · intro m h0 hm hne
          rw [at_swap h1 h2, at_swap h1 h2]
          by_cases e1 : m = j
          · subst e1
            rw [if_neg (by omega), if_pos rfl, if_pos rfl]; exact hle
          · rw [if_neg e1, if_neg hne]
            by_cases e2 : (m - 1) / 2 = j
            · rw [if_pos e2]; exact h.over (by omega) m h0 hm e2
            · rw [if_neg e2]
              by_cases e3 : (m - 1) / 2 = (j - 1) / 2
              · rw [if_pos e3]
                have := h.rest m h0 hm e1
                rw [e3] at this
                exact le_trans hle this
              · rw [if_neg e3]; exact h.rest m h0 hm e1
        · intro hp0 m h0 hm e
          rw [at_swap h1 h2, at_swap h1 h2]
          rw [if_neg (by omega), if_neg (by omega)]
          have hp := h.rest ((j - 1) / 2) hp0 (by omega) (by omega)
          by_cases e1 : m = j
          · subst e1; rw [if_pos rfl]; exact hp
          · rw [if_neg e1, if_neg (by omega)]
            have := h.rest m h0 hm e1
            rw [e] at this
            exact le_trans hp this
      · rename_i c2
        intro m h0 hm _
        by_cases e : m = j
        · subst e; exact (lessB_false _ _).1 (by simpa using c2)
        · exact h.rest m h0 hm e
theorem up_perm : ∀ (f : Nat) (l : List Rung) (j : Nat), j < l.length → (upL f l j).Perm l
  | 0, l, j, hj => List.Perm.refl _
  | f + 1, l, j, hj => by
    unfold upL
    split
    · exact List.Perm.refl _
    · split
      · exact (up_perm f _ _ (by rw [swapAt_length]; omega)).trans (swapAt_perm (by omega) hj)
      · exact List.Perm.refl _

/-! ### the whole heap -/
def IsHeap (l : List Rung) : Prop := HeapFrom l.length 0 l
theorem init_heap (n : Nat) : ∀ (i : Nat) (l : List Rung), l.length = n → HeapFrom n i l → HeapFrom n 0 (initL n i l)
  | 0, l, hn, h => h
  | i + 1, l, hn, h => by
    rw [initL]
    refine init_heap n i _ (by rw [downL_length]; exact hn) ?_
    refine down_heap n i (n - i) l i (Nat.le_refl _) (by omega) (Nat.le_refl _) ⟨fun j h0 hj hs hne => h j h0 hj (by omega), fun h0 hs => by omega⟩
theorem init_perm (n : Nat) : ∀ (i : Nat) (l : List Rung), l.length = n → (initL n i l).Perm l
  | 0, l, hn => List.Perm.refl _
  | i + 1, l, hn => by
    rw [initL]
    exact (init_perm n i _ (by rw [downL_length]; exact hn)).trans (down_perm n _ l i (by omega))
theorem init_isHeap (l : List Rung) : IsHeap (initL l.length (l.length / 2) l) := by
  unfold IsHeap
  rw [initL_length]
  exact init_heap l.length _ l rfl (fun j h0 hj hs => by omega)
theorem heap_min {l : List Rung} (h : IsHeap l) : ∀ (j : Nat), j < l.length → le (at_ l 0) (at_ l j) := by
  intro j
  induction j using Nat.strongRecOn with
  | _ j ih =>
    intro hj
    by_cases e : j = 0
    · subst e; exact le_refl _
    · exact le_trans (ih ((j - 1) / 2) (by omega) (by omega)) (h j (by omega) hj (Nat.zero_le _))
theorem popL_last {l : List Rung} (h : l.length ≠ 0) : at_ (popL l) (l.length - 1) = at_ l 0 := by
  unfold popL
  rw [down_far _ _ _ _ _ (by rw [swapAt_length]; omega) (Nat.le_refl _), at_swap (by omega) (by omega), if_pos rfl]
theorem at_take {l : List Rung} {m j : Nat} (h : j < m) : at_ (l.take m) j = at_ l j := by
  unfold at_
  rw [List.getD_eq_getElem?_getD, List.getD_eq_getElem?_getD, List.getElem?_take_of_lt h]
theorem popL_heap {l : List Rung} (h : IsHeap l) (hl : l.length ≠ 0) : IsHeap ((popL l).take (l.length - 1)) := by
  have hp : HeapFrom (l.length - 1) 0 (popL l) := by
    refine down_heap (l.length - 1) 0 (l.length - 1) _ 0 (by omega) (by rw [swapAt_length]; omega) (Nat.le_refl _) ⟨?_, fun h0 => by omega⟩
    intro j h0 hj _ hne
    rw [at_swap (by omega) (by omega), at_swap (by omega) (by omega), if_neg (by omega), if_neg (by omega), if_neg (by omega), if_neg (by omega)]
    exact h j h0 (by omega) (Nat.zero_le _)
  intro j h0 hj _
  rw [List.length_take, popL_length] at hj
  rw [at_take (by omega), at_take (by omega)]
  exact hp j h0 (by omega) (Nat.zero_le _)
theorem popL_perm {l : List Rung} (hl : l.length ≠ 0) : (at_ l 0 :: (popL l).take (l.length - 1)).Perm l := by
  have h1 : (popL l).Perm l := (down_perm _ _ _ _ (by rw [swapAt_length]; omega)).trans (swapAt_perm (by omega) (by omega))
  have hlen := popL_length l
  have h2 : popL l = (popL l).take (l.length - 1) ++ [at_ l 0] := by
    have e := List.take_append_drop (l.length - 1) (popL l)
    have hd : (popL l).drop (l.length - 1) = [at_ l 0] := by
      rw [← popL_last hl]
      have hlt : l.length - 1 < (popL l).length := by omega
      rw [List.drop_eq_getElem_cons hlt, List.drop_of_length_le (by omega)]
      have := at_of_lt hlt
      rw [List.getElem?_eq_getElem hlt] at this
      rw [Option.some.inj this]
    rw [hd] at e
    exact e.symm
  rw [h2] at h1
  exact (List.perm_append_comm (l₁ := [at_ l 0]) (l₂ := (popL l).take (l.length - 1))).trans h1
theorem push_heap {l : List Rung} (h : IsHeap l) (x : Rung) : IsHeap (upL l.length (l ++ [x]) l.length) := by
  unfold IsHeap
  rw [upL_length]
  refine up_heap (l ++ [x]).length l.length _ l.length (Nat.le_refl _) (Nat.le_refl _) (by simp) ⟨?_, ?_⟩
  · intro m h0 hm hne
    have hm' : m < l.length := by simp at hm; omega
    have e : ∀ k, k < l.length → at_ (l ++ [x]) k = at_ l k := fun k hk => by
      unfold at_; rw [List.getD_eq_getElem?_getD, List.getD_eq_getElem?_getD, List.getElem?_append_left hk]
    rw [e _ hm', e _ (by omega)]
    exact h m h0 hm' (Nat.zero_le _)
  · intro h0 m hm0 hm e
    simp at hm; omega
theorem push_perm (l : List Rung) (x : Rung) : (upL l.length (l ++ [x]) l.length).Perm (x :: l) :=
  (up_perm _ _ _ (by simp)).trans List.perm_append_comm
end Go.Proofs.Ytbgabijjnbmghaa
/- Plain law: plan.Make's steps are those of the greedy rule on a sorted list of rungs. -/
namespace Go.Proofs.Ytbgabijjnbmghaa.P
open Go.RowKit Go.Proofs.Ytbgabijjnbmghaa
set_option linter.unusedVariables false

abbrev Sorted (s : List Rung) : Prop := s.Pairwise le
def insR (x : Rung) : List Rung → List Rung
  | [] => [x]
  | y :: l => if le x y then x :: y :: l else y :: insR x l
def sortR : List Rung → List Rung
  | [] => []
  | x :: l => insR x (sortR l)
def sumW (l : List Rung) : Int := (l.map (·.2)).sum
def greedy (n fan : Nat) : Nat → Nat → List Rung → List S51 → List S51
  | 0, _, _, st => st
  | f + 1, t, s, st =>
    if 1 < s.length then greedy n fan f fan (insR (((n + st.length : Nat) : Int), sumW (s.take t)) (s.drop t)) (st ++ [⟨sortI ((s.take t).map (·.1)), ((n + st.length : Nat) : Int)⟩])
    else st

theorem insR_perm (x : Rung) : ∀ (l : List Rung), (insR x l).Perm (x :: l)
  | [] => List.Perm.refl _
  | y :: l => by
    unfold insR
    split
    · exact List.Perm.refl _
    · exact ((insR_perm x l).cons y).trans (List.Perm.swap x y l)
theorem insR_length (x : Rung) (l : List Rung) : (insR x l).length = l.length + 1 := by rw [(insR_perm x l).length_eq]; rfl
theorem insR_sorted (x : Rung) : ∀ (l : List Rung), Sorted l → Sorted (insR x l)
  | [], h => List.pairwise_singleton _ _
  | y :: l, h => by
    unfold insR
    rw [Sorted, List.pairwise_cons] at h
    split
    · rename_i hxy
      refine List.Pairwise.cons ?_ (List.Pairwise.cons h.1 h.2)
      intro z hz
      rcases List.mem_cons.1 hz with rfl | hz
      · exact hxy
      · exact le_trans hxy (h.1 z hz)
    · rename_i hxy
      refine List.Pairwise.cons ?_ (insR_sorted x l h.2)
      intro z hz
      rcases List.mem_cons.1 ((insR_perm x l).mem_iff.1 hz) with rfl | hz
      · exact (le_total _ _).resolve_left hxy
      · exact h.1 z hz
theorem sortR_perm : ∀ (l : List Rung), (sortR l).Perm l
  | [] => List.Perm.refl _
  | x :: l => (insR_perm x _).trans ((sortR_perm l).cons x)
theorem sortR_sorted : ∀ (l : List Rung), Sorted (sortR l)
  | [] => List.Pairwise.nil
  | x :: l => insR_sorted x _ (sortR_sorted l)
theorem sortR_length (l : List Rung) : (sortR l).length = l.length := (sortR_perm l).length_eq
theorem sum_perm {a b : List Int} (h : a.Perm b) : a.sum = b.sum := by
  induction h with
  | nil => rfl
  | cons x _ ih => simp [ih]
  | swap x y l => simp; omega
  | trans _ _ ih1 ih2 => exact ih1.trans ih2
theorem sumW_perm {a b : List Rung} (h : a.Perm b) : sumW a = sumW b := sum_perm (h.map _)
theorem sumW_cons (x : Rung) (l : List Rung) : sumW (x :: l) = x.2 + sumW l := by simp [sumW]
theorem sumW_append (a b : List Rung) : sumW (a ++ b) = sumW a + sumW b := by simp [sumW]
theorem sumW_insR (x : Rung) (l : List Rung) : sumW (insR x l) = x.2 + sumW l := by rw [sumW_perm (insR_perm x l), sumW_cons]
theorem sumW_split (l : List Rung) (t : Nat) : sumW (l.take t) + sumW (l.drop t) = sumW l := by rw [← sumW_append, List.take_append_drop]
theorem sumW_nonneg : ∀ (l : List Rung), (∀ x ∈ l, 0 ≤ x.2) → 0 ≤ sumW l
  | [], h => by simp [sumW]
  | x :: l, h => by
    rw [sumW_cons]
    have h1 := h x (List.mem_cons_self ..)
    have h2 := sumW_nonneg l (fun y hy => h y (List.mem_cons_of_mem _ hy))
    omega
theorem wrap64_in (x : Int) (h : 0 ≤ x) (h2 : x ≤ 4611686018427387904) : wrap64 x = x := by unfold wrap64; omega

/-- the first of a sorted list is the heap's head -/
theorem head_eq {h s : List Rung} {x : Rung} (hh : IsHeap h) (hp : h.Perm (x :: s)) (hs : Sorted (x :: s)) : at_ h 0 = x := by
  have hl : 0 < h.length := by rw [hp.length_eq]; simp
  have h1 : at_ h 0 ∈ h := List.mem_of_getElem? (at_of_lt hl)
  have h2 : x ∈ h := hp.mem_iff.2 (List.mem_cons_self ..)
  obtain ⟨j, hj, rfl⟩ := List.getElem_of_mem h2
  have e : at_ h j = h[j] := by have := at_of_lt hj; rw [List.getElem?_eq_getElem hj] at this; exact (Option.some.inj this).symm
  have h3 := heap_min hh j hj
  rw [e] at h3
  refine le_antisymm h3 ?_
  rcases List.mem_cons.1 (hp.mem_iff.1 h1) with h4 | h4
  · rw [← h4]; exact le_refl _
  · exact (List.pairwise_cons.1 hs).1 _ h4
theorem popMany_spec : ∀ (t : Nat) (h s : List Rung) (ins : List Int) (sm : Int), IsHeap h → h.Perm s → Sorted s → t ≤ s.length → (∀ x ∈ s, 0 ≤ x.2) → 0 ≤ sm → sm + sumW s ≤ 4611686018427387904 →
    ∃ h', popMany t h ins sm = (h', ins ++ (s.take t).map (·.1), sm + sumW (s.take t)) ∧ IsHeap h' ∧ h'.Perm (s.drop t)
  | 0, h, s, ins, sm, hh, hp, hs, ht, hw, h0, hb => ⟨h, by simp [popMany, sumW], hh, by simpa using hp⟩
  | t + 1, h, [], ins, sm, hh, hp, hs, ht, hw, h0, hb => by simp at ht
  | t + 1, h, x :: s, ins, sm, hh, hp, hs, ht, hw, h0, hb => by
    have hl : h.length ≠ 0 := by rw [hp.length_eq]; simp
    have hx := head_eq hh hp hs
    have hlast := popL_last hl
    rw [hx] at hlast
    have hp' := popL_perm hl
    rw [hx] at hp'
    have hp2 : ((popL h).take (h.length - 1)).Perm s := (hp'.trans hp).cons_inv
    have hs' := List.pairwise_cons.1 hs
    have hx0 := hw x (List.mem_cons_self ..)
    have hs0 := sumW_nonneg s (fun y hy => hw y (List.mem_cons_of_mem _ hy))
    rw [sumW_cons] at hb
    obtain ⟨h', e, r1, r2⟩ := popMany_spec t ((popL h).take (h.length - 1)) s (ins ++ [x.1]) (sm + x.2) (popL_heap hh hl) hp2 hs'.2 (by simpa using ht) (fun y hy => hw y (List.mem_cons_of_mem _ hy)) (by omega) (by omega)
    refine ⟨h', ?_, r1, by simpa using r2⟩
    rw [popMany, hlast, wrap64_in _ (by omega) (by omega), e]
    simp [sumW_cons, Int.add_assoc]
/-- what holds of the numbers of runs and steps at a round's head, as in the walk -/
theorem runL_greedy (n fan : Nat) (hf : 2 ≤ fan) : ∀ (f t : Nat) (h s : List Rung) (st : List S51), IsHeap h → h.Perm s → Sorted s → (1 < s.length → 2 ≤ t ∧ ∃ q, s.length = t + q * (fan - 1)) → (∀ x ∈ s, 0 ≤ x.2) → sumW s ≤ 4611686018427387904 →
    runL n fan f t h st = greedy n fan f t s st
  | 0, t, h, s, st, hh, hp, hs, ht, hw, hb => rfl
  | f + 1, t, h, s, st, hh, hp, hs, ht, hw, hb => by
    have hlen := hp.length_eq
    rw [runL, greedy, hlen]
    split
    · rename_i h1
      obtain ⟨h2, q, hq⟩ := ht h1
      have htl : t ≤ s.length := by omega
      obtain ⟨h', e, r1, r2⟩ := popMany_spec t h s [] 0 hh hp hs htl hw (Int.le_refl _) (by omega)
      have hsH : stepH n t h st = pushL h' (((n + st.length : Nat) : Int), sumW (s.take t)) := by unfold stepH; rw [e]; simp
      have hsS : stepS n t h st = st ++ [⟨sortI ((s.take t).map (·.1)), ((n + st.length : Nat) : Int)⟩] := by unfold stepS; rw [e]; simp
      rw [hsH, hsS]
      have hW := sumW_split s t
      have hl2 : (insR (((n + st.length : Nat) : Int), sumW (s.take t)) (s.drop t)).length = s.length - t + 1 := by rw [insR_length, List.length_drop]
      refine runL_greedy n fan hf f fan _ _ _ (push_heap r1 _) ((push_perm h' _).trans ((r2.cons _).trans (insR_perm _ _).symm)) (insR_sorted _ _ (hs.sublist (List.drop_sublist _ _))) ?_ ?_ ?_
      · intro hgt
        rw [hl2] at hgt ⊢
        cases q with
        | zero => omega
        | succ q => exact ⟨hf, q, by rw [Nat.succ_mul] at hq; omega⟩
      · intro x hx
        rcases List.mem_cons.1 ((insR_perm _ _).mem_iff.1 hx) with rfl | hx
        · exact sumW_nonneg _ (fun y hy => hw y (List.mem_of_mem_take hy))
        · exact hw x (List.mem_of_mem_drop hx)
      · rw [sumW_insR]; simp only; omega
    · rfl
/-- what the document says of Make: greedy -/
def gSteps (l : List Int) (fan : Nat) : List S51 :=
  if l.length = 1 then [⟨[0], 1⟩] else greedy l.length fan l.length (2 + (l.length - 2) % (fan - 1)) (sortR (rungs 0 l)) []
theorem rungs_mem : ∀ (l : List Int) (i : Nat) (x : Rung), x ∈ rungs i l → x.2 ∈ l
  | [], i, x, h => by simp [rungs] at h
  | w :: l, i, x, h => by
    rcases List.mem_cons.1 h with rfl | h
    · exact List.mem_cons_self ..
    · exact List.mem_cons_of_mem _ (rungs_mem l (i + 1) x h)
theorem sumW_rungs : ∀ (l : List Int) (i : Nat), sumW (rungs i l) = l.sum
  | [], i => by simp [rungs, sumW]
  | w :: l, i => by rw [rungs, sumW_cons, sumW_rungs l (i + 1)]; simp
theorem sum_bound : ∀ (l : List Int) (b : Int), (∀ x ∈ l, x ≤ b) → l.sum ≤ l.length * b
  | [], b, h => by simp
  | x :: l, b, h => by
    have h1 := h x (List.mem_cons_self ..)
    have h2 := sum_bound l b (fun y hy => h y (List.mem_cons_of_mem _ hy))
    simp only [List.sum_cons, List.length_cons]
    rw [show (((l.length + 1 : Nat) : Int)) = (l.length : Int) + 1 from by omega, Int.add_mul]
    omega
theorem makeSteps_greedy {l : List Int} {fan : Nat} (hf : 2 ≤ fan) (hf2 : fan ≤ 64) (hn : 1 ≤ l.length) (hn2 : l.length ≤ 65536) (hw : ∀ x ∈ l, 0 ≤ x ∧ x ≤ 1073741824) : makeSteps l fan = gSteps l fan := by
  unfold makeSteps gSteps
  split
  · rfl
  · have hlen := rungs_length 0 l
    have hh := init_isHeap (rungs 0 l)
    have hp := init_perm l.length (l.length / 2) (rungs 0 l) hlen
    rw [hlen] at hh
    have hpr := sortR_perm (rungs 0 l)
    refine runL_greedy l.length fan hf _ _ _ _ [] hh (hp.trans hpr.symm) (sortR_sorted _) ?_ ?_ ?_
    · intro _
      rw [sortR_length, hlen]
      have h1 := Nat.div_add_mod (l.length - 2) (fan - 1)
      exact ⟨by omega, (l.length - 2) / (fan - 1), by rw [Nat.mul_comm]; omega⟩
    · intro x hx
      exact (hw _ (rungs_mem l 0 x (hpr.mem_iff.1 hx))).1
    · rw [sumW_perm hpr, sumW_rungs]
      have := sum_bound l 1073741824 (fun x hx => (hw x hx).2)
      have h3 : (l.length : Int) * 1073741824 ≤ 65536 * 1073741824 := Int.mul_le_mul_of_nonneg_right (by omega) (by omega)
      omega
end Go.Proofs.Ytbgabijjnbmghaa.P
/- Plain law: the greedy steps are a plan. -/
namespace Go.Proofs.Ytbgabijjnbmghaa.P
open Go.RowKit Go.Proofs.Ytbgabijjnbmghaa Go.Proofs.YtbgabijjnbmghaaW.PrintWords Go.Proofs.YtbgabijjnbmghaaW.PrintLast Go.Proofs.YtbgabijjnbmghaaW.PrintMore
set_option linter.unusedVariables false
set_option linter.unusedSimpArgs false

abbrev nextS (n t : Nat) (s : List Rung) (st : List S51) : List Rung := insR (((n + st.length : Nat) : Int), sumW (s.take t)) (s.drop t)
abbrev nextT (n t : Nat) (s : List Rung) (st : List S51) : List S51 := st ++ [⟨sortI ((s.take t).map (·.1)), ((n + st.length : Nat) : Int)⟩]
/-- what each step of the greedy rule keeps, holds at its end -/
theorem greedy_ind {n fan t0 : Nat} (hf : 2 ≤ fan) (I : List Rung → List S51 → Prop)
    (step : ∀ (t q : Nat) (s : List Rung) (st : List S51), I s st → s.length = t + q * (fan - 1) → 2 ≤ t → t ≤ fan → ((t = t0 ∧ st = []) ∨ (t = fan ∧ st ≠ [])) → I (nextS n t s st) (nextT n t s st)) :
    ∀ (q f t : Nat) (s : List Rung) (st : List S51), q < f → s.length = t + q * (fan - 1) → 2 ≤ t → t ≤ fan → ((t = t0 ∧ st = []) ∨ (t = fan ∧ st ≠ [])) → I s st →
      ∃ x, I [x] (greedy n fan f t s st) ∧ (greedy n fan f t s st).length = st.length + q + 1
  | q, 0, t, s, st, hq, _, _, _, _, _ => by omega
  | 0, f + 1, t, s, st, hq, hl, h2, hfa, ht, hi => by
    have h := step t 0 s st hi hl h2 hfa ht
    rw [greedy, if_pos (by omega)]
    have hl2 : (nextS n t s st).length = 1 := by rw [insR_length, List.length_drop]; omega
    obtain ⟨x, hx⟩ := List.length_eq_one_iff.1 hl2
    have e : greedy n fan f fan (nextS n t s st) (nextT n t s st) = nextT n t s st := by
      cases f with
      | zero => rfl
      | succ f => rw [greedy, if_neg (by omega)]
    rw [e]
    rw [hx] at h
    exact ⟨x, h, by simp⟩
  | q + 1, f + 1, t, s, st, hq, hl, h2, hfa, ht, hi => by
    have h := step t (q + 1) s st hi hl h2 hfa ht
    rw [greedy, if_pos (by omega)]
    have hl2 : (nextS n t s st).length = fan + q * (fan - 1) := by rw [insR_length, List.length_drop, hl, Nat.succ_mul]; omega
    obtain ⟨x, h3, h4⟩ := greedy_ind hf I step q f fan (nextS n t s st) (nextT n t s st) (by omega) hl2 hf (Nat.le_refl _) (.inr ⟨rfl, by simp⟩) h
    exact ⟨x, h3, by rw [h4]; simp; omega⟩

def nums (k : Nat) : List Int := (List.range k).map fun i : Nat => (i : Int)
theorem nums_mem {k : Nat} {x : Int} : x ∈ nums k ↔ 0 ≤ x ∧ x < k := by
  unfold nums
  rw [List.mem_map]
  constructor
  · rintro ⟨a, ha, rfl⟩
    have := List.mem_range.1 ha
    exact ⟨by omega, by omega⟩
  · rintro ⟨h1, h2⟩
    exact ⟨x.toNat, List.mem_range.2 (by omega), by omega⟩
theorem nums_nodup (k : Nat) : (nums k).Nodup := by
  unfold nums
  refine List.Pairwise.map _ ?_ List.nodup_range
  intro a b h e
  exact h (by omega)
theorem nums_succ (k : Nat) : nums (k + 1) = nums k ++ [(k : Int)] := by unfold nums; rw [List.range_succ, List.map_append]; rfl
theorem planFrom_append (n fan : Nat) : ∀ (a b : List S51) (s : Nat) (xs : List Int), PlanFrom n fan s (a ++ b) xs ↔ PlanFrom n fan s a xs ∧ PlanFrom n fan (s + a.length) b (xs ++ flat a)
  | [], b, s, xs => by simp [PlanFrom, flat]
  | st :: a, b, s, xs => by
    rw [List.cons_append, PlanFrom, PlanFrom, planFrom_append n fan a b (s + 1) (xs ++ st.f0), flat_cons, List.append_assoc, List.length_cons, show s + 1 + a.length = s + (a.length + 1) from by omega]
    constructor
    · rintro ⟨h1, h2, h3, h4, h5, h6⟩; exact ⟨⟨h1, h2, h3, h4, h5⟩, h6⟩
    · rintro ⟨⟨h1, h2, h3, h4, h5⟩, h6⟩; exact ⟨h1, h2, h3, h4, h5, h6⟩
theorem sortI_perm (l : List Int) : (sortI l).Perm l := List.mergeSort_perm ..
theorem sortI_sorted (l : List Int) : (sortI l).Pairwise (· ≤ ·) := by
  have := List.pairwise_mergeSort (le := fun x y : Int => decide (x ≤ y)) (fun a b c h1 h2 => by simp at *; omega) (fun a b => by simp; omega) l
  exact this.imp (fun h => by simpa using h)
theorem sortI_strict {l : List Int} (h : l.Nodup) : (sortI l).Pairwise (· < ·) := by
  have h1 := sortI_sorted l
  have h2 : (sortI l).Nodup := (sortI_perm l).nodup_iff.2 h
  exact List.Pairwise.imp₂ (fun a b (h3 : a ≤ b) (h4 : a ≠ b) => by omega) h1 h2
/-- what greedy keeps -/
structure InvA (n fan t0 : Nat) (s : List Rung) (st : List S51) : Prop where
  steps : PlanFrom n fan 0 st []
  perm : (flat st ++ s.map (·.1)).Perm (nums (n + st.length))
  last : st ≠ [] → ((n + st.length - 1 : Nat) : Int) ∈ s.map (·.1)
  lens : ∀ i (h : i < st.length), st[i].f0.length = if i = 0 then t0 else fan
theorem invA_step {n fan t0 : Nat} (hf : 2 ≤ fan) (t q : Nat) (s : List Rung) (st : List S51) (h : InvA n fan t0 s st) (hl : s.length = t + q * (fan - 1)) (h2 : 2 ≤ t) (hfa : t ≤ fan) (ht : (t = t0 ∧ st = []) ∨ (t = fan ∧ st ≠ [])) :
    InvA n fan t0 (nextS n t s st) (nextT n t s st) := by
  have hnd : (flat st ++ s.map (·.1)).Nodup := h.perm.nodup_iff.2 (nums_nodup _)
  have hsn : (s.map (·.1)).Nodup := (List.nodup_append.1 hnd).2.1
  have htk : ((s.take t).map (·.1)).Nodup := by rw [List.map_take]; exact hsn.sublist (List.take_sublist _ _)
  have hsplit : s.map (·.1) = (s.take t).map (·.1) ++ (s.drop t).map (·.1) := by rw [← List.map_append, List.take_append_drop]
  have hp := sortI_perm ((s.take t).map (·.1))
  have hlen : (sortI ((s.take t).map (·.1))).length = t := by rw [hp.length_eq, List.length_map, List.length_take]; omega
  have hmem : ∀ x ∈ sortI ((s.take t).map (·.1)), x ∈ s.map (·.1) := fun x hx => by
    rw [hsplit]; exact List.mem_append_left _ (hp.mem_iff.1 hx)
  have hrange : ∀ x ∈ s.map (·.1), 0 ≤ x ∧ x < ((n + st.length : Nat) : Int) := fun x hx => nums_mem.1 (h.perm.mem_iff.1 (List.mem_append_right _ hx))
  refine ⟨?_, ?_, ?_, ?_⟩
  · rw [planFrom_append]
    refine ⟨h.steps, ?_, ?_, ?_, ?_, trivial⟩
    · refine ⟨by simp only; omega, by simp only; omega, by simp only; omega, fun h1 => by simp only at h1; omega⟩
    · exact fun x hx => hrange x (hmem x hx)
    · exact sortI_strict htk
    · intro x hx hx2
      rw [List.nil_append] at hx2
      exact (List.nodup_append.1 hnd).2.2 x hx2 x (hmem x hx) rfl
  · rw [flat_append, List.length_append, List.length_singleton, ← Nat.add_assoc, nums_succ]
    have e1 : ((nextS n t s st).map (·.1)).Perm (((n + st.length : Nat) : Int) :: (s.drop t).map (·.1)) := (insR_perm _ _).map _
    have e2 : flat [(⟨sortI ((s.take t).map (·.1)), ((n + st.length : Nat) : Int)⟩ : S51)] = sortI ((s.take t).map (·.1)) := by simp [flat]
    rw [e2]
    refine ((hp.append_left _).append e1).trans ?_
    refine List.Perm.trans ?_ (h.perm.append_right _)
    rw [hsplit, List.append_assoc, List.append_assoc, List.append_assoc]
    refine List.Perm.append_left _ (List.Perm.append_left _ ?_)
    exact (List.perm_append_singleton _ _).symm
  · intro _
    have e1 : ((nextS n t s st).map (·.1)).Perm (((n + st.length : Nat) : Int) :: (s.drop t).map (·.1)) := (insR_perm _ _).map _
    rw [e1.mem_iff]
    simp
  · intro i hi
    rw [List.length_append, List.length_singleton] at hi
    by_cases e : i < st.length
    · rw [List.getElem_append_left e]; exact h.lens i e
    · rw [List.getElem_append_right (by omega)]
      simp only [List.getElem_singleton]
      rw [hlen]
      rcases ht with ⟨rfl, rfl⟩ | ⟨rfl, hne⟩
      · simp at hi; rw [if_pos hi]
      · have := List.length_pos_iff.2 hne; rw [if_neg (by omega)]
theorem rungs_fst : ∀ (l : List Int) (i : Nat), (rungs i l).map (·.1) = (List.range' i l.length).map fun i : Nat => (i : Int)
  | [], i => rfl
  | w :: l, i => by rw [rungs, List.map_cons, rungs_fst l (i + 1), List.length_cons, List.range'_succ]; rfl
theorem invA_start (l : List Int) (fan t0 : Nat) : InvA l.length fan t0 (sortR (rungs 0 l)) [] := by
  refine ⟨trivial, ?_, fun h => absurd rfl h, fun i h => by simp at h⟩
  rw [show flat [] = [] from rfl, List.nil_append, List.length_nil, Nat.add_zero]
  refine ((sortR_perm _).map _).trans ?_
  rw [rungs_fst]
  unfold nums
  rw [List.range_eq_range']
/-- the first step's length, and how many more there are -/
def takeOf (n fan : Nat) : Nat := if n = 1 then 1 else 2 + (n - 2) % (fan - 1)
def moreOf (n fan : Nat) : Nat := if n = 1 then 0 else (n - 2) / (fan - 1)
theorem take_more {n fan : Nat} (hf : 2 ≤ fan) (hn : 1 ≤ n) : n = takeOf n fan + moreOf n fan * (fan - 1) ∧ 1 ≤ takeOf n fan ∧ takeOf n fan ≤ fan ∧ (2 ≤ n → 2 ≤ takeOf n fan) := by
  unfold takeOf moreOf
  by_cases h : n = 1
  · subst h; simp; omega
  · rw [if_neg h, if_neg h]
    have h1 := Nat.div_add_mod (n - 2) (fan - 1)
    have h2 := Nat.mod_lt (n - 2) (show fan - 1 > 0 by omega)
    rw [Nat.mul_comm] at h1
    exact ⟨by omega, by omega, by omega, fun _ => by omega⟩
/-- the greedy run of more than one -/
theorem gSteps_ind {l : List Int} {fan : Nat} (hf : 2 ≤ fan) (hn : 2 ≤ l.length) (I : List Rung → List S51 → Prop)
    (step : ∀ (t q : Nat) (s : List Rung) (st : List S51), I s st → s.length = t + q * (fan - 1) → 2 ≤ t → t ≤ fan → ((t = takeOf l.length fan ∧ st = []) ∨ (t = fan ∧ st ≠ [])) → I (nextS l.length t s st) (nextT l.length t s st))
    (start : I (sortR (rungs 0 l)) []) : ∃ x, I [x] (gSteps l fan) ∧ (gSteps l fan).length = moreOf l.length fan + 1 := by
  obtain ⟨h1, h2, h3, h4⟩ := take_more hf (show 1 ≤ l.length by omega)
  have e : gSteps l fan = greedy l.length fan l.length (takeOf l.length fan) (sortR (rungs 0 l)) [] := by
    unfold gSteps takeOf
    rw [if_neg (by omega), if_neg (by omega)]
  rw [e]
  have hq : moreOf l.length fan ≤ moreOf l.length fan * (fan - 1) := Nat.le_mul_of_pos_right _ (by omega)
  obtain ⟨x, h5, h6⟩ := greedy_ind hf I step (moreOf l.length fan) l.length (takeOf l.length fan) (sortR (rungs 0 l)) [] (by omega) (by rw [sortR_length, rungs_length]; exact h1) (h4 hn) h3 (.inl ⟨rfl, rfl⟩) start
  exact ⟨x, h5, by rw [h6]; simp⟩
theorem gSteps_length {l : List Int} {fan : Nat} (hf : 2 ≤ fan) (hn : 1 ≤ l.length) : (gSteps l fan).length = moreOf l.length fan + 1 := by
  by_cases h : l.length = 1
  · unfold gSteps moreOf; rw [if_pos h, if_pos h]; rfl
  · obtain ⟨x, _, h2⟩ := gSteps_ind hf (show 2 ≤ l.length by omega) (fun _ _ => True) (fun _ _ _ _ _ _ _ _ _ => trivial) trivial
    exact h2
theorem gSteps_lens {l : List Int} {fan : Nat} (hf : 2 ≤ fan) (hn : 1 ≤ l.length) (i : Nat) (h : i < (gSteps l fan).length) : (gSteps l fan)[i].f0.length = if i = 0 then takeOf l.length fan else fan := by
  by_cases h1 : l.length = 1
  · have e : gSteps l fan = [⟨[0], 1⟩] := by unfold gSteps; rw [if_pos h1]
    simp only [e] at h ⊢
    have : i = 0 := by simpa using h
    subst this
    unfold takeOf
    simp [h1]
  · obtain ⟨x, h2, _⟩ := gSteps_ind hf (show 2 ≤ l.length by omega) (InvA l.length fan (takeOf l.length fan)) (fun t q s st => invA_step hf t q s st) (invA_start l fan _)
    exact h2.lens i h
theorem gSteps_plan {l : List Int} {fan : Nat} (hf : 2 ≤ fan) (hn : 1 ≤ l.length) : Plan l.length fan (gSteps l fan) := by
  have hlen := gSteps_length hf hn
  obtain ⟨t1, t2, t3, t4⟩ := take_more hf hn
  have hq : moreOf l.length fan ≤ moreOf l.length fan * (fan - 1) := Nat.le_mul_of_pos_right _ (by omega)
  by_cases h1 : l.length = 1
  · have e : gSteps l fan = [⟨[0], 1⟩] := by unfold gSteps; rw [if_pos h1]
    rw [e, h1]
    refine ⟨by simp, by simp, ⟨⟨rfl, by simp, by simp; omega, fun _ => Nat.le_refl _⟩, ?_, by simp, by simp, trivial⟩, ?_⟩
    · intro x hx; simp at hx; subst hx; exact ⟨Int.le_refl _, by decide⟩
    · intro j hj
      have : j = 0 := by simp at hj; omega
      subst this
      simp [flat]
  · obtain ⟨x, h2, _⟩ := gSteps_ind hf (show 2 ≤ l.length by omega) (InvA l.length fan (takeOf l.length fan)) (fun t q s st => invA_step hf t q s st) (invA_start l fan _)
    have t4 := t4 (by omega)
    refine ⟨by omega, by omega, h2.steps, ?_⟩
    intro j hj
    have hne : gSteps l fan ≠ [] := fun h => by rw [h] at hlen; simp at hlen
    have hx := h2.last hne
    simp only [List.map_cons, List.map_nil, List.mem_singleton] at hx
    have hm : (j : Int) ∈ flat (gSteps l fan) ++ [x].map (·.1) := h2.perm.mem_iff.2 (nums_mem.2 ⟨by omega, by omega⟩)
    rcases List.mem_append.1 hm with h | h
    · exact h
    · simp at h; omega
end Go.Proofs.Ytbgabijjnbmghaa.P
/- Plain law: what plan.Make, plan.Check answer of given weights. -/
namespace Go.Proofs.Ytbgabijjnbmghaa.P
open Go.RowKit Go.Proofs.Ytbgabijjnbmghaa Go.Proofs.YtbgabijjnbmghaaW.PrintWords Go.Proofs.YtbgabijjnbmghaaW.PrintLast Go.Proofs.YtbgabijjnbmghaaW.PrintMore
set_option linter.unusedVariables false
set_option linter.unusedSimpArgs false

theorem wS {i : Nat} (h : i ≤ 4611686018427387904) : wrap64 ((i : Int) + 1) = ((i + 1 : Nat) : Int) := by unfold wrap64; omega
theorem wA {a b : Nat} (h : a ≤ 4611686018427387903) (h2 : b ≤ 4611686018427387903) : wrap64 ((a : Int) + (b : Int)) = ((a + b : Nat) : Int) := by unfold wrap64; omega
theorem makeSteps_eq {l : List Int} {fan : Int} (h : givenV l fan = 0) : makeSteps l fan.toNat = gSteps l fan.toNat := by
  obtain ⟨h1, h2, h3, h4, h5⟩ := givenV_zero h
  exact makeSteps_greedy (by omega) (by omega) h3 h4 (fun x hx => h5 x hx)
theorem make_ev {l : List Int} {fan : Int} (h : givenV l fan = 0) : Ev (fun k => plan_Make.f k l fan) (gSteps l fan.toNat, 0) := by
  unfold plan_Make.f
  refine Ev.bind (plan_given_ev l fan) ?_
  simp only [if_pos h]
  rw [makeSteps_eq h]
  exact Ev.now _
theorem make_ev_bad {l : List Int} {fan : Int} (h : givenV l fan ≠ 0) : Ev (fun k => plan_Make.f k l fan) ([], givenV l fan) := by
  unfold plan_Make.f
  refine Ev.bind (plan_given_ev l fan) ?_
  simp only [if_neg h]
  exact Ev.now _
theorem checkV_plan {l : List Int} {fan : Int} {st : List S51} (h : givenV l fan = 0) (hp : Plan l.length fan.toNat st) : checkV l fan st = 0 := by
  unfold checkV
  rw [if_pos h, if_pos hp]
theorem checkV_zero {l : List Int} {fan : Int} {st : List S51} (h : checkV l fan st = 0) : givenV l fan = 0 ∧ Plan l.length fan.toNat st := by
  unfold checkV at h
  by_cases h1 : givenV l fan = 0
  · rw [if_pos h1] at h
    by_cases h2 : Plan l.length fan.toNat st
    · exact ⟨h1, h2⟩
    · rw [if_neg h2] at h; cases h
  · rw [if_neg h1] at h; exact absurd h h1
theorem gSteps_check {l : List Int} {fan : Int} (h : givenV l fan = 0) : checkV l fan (gSteps l fan.toNat) = 0 := by
  obtain ⟨h1, h2, h3, h4, h5⟩ := givenV_zero h
  exact checkV_plan h (gSteps_plan (by omega) h3)
theorem sum_set {l : List Int} {i : Nat} (h : i < l.length) (v : Int) : (l.set i v).sum = l.sum - l.getD i 0 + v := by
  induction l generalizing i with
  | nil => simp at h
  | cons x l ih =>
    cases i with
    | zero => simp [List.getD]; omega
    | succ i =>
      have := ih (i := i) (by simpa using h)
      simp only [List.set_cons_succ, List.sum_cons, this, List.getD_cons_succ]
      omega
theorem sum_zero : ∀ (l : List Int), (∀ x ∈ l, x = 0) → l.sum = 0
  | [], _ => rfl
  | x :: l, h => by
    rw [List.sum_cons, h x (List.mem_cons_self ..), sum_zero l (fun y hy => h y (List.mem_cons_of_mem _ hy))]; rfl
theorem sum_nonneg : ∀ (l : List Int), (∀ x ∈ l, 0 ≤ x) → 0 ≤ l.sum
  | [], _ => Int.le_refl _
  | x :: l, h => by
    have h1 := h x (List.mem_cons_self ..)
    have h2 := sum_nonneg l (fun y hy => h y (List.mem_cons_of_mem _ hy))
    rw [List.sum_cons]; omega
theorem getD_le_sum : ∀ (l : List Int) (i : Nat), (∀ x ∈ l, 0 ≤ x) → l.getD i 0 ≤ l.sum
  | [], i, _ => by simp
  | x :: l, 0, h => by
    have h2 := sum_nonneg l (fun y hy => h y (List.mem_cons_of_mem _ hy))
    simp [List.getD]; omega
  | x :: l, i + 1, h => by
    have h1 := h x (List.mem_cons_self ..)
    have h2 := getD_le_sum l i (fun y hy => h y (List.mem_cons_of_mem _ hy))
    rw [List.getD_cons_succ, List.sum_cons]; omega
theorem getD_set {l : List Int} {i : Nat} (h : i < l.length) (v : Int) (j : Nat) : (l.set i v).getD j 0 = if j = i then v else l.getD j 0 := by
  rw [List.getD_eq_getElem?_getD, List.getElem?_set, List.getD_eq_getElem?_getD]
  by_cases e : i = j
  · subst e; rw [if_pos rfl, if_pos h, if_pos rfl]; rfl
  · rw [if_neg e, if_neg (fun h => e h.symm)]
theorem rd_nat (l : List Int) (j : Nat) : rd l (j : Int) = l.getD j 0 := rfl
theorem mem_getD {l : List Int} {P : Int → Prop} (h : ∀ j, j < l.length → P (l.getD j 0)) : ∀ x ∈ l, P x := by
  intro x hx
  obtain ⟨j, hj, rfl⟩ := List.getElem_of_mem hx
  have := h j hj
  rw [List.getD_eq_getElem?_getD, List.getElem?_eq_getElem hj] at this
  exact this
/-- a plan's step s, its runs merged ahead of it -/
theorem plan_at {n fan : Nat} {steps : List S51} (h : Plan n fan steps) {s : Nat} (hs : s < steps.length) :
    formOk n fan s steps[s] ∧ (∀ x ∈ (steps[s]).f0, 0 ≤ x ∧ x < (steps[s]).f1) ∧ (steps[s]).f0.Pairwise (· < ·) ∧ (∀ x ∈ (steps[s]).f0, x ∉ flat (steps.take s)) ∧ PlanFrom n fan (s + 1) (steps.drop (s + 1)) (flat (steps.take s) ++ (steps[s]).f0) := by
  have h1 := h.steps
  rw [← List.take_append_drop s steps, planFrom_append, drop_cons hs, List.length_take, Nat.min_eq_left (by omega), Nat.zero_add, List.nil_append] at h1
  exact h1.2
theorem flat_take_succ {steps : List S51} {s : Nat} (hs : s < steps.length) : flat (steps.take (s + 1)) = flat (steps.take s) ++ (steps[s]).f0 := by
  rw [List.take_add_one, List.getElem?_eq_getElem hs, flat_append]
  simp [flat]
theorem flat_take_low {n fan : Nat} {steps : List S51} (h : Plan n fan steps) : ∀ (s : Nat), s ≤ steps.length → ∀ x ∈ flat (steps.take s), 0 ≤ x ∧ x + 1 < (n : Int) + s
  | 0, _, x, hx => by simp [flat] at hx
  | s + 1, hs, x, hx => by
    rw [flat_take_succ (by omega)] at hx
    have h1 := plan_at h (s := s) (by omega)
    rcases List.mem_append.1 hx with hx | hx
    · have := flat_take_low h s (by omega) x hx; omega
    · have := h1.2.1 x hx
      have := h1.1.1
      omega
end Go.Proofs.Ytbgabijjnbmghaa.P
/- Plain law: a plan as a flow of runs: what is left, through how many steps each goes, what it costs. -/
namespace Go.Proofs.Ytbgabijjnbmghaa.P
open Go.RowKit Go.Proofs.Ytbgabijjnbmghaa Go.Proofs.YtbgabijjnbmghaaW.PrintWords Go.Proofs.YtbgabijjnbmghaaW.PrintLast Go.Proofs.YtbgabijjnbmghaaW.PrintMore
set_option linter.unusedVariables false
set_option linter.unusedSimpArgs false

/-- through how many of the steps (numbers s and on) a run goes -/
def upFrom (n : Nat) : Nat → List S51 → Int → Nat
  | _, [], _ => 0
  | s, st :: r, x => if x ∈ st.f0 then upFrom n (s + 1) r ((n + s : Nat) : Int) + 1 else upFrom n (s + 1) r x
theorem upFrom_le (n : Nat) : ∀ (l : List S51) (s : Nat) (x : Int), upFrom n s l x ≤ l.length
  | [], s, x => Nat.le_refl _
  | st :: r, s, x => by
    rw [upFrom, List.length_cons]
    have h1 := upFrom_le n r (s + 1) ((n + s : Nat) : Int)
    have h2 := upFrom_le n r (s + 1) x
    split <;> omega
/-- A holds the runs that are left ahead of step s -/
def Flow (n fan : Nat) : Nat → List S51 → List Int → Prop
  | s, [], A => A = [((n + s - 1 : Nat) : Int)]
  | s, st :: r, A => ∃ R : List Int, A.Perm (st.f0 ++ R) ∧ (∀ x ∈ R, x ∉ st.f0) ∧ (∀ x ∈ A, 0 ≤ x ∧ x < ((n + s : Nat) : Int)) ∧ 1 ≤ st.f0.length ∧ st.f0.length ≤ fan ∧ (2 ≤ n → 2 ≤ st.f0.length) ∧ Flow n fan (s + 1) r (((n + s : Nat) : Int) :: R)
theorem perm_nodup {a b : List Int} (ha : a.Nodup) (hb : b.Nodup) (h : ∀ x, x ∈ a ↔ x ∈ b) : a.Perm b := (List.perm_ext_iff_of_nodup ha hb).2 h
theorem flow_of (n fan : Nat) (L : Nat) : ∀ (steps : List S51) (s : Nat) (xs A : List Int), (xs ++ A).Perm (nums (n + s)) → PlanFrom n fan s steps xs → s + steps.length = L → 1 ≤ n + L → (∀ j : Nat, j + 1 < n + L → (j : Int) ∈ xs ++ flat steps) → (∀ x ∈ xs, x + 1 < (n : Int) + s) → Flow n fan s steps A
  | [], s, xs, A, hp, hf, hL, h1, hall, hlow => by
    have hnd := (hp.nodup_iff).2 (nums_nodup _)
    have hA : A.Perm [((n + s - 1 : Nat) : Int)] := by
      refine perm_nodup (List.nodup_append.1 hnd).2.1 (by simp) (fun x => ?_)
      have hm := hp.mem_iff (a := x)
      rw [nums_mem, List.mem_append] at hm
      simp at hL
      constructor
      · intro hx
        have h2 := hm.1 (.inr hx)
        have h3 := hall x.toNat
        simp only [List.mem_singleton]
        by_cases e : x = ((n + s - 1 : Nat) : Int)
        · exact e
        · have h4 := h3 (by omega)
          simp [flat] at h4
          rw [show max x 0 = x by omega] at h4
          exact absurd rfl ((List.nodup_append.1 hnd).2.2 x h4 x hx)
      · intro hx
        simp only [List.mem_singleton] at hx
        rcases hm.2 ⟨by omega, by omega⟩ with h | h
        · have := hlow x h; omega
        · exact h
    have := List.perm_singleton.1 hA
    exact this
  | st :: r, s, xs, A, hp, hf, hL, h1, hall, hlow => by
    obtain ⟨f, hr, hpw, hx, hrest⟩ := hf
    obtain ⟨f1, f2, f3, f4⟩ := f
    have hnd := (hp.nodup_iff).2 (nums_nodup _)
    have hA := (List.nodup_append.1 hnd).2.1
    have hins : st.f0.Nodup := hpw.imp (fun {a b} h => by omega)
    have hinA : ∀ x ∈ st.f0, x ∈ A := fun x hxm => by
      have := hr x hxm
      rcases List.mem_append.1 (hp.mem_iff.2 (nums_mem.2 ⟨this.1, by omega⟩)) with h | h
      · exact absurd h (hx x hxm)
      · exact h
    have hR : (A.filter (fun x => x ∉ st.f0)).Nodup := hA.sublist List.filter_sublist
    have hperm : A.Perm (st.f0 ++ A.filter (fun x => x ∉ st.f0)) := by
      refine perm_nodup hA ?_ (fun x => ?_)
      · rw [List.nodup_append]
        exact ⟨hins, hR, fun a ha b hb e => by subst e; simp at hb; exact hb.2 ha⟩
      · simp only [List.mem_append, List.mem_filter, decide_eq_true_eq]
        constructor
        · intro h
          by_cases h2 : x ∈ st.f0
          · exact .inl h2
          · exact .inr ⟨h, h2⟩
        · rintro (h | h)
          · exact hinA x h
          · exact h.1
    have hrange : ∀ x ∈ A, 0 ≤ x ∧ x < ((n + s : Nat) : Int) := fun x h => nums_mem.1 (hp.mem_iff.1 (List.mem_append_right _ h))
    refine ⟨A.filter (fun x => x ∉ st.f0), hperm, ?_, hrange, f2, f3, fun h => ?_, ?_⟩
    · intro x hx; simp at hx; exact hx.2
    · rcases Nat.lt_or_ge st.f0.length 2 with h2 | h2
      · have := f4 (by omega); omega
      · exact h2
    · refine flow_of n fan L r (s + 1) (xs ++ st.f0) _ ?_ hrest (by rw [List.length_cons] at hL; omega) h1 (fun j hj => ?_) (fun x hx => ?_)
      · rw [show n + (s + 1) = (n + s) + 1 from rfl, nums_succ, List.append_assoc]
        have e1 : (st.f0 ++ ((n + s : Nat) : Int) :: A.filter (fun x => x ∉ st.f0)).Perm (A ++ [((n + s : Nat) : Int)]) := by
          refine List.perm_middle.trans (List.Perm.trans ?_ (List.perm_append_singleton _ _).symm)
          exact hperm.symm.cons _
        refine (e1.append_left xs).trans ?_
        rw [← List.append_assoc]
        exact hp.append_right _
      · have := hall j hj
        rwa [flat_cons, ← List.append_assoc] at this
      · rcases List.mem_append.1 hx with hx | hx
        · have := hlow x hx; omega
        · have := hr x hx; omega
theorem flow_of_plan {n fan : Nat} {steps : List S51} (h : Plan n fan steps) : Flow n fan 0 steps (nums n) :=
  flow_of n fan steps.length steps 0 [] (nums n) (by simp) h.steps (by omega) (by have := h.some; omega) (fun j hj => by simpa using h.all j hj) (fun x hx => by simp at hx)
/-- how many places are taken -/
theorem flow_taken (n fan : Nat) : ∀ (steps : List S51) (s : Nat) (A : List Int), Flow n fan s steps A → (flat steps).length + 1 = A.length + steps.length
  | [], s, A, h => by rw [Flow] at h; subst h; rfl
  | st :: r, s, A, h => by
    obtain ⟨R, h1, h2, h3, h4, h5, h5b, h6⟩ := h
    have ih := flow_taken n fan r (s + 1) _ h6
    have hl := h1.length_eq
    rw [List.length_append] at hl
    rw [flat_cons, List.length_append]
    simp only [List.length_cons] at ih ⊢
    omega
theorem flow_flat_le (n fan : Nat) : ∀ (steps : List S51) (s : Nat) (A : List Int), Flow n fan s steps A → (flat steps).length ≤ fan * steps.length
  | [], s, A, h => Nat.zero_le _
  | st :: r, s, A, h => by
    obtain ⟨R, h1, h2, h3, h4, h5, h5b, h6⟩ := h
    have ih := flow_flat_le n fan r (s + 1) _ h6
    rw [flat_cons, List.length_append, List.length_cons, Nat.mul_succ]
    omega
/-! ### sums over what is left -/
theorem sum_map_perm {a b : List Int} (f : Int → Int) (h : a.Perm b) : (a.map f).sum = (b.map f).sum := sum_perm (h.map f)
theorem sum_map_congr {a : List Int} {f g : Int → Int} (h : ∀ x ∈ a, f x = g x) : (a.map f).sum = (a.map g).sum := by
  rw [List.map_congr_left h]
theorem sum_const (a : List Int) (c : Int) : (a.map fun _ => c).sum = a.length * c := by
  induction a with
  | nil => simp
  | cons x a ih =>
    simp only [List.map_cons, List.sum_cons, ih, List.length_cons]
    rw [show (((a.length + 1 : Nat) : Int)) = (a.length : Int) + 1 from by omega, Int.add_mul]
    omega
theorem sum_map_mul (a : List Int) (f : Int → Int) (c : Int) : (a.map fun x => f x * c).sum = (a.map f).sum * c := by
  induction a with
  | nil => simp
  | cons x a ih => simp only [List.map_cons, List.sum_cons, ih, Int.add_mul]
theorem sum_map_add (a : List Int) (f g : Int → Int) : (a.map fun x => f x + g x).sum = (a.map f).sum + (a.map g).sum := by
  induction a with
  | nil => simp
  | cons x a ih => simp only [List.map_cons, List.sum_cons, ih]; omega
theorem flow_up {n fan s : Nat} {st : S51} {r : List S51} {R : List Int} (h2 : ∀ x ∈ R, x ∉ st.f0) :
    (∀ x ∈ st.f0, upFrom n s (st :: r) x = upFrom n (s + 1) r ((n + s : Nat) : Int) + 1) ∧ ∀ x ∈ R, upFrom n s (st :: r) x = upFrom n (s + 1) r x :=
  ⟨fun x hx => by rw [upFrom, if_pos hx], fun x hx => by rw [upFrom, if_neg (h2 x hx)]⟩
/-- the inequality of Kraft -/
theorem flow_kraft (n fan : Nat) (hf : 1 ≤ fan) : ∀ (steps : List S51) (s D : Nat) (A : List Int), Flow n fan s steps A → steps.length ≤ D → (A.map fun x => ((fan ^ (D - upFrom n s steps x) : Nat) : Int)).sum ≤ ((fan ^ D : Nat) : Int)
  | [], s, D, A, h, hD => by rw [Flow] at h; subst h; simp [upFrom]
  | st :: r, s, D, A, h, hD => by
    obtain ⟨R, h1, h2, h3, h4, h5, h5b, h6⟩ := h
    rw [List.length_cons] at hD
    have ih := flow_kraft n fan hf r (s + 1) D _ h6 (by omega)
    obtain ⟨u1, u2⟩ := flow_up (n := n) (fan := fan) (s := s) (st := st) (r := r) h2
    rw [sum_map_perm _ h1, List.map_append, List.sum_append, sum_map_congr (f := fun x => ((fan ^ (D - upFrom n s (st :: r) x) : Nat) : Int)) (g := fun x => ((fan ^ (D - (upFrom n (s + 1) r ((n + s : Nat) : Int) + 1)) : Nat) : Int)) (fun x hx => by rw [u1 x hx]), sum_const,
      sum_map_congr (f := fun x => ((fan ^ (D - upFrom n s (st :: r) x) : Nat) : Int)) (g := fun x => ((fan ^ (D - upFrom n (s + 1) r x) : Nat) : Int)) (fun x hx => by rw [u2 x hx])]
    rw [List.map_cons, List.sum_cons] at ih
    have hu := upFrom_le n r (s + 1) ((n + s : Nat) : Int)
    generalize upFrom n (s + 1) r ((n + s : Nat) : Int) = u at ih hu ⊢
    have e : D - u = (D - (u + 1)) + 1 := by omega
    have hle : ((st.f0.length * fan ^ (D - (u + 1)) : Nat) : Int) ≤ ((fan ^ (D - u) : Nat) : Int) := by
      rw [e, Nat.pow_succ, Nat.mul_comm]
      have := Nat.mul_le_mul_left (fan ^ (D - (u + 1))) h5
      omega
    rw [Int.natCast_mul] at hle
    omega
/-! ### costs -/
def sumAt (acc : List Int) (ins : List Int) : Int := (ins.map fun x => acc.getD x.toNat 0).sum
def costOf : List Int → List S51 → Int
  | _, [] => 0
  | acc, st :: r => sumAt acc st.f0 + costOf (acc ++ [sumAt acc st.f0]) r
theorem getD_append_lt {acc b : List Int} {j : Nat} (h : j < acc.length) : (acc ++ b).getD j 0 = acc.getD j 0 := by
  rw [List.getD_eq_getElem?_getD, List.getD_eq_getElem?_getD, List.getElem?_append_left h]
theorem getD_append_len (acc : List Int) (v : Int) : (acc ++ [v]).getD acc.length 0 = v := by
  rw [List.getD_eq_getElem?_getD]; simp
theorem flow_cost (n fan : Nat) : ∀ (steps : List S51) (s : Nat) (A acc : List Int), Flow n fan s steps A → acc.length = n + s → (A.map fun x => acc.getD x.toNat 0 * (upFrom n s steps x : Int)).sum = costOf acc steps
  | [], s, A, acc, h, hl => by rw [Flow] at h; subst h; simp [upFrom, costOf]
  | st :: r, s, A, acc, h, hl => by
    obtain ⟨R, h1, h2, h3, h4, h5, h5b, h6⟩ := h
    have ih := flow_cost n fan r (s + 1) _ (acc ++ [sumAt acc st.f0]) h6 (by rw [List.length_append, List.length_singleton, hl]; omega)
    obtain ⟨u1, u2⟩ := flow_up (n := n) (fan := fan) (s := s) (st := st) (r := r) h2
    have hR : ∀ x ∈ R, x.toNat < acc.length := fun x hx => by
      have := h3 x (h1.mem_iff.2 (List.mem_append_right _ hx)); omega
    rw [costOf, ← ih, sum_map_perm _ h1, List.map_append, List.sum_append, List.map_cons, List.sum_cons, Int.toNat_natCast, ← hl, getD_append_len, hl]
    rw [sum_map_congr (a := st.f0) (g := fun x => acc.getD x.toNat 0 * ((upFrom n (s + 1) r ((n + s : Nat) : Int) : Nat) : Int) + acc.getD x.toNat 0) (fun x hx => by rw [u1 x hx, show ((upFrom n (s + 1) r ((n + s : Nat) : Int) + 1 : Nat) : Int) = (upFrom n (s + 1) r ((n + s : Nat) : Int) : Int) + 1 from by omega, Int.mul_add, Int.mul_one]), sum_map_add, sum_map_mul]
    rw [sum_map_congr (a := R) (g := fun x => (acc ++ [sumAt acc st.f0]).getD x.toNat 0 * (upFrom n (s + 1) r x : Int)) (fun x hx => by rw [u2 x hx, getD_append_lt (hR x hx)])]
    unfold sumAt
    omega
/-! ### depths -/
def maxL (l : List Int) : Int := l.foldr (fun x m => max x m) 0
theorem maxL_cons (x : Int) (l : List Int) : maxL (x :: l) = max x (maxL l) := rfl
theorem maxL_nonneg : ∀ (l : List Int), 0 ≤ maxL l
  | [] => Int.le_refl _
  | x :: l => by have := maxL_nonneg l; rw [maxL_cons]; omega
theorem maxL_append : ∀ (a b : List Int), maxL (a ++ b) = max (maxL a) (maxL b)
  | [], b => by have := maxL_nonneg b; rw [List.nil_append, show maxL [] = 0 from rfl]; omega
  | x :: a, b => by rw [List.cons_append, maxL_cons, maxL_cons, maxL_append a b]; omega
theorem maxL_perm {a b : List Int} (h : a.Perm b) : maxL a = maxL b := by
  induction h with
  | nil => rfl
  | cons x _ ih => rw [maxL_cons, maxL_cons, ih]
  | swap x y l => simp only [maxL_cons]; omega
  | trans _ _ ih1 ih2 => exact ih1.trans ih2
def deepAt (acc : List Int) (ins : List Int) : Int := maxL (ins.map fun x => acc.getD x.toNat 0 + 1)
def deepOf : List Int → List S51 → List Int
  | acc, [] => acc
  | acc, st :: r => deepOf (acc ++ [deepAt acc st.f0]) r
theorem maxL_shift : ∀ (a : List Int) (u : Int), 0 ≤ u → 1 ≤ a.length → (∀ x ∈ a, 0 ≤ x) → maxL (a.map fun x => x + u) = maxL a + u
  | [], u, hu, h1, h => by simp at h1
  | [x], u, hu, h1, h => by
    have := h x (List.mem_cons_self ..)
    show max (x + u) 0 = max x 0 + u
    omega
  | x :: y :: a, u, hu, h1, h => by
    have ih := maxL_shift (y :: a) u hu (by simp) (fun z hz => h z (List.mem_cons_of_mem _ hz))
    rw [List.map_cons, maxL_cons, ih, maxL_cons x]
    omega
theorem flow_depth (n fan : Nat) : ∀ (steps : List S51) (s : Nat) (A acc : List Int), Flow n fan s steps A → acc.length = n + s → 1 ≤ n + s → (∀ j, 0 ≤ acc.getD j 0) → maxL (A.map fun x => acc.getD x.toNat 0 + (upFrom n s steps x : Int)) = (deepOf acc steps).getD (n + s + steps.length - 1) 0
  | [], s, A, acc, h, hl, h1, h0 => by
    rw [Flow] at h; subst h
    have := h0 (n + s - 1)
    simp only [List.map_cons, List.map_nil, maxL_cons, upFrom, deepOf, List.length_nil, Nat.add_zero, Int.toNat_natCast]
    rw [show maxL [] = 0 from rfl]
    omega
  | st :: r, s, A, acc, h, hl, h01, h0 => by
    obtain ⟨R, h1, h2, h3, h4, h5, h5b, h6⟩ := h
    have hd0 := maxL_nonneg (st.f0.map fun x => acc.getD x.toNat 0 + 1)
    have ih := flow_depth n fan r (s + 1) _ (acc ++ [deepAt acc st.f0]) h6 (by rw [List.length_append, List.length_singleton, hl]; omega) (by omega) (fun j => by
      rcases Nat.lt_trichotomy j acc.length with hj | hj | hj
      · rw [getD_append_lt hj]; exact h0 j
      · subst hj; rw [getD_append_len]; exact hd0
      · rw [List.getD_eq_getElem?_getD, List.getElem?_eq_none (by simp; omega)]; exact Int.le_refl _)
    obtain ⟨u1, u2⟩ := flow_up (n := n) (fan := fan) (s := s) (st := st) (r := r) h2
    have hR : ∀ x ∈ R, x.toNat < acc.length := fun x hx => by
      have := h3 x (h1.mem_iff.2 (List.mem_append_right _ hx)); omega
    rw [deepOf, List.length_cons, show n + s + (r.length + 1) - 1 = n + (s + 1) + r.length - 1 from by omega, ← ih]
    rw [maxL_perm (h1.map _), List.map_append, maxL_append, List.map_cons, maxL_cons, Int.toNat_natCast, ← hl, getD_append_len, hl]
    have e1 : st.f0.map (fun x => acc.getD x.toNat 0 + (upFrom n s (st :: r) x : Int)) = (st.f0.map fun x => acc.getD x.toNat 0 + 1).map fun y => y + ((upFrom n (s + 1) r ((n + s : Nat) : Int) : Nat) : Int) := by
      rw [List.map_map]
      refine List.map_congr_left fun x hx => ?_
      rw [u1 x hx]
      simp only [Function.comp]
      omega
    have e2 : R.map (fun x => acc.getD x.toNat 0 + (upFrom n s (st :: r) x : Int)) = R.map fun x => (acc ++ [deepAt acc st.f0]).getD x.toNat 0 + (upFrom n (s + 1) r x : Int) :=
      List.map_congr_left fun x hx => by rw [u2 x hx, getD_append_lt (hR x hx)]
    rw [e1, e2, maxL_shift _ _ (by omega) (by rw [List.length_map]; exact h4) (fun y hy => by
      obtain ⟨x, _, rfl⟩ := List.mem_map.1 hy
      have := h0 x.toNat; omega)]
    rfl
end Go.Proofs.Ytbgabijjnbmghaa.P
/- Plain law: what the reference's Check, up, Cost, Depth answer. -/
namespace Go.Proofs.Ytbgabijjnbmghaa.P
open Go.RowKit Go.Proofs.Ytbgabijjnbmghaa Go.Proofs.YtbgabijjnbmghaaW.PrintWords Go.Proofs.YtbgabijjnbmghaaW.PrintLast Go.Proofs.YtbgabijjnbmghaaW.PrintMore
set_option linter.unusedVariables false
set_option linter.unusedSimpArgs false

/-! ### the form alone -/
def ShapeFrom (n fan : Nat) : Nat → List S51 → Prop
  | _, [] => True
  | s, st :: r => formOk n fan s st ∧ (∀ x ∈ st.f0, 0 ≤ x ∧ x < st.f1) ∧ st.f0.Pairwise (· < ·) ∧ ShapeFrom n fan (s + 1) r
theorem planFrom_iff (n fan : Nat) : ∀ (l : List S51) (s : Nat) (xs : List Int), PlanFrom n fan s l xs ↔ ShapeFrom n fan s l ∧ (flat l).Nodup ∧ ∀ x ∈ flat l, x ∉ xs
  | [], s, xs => by simp [PlanFrom, ShapeFrom, flat]
  | st :: r, s, xs => by
    rw [PlanFrom, ShapeFrom, planFrom_iff n fan r (s + 1) (xs ++ st.f0), flat_cons, List.nodup_append]
    constructor
    · rintro ⟨h1, h2, h3, h4, h5, h6, h7⟩
      refine ⟨⟨h1, h2, h3, h5⟩, ⟨h3.imp (fun {a b} h => by omega), h6, fun a ha b hb e => ?_⟩, fun x hx => ?_⟩
      · subst e; exact h7 a hb (List.mem_append_right _ ha)
      · rcases List.mem_append.1 hx with hx | hx
        · exact h4 x hx
        · exact fun h => h7 x hx (List.mem_append_left _ h)
    · rintro ⟨⟨h1, h2, h3, h5⟩, ⟨h6, h7, h8⟩, h9⟩
      refine ⟨h1, h2, h3, fun x hx => h9 x (List.mem_append_left _ hx), h5, h7, fun x hx hc => ?_⟩
      rcases List.mem_append.1 hc with hc | hc
      · exact h9 x (List.mem_append_right _ hx) hc
      · exact h8 x hc x hx rfl
theorem shape_low (n fan : Nat) : ∀ (l : List S51) (s : Nat), ShapeFrom n fan s l → ∀ x ∈ flat l, 0 ≤ x ∧ x + 1 < (n : Int) + s + l.length
  | [], s, h, x, hx => by simp [flat] at hx
  | st :: r, s, h, x, hx => by
    rw [flat_cons] at hx
    rw [List.length_cons]
    rcases List.mem_append.1 hx with hx | hx
    · have h1 := h.2.1 x hx
      have h2 := h.1.1
      omega
    · have := shape_low n fan r (s + 1) h.2.2.2 x hx
      omega
theorem plan_iff_counts {n fan : Nat} {l : List S51} : Plan n fan l ↔ (1 ≤ l.length ∧ l.length ≤ n) ∧ ShapeFrom n fan 0 l ∧ ∀ j : Nat, j + 1 < n + l.length → (flat l).count (j : Int) = 1 := by
  constructor
  · intro h
    have h1 := (planFrom_iff n fan l 0 []).1 h.steps
    refine ⟨⟨h.some, h.few⟩, h1.1, fun j hj => ?_⟩
    rw [h1.2.1.count, if_pos (h.all j hj)]
  · rintro ⟨⟨h1, h2⟩, h3, h4⟩
    refine ⟨h1, h2, (planFrom_iff n fan l 0 []).2 ⟨h3, List.nodup_iff_count.2 (fun a => ?_), fun x _ => by simp⟩, fun j hj => ?_⟩
    · by_cases ha : a ∈ flat l
      · have h5 := shape_low n fan l 0 h3 a ha
        have h6 := h4 a.toNat (by omega)
        rw [show ((a.toNat : Nat) : Int) = a by omega] at h6
        omega
      · rw [List.count_eq_zero.2 ha]; omega
    · have := h4 j hj
      exact List.count_pos_iff.1 (by omega)
/-! ### the counts -/
def refRun (out : Int) : Option Int → List Int → List Int → Option (List Int)
  | _, [], t => Option.some t
  | p, x :: r, t => if 0 ≤ x ∧ x < out ∧ nextOk p x then refRun out (some x) r (t.set x.toNat (t.getD x.toNat 0 + 1)) else none
def refSteps (n fan : Nat) : Nat → List S51 → List Int → Option (List Int)
  | _, [], t => Option.some t
  | s, st :: r, t => if formOk n fan s st then (refRun st.f1 none st.f0 t).bind fun t' => refSteps n fan (s + 1) r t' else none
def Counts (t : List Int) (xs : List Int) : Prop := ∀ j : Nat, j < t.length → t.getD j 0 = (xs.count (j : Int) : Nat)
theorem counts_set {t xs : List Int} (h : Counts t xs) {x : Int} (h0 : 0 ≤ x) (hl : x < t.length) : Counts (t.set x.toNat (t.getD x.toNat 0 + 1)) (xs ++ [x]) := by
  intro j hj
  rw [List.length_set] at hj
  rw [getD_set (by omega), List.count_append, h x.toNat (by omega)]
  by_cases e : j = x.toNat
  · rw [if_pos e, e, show ((x.toNat : Nat) : Int) = x by omega]; simp
  · rw [if_neg e, h j hj, List.count_singleton, if_neg (by simp; omega)]; simp
theorem refRun_iff (out : Int) : ∀ (l : List Int) (p : Option Int) (t : List Int) (xs : List Int), Counts t xs → out ≤ t.length →
    (((∀ x ∈ l, 0 ≤ x ∧ x < out) ∧ l.Pairwise (· < ·) ∧ (∀ y, p = some y → ∀ x ∈ l, y < x)) → ∃ t', refRun out p l t = Option.some t' ∧ t'.length = t.length ∧ Counts t' (xs ++ l)) ∧ (¬ ((∀ x ∈ l, 0 ≤ x ∧ x < out) ∧ l.Pairwise (· < ·) ∧ (∀ y, p = some y → ∀ x ∈ l, y < x)) → refRun out p l t = none)
  | [], p, t, xs, ht, ho => ⟨fun _ => ⟨t, rfl, rfl, by simpa using ht⟩, fun h => absurd ⟨by simp, by simp, by simp⟩ h⟩
  | x :: r, p, t, xs, ht, ho => by
    rw [refRun]
    by_cases c : 0 ≤ x ∧ x < out ∧ nextOk p x
    · rw [if_pos c]
      obtain ⟨i1, i2⟩ := refRun_iff out r (some x) (t.set x.toNat (t.getD x.toNat 0 + 1)) (xs ++ [x]) (counts_set ht c.1 (by omega)) (by rw [List.length_set]; exact ho)
      constructor
      · rintro ⟨a1, a2, a3⟩
        have a2' := List.pairwise_cons.1 a2
        obtain ⟨t', g1, g2, g3⟩ := i1 ⟨fun y hy => a1 y (List.mem_cons_of_mem _ hy), a2'.2, fun z hz y hy => by cases hz; exact a2'.1 y hy⟩
        exact ⟨t', g1, by rw [g2, List.length_set], by rwa [List.append_assoc] at g3⟩
      · intro h
        refine i2 (fun h2 => h ⟨?_, ?_, ?_⟩)
        · intro y hy
          rcases List.mem_cons.1 hy with rfl | hy
          · exact ⟨c.1, c.2.1⟩
          · exact h2.1 y hy
        · exact List.Pairwise.cons (fun y hy => h2.2.2 x rfl y hy) h2.2.1
        · intro z hz y hy
          have hzx := c.2.2 z hz
          rcases List.mem_cons.1 hy with rfl | hy
          · exact hzx
          · have := h2.2.2 x rfl y hy; omega
    · rw [if_neg c]
      refine ⟨fun h => absurd ⟨(h.1 x (List.mem_cons_self ..)).1, (h.1 x (List.mem_cons_self ..)).2, fun y hy => h.2.2 y hy x (List.mem_cons_self ..)⟩ c, fun _ => rfl⟩
theorem refSteps_iff (n fan : Nat) : ∀ (l : List S51) (s : Nat) (t xs : List Int), Counts t xs → n + s + l.length ≤ t.length →
    (ShapeFrom n fan s l → ∃ t', refSteps n fan s l t = Option.some t' ∧ t'.length = t.length ∧ Counts t' (xs ++ flat l)) ∧ (¬ ShapeFrom n fan s l → refSteps n fan s l t = none)
  | [], s, t, xs, ht, hl => ⟨fun _ => ⟨t, rfl, rfl, by simpa [flat] using ht⟩, fun h => absurd trivial h⟩
  | st :: r, s, t, xs, ht, hl => by
    rw [List.length_cons] at hl
    rw [refSteps]
    by_cases hf : formOk n fan s st
    · rw [if_pos hf]
      have ho : st.f1 ≤ t.length := by have := hf.1; omega
      obtain ⟨r1, r2⟩ := refRun_iff st.f1 st.f0 none t xs ht ho
      by_cases hr : (∀ x ∈ st.f0, 0 ≤ x ∧ x < st.f1) ∧ st.f0.Pairwise (· < ·)
      · obtain ⟨t', g1, g2, g3⟩ := r1 ⟨hr.1, hr.2, fun y hy => by cases hy⟩
        rw [g1]
        obtain ⟨i1, i2⟩ := refSteps_iff n fan r (s + 1) t' (xs ++ st.f0) g3 (by rw [g2]; omega)
        constructor
        · intro h
          obtain ⟨t'', k1, k2, k3⟩ := i1 h.2.2.2
          exact ⟨t'', k1, by rw [k2, g2], by rw [flat_cons, ← List.append_assoc]; exact k3⟩
        · intro h; exact i2 (fun h2 => h ⟨hf, hr.1, hr.2, h2⟩)
      · rw [r2 (fun h => hr ⟨h.1, h.2.1⟩)]
        exact ⟨fun h => absurd ⟨h.2.1, h.2.2.1⟩ hr, fun _ => rfl⟩
    · rw [if_neg hf]
      exact ⟨fun h => absurd h.1 hf, fun _ => rfl⟩
/-! ### the walk's loops -/
theorem ref_l2 (steps : List S51) (n : Nat) (t : List Int) (hm : t.length = n + steps.length) (h1 : 1 ≤ t.length) (hb : t.length ≤ 1000000) : ∀ (d i : Nat), n + steps.length - 1 - i = d → i ≤ n + steps.length - 1 →
    ((∀ j : Nat, i ≤ j → j + 1 < n + steps.length → t.getD j 0 = 1) → Ev (fun k => millref10_Check.l2 k steps n t i) 0) ∧ (¬ (∀ j : Nat, i ≤ j → j + 1 < n + steps.length → t.getD j 0 = 1) → Ev (fun k => millref10_Check.l2 k steps n t i) 101)
  | 0, i, hd, hi => by
    have e2 : wrap64 ((n : Int) + (steps.length : Int)) = ((n + steps.length : Nat) : Int) := wA (by omega) (by omega)
    have e3 : wrap64 (((n + steps.length : Nat) : Int) - 1) = ((n + steps.length - 1 : Nat) : Int) := by rw [w64 _ (by omega) (by omega)]; omega
    have e1 : ¬ (i : Int) < ((n + steps.length - 1 : Nat) : Int) := by omega
    refine ⟨fun _ => Ev.step (f := fun _ => Option.some 0) (fun k => by rw [millref10_Check.l2, e2, e3, if_neg e1]) (Ev.now _), fun h => absurd (fun j h2 h3 => by omega) h⟩
  | d + 1, i, hd, hi => by
    have e2 : wrap64 ((n : Int) + (steps.length : Int)) = ((n + steps.length : Nat) : Int) := wA (by omega) (by omega)
    have e3 : wrap64 (((n + steps.length : Nat) : Int) - 1) = ((n + steps.length - 1 : Nat) : Int) := by rw [w64 _ (by omega) (by omega)]; omega
    have e1 : (i : Int) < ((n + steps.length - 1 : Nat) : Int) := by omega
    have e4 : (0 : Int) ≤ (i : Int) := by omega
    have e5 : (i : Int) < t.length := by omega
    obtain ⟨i1, i2⟩ := ref_l2 steps n t hm h1 hb d (i + 1) (by omega) (by omega)
    have e6 : wrap64 ((i : Int) + 1) = ((i + 1 : Nat) : Int) := wS (by omega)
    have head : ∀ k, millref10_Check.l2 (k + 1) steps n t i = if t.getD i 0 = 1 then millref10_Check.l2 k steps n t ((i + 1 : Nat) : Int) else Option.some 101 := fun k => by
      rw [millref10_Check.l2, e2, e3, if_pos e1, if_pos e4, if_pos e5, rd_nat, e6]
    by_cases c : t.getD i 0 = 1
    · constructor
      · intro h
        exact Ev.step (fun k => by rw [head, if_pos c]) (i1 (fun j h2 h3 => h j (by omega) h3))
      · intro h
        refine Ev.step (fun k => by rw [head, if_pos c]) (i2 (fun h2 => h (fun j h3 h4 => ?_)))
        by_cases e : j = i
        · rw [e]; exact c
        · exact h2 j (by omega) h4
    · exact ⟨fun h => absurd (h i (Nat.le_refl _) (by omega)) c, fun _ => Ev.step (f := fun _ => Option.some 101) (fun k => by rw [head, if_neg c]) (Ev.now _)⟩
theorem bump_bound {t : List Int} {q : Int} (hb : ∀ j, 0 ≤ t.getD j 0 ∧ t.getD j 0 ≤ q) (x : Nat) (j : Nat) : 0 ≤ (t.set x (t.getD x 0 + 1)).getD j 0 ∧ (t.set x (t.getD x 0 + 1)).getD j 0 ≤ q + 1 := by
  have h1 := hb j
  have h2 := hb x
  by_cases hx : x < t.length
  · rw [getD_set hx]
    by_cases e : j = x
    · rw [if_pos e]
      generalize t.getD x 0 = v at h2 ⊢; omega
    · rw [if_neg e]
      generalize t.getD j 0 = v at h1 ⊢; omega
  · rw [List.set_eq_of_length_le (by omega)]
    generalize t.getD j 0 = v at h1 ⊢; omega
theorem ref_head (k : Nat) (fan : Int) (steps : List S51) (n s : Nat) (t ins : List Int) (i : Nat) (hi : i < ins.length) (hns : n + s ≤ 1000000) :
    millref10_Check.l1 (k + 1) fan steps n t s ins i = if ins[i] < 0 then millref10_Check.j5 k fan steps n t s ins i true else millref10_Check.j5 k fan steps n t s ins i (decide (ins[i] ≥ ((n + s : Nat) : Int))) := by
  have e1 : (i : Int) < ins.length := by omega
  have e2 : (0 : Int) ≤ (i : Int) := by omega
  have e3 : wrap64 ((n : Int) + (s : Int)) = ((n + s : Nat) : Int) := wA (by omega) (by omega)
  rw [millref10_Check.l1, if_pos e1, if_pos e2, rd_getElem hi, e3]
theorem ref_j5_zero (k : Nat) (fan : Int) (steps : List S51) (n s : Nat) (t ins : List Int) (hi : 0 < ins.length) (c3 : (0 : Int) ≤ ins[0]) (c4 : ins[0] < (t.length : Int)) (hw : wrap64 (t.getD (ins[0]).toNat 0 + 1) = t.getD (ins[0]).toNat 0 + 1) :
    millref10_Check.j5 (k + 1) fan steps n t s ins ((0 : Nat) : Int) false = millref10_Check.l1 k fan steps n (t.set (ins[0]).toNat (t.getD (ins[0]).toNat 0 + 1)) s ins ((0 + 1 : Nat) : Int) := by
  have e1 : ((0 : Nat) : Int) < ins.length := by clear hw; omega
  have e2 : (0 : Int) ≤ ((0 : Nat) : Int) := by clear hw; omega
  have e7 : ¬ ((0 : Nat) : Int) > 0 := by clear hw; omega
  have hw2 : wrap64 (rd t ins[0] + 1) = t.getD (ins[0]).toNat 0 + 1 := hw
  rw [millref10_Check.j5, if_neg (by simp), if_neg e7, if_pos e2, if_pos e1, rd_getElem hi, if_pos c3, if_pos c4, hw2, wS (by clear hw hw2; omega)]
theorem ref_j5_succ (k : Nat) (fan : Int) (steps : List S51) (n s : Nat) (t ins : List Int) (i : Nat) (hi : i + 1 < ins.length) (hb : ins.length ≤ 64) (c3 : 0 ≤ ins[i + 1]) (c4 : ins[i + 1] < (t.length : Int)) (hw : wrap64 (t.getD (ins[i + 1]).toNat 0 + 1) = t.getD (ins[i + 1]).toNat 0 + 1) :
    millref10_Check.j5 (k + 1) fan steps n t s ins ((i + 1 : Nat) : Int) false = if ins[i] ≥ ins[i + 1] then some 101 else millref10_Check.l1 k fan steps n (t.set (ins[i + 1]).toNat (t.getD (ins[i + 1]).toNat 0 + 1)) s ins ((i + 1 + 1 : Nat) : Int) := by
  have e1 : ((i + 1 : Nat) : Int) < ins.length := by clear hw; omega
  have e2 : (0 : Int) ≤ ((i + 1 : Nat) : Int) := by clear hw; omega
  have e7 : ((i + 1 : Nat) : Int) > 0 := by clear hw; omega
  have e9 : (0 : Int) ≤ (i : Int) := by clear hw; omega
  have e10 : (i : Int) < (ins.length : Int) := by clear hw; omega
  have e8 : wrap64 (((i + 1 : Nat) : Int) - 1) = (i : Int) := by clear hw; rw [w64 _ (by omega) (by omega)]; omega
  have hw2 : wrap64 (rd t ins[i + 1] + 1) = t.getD (ins[i + 1]).toNat 0 + 1 := hw
  have e6 : wrap64 (((i + 1 : Nat) : Int) + 1) = ((i + 1 + 1 : Nat) : Int) := wS (by clear hw hw2 e8; omega)
  rw [millref10_Check.j5, if_neg (by simp), if_pos e7, e8, if_pos e9, if_pos e10, if_pos e2, if_pos e1, rd_getElem hi, rd_getElem (by clear hw hw2 e8 e6; omega), if_pos c3, if_pos c4, hw2, e6]
theorem ref_l1 (fan : Int) (steps : List S51) (n s : Nat) (t0 : Nat) (ins : List Int) (hl : ins.length ≤ 64) (hns : n + s ≤ 1000000) (hs : s ≤ 1000000) (B : Int) (hB : B ≤ 1000000000) (ends : List Int → Int) (ht0 : n + s ≤ t0)
    (cont : ∀ t', t'.length = t0 → (∀ j, 0 ≤ t'.getD j 0 ∧ t'.getD j 0 ≤ B + ins.length) → Ev (fun k => millref10_Check.l0 k fan steps n t' ((s + 1 : Nat) : Int)) (ends t')) : ∀ (d i : Nat) (t : List Int), ins.length - i = d → i ≤ ins.length → t.length = t0 → (∀ j, 0 ≤ t.getD j 0 ∧ t.getD j 0 ≤ B + i) →
    Ev (fun k => millref10_Check.l1 k fan steps n t s ins i) (match refRun ((n + s : Nat) : Int) (prevAt ins i) (ins.drop i) t with | Option.none => 101 | Option.some t' => ends t')
  | 0, i, t, hd, hi, ht, hb => by
    have e : i = ins.length := by omega
    subst e
    rw [List.drop_length, refRun]
    have e1 : ¬ (ins.length : Int) < ins.length := by omega
    have e2 : wrap64 ((s : Int) + 1) = ((s + 1 : Nat) : Int) := wS (by omega)
    exact Ev.step (fun k => by rw [millref10_Check.l1, if_neg e1, e2]) (cont t ht hb)
  | d + 1, i, t, hd, hi, ht, hb => by
    have hlt : i < ins.length := by omega
    have hpa : prevAt ins (i + 1) = some ins[i] := by simp [prevAt, hlt]
    rw [drop_cons hlt, refRun]
    have bad : Ev (fun k => millref10_Check.j5 k fan steps n t s ins i true) 101 := Ev.step (f := fun _ => Option.some 101) (fun k => by rw [millref10_Check.j5, if_pos rfl]) (Ev.now _)
    by_cases c1 : ins[i] < 0
    · rw [if_neg (fun h => absurd c1 (Int.not_lt.2 h.1))]
      exact Ev.step (fun k => by rw [ref_head k fan steps n s t ins i hlt hns, if_pos c1]) bad
    by_cases c2 : ins[i] ≥ ((n + s : Nat) : Int)
    · rw [if_neg (fun h => absurd h.2.1 (Int.not_lt.2 c2))]
      exact Ev.step (fun k => by rw [ref_head k fan steps n s t ins i hlt hns, if_neg c1, decide_eq_true c2]) bad
    refine Ev.step (f := fun k => millref10_Check.j5 k fan steps n t s ins i false) (fun k => by rw [ref_head k fan steps n s t ins i hlt hns, if_neg c1, decide_eq_false c2]) ?_
    have c3 : 0 ≤ ins[i] := Int.not_lt.1 c1
    have c2' : ins[i] < ((n + s : Nat) : Int) := Int.not_le.1 c2
    have c4 : ins[i] < (t.length : Int) := Int.lt_of_lt_of_le c2' (by rw [ht]; exact Int.ofNat_le.2 ht0)
    have hib : (i : Int) ≤ 64 := by clear c1 c2 c3 c2' c4; omega
    have hbe : B + ((i + 1 : Nat) : Int) = B + i + 1 := by clear c1 c2 c3 c2' c4; omega
    have hw : wrap64 (t.getD (ins[i]).toNat 0 + 1) = t.getD (ins[i]).toNat 0 + 1 := by
      have hbx := hb (ins[i]).toNat
      generalize t.getD (ins[i]).toNat 0 = v at hbx ⊢
      clear c1 c2 c3 c2' c4
      exact w64 _ (by omega) (by omega)
    have ih := ref_l1 fan steps n s t0 ins hl hns hs B hB ends ht0 cont d (i + 1) (t.set (ins[i]).toNat (t.getD (ins[i]).toNat 0 + 1)) (by clear hw c1 c2 c3 c2' c4; omega) hlt (by rw [List.length_set]; exact ht) (fun j => by
      rw [hbe]; exact bump_bound hb _ j)
    rw [hpa] at ih
    cases i with
    | zero =>
      rw [if_pos ⟨c3, c2', fun y h => by simp [prevAt] at h⟩]
      exact Ev.step (fun k => ref_j5_zero k fan steps n s t ins hlt c3 c4 hw) ih
    | succ i =>
      have hlt2 : i < ins.length := Nat.lt_of_succ_lt hlt
      have hpi : prevAt ins (i + 1) = some ins[i] := by simp [prevAt, hlt2]
      by_cases c5 : ins[i] ≥ ins[i + 1]
      · rw [if_neg (fun h => absurd (h.2.2 _ hpi) (Int.not_lt.2 c5))]
        exact Ev.step (f := fun _ => Option.some 101) (fun k => by rw [ref_j5_succ k fan steps n s t ins i hlt hl c3 c4 hw, if_pos c5]) (Ev.now _)
      · rw [if_pos ⟨c3, c2', fun y h => by rw [hpi] at h; cases h; exact Int.not_le.1 c5⟩]
        exact Ev.step (fun k => by rw [ref_j5_succ k fan steps n s t ins i hlt hl c3 c4 hw, if_neg c5]) ih
theorem refRun_bound (out : Int) : ∀ (l : List Int) (p : Option Int) (t t' : List Int) (q : Int), refRun out p l t = Option.some t' → (∀ j, 0 ≤ t.getD j 0 ∧ t.getD j 0 ≤ q) → t'.length = t.length ∧ ∀ j, 0 ≤ t'.getD j 0 ∧ t'.getD j 0 ≤ q + l.length
  | [], p, t, t', q, h, hb => by
    rw [refRun] at h; cases h; simpa using hb
  | x :: r, p, t, t', q, h, hb => by
    rw [refRun] at h
    split at h
    · obtain ⟨h1, h2⟩ := refRun_bound out r (some x) _ t' (q + 1) h (bump_bound hb _)
      refine ⟨by rw [h1, List.length_set], fun j => ?_⟩
      have := h2 j
      rw [List.length_cons]
      generalize t'.getD j 0 = v at this ⊢
      omega
    · cases h
theorem ref_j2 (k : Nat) (fan : Nat) (steps : List S51) (n s : Nat) (t : List Int) (hs : s < steps.length) (hns : n + s ≤ 1000000) :
    millref10_Check.l0 (k + 3) fan steps n t s = if formOk n fan s steps[s] then millref10_Check.l1 k fan steps n t s (steps[s]).f0 ((0 : Nat) : Int) else some 101 := by
  have e1 : (s : Int) < steps.length := by omega
  have e2 : (0 : Int) ≤ (s : Int) := by omega
  have e3 : wrap64 ((n : Int) + (s : Int)) = (n : Int) + s := by rw [wA (by omega) (by omega)]; omega
  rw [millref10_Check.l0, if_pos e1, if_pos e2, rdT_getElem hs, e3]
  clear e3
  have bad : millref10_Check.j2 (k + 2) fan steps n t s (steps[s]).f0 true = some 101 := by rw [millref10_Check.j2, if_pos rfl]
  by_cases c1 : (steps[s]).f1 = (n : Int) + s
  · rw [if_pos c1]
    by_cases c2 : ((steps[s]).f0.length : Int) = 0
    · rw [if_pos c2, bad, if_neg (fun h => by have := h.2.1; omega)]
    · rw [if_neg c2]
      by_cases c3 : ((steps[s]).f0.length : Int) > fan
      · rw [decide_eq_true c3, bad, if_neg (fun h => by have := h.2.2.1; omega)]
      · rw [decide_eq_false c3, millref10_Check.j2, if_neg (by simp)]
        by_cases c4 : ((steps[s]).f0.length : Int) = 1
        · rw [if_pos c4]
          by_cases c5 : (n : Int) > 1
          · rw [decide_eq_true c5, millref10_Check.j3, if_pos rfl, if_neg (fun h => by have := h.2.2.2; omega)]
          · rw [decide_eq_false c5, millref10_Check.j3, if_neg (by simp), if_pos ⟨c1, by omega, by omega, fun _ => by omega⟩]; rfl
        · rw [if_neg c4, millref10_Check.j3, if_neg (by simp), if_pos ⟨c1, by omega, by omega, fun h => by omega⟩]; rfl
  · rw [if_neg c1, bad, if_neg (fun h => c1 h.1)]
theorem Ev.step3 {α : Type} {g f : Nat → Option α} {r : α} (h : ∀ k, g (k + 3) = f k) (k : Ev f r) : Ev g r := by
  obtain ⟨K, hK⟩ := k
  refine ⟨K + 3, fun m hm => ?_⟩
  obtain ⟨m', rfl⟩ : ∃ m', m = m' + 3 := ⟨m - 3, by omega⟩
  rw [h]; exact hK m' (by omega)
open Classical in
/-- the answer at the end of the counts -/
noncomputable def refTail (n L : Nat) (t : List Int) : Int := if ∀ j : Nat, j + 1 < n + L → t.getD j 0 = 1 then 0 else 101
theorem refTail_pos {n L : Nat} {t : List Int} (h : ∀ j : Nat, j + 1 < n + L → t.getD j 0 = 1) : refTail n L t = 0 := by unfold refTail; exact if_pos h
theorem refTail_neg {n L : Nat} {t : List Int} (h : ¬ ∀ j : Nat, j + 1 < n + L → t.getD j 0 = 1) : refTail n L t = 101 := by unfold refTail; exact if_neg h
theorem ref_l0 (fan : Nat) (steps : List S51) (n : Nat) (hf : fan ≤ 64) (hn : n ≤ 65536) (hL : steps.length ≤ 65536) (h1 : 1 ≤ n + steps.length) : ∀ (d s : Nat) (t : List Int), steps.length - s = d → s ≤ steps.length → t.length = n + steps.length → (∀ j, 0 ≤ t.getD j 0 ∧ t.getD j 0 ≤ (s : Int) * 64) →
    Ev (fun k => millref10_Check.l0 k fan steps n t s) (match refSteps n fan s (steps.drop s) t with | Option.none => 101 | Option.some t' => refTail n steps.length t')
  | 0, s, t, hd, hi, ht, hb => by
    have e : s = steps.length := by omega
    subst e
    rw [List.drop_length, refSteps]
    have e1 : ¬ (steps.length : Int) < steps.length := by omega
    obtain ⟨i1, i2⟩ := ref_l2 steps n t ht (by omega) (by omega) _ 0 rfl (Nat.zero_le _)
    refine Ev.step (f := fun k => millref10_Check.l2 k steps n t ((0 : Nat) : Int)) (fun k => by rw [millref10_Check.l0, if_neg e1]; rfl) ?_
    show Ev _ (refTail n steps.length t)
    by_cases c : ∀ j : Nat, j + 1 < n + steps.length → t.getD j 0 = 1
    · rw [refTail_pos c]; exact i1 (fun j _ h => c j h)
    · rw [refTail_neg c]; exact i2 (fun h => c (fun j h2 => h j (Nat.zero_le _) h2))
  | d + 1, s, t, hd, hi, ht, hb => by
    have hlt : s < steps.length := by omega
    rw [drop_cons hlt, refSteps]
    by_cases hf2 : formOk n fan s steps[s]
    · rw [if_pos hf2]
      have f1 := hf2.1
      have f3 := hf2.2.2.1
      have cont := ref_l1 fan steps n s (n + steps.length) (steps[s]).f0 (by omega) (by omega) (by omega) ((s : Int) * 64) (by omega) (fun t' => match refSteps n fan (s + 1) (steps.drop (s + 1)) t' with | Option.none => 101 | Option.some t'' => refTail n steps.length t'') (by omega)
        (fun t' h2 h3 => ref_l0 fan steps n hf hn hL h1 d (s + 1) t' (by omega) hlt h2 (fun j => by
          have h4 := h3 j
          refine ⟨h4.1, Int.le_trans h4.2 ?_⟩
          clear h4
          omega)) (steps[s]).f0.length 0 t rfl (Nat.zero_le _) ht (fun j => by have := hb j; rw [show (s : Int) * 64 + ((0 : Nat) : Int) = (s : Int) * 64 by omega]; exact this)
      refine Ev.step3 (fun k => by rw [ref_j2 k fan steps n s t hlt (by omega), if_pos hf2]) ?_
      rw [List.drop_zero, show ((n + s : Nat) : Int) = (steps[s]).f1 by rw [f1]; omega] at cont
      have e : ∀ (o : Option (List Int)), (match o.bind fun t' => refSteps n fan (s + 1) (steps.drop (s + 1)) t' with | Option.none => (101 : Int) | Option.some t' => refTail n steps.length t') = (match o with | Option.none => 101 | Option.some t' => (match refSteps n fan (s + 1) (steps.drop (s + 1)) t' with | Option.none => 101 | Option.some t'' => refTail n steps.length t'')) := fun o => by cases o <;> rfl
      rw [e]
      exact cont
    · rw [if_neg hf2]
      exact Ev.step3 (f := fun _ => Option.some 101) (fun k => by rw [ref_j2 k fan steps n s t hlt (by omega), if_neg hf2]) (Ev.now _)
open Classical in
theorem refCheck_ev (l : List Int) (fan : Int) (steps : List S51) : Ev (fun k => millref10_Check.f k l fan steps) (checkV l fan steps) := by
  unfold checkV
  refine Ev.bind (ref_given_ev l fan) ?_
  by_cases hg : givenV l fan = 0
  · simp only [if_pos hg]
    obtain ⟨hf1, hf2, hn1, hn2, _⟩ := givenV_zero hg
    obtain ⟨F, rfl⟩ : ∃ F : Nat, fan = F := ⟨fan.toNat, by omega⟩
    rw [Int.toNat_natCast]
    have bad : Ev (fun k => millref10_Check.j0 k F steps l.length true) 101 := Ev.step (f := fun _ => Option.some 101) (fun k => by rw [millref10_Check.j0, if_pos rfl]) (Ev.now _)
    by_cases h0 : steps.length = 0
    · rw [if_neg (fun h => by have := h.some; omega)]
      have e0 : (steps.length : Int) = 0 := by omega
      simp only [if_pos e0]
      exact bad
    · have e0 : ¬ ((steps.length : Int) = 0) := by omega
      simp only [if_neg e0]
      by_cases h1 : steps.length > l.length
      · rw [if_neg (fun h => by have := h.few; omega), decide_eq_true (by omega)]
        exact bad
      · rw [decide_eq_false (by omega)]
        have hz : Counts (List.replicate (l.length + steps.length) 0) [] := fun j hj => by
          rw [List.getD_eq_getElem?_getD, List.getElem?_replicate]; split <;> simp
        obtain ⟨i1, i2⟩ := refSteps_iff l.length F steps 0 (List.replicate (l.length + steps.length) 0) [] hz (by simp)
        have hc := ref_l0 F steps l.length (by omega) hn2 (by omega) (by omega) steps.length 0 (List.replicate (l.length + steps.length) 0) rfl (Nat.zero_le _) (by simp) (fun j => by
          rw [List.getD_eq_getElem?_getD, List.getElem?_replicate]; split <;> simp)
        rw [List.drop_zero] at hc
        have hfin : (match refSteps l.length F 0 steps (List.replicate (l.length + steps.length) 0) with | Option.none => (101 : Int) | Option.some t' => refTail l.length steps.length t') = if Plan l.length F steps then 0 else 101 := by
          by_cases hs : ShapeFrom l.length F 0 steps
          · obtain ⟨t', g1, g2, g3⟩ := i1 hs
            rw [g1]
            rw [List.length_replicate] at g2
            show refTail l.length steps.length t' = _
            have hco : (∀ j : Nat, j + 1 < l.length + steps.length → t'.getD j 0 = 1) ↔ ∀ j : Nat, j + 1 < l.length + steps.length → (flat steps).count (j : Int) = 1 := by
              constructor
              · intro h j hj
                have h2 := h j hj
                rw [g3 j (by omega), List.nil_append] at h2
                omega
              · intro h j hj
                rw [g3 j (by omega), List.nil_append, h j hj]; rfl
            by_cases ha : ∀ j : Nat, j + 1 < l.length + steps.length → t'.getD j 0 = 1
            · rw [refTail_pos ha, if_pos (plan_iff_counts.2 ⟨⟨by omega, by omega⟩, hs, hco.1 ha⟩)]
            · rw [refTail_neg ha, if_neg (fun h => ha (hco.2 (plan_iff_counts.1 h).2.2))]
          · rw [i2 hs, if_neg (fun h => hs (plan_iff_counts.1 h).2.1)]
        rw [← hfin]
        refine Ev.step (fun k => ?_) hc
        have e1 : wrap64 ((l.length : Int) + (steps.length : Int)) = ((l.length + steps.length : Nat) : Int) := wA (by omega) (by omega)
        rw [millref10_Check.j0, if_neg (by simp), e1, if_pos (Int.natCast_nonneg _), Int.toNat_natCast, if_pos (by clear e1 hz i1 i2 hc hfin; omega)]; rfl
  · simp only [if_neg hg]; exact Ev.now _
end Go.Proofs.Ytbgabijjnbmghaa.P
/- Plain law: the quotient of two whole numbers as floats: it is a number, is equal to itself, and is not above 1 where the one number is not above the other. -/
namespace Go.Proofs.Ytbgabijjnbmghaa.F
open Ieee
set_option linter.unusedVariables false
set_option linter.unusedSimpArgs false

theorem sw : double.signWeight = 9223372036854775808 := by decide
theorem bin : double.binade = 4503599627370496 := by decide
theorem inf : double.infRung = 9218868437227405312 := by decide
theorem low : double.leastPlace = -1074 := by decide
theorem fb : double.fractionBits = 52 := rfl
theorem order_self {d : Datum} (h : d.isNaN = false) : d.order d = some .eq := by
  cases d with
  | number s m e => simp [Datum.order]
  | infinity s => simp [Datum.order]
  | nan s t => simp [Datum.isNaN] at h
theorem read_rung {r : Nat} (h : r ≤ 9218868437227405312) : (double.read r).isNaN = false := by
  unfold Format.read
  rw [sw, bin, inf]
  dsimp only
  have e : r % 9223372036854775808 = r := Nat.mod_eq_of_lt (by omega)
  rw [e]
  split
  · rfl
  · split
    · rfl
    · split
      · rfl
      · omega
/-- the rung of a positive number -/
def rungOf (mag : Nat) (place : Int) : Nat :=
  if mag = 0 then 0 else
  min ((max (place + mag.log2 - 52) (-1074) + 1074).toNat * 4503599627370496 + Toward.even.cut false (mag <<< (place - max (place + mag.log2 - 52) (-1074)).toNat) (max (place + mag.log2 - 52) (-1074) - place).toNat) 9218868437227405312
theorem nearest_rung (mag : Nat) (place : Int) : double.nearest false mag place = rungOf mag place := by
  unfold Format.nearest rungOf
  rw [low, bin, inf, fb]
  dsimp only
  split
  · rfl
  · simp [Format.word]
theorem rungOf_le (mag : Nat) (place : Int) : rungOf mag place ≤ 9218868437227405312 := by
  unfold rungOf
  split
  · omega
  · exact Nat.min_le_right ..
theorem write_self (mag : Nat) (place : Int) : double.order (double.write (.number false mag place)) (double.write (.number false mag place)) = some .eq := by
  unfold Format.order
  refine order_self ?_
  rw [show double.write (.number false mag place) = rungOf mag place from nearest_rung mag place]
  exact read_rung (rungOf_le _ _)
theorem log_lt {n : Nat} (h0 : 0 < n) (h : n < 9007199254740992) : n.log2 ≤ 52 := by
  have := (Nat.log2_lt (k := 53) (by omega)).2 h
  omega
theorem cut_zero (n : Nat) : Toward.even.cut false n 0 = n := by
  unfold Toward.cut
  simp
  omega
theorem of_nat {n : Nat} (h0 : 0 < n) (h : n < 9007199254740992) : double.write (.number false n 0) = (n.log2 + 1022) * 4503599627370496 + n * 2 ^ (52 - n.log2) := by
  have hl := log_lt h0 h
  rw [show double.write (.number false n 0) = rungOf n 0 from nearest_rung n 0]
  unfold rungOf
  have e1 : max ((0 : Int) + n.log2 - 52) (-1074) = (n.log2 : Int) - 52 := by omega
  have e2 : ((0 : Int) - ((n.log2 : Int) - 52)).toNat = 52 - n.log2 := by omega
  have e3 : ((n.log2 : Int) - 52 - 0).toNat = 0 := by omega
  have e4 : ((n.log2 : Int) - 52 + 1074).toNat = n.log2 + 1022 := by omega
  rw [if_neg (by omega), e1, e2, e3, e4, cut_zero, Nat.shiftLeft_eq]
  have h5 : n * 2 ^ (52 - n.log2) < 2 ^ 53 := by
    have h6 : n < 2 ^ (n.log2 + 1) := Nat.lt_log2_self
    have h7 : n * 2 ^ (52 - n.log2) < 2 ^ (n.log2 + 1) * 2 ^ (52 - n.log2) := Nat.mul_lt_mul_of_pos_right h6 (Nat.two_pow_pos _)
    rw [← Nat.pow_add, show n.log2 + 1 + (52 - n.log2) = 53 by omega] at h7
    exact h7
  refine Nat.min_eq_left ?_
  have : (2 : Nat) ^ 53 = 9007199254740992 := by decide
  omega
theorem read_nat {n : Nat} (h0 : 0 < n) (h : n < 9007199254740992) : double.read (double.write (.number false n 0)) = .number false (n * 2 ^ (52 - n.log2)) ((n.log2 : Int) - 52) := by
  have hl := log_lt h0 h
  rw [of_nat h0 h]
  have h5 : n * 2 ^ (52 - n.log2) < 9007199254740992 := by
    have h6 : n < 2 ^ (n.log2 + 1) := Nat.lt_log2_self
    have h7 : n * 2 ^ (52 - n.log2) < 2 ^ (n.log2 + 1) * 2 ^ (52 - n.log2) := Nat.mul_lt_mul_of_pos_right h6 (Nat.two_pow_pos _)
    rw [← Nat.pow_add, show n.log2 + 1 + (52 - n.log2) = 53 by omega] at h7
    exact h7
  have h6 : 4503599627370496 ≤ n * 2 ^ (52 - n.log2) := by
    have h6 : 2 ^ n.log2 ≤ n := Nat.log2_self_le (by omega)
    have h7 : 2 ^ n.log2 * 2 ^ (52 - n.log2) ≤ n * 2 ^ (52 - n.log2) := Nat.mul_le_mul_right _ h6
    rw [← Nat.pow_add, show n.log2 + (52 - n.log2) = 52 by omega] at h7
    exact h7
  generalize n * 2 ^ (52 - n.log2) = K at h5 h6 ⊢
  unfold Format.read
  rw [sw, bin, inf, low]
  dsimp only
  generalize n.log2 = L at hl ⊢
  have e1 : ((L + 1022) * 4503599627370496 + K) % 9223372036854775808 = (L + 1022) * 4503599627370496 + K := Nat.mod_eq_of_lt (by omega)
  have e2 : ((L + 1022) * 4503599627370496 + K) / 9223372036854775808 = 0 := Nat.div_eq_of_lt (by omega)
  have e3 : ((L + 1022) * 4503599627370496 + K) % 4503599627370496 = K - 4503599627370496 := by omega
  have e4 : ((L + 1022) * 4503599627370496 + K) / 4503599627370496 = L + 1023 := by omega
  rw [e1, e2, if_neg (by omega), if_pos (by omega), e3, e4]
  rw [show 4503599627370496 + (K - 4503599627370496) = K from by omega, show (-1074 : Int) + ((L + 1023 - 1 : Nat) : Int) = (L : Int) - 52 from by omega]
  rfl
theorem read_zero : double.read (double.write (.number false 0 0)) = .number false 0 (-1074) := by decide
theorem quotient_nat {p q : Nat} (hp : p < 9007199254740992) (h0 : 0 < q) (hq : q < 9007199254740992) :
    ∃ m i, (double.read (double.write (.number false p 0))).quotient 54 (double.read (double.write (.number false q 0))) = some (.number false m i) := by
  rw [read_nat h0 hq]
  have hn : ¬ q * 2 ^ (52 - q.log2) = 0 := Nat.mul_ne_zero (by omega) (Nat.ne_of_gt (Nat.two_pow_pos _))
  by_cases e : p = 0
  · subst e
    rw [read_zero]
    unfold Datum.quotient
    simp only
    rw [if_neg hn]
    exact ⟨_, _, rfl⟩
  · rw [read_nat (by omega) hp]
    unfold Datum.quotient
    simp only
    rw [if_neg hn]
    exact ⟨_, _, rfl⟩
/-- the quotient's bits: they are there, and equal to themselves -/
theorem quo_nat {p q : Nat} (hp : p < 9007199254740992) (h0 : 0 < q) (hq : q < 9007199254740992) :
    ∃ r, floatBits .quo .f64 (floatOfInt .f64 (p : Int)) (floatOfInt .f64 (q : Int)) = some r ∧ FloatKind.f64.format.order r r = some .eq := by
  obtain ⟨m, i, e⟩ := quotient_nat hp h0 hq
  have f : ∀ n : Nat, floatOfInt .f64 (n : Int) = double.write (.number false n 0) := fun n => by
    unfold floatOfInt FloatKind.nearest FloatKind.encode
    rw [show decide ((n : Int) < 0) = false from decide_eq_false (by omega), Int.natAbs_natCast]; rfl
  refine ⟨double.write (.number false m i), ?_, write_self m i⟩
  rw [f, f]
  show double.div _ _ = _
  unfold Format.div
  rw [show double.fractionBits + 2 = 54 from rfl, e]; rfl
end Go.Proofs.Ytbgabijjnbmghaa.F
/- Plain law: what plan.Load and the reference's Load answer. -/
namespace Go.Proofs.Ytbgabijjnbmghaa.P
open Go.RowKit Go.Proofs.Ytbgabijjnbmghaa Go.Proofs.YtbgabijjnbmghaaW.PrintWords Go.Proofs.YtbgabijjnbmghaaW.PrintLast Go.Proofs.YtbgabijjnbmghaaW.PrintMore
set_option linter.unusedVariables false
set_option linter.unusedSimpArgs false

theorem flat_take_le (steps : List S51) (s : Nat) : (flat (steps.take s)).length ≤ (flat steps).length := by
  have e : flat steps = flat (steps.take s) ++ flat (steps.drop s) := by rw [← flat_append, List.take_append_drop]
  rw [e, List.length_append]; omega
theorem load_l0 (steps : List S51) (fan : Int) (r : Nat) (hT : (flat steps).length ≤ 1000000000) (hL : steps.length ≤ 65536) (hr : quo64 ((flat steps).length : Int) (wrap64 (fan * (steps.length : Int))) = some r) : ∀ (d s : Nat), steps.length - s = d → s ≤ steps.length →
    Ev (fun k => plan_Load.l0 k fan ((flat (steps.take s)).length : Int) steps (steps.length : Int) (s : Int)) (r, 0)
  | 0, s, hd, hs => by
    have e : s = steps.length := by omega
    subst e
    have e1 : ¬ (steps.length : Int) < steps.length := Int.lt_irrefl _
    rw [List.take_length]
    exact Ev.step (f := fun _ => some (r, 0)) (fun k => by rw [plan_Load.l0, if_neg e1, hr]; rfl) (Ev.now _)
  | d + 1, s, hd, hs => by
    have hlt : s < steps.length := by omega
    have e1 : (s : Int) < steps.length := by omega
    have e2 : (0 : Int) ≤ (s : Int) := by omega
    have hle := flat_take_le steps s
    have hle2 := flat_take_le steps (s + 1)
    have e3 : flat (steps.take (s + 1)) = flat (steps.take s) ++ (steps[s]).f0 := flat_take_succ hlt
    rw [e3, List.length_append] at hle2
    have e4 : wrap64 (((flat (steps.take s)).length : Int) + ((steps[s]).f0.length : Int)) = ((flat (steps.take (s + 1))).length : Int) := by
      rw [wA (by omega) (by omega), e3, List.length_append]
    refine Ev.step (fun k => ?_) (load_l0 steps fan r hT hL hr d (s + 1) (by omega) (by omega))
    rw [plan_Load.l0, if_pos e1, if_pos e2, if_pos e1, rdT_getElem hlt, e4, wS (by omega)]
theorem refLoad_l0 (steps : List S51) (fan : Int) (hT : (flat steps).length ≤ 1000000000) (hL : steps.length ≤ 65536) : ∀ (d s : Nat), steps.length - s = d → s ≤ steps.length →
    Ev (fun k => millref10_Load.l0 k fan steps ((flat (steps.take s)).length : Int) (s : Int)) (((flat steps).length : Int), wrap64 (fan * (steps.length : Int)), 0)
  | 0, s, hd, hs => by
    have e : s = steps.length := by omega
    subst e
    have e1 : ¬ (steps.length : Int) < steps.length := Int.lt_irrefl _
    rw [List.take_length]
    exact Ev.step (f := fun _ => some (((flat steps).length : Int), wrap64 (fan * (steps.length : Int)), 0)) (fun k => by rw [millref10_Load.l0, if_neg e1]) (Ev.now _)
  | d + 1, s, hd, hs => by
    have hlt : s < steps.length := by omega
    have e1 : (s : Int) < steps.length := by omega
    have e2 : (0 : Int) ≤ (s : Int) := by omega
    have hle := flat_take_le steps s
    have hle2 := flat_take_le steps (s + 1)
    have e3 : flat (steps.take (s + 1)) = flat (steps.take s) ++ (steps[s]).f0 := flat_take_succ hlt
    rw [e3, List.length_append] at hle2
    have e4 : wrap64 (((flat (steps.take s)).length : Int) + ((steps[s]).f0.length : Int)) = ((flat (steps.take (s + 1))).length : Int) := by
      rw [wA (by omega) (by omega), e3, List.length_append]
    refine Ev.step (fun k => ?_) (refLoad_l0 steps fan hT hL d (s + 1) (by omega) (by omega))
    rw [millref10_Load.l0, if_pos e1, if_pos e2, rdT_getElem hlt, e4, wS (by omega)]
theorem plan_sizes {l : List Int} {fan : Int} {steps : List S51} (h : checkV l fan steps = 0) : 2 ≤ fan ∧ fan ≤ 64 ∧ 1 ≤ steps.length ∧ steps.length ≤ 65536 ∧ (flat steps).length + 1 = l.length + steps.length ∧ (flat steps).length ≤ fan.toNat * steps.length ∧ l.length ≤ 65536 := by
  obtain ⟨hg, hp⟩ := checkV_zero h
  obtain ⟨h1, h2, h3, h4, h5⟩ := givenV_zero hg
  have hfew := hp.few; have hsome := hp.some
  have h6 := flow_taken _ _ _ _ _ (flow_of_plan hp)
  have h7 := flow_flat_le _ _ _ _ _ (flow_of_plan hp)
  have h8 : (nums l.length).length = l.length := by simp [nums]
  refine ⟨by omega, by omega, by omega, by omega, by omega, h7, by omega⟩
/-- one answer of both -/
theorem load_both (l : List Int) (fan : Int) (steps : List S51) : ∃ (p q : Int) (r : Nat),
    Ev (fun k => plan_Load.f k l fan steps) (r, checkV l fan steps) ∧ Ev (fun k => millref10_Load.f k l fan steps) (p, q, checkV l fan steps) ∧ quo64 p q = some r ∧ FloatKind.f64.format.order r r = some .eq := by
  by_cases h : checkV l fan steps = 0
  · obtain ⟨h1, h2, h3, h4, h5, h6, h7⟩ := plan_sizes h
    have hT : (flat steps).length ≤ 1000000000 := by omega
    have hm : fan * (steps.length : Int) = ((fan.toNat * steps.length : Nat) : Int) := by
      rw [Int.natCast_mul, Int.toNat_of_nonneg (by omega)]
    have hb : fan.toNat * steps.length ≤ 64 * 65536 := Nat.mul_le_mul (by omega) h4
    have hb2 : 1 * 1 ≤ fan.toNat * steps.length := Nat.mul_le_mul (by omega) h3
    have hw : wrap64 (fan * (steps.length : Int)) = ((fan.toNat * steps.length : Nat) : Int) := by rw [hm, w64 _ (by omega) (by omega)]
    obtain ⟨r, e1, e2⟩ := F.quo_nat (p := (flat steps).length) (q := fan.toNat * steps.length) (by omega) (by omega) (by omega)
    have e3 : quo64 ((flat steps).length : Int) (wrap64 (fan * (steps.length : Int))) = some r := by rw [hw]; exact e1
    refine ⟨((flat steps).length : Int), wrap64 (fan * (steps.length : Int)), r, ?_, ?_, e3, e2⟩
    · unfold plan_Load.f
      refine Ev.bind (check_ev l fan steps) ?_
      simp only [if_pos h]
      rw [h]
      exact load_l0 steps fan r hT h4 e3 steps.length 0 rfl (Nat.zero_le _)
    · unfold millref10_Load.f
      refine Ev.bind (refCheck_ev l fan steps) ?_
      simp only [if_pos h]
      rw [h]
      exact refLoad_l0 steps fan hT h4 steps.length 0 rfl (Nat.zero_le _)
  · obtain ⟨r, e1, e2⟩ := F.quo_nat (p := 0) (q := 1) (by omega) (by omega) (by omega)
    have e0 : r = 0 := by
      have : floatBits .quo .f64 (floatOfInt .f64 ((0 : Nat) : Int)) (floatOfInt .f64 ((1 : Nat) : Int)) = some 0 := by decide
      rw [this] at e1
      exact (Option.some.inj e1).symm
    subst e0
    refine ⟨0, 1, 0, ?_, ?_, e1, e2⟩
    · unfold plan_Load.f
      refine Ev.bind (check_ev l fan steps) ?_
      simp only [if_neg h]; exact Ev.now _
    · unfold millref10_Load.f
      refine Ev.bind (refCheck_ev l fan steps) ?_
      simp only [if_neg h]; exact Ev.now _
end Go.Proofs.Ytbgabijjnbmghaa.P
/- Plain law: the quotient of two whole numbers as floats is not above 1 where the one number is not above the other. -/
namespace Go.Proofs.Ytbgabijjnbmghaa.F
open Ieee
set_option linter.unusedVariables false
set_option linter.unusedSimpArgs false

theorem rung_below {R : Nat} (h1 : 4503599627370496 ≤ R) (h2 : R ≤ 4607182418800017408) : (double.order R 4607182418800017408 == some .lt || double.order R 4607182418800017408 == some .eq) = true := by
  by_cases he : R = 4607182418800017408
  · subst he; decide
  have e1 : double.read 4607182418800017408 = .number false 4503599627370496 (-52) := by decide
  have e2 : double.read R = .number false (4503599627370496 + R % 4503599627370496) (-1074 + ((R / 4503599627370496 - 1 : Nat) : Int)) := by
    unfold Format.read
    rw [sw, bin, inf, low]
    dsimp only
    have a1 : R % 9223372036854775808 = R := Nat.mod_eq_of_lt (by omega)
    have a2 : R / 9223372036854775808 = 0 := Nat.div_eq_of_lt (by omega)
    rw [a1, a2, if_neg (by omega), if_pos (by omega)]
    rfl
  have h3 : double.order R 4607182418800017408 = some .lt := by
    unfold Format.order
    rw [e1, e2]
    unfold Datum.order
    dsimp only
    have hq : R / 4503599627370496 ≤ 1022 := by omega
    have hq1 : 1 ≤ R / 4503599627370496 := by omega
    have hf : R % 4503599627370496 < 4503599627370496 := Nat.mod_lt _ (by omega)
    generalize R % 4503599627370496 = f at hf
    generalize R / 4503599627370496 = e at hq hq1
    have b1 : min (-1074 + ((e - 1 : Nat) : Int)) (-52) = -1074 + ((e - 1 : Nat) : Int) := by omega
    have b2 : (-1074 + ((e - 1 : Nat) : Int) - (-1074 + ((e - 1 : Nat) : Int))).toNat = 0 := by omega
    have b3 : ((-52 : Int) - (-1074 + ((e - 1 : Nat) : Int))).toNat = (1022 - e) + 1 := by omega
    rw [b1, b2, b3]
    unfold signed
    rw [if_neg (by decide), if_neg (by decide), Nat.shiftLeft_zero, Nat.shiftLeft_eq, Nat.pow_succ]
    have b4 : 1 ≤ 2 ^ (1022 - e) := Nat.one_le_two_pow
    generalize 2 ^ (1022 - e) = t at b4
    congr 1
    have b5 : 4503599627370496 * (t * 2) = 9007199254740992 * t := by omega
    rw [b5]
    refine Int.compare_eq_lt.mpr ?_
    omega
  rw [h3]; rfl

theorem cut_le (m l : Nat) (h1 : 2 ^ l ≤ m) (h2 : m < 2 ^ (l + 1)) (hl : 52 ≤ l) (hlog : m.log2 = l) :
    4503599627370496 ≤ Toward.even.cut false m (l - 52) ∧ Toward.even.cut false m (l - 52) ≤ 9007199254740992 ∧ (m = 2 ^ l → Toward.even.cut false m (l - 52) = 4503599627370496) := by
  unfold Toward.cut
  dsimp only
  rw [hlog, Nat.min_eq_left (by omega), Nat.shiftLeft_eq, Nat.one_mul]
  have hp : 2 ^ l = 4503599627370496 * 2 ^ (l - 52) := by
    rw [show (4503599627370496 : Nat) = 2 ^ 52 from by decide, ← Nat.pow_add, show 52 + (l - 52) = l by omega]
  have hg : 0 < 2 ^ (l - 52) := Nat.two_pow_pos _
  rw [Nat.pow_succ, hp] at h2
  rw [hp] at h1 ⊢
  generalize 2 ^ (l - 52) = g at *
  have c1 : 4503599627370496 ≤ m / g := (Nat.le_div_iff_mul_le hg).2 h1
  have c2 : m / g < 9007199254740992 := (Nat.div_lt_iff_lt_mul hg).2 (by omega)
  refine ⟨Nat.le_trans c1 (Nat.le_add_right _ _), ?_, fun he => ?_⟩
  · have : ∀ b : Bool, b.toNat ≤ 1 := fun b => by cases b <;> decide
    refine Nat.le_trans (Nat.add_le_add_left (this _) _) (by omega)
  · have d1 : m / g = 4503599627370496 := by rw [he]; exact Nat.mul_div_cancel _ hg
    have d2 : m % g = 0 := by rw [he]; exact Nat.mul_mod_left _ _
    rw [d1, d2]
    have d3 : decide (g < 2 * 0) = false := decide_eq_false (by omega)
    have d4 : (g == 2 * 0) = false := beq_eq_false_iff_ne.mpr (by omega)
    rw [d3, d4]; rfl

theorem min_part {x K : Nat} (hx : x ≤ 1021) (c1 : 4503599627370496 ≤ K) (c2 : K ≤ 9007199254740992) : 4503599627370496 ≤ min (x * 4503599627370496 + K) 9218868437227405312 ∧ min (x * 4503599627370496 + K) 9218868437227405312 ≤ 4607182418800017408 := by
  have h5 : x * 4503599627370496 ≤ 4598175219545276416 := by omega
  have h6 : x * 4503599627370496 + K ≤ 4607182418800017408 := Nat.le_trans (Nat.add_le_add h5 c2) (by decide)
  have h7 : 4503599627370496 ≤ x * 4503599627370496 + K := Nat.le_trans c1 (Nat.le_add_left _ _)
  generalize x * 4503599627370496 + K = z at h6 h7
  have h8 := Nat.min_le_left z 9218868437227405312
  have h9 : (4503599627370496 : Nat) ≤ 9218868437227405312 := by decide
  have h10 := Nat.le_min.2 ⟨h7, h9⟩
  generalize min z 9218868437227405312 = m at h8 h10
  exact ⟨h10, Nat.le_trans h8 h6⟩
theorem rung_one {m D : Nat} (h1 : 2 ^ 54 ≤ m) (h2 : m ≤ 2 ^ D) (hD : D ≤ 107) : 4503599627370496 ≤ rungOf m (-(D : Int)) ∧ rungOf m (-(D : Int)) ≤ 4607182418800017408 := by
  have hm : m ≠ 0 := by have := Nat.two_pow_pos 54; omega
  have g1 := Nat.log2_self_le hm
  have g2 := Nat.lt_log2_self (n := m)
  have k1 : 54 ≤ m.log2 := (Nat.le_log2 hm).2 h1
  have k2 : m.log2 ≤ D := by
    have := (Nat.log2_lt hm (k := D + 1)).2 (Nat.lt_of_le_of_lt h2 (Nat.pow_lt_pow_right (by omega) (by omega)))
    omega
  obtain ⟨c1, c2, c3⟩ := cut_le m m.log2 g1 g2 (by omega) rfl
  unfold rungOf
  rw [if_neg hm]
  generalize hl : m.log2 = l at *
  have e1 : max (-(D : Int) + l - 52) (-1074) = (l : Int) - D - 52 := by omega
  have e2 : (-(D : Int) - ((l : Int) - D - 52)).toNat = 0 := by omega
  have e3 : ((l : Int) - D - 52 - -(D : Int)).toNat = l - 52 := by omega
  have e4 : ((l : Int) - D - 52 + 1074).toNat = 1022 + l - D := by omega
  rw [e1, e2, e3, e4, Nat.shiftLeft_zero]
  by_cases h : l = D
  · have h3 : m = 2 ^ l := by
      rw [h] at g1 ⊢
      omega
    have c4 := c3 h3
    rw [c4]
    have : 1022 + l - D = 1022 := by omega
    rw [this]
    exact ⟨by decide, by decide⟩
  · generalize Toward.even.cut false m (l - 52) = K at c1 c2
    have h4 : 1022 + l - D ≤ 1021 := by omega
    generalize 1022 + l - D = x at h4
    exact min_part h4 c1 c2
theorem quotient_one {p q : Nat} (h0 : 0 < p) (hpq : p ≤ q) (hq : q < 9007199254740992) :
    ∃ m D : Nat, (double.read (double.write (.number false p 0))).quotient 54 (double.read (double.write (.number false q 0))) = some (.number false m (-(D : Int))) ∧ 2 ^ 54 ≤ m ∧ m ≤ 2 ^ D ∧ D ≤ 107 := by
  rw [read_nat h0 (by omega), read_nat (by omega) hq]
  have lp := log_lt h0 (by omega)
  have lq := log_lt (show 0 < q by omega) hq
  have lpq : p.log2 ≤ q.log2 := by
    refine (Nat.le_log2 (by omega)).2 (Nat.le_trans (Nat.log2_self_le (by omega)) hpq)
  have hlogA : ∀ n : Nat, 0 < n → n.log2 ≤ 52 → 2 ^ 52 ≤ n * 2 ^ (52 - n.log2) ∧ n * 2 ^ (52 - n.log2) < 2 ^ 53 := fun n hn hl => by
    constructor
    · have h7 : 2 ^ n.log2 * 2 ^ (52 - n.log2) ≤ n * 2 ^ (52 - n.log2) := Nat.mul_le_mul_right _ (Nat.log2_self_le (by omega))
      rw [← Nat.pow_add, show n.log2 + (52 - n.log2) = 52 by omega] at h7
      exact h7
    · have h7 : n * 2 ^ (52 - n.log2) < 2 ^ (n.log2 + 1) * 2 ^ (52 - n.log2) := Nat.mul_lt_mul_of_pos_right Nat.lt_log2_self (Nat.two_pow_pos _)
      rw [← Nat.pow_add, show n.log2 + 1 + (52 - n.log2) = 53 by omega] at h7
      exact h7
  obtain ⟨a1, a2⟩ := hlogA p h0 lp
  obtain ⟨b1, b2⟩ := hlogA q (by omega) lq
  -- A ≤ B * 2 ^ (Lq - Lp)
  have hAB : p * 2 ^ (52 - p.log2) ≤ q * 2 ^ (52 - q.log2) * 2 ^ (q.log2 - p.log2) := by
    rw [Nat.mul_assoc, ← Nat.pow_add, show 52 - q.log2 + (q.log2 - p.log2) = 52 - p.log2 by omega]
    exact Nat.mul_le_mul_right _ hpq
  generalize p.log2 = Lp at *
  generalize q.log2 = Lq at *
  generalize p * 2 ^ (52 - Lp) = A at *
  generalize q * 2 ^ (52 - Lq) = B at *
  have lA : A.log2 = 52 := by
    have c1 := (Nat.le_log2 (show A ≠ 0 by have := Nat.two_pow_pos 52; omega)).2 a1
    have c2 := (Nat.log2_lt (show A ≠ 0 by have := Nat.two_pow_pos 52; omega)).2 a2
    omega
  have lB : B.log2 = 52 := by
    have c1 := (Nat.le_log2 (show B ≠ 0 by have := Nat.two_pow_pos 52; omega)).2 b1
    have c2 := (Nat.log2_lt (show B ≠ 0 by have := Nat.two_pow_pos 52; omega)).2 b2
    omega
  have hB : 0 < B := by have := Nat.two_pow_pos 52; omega
  unfold Datum.quotient
  dsimp only
  rw [if_neg (by omega), lA, lB, Nat.shiftLeft_eq]
  refine ⟨2 * (A * 2 ^ (54 + 52 - 52) / B) + (A * 2 ^ (54 + 52 - 52) % B != 0).toNat, Lq - Lp + 55, ?_, ?_, ?_, by omega⟩
  · rw [show ((Lp : Int) - 52 - ((Lq : Int) - 52) - ((54 + 52 - 52 : Nat) : Int) - 1) = -((Lq - Lp + 55 : Nat) : Int) by omega]
    rfl
  · have : 2 ^ 53 ≤ A * 2 ^ (54 + 52 - 52) / B := by
      refine (Nat.le_div_iff_mul_le hB).2 ?_
      have c1 : 2 ^ 53 * B ≤ 2 ^ 53 * 2 ^ 53 := Nat.mul_le_mul_left _ (by omega)
      have c2 : 2 ^ 52 * 2 ^ (54 + 52 - 52) ≤ A * 2 ^ (54 + 52 - 52) := Nat.mul_le_mul_right _ a1
      have c3 : (2 : Nat) ^ 53 * 2 ^ 53 ≤ 2 ^ 52 * 2 ^ (54 + 52 - 52) := by decide
      exact Nat.le_trans c1 (Nat.le_trans c3 c2)
    have c4 : (2 : Nat) ^ 54 = 2 * 2 ^ 53 := by decide
    rw [c4]
    exact Nat.le_trans (Nat.mul_le_mul_left 2 this) (Nat.le_add_right _ _)
  · have hX : A * 2 ^ (54 + 52 - 52) ≤ B * 2 ^ (Lq - Lp + 54) := by
      rw [show 54 + 52 - 52 = 54 from rfl, Nat.pow_add, ← Nat.mul_assoc]
      exact Nat.mul_le_mul_right _ hAB
    have hE : 2 ^ (Lq - Lp + 55) = 2 * 2 ^ (Lq - Lp + 54) := by rw [show Lq - Lp + 55 = (Lq - Lp + 54) + 1 from rfl, Nat.pow_succ, Nat.mul_comm]
    rw [hE]
    generalize A * 2 ^ (54 + 52 - 52) = X at hX
    generalize 2 ^ (Lq - Lp + 54) = T at hX
    have hd : X / B * B + X % B = X := by rw [Nat.mul_comm]; exact Nat.div_add_mod X B
    have hle : X / B ≤ T := by
      refine Nat.le_of_mul_le_mul_right (c := B) ?_ hB
      rw [Nat.mul_comm T B]
      omega
    by_cases hT : X / B = T
    · have h0 : X % B = 0 := by
        rw [hT, Nat.mul_comm T B] at hd
        omega
      rw [h0, hT]
      show 2 * T + 0 ≤ 2 * T
      omega
    · have : ∀ b : Bool, b.toNat ≤ 1 := fun b => by cases b <;> decide
      refine Nat.le_trans (Nat.add_le_add_left (this _) _) (by omega)
theorem quo_one {p q r : Nat} (h0 : 0 < p) (hpq : p ≤ q) (hq : q < 9007199254740992) (h : floatBits .quo .f64 (floatOfInt .f64 (p : Int)) (floatOfInt .f64 (q : Int)) = some r) :
    (FloatKind.f64.format.order r 4607182418800017408 == some .lt || FloatKind.f64.format.order r 4607182418800017408 == some .eq) = true := by
  obtain ⟨m, D, e, h1, h2, h3⟩ := quotient_one h0 hpq hq
  have f : ∀ n : Nat, floatOfInt .f64 (n : Int) = double.write (.number false n 0) := fun n => by
    unfold floatOfInt FloatKind.nearest FloatKind.encode
    rw [show decide ((n : Int) < 0) = false from decide_eq_false (by omega), Int.natAbs_natCast]; rfl
  rw [f, f] at h
  have h' : double.div (double.write (.number false p 0)) (double.write (.number false q 0)) = some r := h
  unfold Format.div at h'
  rw [show double.fractionBits + 2 = 54 from rfl, e] at h'
  have h5 : rungOf m (-(D : Int)) = r := by
    rw [← nearest_rung]
    exact Option.some.inj h'
  obtain ⟨g1, g2⟩ := rung_one h1 h2 h3
  rw [h5] at g1 g2
  exact rung_below g1 g2
end Go.Proofs.Ytbgabijjnbmghaa.F
/- Plain law: PlanFull answers true: all that its walk asks is there. -/
namespace Go.Proofs.Ytbgabijjnbmghaa.P
open Go.RowKit Go.Proofs.Ytbgabijjnbmghaa Go.Proofs.YtbgabijjnbmghaaW.PrintWords Go.Proofs.YtbgabijjnbmghaaW.PrintLast Go.Proofs.YtbgabijjnbmghaaW.PrintMore
set_option linter.unusedVariables false
set_option linter.unusedSimpArgs false

theorem full_first {n L m t : Nat} {fan : Int} (h1 : 2 ≤ fan) (h2 : fan ≤ 64) (hL : L = m + 1) (hL2 : L ≤ 65536) (hn : n = t + m * (fan.toNat - 1)) (hn2 : n ≤ 65536) : (t : Int) = wrap64 ((n : Int) + L - 1 - wrap64 (fan * ((L : Int) - 1))) := by
  obtain ⟨f, rfl⟩ : ∃ f : Nat, fan = ((f + 1 : Nat) : Int) := ⟨fan.toNat - 1, by omega⟩
  rw [Int.toNat_natCast, Nat.add_sub_cancel] at hn
  have e1 : ((f + 1 : Nat) : Int) * ((L : Int) - 1) = ((m * f + m : Nat) : Int) := by
    rw [show (L : Int) - 1 = ((m : Nat) : Int) by omega, ← Int.natCast_mul, Nat.add_mul, Nat.one_mul, Nat.mul_comm f m]
  rw [e1]
  generalize m * f = q at *
  have e2 : wrap64 ((q + m : Nat) : Int) = ((q + m : Nat) : Int) := w64 _ (by omega) (by omega)
  rw [e2, w64 _ (by omega) (by omega)]
  omega
theorem full_true (A0 : Option Addr) (c0 : Nat) (l0 : List Int) (a1 : Int) (w : World) (hr0 : Kd.C (Kd.int .i64) w A0 l0.length l0) (hc0 : l0.length ≤ c0) :
    Calls Try.prog 7 #[.slice A0 l0.length c0, .int .i64 a1] w fun e w' => e = .returned (.bool true) ∧ Below w.heap.size w w' := by
  obtain ⟨K1, e1⟩ := ref_given_ev l0 a1
  by_cases hg : givenV l0 a1 = 0
  case neg => exact full_bad K1 A0 c0 l0 a1 w hr0 hc0 _ (e1 K1 (Nat.le_refl _)) hg
  rw [hg] at e1
  by_cases h1 : 2048 < l0.length
  · exact full_far K1 A0 c0 l0 a1 w hr0 hc0 (e1 K1 (Nat.le_refl _)) h1
  by_cases h2 : l0.length < 2
  · exact full_few K1 A0 c0 l0 a1 w hr0 hc0 (e1 K1 (Nat.le_refl _)) h2
  obtain ⟨K2, e2⟩ := make_ev hg
  have hck := gSteps_check hg
  obtain ⟨p1, p2, p3, p4, p5, p6, p7⟩ := plan_sizes hck
  obtain ⟨_, hp⟩ := checkV_zero hck
  have hfew := hp.few
  have hlen := gSteps_length (l := l0) (fan := a1.toNat) (by omega) (by omega)
  have hfirst := gSteps_lens (l := l0) (fan := a1.toNat) (by omega) (by omega) 0 (by omega)
  rw [if_pos rfl] at hfirst
  have hr : (rd_T51 (gSteps l0 a1.toNat) 0).f0.length = takeOf l0.length a1.toNat := by
    rw [show rd_T51 (gSteps l0 a1.toNat) 0 = (gSteps l0 a1.toNat)[0] from rdT_getElem (show 0 < (gSteps l0 a1.toNat).length by omega)]; exact hfirst
  clear hfirst
  obtain ⟨t1, t2, t3, t4⟩ := take_more (n := l0.length) (fan := a1.toNat) (by omega) (by omega)
  generalize gSteps l0 a1.toNat = st at *
  have hT : (flat st).length ≤ 1000000000 := by omega
  have hm : a1 * (st.length : Int) = ((a1.toNat * st.length : Nat) : Int) := by
    rw [Int.natCast_mul, Int.toNat_of_nonneg (by omega)]
  have hb : a1.toNat * st.length ≤ 64 * 65536 := Nat.mul_le_mul (by omega) p4
  have hb2 : 1 * 1 ≤ a1.toNat * st.length := Nat.mul_le_mul (by omega) p3
  have hw : wrap64 (a1 * (st.length : Int)) = ((a1.toNat * st.length : Nat) : Int) := by rw [hm, w64 _ (by omega) (by omega)]
  obtain ⟨r, q1, q2⟩ := F.quo_nat (p := (flat st).length) (q := a1.toNat * st.length) (by omega) (by omega) (by omega)
  have q3 := F.quo_one (p := (flat st).length) (q := a1.toNat * st.length) (by omega) p6 (by omega) q1
  have e3 : Ev (fun k => plan_Load.f k l0 a1 st) (r, 0) := by
    unfold plan_Load.f
    refine Ev.bind (check_ev l0 a1 st) ?_
    simp only [if_pos hck]
    exact load_l0 st a1 r hT p4 (by rw [hw]; exact q1) st.length 0 rfl (Nat.zero_le _)
  obtain ⟨K3, e3⟩ := e3
  obtain ⟨k, g1, g2, g3⟩ : ∃ k, K1 ≤ k ∧ K2 ≤ k ∧ K3 ≤ k := ⟨K1 + K2 + K3, by omega, by omega, by omega⟩
  have hP : (l0.length : Int) + (st.length : Int) - 1 = ((flat st).length : Int) := by omega
  refine full_main k A0 c0 l0 a1 st r w hr0 hc0 (by omega) (by omega) p3 (by omega) (e1 k g1) (e2 k g2) (e3 k g3) _ _ hP hw q1 q2 q3 ?_
  rw [hr, ← hP]
  exact full_first p1 p2 hlen p4 t1 p7
end Go.Proofs.Ytbgabijjnbmghaa.P
/- PlanFull answers true, whatever comes in: from the printed row of PlanFull, turned by hand. -/
namespace Go.Proofs.Ytbgabijjnbmghaa.planFull
open Go.ChangeShapes Go.WideShapes Go.ChangeAt Go.RowKit Go.Proofs.YtbgabijjnbmghaaW.PrintWords
open Go.ChangeMaps (open_string shut_string)
set_option linter.unusedVariables false
theorem own : ownKnob Try.prog.godebug = none := by kernel_rfl
theorem laidOut : laidOutB Try.prog = true := by kernel_rfl
def IsRow (k : IntKind) (w : World) (a : Option Addr) (len cap : Nat) (zs : List Int) : Prop :=
  (a = none ∧ len = 0 ∧ cap = 0 ∧ zs = []) ∨
  ∃ x, a = some x ∧ len ≤ cap ∧ cap ≤ maxLen ∧ zs.length = cap ∧ (∀ i, i < zs.length → w.cell? (x.add i) = some (.int k (zs.getD i 0))) ∧ ∀ n ∈ zs, (Lit.int k n).wf = true
set_option maxRecDepth 100000 in
theorem lifted (os : Os) (started : os.Started) (H : Type) (enc : TypeId × Value → H) :
    ReturnsInHanded {} Try.checked os 7 .any (Rows.planFullSpec.pre6 enc Try.prog Try.f7 Rows.planFullRow.domain false) (Rows.planFullSpec.post enc Try.prog Try.f7 false true false false) := by
  refine returnsInHanded_of_change_sized (C := Try.checked) own started (by kernel_rfl) Try.func7
    (ChangeSpec.witness6 (enc := enc) (C := Try.checked) false ⟨#[], #[.slice none 0 0, .int .i64 0], []⟩ 8 (by kernel_rfl) (by kernel_rfl) (by kernel_rfl) (by kernel_rfl)) ?_
  intro W base args ds gs before hval0 hW hcnd hsz0 _
  have hsz : (DataW.weightsEach Try.prog (Try.f7.params.toList ++ Rows.planFullSpec.plain.varTypes Try.prog) (ds ++ gs)).all (· ≤ reachBytes) = true := hsz0
  have hval : ∀ (j : Nat) t v, Try.f7.params[j]? = some t → args[j]? = some v → Value.okWide Try.prog W .any base t v := hval0
  have hW' := hW
  obtain ⟨p, q, hA0, hV, rfl, hfz, hnd⟩ := hW
  have hA : DataW.TrodAll enc Try.prog W 0 (fun _ => true) true Try.f7.params.toList args.toList ds p := hA0
  rw [Try.params7] at hA hval hsz
  obtain ⟨v0, vs0, d0, ds0, p0, q0, hargs, rfl, rfl, h0, r0⟩ := trodAll_cons hA
  obtain ⟨v1, vs1, d1, ds1, p1, q1, rfl, rfl, rfl, h1, r1⟩ := trodAll_cons r0
  obtain ⟨rfl, rfl, rfl⟩ := trodAll_nil r1
  obtain rfl : args = #[v0, v1] := by cases args; simp_all
  obtain ⟨rfl, rfl⟩ := trodVars_none hV
  obtain ⟨a0, len0, cap0, rfl⟩ := okWide_slice Try.underlying22 (hval 0 22 v0 rfl rfl)
  have k0 := h0
  have lt0 : ∀ x ∈ p0, x.block < W.heap.size := by obtain ⟨m, hm⟩ := k0; exact DataW.trod_lt m _ _ _ hm
  obtain ⟨z0, w0⟩ : ∃ zs, IsRow .i64 W a0 len0 cap0 zs := by
    obtain ⟨fuel, hf⟩ := h0
    rcases open_ints Try.underlying22 Try.underlying3 (by kernel_rfl) hf with ⟨hcs, _⟩ | ⟨x, l, c, zs, hcs, _, hl, hm, hz, _, hcell, hwz⟩
    · simp [Value.cells] at hcs
      obtain ⟨rfl, rfl, rfl⟩ := hcs
      exact ⟨[], .inl ⟨rfl, rfl, rfl, rfl⟩⟩
    · simp [Value.cells] at hcs
      obtain ⟨rfl, rfl, rfl⟩ := hcs
      exact ⟨zs, .inr ⟨_, rfl, hl, hm, by simpa using hz, hcell, hwz⟩⟩
  have y0 : len0 * 8 ≤ 140737488351232 := Go.Proofs.YtbgabijjnbmghaaW.PrintWords.sized_ints hsz (j := 0) (t := 22) rfl rfl Try.underlying22 Try.underlying3 (by kernel_rfl) (by kernel_rfl) h0
  obtain ⟨a1, rfl, rfl, rfl, w1⟩ := open_int Try.underlying3 (hval 1 3 v1 rfl rfl) h1
  clear hA0 hval0 hsz0 hsz
  obtain ⟨l0, rfl, hr0, hm0, hw0, hc0⟩ := ReadsInt.ofRowC w0
  refine (P.full_true _ _ l0 a1 W (Kd.C_of_reads (d := (0 : Int)) (h1 := fun _ => rfl) hr0) hc0).mono fun e W' ⟨he, bel⟩ => ?_
  subst he
  exact ⟨_, rfl, _, _, _, [], _, [], hW', trodAll_mk1 (shut_bool Try.underlying4 _), (trodAll_cons_mk (Below.trod laidOut (by kernel_rfl) (of_decide_eq_true (by kernel_rfl)) k0 bel lt0) (trodAll_cons_mk (shut_int Try.underlying3 w1) trodAll_mk0)), rfl, bel.frame _, fun h => by cases h⟩
theorem over : Rows.planFullRow.holds Try.pinned (OpenSpec.ofChange Rows.planFullSpec) :=
  OpenClaim.holds_of_wide 7 Try.f7 rfl rfl rfl rfl rfl rfl rfl ⟨rfl, rfl, rfl, rfl, rfl⟩ rfl rfl rfl rfl rfl (by kernel_rfl) Try.func7 (by kernel_rfl)
    (of_decide_eq_true (by kernel_rfl)) (by unfold Func.isWrapper; first | (rw [if_pos (by decide +kernel)]; kernel_rfl) | (rw [if_neg (by decide +kernel)]; exact ⟨rfl, rfl⟩))
    (fun os started H enc _ => lifted os started H enc)
theorem proved : Rows.PlanFullSaid := over
#print axioms proved
end Go.Proofs.Ytbgabijjnbmghaa.planFull
namespace Go.Proofs.Ytbgabijjnbmghaa
/-- The row, under a short name, for the claim. -/
theorem planFull_holds : Rows.PlanFullSaid := planFull.proved
end Go.Proofs.Ytbgabijjnbmghaa
