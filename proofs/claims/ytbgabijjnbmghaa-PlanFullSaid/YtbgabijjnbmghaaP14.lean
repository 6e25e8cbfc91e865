-- Written by my own program wip/Plan/myprint.py over the kit's print.py (hooks: functions given by hand). Not trusted: Lean checks it.
import Derived.Test.YtbgabijjnbmghaaP0
namespace Go.Proofs.Ytbgabijjnbmghaa.P
open Go.RowKit Go.Proofs.YtbgabijjnbmghaaW.PrintWords Go.Proofs.YtbgabijjnbmghaaW.PrintLast Go.Proofs.YtbgabijjnbmghaaW.PrintMore
attribute [local go_sem] max2_int min2_int max_two min_two max_three min_three max_four min_four   -- for this text's walks alone
set_option linter.unusedVariables false
set_option linter.unusedSimpArgs false

/-! ### millref10_up: function 35 -/
mutual
def millref10_up.l0 : Nat → Int → List (S51) → Int → Int → Int → Option (Int)
  | 0, _, _, _, _, _ => none
  | k + 1, x0, x1, x2, x7, x8 => if x8 < (x1.length : Int) then (millref10_up.l1 k x0 x1 x2 x7 x8 0) else (some x7)
def millref10_up.l1 : Nat → Int → List (S51) → Int → Int → Int → Int → Option (Int)
  | 0, _, _, _, _, _, _ => none
  | k + 1, x0, x1, x2, x7, x8, x9 => if 0 ≤ x8 then (if x8 < (x1.length : Int) then (if x9 < (((rd_T51 x1 x8).f0).length : Int) then (if 0 ≤ x9 then (if (rd ((rd_T51 x1 x8).f0) x9) = x2 then (millref10_up.l0 k x0 x1 (wrap64 (x0 + x8)) (wrap64 (x7 + 1)) (wrap64 (x8 + 1))) else (millref10_up.l1 k x0 x1 x2 x7 x8 (wrap64 (x9 + 1)))) else (none)) else (millref10_up.l0 k x0 x1 x2 x7 (wrap64 (x8 + 1)))) else (none)) else (none)
end
def millref10_up.f (k : Nat) (a0 : Int) (l1 : List (S51)) (a2 : Int) : Option (Int) := millref10_up.l0 k a0 l1 a2 0 0
theorem millref10_up.mono_l : ∀ k, (∀ y0 y1 y2 y3 y4, LeO (millref10_up.l0 k y0 y1 y2 y3 y4) (millref10_up.l0 (k + 1) y0 y1 y2 y3 y4)) ∧ (∀ y0 y1 y2 y3 y4 y5, LeO (millref10_up.l1 k y0 y1 y2 y3 y4 y5) (millref10_up.l1 (k + 1) y0 y1 y2 y3 y4 y5))
  | 0 => ⟨fun _ _ _ _ _ r h => by simp [millref10_up.l0] at h, fun _ _ _ _ _ _ r h => by simp [millref10_up.l1] at h⟩
  | k + 1 => by
    obtain ⟨ih0, ih1⟩ := millref10_up.mono_l k
    refine ⟨?_, ?_⟩
    · intro y0 y1 y2 y3 y4
      unfold millref10_up.l0
      repeat' first
      | (with_reducible exact ih0 _ _ _ _ _)
      | (with_reducible exact ih1 _ _ _ _ _ _)
      | (with_reducible exact LeO.refl _)
      | (with_reducible exact LeO.none _)
      | (with_reducible refine LeO.ite ?_ ?_)
      | (with_reducible refine LeO.bind ?_ (fun _ => ?_))
      | exact ih0 _ _ _ _ _
      | exact ih1 _ _ _ _ _ _
      | exact LeO.none _
      | refine LeO.ite ?_ ?_
      | refine LeO.bind ?_ (fun _ => ?_)
    · intro y0 y1 y2 y3 y4 y5
      unfold millref10_up.l1
      repeat' first
      | (with_reducible exact ih0 _ _ _ _ _)
      | (with_reducible exact ih1 _ _ _ _ _ _)
      | (with_reducible exact LeO.refl _)
      | (with_reducible exact LeO.none _)
      | (with_reducible refine LeO.ite ?_ ?_)
      | (with_reducible refine LeO.bind ?_ (fun _ => ?_))
      | exact ih0 _ _ _ _ _
      | exact ih1 _ _ _ _ _ _
      | exact LeO.none _
      | refine LeO.ite ?_ ?_
      | refine LeO.bind ?_ (fun _ => ?_)
theorem millref10_up.mono : ∀ a0 a1 a2 k, LeO (millref10_up.f k a0 a1 a2) (millref10_up.f (k + 1) a0 a1 a2) := by
  intro a0 a1 a2 k
  obtain ⟨ih0, ih1⟩ := millref10_up.mono_l k
  unfold millref10_up.f
  repeat' first
      | (with_reducible exact ih0 _ _ _ _ _)
      | (with_reducible exact ih1 _ _ _ _ _ _)
      | (with_reducible exact LeO.refl _)
      | (with_reducible exact LeO.none _)
      | (with_reducible refine LeO.ite ?_ ?_)
      | (with_reducible refine LeO.bind ?_ (fun _ => ?_))
      | exact ih0 _ _ _ _ _
      | exact ih1 _ _ _ _ _ _
      | exact LeO.none _
      | refine LeO.ite ?_ ?_
      | refine LeO.bind ?_ (fun _ => ?_)
set_option maxHeartbeats 8000000 in
set_option maxRecDepth 100000 in
theorem millref10_up.calls (k : Nat) (a0 : Int) (A1 : Option Addr) (c1 : Nat) (l1 : List (S51)) (a2 : Int) (r : Int) (w : World) (hr1 : Kd.C k51 w A1 l1.length l1) (hc1 : l1.length ≤ c1) (h : millref10_up.f k a0 l1 a2 = some r) :
    Calls Try.prog 35 #[.int .i64 a0, .slice A1 l1.length c1, .int .i64 a2] w fun e w' => e = .returned (.int .i64 r) ∧ Drawn0 w w' := by
  have HR1 := Aside0.mk hr1
  have HC1 := Aside0.mk hc1
  clear hr1 hc1
  have H : (millref10_up.l0 k a0 l1 a2 0 0) = some r := h
  clear h
  have H' := Aside0.mk H
  clear H
  go_enter Try.func35, Try.ntmps35
  go_wp2
  go_loopg [2, 7, 8] k (fun kq v2 v7 v8 w' => ∃ (x2_1 : Int) (x7_1 : Int) (x8_1 : Int), v2 = .int .i64 x2_1 ∧ v7 = .int .i64 x7_1 ∧ v8 = .int .i64 x8_1 ∧ Aside0 (millref10_up.l0 kq a0 l1 x2_1 x7_1 x8_1 = some r) ∧ Aside0 (kq ≤ k) ∧ Drawn0 w w')
  case atStart => exact ⟨(a2), (0), (0), (by first | rfl | (simp; done) | (simp [*]; done)), (by first | rfl | (simp; done) | (simp [*]; done)), (by first | rfl | (simp; done) | (simp [*]; done)), H', ⟨Nat.le_refl _⟩, by repeat (first | exact Drawn0.refl _ | apply Drawn0.step)⟩
  case round =>
    clear H'
    try clear c1
    try clear p2
    try clear c3
    obtain ⟨x2_1, x7_1, x8_1, rfl, rfl, rfl, HA, HK1, ⟨m1, rfl⟩⟩ := hrel
    cases gk with
    | zero => exact absurd HA.out (by simp [millref10_up.l0])
    | succ k1 =>
      have H := HA.out
      clear HA
      simp only [millref10_up.l0] at H
      by_cases c4 : x8_1 < (l1.length : Int)
      · rw [if_pos c4] at H
        have c4b0 : decide (x8_1 < (l1.length : Int)) = true := decide_eq_true c4
        clear c4
        have H' := Aside0.mk H
        clear H
        go_wp2
        go_loopg [2, 7, 9] k1 (fun kq v2 v7 v9 w' => ∃ (x2_2 : Int) (x7_2 : Int) (x9_2 : Int), v2 = .int .i64 x2_2 ∧ v7 = .int .i64 x7_2 ∧ v9 = .int .i64 x9_2 ∧ Aside0 (millref10_up.l1 kq a0 l1 x2_2 x7_2 x8_1 x9_2 = some r) ∧ Aside0 (kq ≤ k1) ∧ Drawn0 w w')
        case atStart => exact ⟨(x2_1), (x7_1), (0), (by first | rfl | (simp; done) | (simp [*]; done)), (by first | rfl | (simp; done) | (simp [*]; done)), (by first | rfl | (simp; done) | (simp [*]; done)), H', ⟨Nat.le_refl _⟩, by repeat (first | exact Drawn0.refl _ | apply Drawn0.step)⟩
        case round =>
          clear H'
          try clear c1
          try clear p2
          try clear c3
          try clear c4
          try clear c4b0
          try clear p2
          obtain ⟨x2_2, x7_2, x9_2, rfl, rfl, rfl, HA, HK2, ⟨m2, rfl⟩⟩ := hrel
          cases gk with
          | zero => exact absurd HA.out (by simp [millref10_up.l1])
          | succ k2 =>
            have H := HA.out
            clear HA
            simp only [millref10_up.l1] at H
            by_cases c5 : 0 ≤ x8_1
            · rw [if_pos c5] at H
              have c5b0 : decide (0 ≤ x8_1) = true := decide_eq_true c5
              clear c5
              by_cases c6 : x8_1 < (l1.length : Int)
              · rw [if_pos c6] at H
                have c6b0 : decide (x8_1 < (l1.length : Int)) = true := decide_eq_true c6
                clear c6
                by_cases c7 : x9_2 < (((rd_T51 l1 x8_1).f0).length : Int)
                · rw [if_pos c7] at H
                  have c7b0 : decide (x9_2 < (((rd_T51 l1 x8_1).f0).length : Int)) = true := decide_eq_true c7
                  clear c7
                  by_cases c8 : 0 ≤ x9_2
                  · rw [if_pos c8] at H
                    have c8b0 : decide (0 ≤ x9_2) = true := decide_eq_true c8
                    clear c8
                    by_cases c9 : (rd ((rd_T51 l1 x8_1).f0) x9_2) = x2_2
                    · rw [if_pos c9] at H
                      have c9b0 : ((rd ((rd_T51 l1 x8_1).f0) x9_2) == x2_2) = true := beq_iff_eq.mpr c9
                      have c9b1 : ((rd ((rd_T51 l1 x8_1).f0) x9_2) != x2_2) = false := bne_eq_false_iff_eq.mpr c9
                      clear c9
                      have H' := Aside0.mk H
                      clear H
                      have p181 : 0 ≤ (x8_1 : Int) := of_decide_eq_true (by first | (with_reducible assumption) | assumption)
                      have q181 : x8_1 < (l1.length : Int) := of_decide_eq_true (by first | (with_reducible assumption) | assumption)
                      obtain ⟨ad181, A181_0, c181_0, e181, hx181_0, hx181_1, hl181_0, hi181_0⟩ := at_T51 HR1.out x8_1 p181 q181
                      cases e181
                      have HR181_0 := Aside0.mk hi181_0
                      have HC181_0 := Aside0.mk hl181_0
                      clear hi181_0 hl181_0
                      replace p181 := eq_true p181
                      replace q181 := eq_true q181
                      have p182 : 0 ≤ (x8_1 : Int) := of_decide_eq_true (by first | (with_reducible assumption) | assumption)
                      have q182 : x8_1 < (l1.length : Int) := of_decide_eq_true (by first | (with_reducible assumption) | assumption)
                      obtain ⟨ad182, A182_0, c182_0, e182, hx182_0, hx182_1, hl182_0, hi182_0⟩ := at_T51 HR1.out x8_1 p182 q182
                      obtain rfl : ad181 = ad182 := (by injection e182)
                      have HR182_0 := Aside0.mk hi182_0
                      have HC182_0 := Aside0.mk hl182_0
                      clear hi182_0 hl182_0
                      replace p182 := eq_true p182
                      replace q182 := eq_true q182
                      have ea_ := Option.some.inj (hx181_0.symm.trans hx182_0)
                      injection ea_ with ea_ en_ ec_
                      subst ea_
                      subst ec_
                      clear en_
                      have p183 : 0 ≤ (x9_2 : Int) := of_decide_eq_true (by first | (with_reducible assumption) | assumption)
                      have q183 : x9_2 < (((rd_T51 l1 x8_1).f0).length : Int) := of_decide_eq_true (by first | (with_reducible assumption) | assumption)
                      obtain ⟨ad183, e183, hx183_0⟩ := Kd.at_int HR182_0.out x9_2 p183 q183
                      cases e183
                      replace p183 := eq_true p183
                      replace q183 := eq_true q183
                      go_wp2
                      go_roundg k2
                      case measure => have := HK1.out; have := HK2.out; omega
                      case rel => exact ⟨(wrap64 (a0 + x8_1)), (wrap64 (x7_2 + 1)), (wrap64 (x8_1 + 1)), (by first | rfl | (simp; done) | (simp [*]; done)), (by first | rfl | (simp; done) | (simp [*]; done)), (by first | rfl | (simp; done) | (simp [*]; done)), H', ⟨by have := HK1.out; have := HK2.out; omega⟩, by repeat (first | exact Drawn0.refl _ | apply Drawn0.step)⟩
                    · rw [if_neg c9] at H
                      have c9b0 : ((rd ((rd_T51 l1 x8_1).f0) x9_2) == x2_2) = false := beq_eq_false_iff_ne.mpr c9
                      have c9b1 : ((rd ((rd_T51 l1 x8_1).f0) x9_2) != x2_2) = true := bne_iff_ne.mpr c9
                      have H' := Aside0.mk H
                      clear H
                      have p181 : 0 ≤ (x8_1 : Int) := of_decide_eq_true (by first | (with_reducible assumption) | assumption)
                      have q181 : x8_1 < (l1.length : Int) := of_decide_eq_true (by first | (with_reducible assumption) | assumption)
                      obtain ⟨ad181, A181_0, c181_0, e181, hx181_0, hx181_1, hl181_0, hi181_0⟩ := at_T51 HR1.out x8_1 p181 q181
                      cases e181
                      have HR181_0 := Aside0.mk hi181_0
                      have HC181_0 := Aside0.mk hl181_0
                      clear hi181_0 hl181_0
                      replace p181 := eq_true p181
                      replace q181 := eq_true q181
                      have p182 : 0 ≤ (x8_1 : Int) := of_decide_eq_true (by first | (with_reducible assumption) | assumption)
                      have q182 : x8_1 < (l1.length : Int) := of_decide_eq_true (by first | (with_reducible assumption) | assumption)
                      obtain ⟨ad182, A182_0, c182_0, e182, hx182_0, hx182_1, hl182_0, hi182_0⟩ := at_T51 HR1.out x8_1 p182 q182
                      obtain rfl : ad181 = ad182 := (by injection e182)
                      have HR182_0 := Aside0.mk hi182_0
                      have HC182_0 := Aside0.mk hl182_0
                      clear hi182_0 hl182_0
                      replace p182 := eq_true p182
                      replace q182 := eq_true q182
                      have ea_ := Option.some.inj (hx181_0.symm.trans hx182_0)
                      injection ea_ with ea_ en_ ec_
                      subst ea_
                      subst ec_
                      clear en_
                      have p183 : 0 ≤ (x9_2 : Int) := of_decide_eq_true (by first | (with_reducible assumption) | assumption)
                      have q183 : x9_2 < (((rd_T51 l1 x8_1).f0).length : Int) := of_decide_eq_true (by first | (with_reducible assumption) | assumption)
                      obtain ⟨ad183, e183, hx183_0⟩ := Kd.at_int HR182_0.out x9_2 p183 q183
                      cases e183
                      replace p183 := eq_true p183
                      replace q183 := eq_true q183
                      go_wp2
                      go_roundg k2
                      case measure => have := HK1.out; have := HK2.out; omega
                      case rel => exact ⟨(x2_2), (x7_2), (wrap64 (x9_2 + 1)), (by first | rfl | (simp; done) | (simp [*]; done)), (by first | rfl | (simp; done) | (simp [*]; done)), (by first | rfl | (simp; done) | (simp [*]; done)), H', ⟨by have := HK1.out; have := HK2.out; omega⟩, by repeat (first | exact Drawn0.refl _ | apply Drawn0.step)⟩
                  · rw [if_neg c8] at H
                    exact absurd H (by simp)
                · rw [if_neg c7] at H
                  have c7b0 : decide (x9_2 < (((rd_T51 l1 x8_1).f0).length : Int)) = false := decide_eq_false c7
                  clear c7
                  have H' := Aside0.mk H
                  clear H
                  have p181 : 0 ≤ (x8_1 : Int) := of_decide_eq_true (by first | (with_reducible assumption) | assumption)
                  have q181 : x8_1 < (l1.length : Int) := of_decide_eq_true (by first | (with_reducible assumption) | assumption)
                  obtain ⟨ad181, A181_0, c181_0, e181, hx181_0, hx181_1, hl181_0, hi181_0⟩ := at_T51 HR1.out x8_1 p181 q181
                  cases e181
                  have HR181_0 := Aside0.mk hi181_0
                  have HC181_0 := Aside0.mk hl181_0
                  clear hi181_0 hl181_0
                  replace p181 := eq_true p181
                  replace q181 := eq_true q181
                  go_wp2
                  go_roundg k2
                  case measure => have := HK1.out; have := HK2.out; omega
                  case rel => exact ⟨(x2_2), (x7_2), (wrap64 (x8_1 + 1)), (by first | rfl | (simp; done) | (simp [*]; done)), (by first | rfl | (simp; done) | (simp [*]; done)), (by first | rfl | (simp; done) | (simp [*]; done)), H', ⟨by have := HK1.out; have := HK2.out; omega⟩, by repeat (first | exact Drawn0.refl _ | apply Drawn0.step)⟩
              · rw [if_neg c6] at H
                exact absurd H (by simp)
            · rw [if_neg c5] at H
              exact absurd H (by simp)
      · rw [if_neg c4] at H
        have c4b0 : decide (x8_1 < (l1.length : Int)) = false := decide_eq_false c4
        clear c4
        obtain rfl := Option.some.inj H
        go_wp2
        go_ret
        exact ⟨by first | rfl | (simp; done) | (simp [*]; done), by repeat (first | exact Drawn0.refl _ | apply Drawn0.step)⟩

end Go.Proofs.Ytbgabijjnbmghaa.P
