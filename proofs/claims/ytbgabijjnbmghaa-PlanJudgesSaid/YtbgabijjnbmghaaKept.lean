/- kept, with what lies in the spare room: the printed walk of kept (myprint.py), turned by hand where it cuts beyond the length. -/
import Derived.Test.YtbgabijjnbmghaaP0
import Derived.Test.YtbgabijjnbmghaaP9
namespace Go.Proofs.Ytbgabijjnbmghaa.P
open Go.RowKit Go.Proofs.YtbgabijjnbmghaaW.PrintWords Go.Proofs.YtbgabijjnbmghaaW.PrintLast Go.Proofs.YtbgabijjnbmghaaW.PrintMore
attribute [local go_sem] max2_int min2_int max_two min_two max_three min_three max_four min_four   -- for this text's walks alone
set_option linter.unusedVariables false
set_option linter.unusedSimpArgs false

/-! ### milllaw10_keptF: function 18 -/
def milllaw10_keptF.l0 : Nat → Int → Bool → List Int → Int → Option (Bool)
  | 0, _, _, _, _ => none
  | k + 1, x5, x6, x7, x8 => if x8 < 4 then (if 0 ≤ (wrap64 (x5 + x8)) then (if (wrap64 (x5 + x8)) < (x7.length : Int) then (if (rd x7 (wrap64 (x5 + x8))) = (wrap64 (1000 + x8)) then (milllaw10_keptF.l0 k x5 x6 x7 (wrap64 (x8 + 1))) else (some false)) else (none)) else (none)) else (some x6)
def milllaw10_keptF.f (k : Nat) (l0 : List Int) (F : List Int) (l1 : List Int) : Option (Bool) := (milllaw10_sameInts.f k l0 l1).bind fun t159 => (if 0 ≤ (wrap64 ((l1.length : Int) + 4)) then (if (wrap64 ((l1.length : Int) + 4)) ≤ (F.length : Int) then (milllaw10_keptF.l0 k (l1.length : Int) t159 (F.take ((wrap64 ((l1.length : Int) + 4)) : Int).toNat) 0) else (none)) else (none))
theorem milllaw10_keptF.mono_l : ∀ k, (∀ y0 y1 y2 y3, LeO (milllaw10_keptF.l0 k y0 y1 y2 y3) (milllaw10_keptF.l0 (k + 1) y0 y1 y2 y3))
  | 0 => fun _ _ _ _ r h => by simp [milllaw10_keptF.l0] at h
  | k + 1 => by
    have ih0 := milllaw10_keptF.mono_l k
    · intro y0 y1 y2 y3
      unfold milllaw10_keptF.l0
      repeat' first
      | (with_reducible exact ih0 _ _ _ _)
      | (with_reducible exact milllaw10_sameInts.mono _ _ _)
      | (with_reducible exact LeO.refl _)
      | (with_reducible exact LeO.none _)
      | (with_reducible refine LeO.ite ?_ ?_)
      | (with_reducible refine LeO.bind ?_ (fun _ => ?_))
      | exact ih0 _ _ _ _
      | exact milllaw10_sameInts.mono _ _ _
      | exact LeO.none _
      | refine LeO.ite ?_ ?_
      | refine LeO.bind ?_ (fun _ => ?_)
theorem milllaw10_keptF.mono : ∀ a0 F a1 k, LeO (milllaw10_keptF.f k a0 F a1) (milllaw10_keptF.f (k + 1) a0 F a1) := by
  intro a0 F a1 k
  have ih0 := milllaw10_keptF.mono_l k
  unfold milllaw10_keptF.f
  repeat' first
      | (with_reducible exact ih0 _ _ _ _)
      | (with_reducible exact milllaw10_sameInts.mono _ _ _)
      | (with_reducible exact LeO.refl _)
      | (with_reducible exact LeO.none _)
      | (with_reducible refine LeO.ite ?_ ?_)
      | (with_reducible refine LeO.bind ?_ (fun _ => ?_))
      | exact ih0 _ _ _ _
      | exact milllaw10_sameInts.mono _ _ _
      | exact LeO.none _
      | refine LeO.ite ?_ ?_
      | refine LeO.bind ?_ (fun _ => ?_)
/-- a slice is cut to a length beyond its own, within its room -/
theorem take_over {P : Program} {α : Type} (enc : α → Value) (d : α) (t e : TypeId) (kl : IntKind) {i : TypeInfo} (ht : P.underlying t = some (.slice e)) (hi : P.info? e = some i) (hsz : i.size = 1) (A : Option Addr) (c n : Nat) (xs ys : List α) (j : Int) (hys : ys = xs.take j.toNat) (h0 : 0 ≤ j) (hm : j ≤ xs.length) (hc : xs.length ≤ c) :
    (∀ W : World, (Instr.slice t (.slice A n c) none (some (.int kl j)) none).run P W = .ok (.slice A ys.length c) W) ∧
      (∀ w : World, ReadsOf enc d w A xs.length xs → ReadsOf enc d w A ys.length ys) ∧ ys.length ≤ c := by
  subst hys
  have hl : (xs.take j.toNat).length = j.toNat := by rw [List.length_take]; omega
  refine ⟨fun W => ?_, fun w h => by rw [hl]; exact h.take_ j.toNat (by omega), by rw [hl]; omega⟩
  have hel : P.elem t = e := by simp [Program.elem, ht]
  have hu : P.underlying t = some (.slice (P.elem t)) := by rw [hel]; exact ht
  have ha : (A.map fun x => x.add 0) = A := by cases A <;> simp [Addr.add]
  rw [run_slice_h W t A n c hu kl j h0 (by omega), hel, hl]
  simp [sizeOf, typeInfo, hi, hsz, sliced, Result.andThen, ha]
set_option maxHeartbeats 8000000 in
set_option maxRecDepth 100000 in
theorem milllaw10_keptF.calls (k : Nat) (A0 : Option Addr) (c0 : Nat) (l0 : List Int) (A1 : Option Addr) (c1 : Nat) (l1 : List Int) (r : Bool) (w : World) (hr0 : Kd.C (Kd.int .i64) w A0 l0.length l0) (hc0 : l0.length ≤ c0) (F : List Int) (hrF : Kd.C (Kd.int .i64) w A0 F.length F) (hcF : F.length ≤ c0) (hr1 : Kd.C (Kd.int .i64) w A1 l1.length l1) (hc1 : l1.length ≤ c1) (h : milllaw10_keptF.f k l0 F l1 = some r) :
    Calls Try.prog 18 #[.slice A0 l0.length c0, .slice A1 l1.length c1] w fun e w' => e = .returned (.bool r) ∧ Drawn0 w w' := by
  have HR0 := Aside0.mk hr0
  have HC0 := Aside0.mk hc0
  clear hr0 hc0
  have HRF := Aside0.mk hrF
  have HCF := Aside0.mk hcF
  clear hrF hcF
  have HR1 := Aside0.mk hr1
  have HC1 := Aside0.mk hc1
  clear hr1 hc1
  have H : ((milllaw10_sameInts.f k l0 l1).bind fun t159 => (if 0 ≤ (wrap64 ((l1.length : Int) + 4)) then (if (wrap64 ((l1.length : Int) + 4)) ≤ (F.length : Int) then (milllaw10_keptF.l0 k (l1.length : Int) t159 (F.take ((wrap64 ((l1.length : Int) + 4)) : Int).toNat) 0) else (none)) else (none))) = some r := h
  clear h
  replace H := Option.bind_eq_some_iff.mp H
  obtain ⟨t159, A30, H⟩ := H
  replace H : (if 0 ≤ (wrap64 ((l1.length : Int) + 4)) then (if (wrap64 ((l1.length : Int) + 4)) ≤ (F.length : Int) then (milllaw10_keptF.l0 k (l1.length : Int) t159 (F.take ((wrap64 ((l1.length : Int) + 4)) : Int).toNat) 0) else (none)) else (none)) = some r := H
  have A3 := Aside0.mk A30
  clear A30
  obtain ⟨ji4, hji4⟩ : ∃ j_ : Int, (wrap64 ((l1.length : Int) + 4)) = j_ := ⟨_, rfl⟩
  replace H : (if 0 ≤ (ji4) then (if (ji4) ≤ (F.length : Int) then (milllaw10_keptF.l0 k (l1.length : Int) t159 (F.take ((ji4) : Int).toNat) 0) else (none)) else (none)) = some r := by first | (rw [hji4] at H; exact H) | (simp only [hji4] at H ⊢; exact H)
  (try rw [hji4] at A3)
  have hji4w : (IntKind.i64.wrap ((l1.length : Int) + 4)) = ji4 := (i64_w _).trans hji4
  by_cases c5 : 0 ≤ (ji4)
  · rw [if_pos c5] at H
    have c5b0 := eq_true c5
    have c5b1 : decide (0 ≤ (ji4)) = true := decide_eq_true c5
    clear c5
    by_cases c6 : (ji4) ≤ (F.length : Int)
    · rw [if_pos c6] at H
      have c6b0 := eq_true c6
      have c6b1 : decide ((ji4) ≤ (F.length : Int)) = true := decide_eq_true c6
      clear c6
      obtain ⟨y7, hy7⟩ : ∃ y_ : List Int, y_ = F.take ((ji4) : Int).toNat := ⟨_, rfl⟩
      rw [← hy7] at H
      have Ny7 := Aside0.mk hy7
      clear hy7
      have H' := Aside0.mk H
      clear H
      go_enter Try.func18, Try.ntmps18
      go_wp2_with (first | ((with_reducible refine gate_callee (f := 34) rfl ?_); refine goesL_ (some 13) rfl rfl Try.func34 (by kernel_rfl) rfl #[.slice A0 l0.length c0, .slice A1 l1.length c1] rfl (by (try simp only [List.map_toArray, List.map_cons, List.map_nil]); first | done | rfl | (simp only [List.length_drop, List.length_take]; rfl)) ?_; (with_reducible refine (milllaw10_sameInts.calls k _ _ l0 _ _ l1 t159 _ ?side1 ?side2 ?side3 ?side4 A3.out).mono ?_); (case side1 => repeat (first | exact HR0.out | (with_reducible refine Kd.C_alloc ?_ _) | (with_reducible refine Kd.C_drewN ?_ _) | (with_reducible refine Kd.C_drew ?_))); (case side2 => exact HC0.out); (case side3 => repeat (first | exact HR1.out | (with_reducible refine Kd.C_alloc ?_ _) | (with_reducible refine Kd.C_drewN ?_ _) | (with_reducible refine Kd.C_drew ?_))); (case side4 => exact HC1.out); rintro e w' ⟨rfl, ⟨nd, rfl⟩⟩; refine ⟨_, rfl, ?_⟩; obtain ⟨i07, hi07, _, hsz7, _⟩ := info_parts info3; obtain ⟨hcut7, hA7, hC7⟩ := take_over (P := Try.prog) (Value.int .i64) 0 22 3 .i64 Try.underlying22 hi07 hsz7 A0 c0 l0.length F y7 (ji4) Ny7.out (of_decide_eq_true (by first | (with_reducible assumption) | assumption)) (of_decide_eq_true (by first | (with_reducible assumption) | assumption)) HCF.out; have HR160 := Aside0.mk (Kd.C_of_reads (h1 := fun _ => rfl) (hA7 _ (Kd.reads_of_C HRF.out))); have HC160 := Aside0.mk hC7; clear hA7 hC7 hi07 hsz7))
      go_loopg [8] k (fun kq v8 w' => ∃ (x8_1 : Int), v8 = .int .i64 x8_1 ∧ Aside0 (milllaw10_keptF.l0 kq (l1.length : Int) t159 y7 x8_1 = some r) ∧ Aside0 (kq ≤ k) ∧ Drawn0 w w')
      case atStart => exact ⟨(0), (by first | rfl | (simp; done) | (simp [*]; done)), H', ⟨Nat.le_refl _⟩, by repeat (first | exact Drawn0.refl _ | apply Drawn0.step)⟩
      case round =>
        clear H'
        try clear c1
        try clear p2
        try clear c3
        try clear c5
        try clear c5b0
        try clear c5b1
        try clear c6
        try clear c6b0
        try clear c6b1
        try clear p6
        obtain ⟨x8_1, rfl, HA, HK1, ⟨m1, rfl⟩⟩ := hrel
        cases gk with
        | zero => exact absurd HA.out (by simp [milllaw10_keptF.l0])
        | succ k1 =>
          have H := HA.out
          clear HA
          simp only [milllaw10_keptF.l0] at H
          by_cases c8 : x8_1 < 4
          · rw [if_pos c8] at H
            have c8b0 : decide (x8_1 < 4) = true := decide_eq_true c8
            clear c8
            obtain ⟨ji9, hji9⟩ : ∃ j_ : Int, (wrap64 ((l1.length : Int) + x8_1)) = j_ := ⟨_, rfl⟩
            replace H : (if 0 ≤ (ji9) then (if (ji9) < (y7.length : Int) then (if (rd y7 (ji9)) = (wrap64 (1000 + x8_1)) then (milllaw10_keptF.l0 k1 (l1.length : Int) t159 y7 (wrap64 (x8_1 + 1))) else (some false)) else (none)) else (none)) = some r := by first | (rw [hji9] at H; exact H) | (simp only [hji9] at H ⊢; exact H)
            have hji9w : (IntKind.i64.wrap ((l1.length : Int) + x8_1)) = ji9 := (i64_w _).trans hji9
            by_cases c10 : 0 ≤ (ji9)
            · rw [if_pos c10] at H
              have c10b0 : decide (0 ≤ (ji9)) = true := decide_eq_true c10
              clear c10
              by_cases c11 : (ji9) < (y7.length : Int)
              · rw [if_pos c11] at H
                have c11b0 : decide ((ji9) < (y7.length : Int)) = true := decide_eq_true c11
                clear c11
                by_cases c12 : (rd y7 (ji9)) = (wrap64 (1000 + x8_1))
                · rw [if_pos c12] at H
                  have c12b0 : ((rd y7 (ji9)) == (wrap64 (1000 + x8_1))) = true := beq_iff_eq.mpr c12
                  have c12b1 : ((rd y7 (ji9)) != (wrap64 (1000 + x8_1))) = false := bne_eq_false_iff_eq.mpr c12
                  clear c12
                  have H' := Aside0.mk H
                  clear H
                  have p161 : 0 ≤ ((ji9) : Int) := of_decide_eq_true (by first | (with_reducible assumption) | assumption)
                  have q161 : (ji9) < (y7.length : Int) := of_decide_eq_true (by first | (with_reducible assumption) | assumption)
                  obtain ⟨ad161, e161, hx161_0⟩ := Kd.at_int HR160.out (ji9) p161 q161
                  cases e161
                  replace p161 := eq_true p161
                  replace q161 := eq_true q161
                  go_wp2
                  go_roundg k1
                  case measure => have := HK1.out; omega
                  case rel => exact ⟨(wrap64 (x8_1 + 1)), (by first | rfl | (simp; done) | (simp [*]; done)), H', ⟨by have := HK1.out; omega⟩, by repeat (first | exact Drawn0.refl _ | apply Drawn0.step)⟩
                · rw [if_neg c12] at H
                  have c12b0 : ((rd y7 (ji9)) == (wrap64 (1000 + x8_1))) = false := beq_eq_false_iff_ne.mpr c12
                  have c12b1 : ((rd y7 (ji9)) != (wrap64 (1000 + x8_1))) = true := bne_iff_ne.mpr c12
                  obtain rfl := Option.some.inj H
                  have p161 : 0 ≤ ((ji9) : Int) := of_decide_eq_true (by first | (with_reducible assumption) | assumption)
                  have q161 : (ji9) < (y7.length : Int) := of_decide_eq_true (by first | (with_reducible assumption) | assumption)
                  obtain ⟨ad161, e161, hx161_0⟩ := Kd.at_int HR160.out (ji9) p161 q161
                  cases e161
                  replace p161 := eq_true p161
                  replace q161 := eq_true q161
                  go_wp2
                  go_ret
                  exact ⟨by first | rfl | (simp; done) | (simp only [← hji4, ← hji9] <;> (first | rfl | simp)) | (simp [*]; done), by repeat (first | exact Drawn0.refl _ | apply Drawn0.step)⟩
              · rw [if_neg c11] at H
                exact absurd H (by simp)
            · rw [if_neg c10] at H
              exact absurd H (by simp)
          · rw [if_neg c8] at H
            have c8b0 : decide (x8_1 < 4) = false := decide_eq_false c8
            clear c8
            obtain rfl := Option.some.inj H
            go_wp2
            go_ret
            exact ⟨by first | rfl | (simp; done) | (simp only [← hji4] <;> (first | rfl | simp)) | (simp [*]; done), by repeat (first | exact Drawn0.refl _ | apply Drawn0.step)⟩
    · rw [if_neg c6] at H
      exact absurd H (by simp)
  · rw [if_neg c5] at H
    exact absurd H (by simp)

end Go.Proofs.Ytbgabijjnbmghaa.P
