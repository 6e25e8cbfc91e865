/- Plain law: what plan.Cost and plan.Depth answer. -/
import Derived.Test.YtbgabijjnbmghaaSpecE
import Derived.Test.YtbgabijjnbmghaaP24
import Derived.Test.YtbgabijjnbmghaaP8
namespace Go.Proofs.Ytbgabijjnbmghaa.P
open Go.RowKit Go.Proofs.Ytbgabijjnbmghaa Go.Proofs.YtbgabijjnbmghaaW.PrintWords Go.Proofs.YtbgabijjnbmghaaW.PrintLast Go.Proofs.YtbgabijjnbmghaaW.PrintMore
set_option linter.unusedVariables false
set_option linter.unusedSimpArgs false

theorem sumAt_nonneg {acc : List Int} (h : ∀ j, 0 ≤ acc.getD j 0) (ins : List Int) : 0 ≤ sumAt acc ins :=
  sum_nonneg _ (fun y hy => by obtain ⟨x, _, rfl⟩ := List.mem_map.1 hy; exact h _)
theorem sumAt_append (acc a b : List Int) : sumAt acc (a ++ b) = sumAt acc a + sumAt acc b := by simp [sumAt]
theorem sumAt_take_le {acc : List Int} (h : ∀ j, 0 ≤ acc.getD j 0) (ins : List Int) (i : Nat) : sumAt acc (ins.take i) ≤ sumAt acc ins := by
  have e : sumAt acc ins = sumAt acc (ins.take i) + sumAt acc (ins.drop i) := by rw [← sumAt_append, List.take_append_drop]
  have := sumAt_nonneg h (ins.drop i)
  omega
theorem take_succ_at {ins : List Int} {i : Nat} (h : i < ins.length) : ins.take (i + 1) = ins.take i ++ [ins[i]] := by
  rw [List.take_add_one, List.getElem?_eq_getElem h]; rfl
theorem sumAt_take_succ (acc : List Int) {ins : List Int} {i : Nat} (h : i < ins.length) : sumAt acc (ins.take (i + 1)) = sumAt acc (ins.take i) + acc.getD (ins[i]).toNat 0 := by
  rw [take_succ_at h, sumAt_append]; simp [sumAt]
theorem cost_step (k : Nat) (acc : List Int) (c v v' : Int) (steps : List S51) (L s i : Nat) (ins : List Int) (hi : i < ins.length) (b : i < 1000000) (h0 : 0 ≤ ins[i]) (h1 : ins[i] < (acc.length : Int)) (hv : wrap64 (v + acc.getD (ins[i]).toNat 0) = v') :
    plan_Cost.l1 (k + 1) acc c v steps L s ins ins.length i = plan_Cost.l1 k acc c v' steps L s ins ins.length ((i + 1 : Nat) : Int) := by
  have e1 : (i : Int) < ins.length := by clear hv; omega
  have e2 : (0 : Int) ≤ (i : Int) := by clear hv; omega
  rw [plan_Cost.l1, if_pos e1, if_pos e2, if_pos e1, rd_getElem hi, if_pos h0, if_pos h1, wS (by clear hv; omega)]
  rw [← hv]; rfl
theorem cost_l1 (acc : List Int) (c : Int) (steps : List S51) (L s : Nat) (ins : List Int) (hl : ins.length ≤ 64) (hr : ∀ x ∈ ins, 0 ≤ x ∧ x < (acc.length : Int)) (h0 : ∀ j, 0 ≤ acc.getD j 0) (hT : sumAt acc ins ≤ 70368744177664) (hacc : acc.length < 1000000) (hs : s < 1000000) (hc : wrap64 (c + sumAt acc ins) = c + sumAt acc ins) (r : Int × Int)
    (cont : Ev (fun k => plan_Cost.l0 k (acc ++ [sumAt acc ins]) (c + sumAt acc ins) steps L ((s + 1 : Nat) : Int)) r) :
    ∀ (d i : Nat), ins.length - i = d → i ≤ ins.length → Ev (fun k => plan_Cost.l1 k acc c (sumAt acc (ins.take i)) steps L s ins ins.length i) r
  | 0, i, hd, hi => by
    have e : i = ins.length := by omega
    subst e
    rw [List.take_length]
    refine Ev.step (fun k => ?_) cont
    have e1 : ¬ (ins.length : Int) < ins.length := by clear hT hc; omega
    have e2 : acc.length < 17592186044416 := by clear hT hc; omega
    rw [plan_Cost.l1, if_neg e1, if_pos e2, hc, wS (by clear hT hc; omega)]
  | d + 1, i, hd, hi => by
    have hlt : i < ins.length := by omega
    have hm := hr _ (List.getElem_mem hlt)
    refine Ev.step (fun k => cost_step k acc c (sumAt acc (ins.take i)) (sumAt acc (ins.take (i + 1))) steps L s i ins hlt (by omega) hm.1 hm.2 ?_) (cost_l1 acc c steps L s ins hl hr h0 hT hacc hs hc r cont d (i + 1) (by omega) (by omega))
    have h1 := sumAt_take_le h0 ins (i + 1)
    have h2 := sumAt_nonneg h0 (ins.take (i + 1))
    rw [← sumAt_take_succ acc hlt, w64 _ (by omega) (by omega)]
/-- what is left weighs as much as ever -/
theorem flow_total {n s : Nat} {st : S51} {A R acc : List Int} (h1 : A.Perm (st.f0 ++ R)) (h3 : ∀ x ∈ A, 0 ≤ x ∧ x < ((n + s : Nat) : Int)) (hl : acc.length = n + s) :
    sumAt (acc ++ [sumAt acc st.f0]) (((n + s : Nat) : Int) :: R) = sumAt acc A := by
  have hR : ∀ x ∈ R, x.toNat < acc.length := fun x hx => by
    have := h3 x (h1.mem_iff.2 (List.mem_append_right _ hx)); omega
  unfold sumAt
  rw [sum_map_perm _ h1, List.map_append, List.sum_append, List.map_cons, List.sum_cons, Int.toNat_natCast, ← hl, getD_append_len]
  rw [sum_map_congr (a := R) (f := fun x => acc.getD x.toNat 0) (g := fun x => (acc ++ [(st.f0.map fun x => acc.getD x.toNat 0).sum]).getD x.toNat 0) (fun x hx => by rw [getD_append_lt (hR x hx)])]
theorem sumAt_part {st : S51} {A R acc : List Int} (h1 : A.Perm (st.f0 ++ R)) (h0 : ∀ j, 0 ≤ acc.getD j 0) : sumAt acc st.f0 ≤ sumAt acc A := by
  have e : sumAt acc A = sumAt acc st.f0 + sumAt acc R := by rw [← sumAt_append]; exact sum_map_perm _ h1
  have := sumAt_nonneg h0 R
  omega
theorem getD_append_nonneg {acc : List Int} {v : Int} (h : ∀ j, 0 ≤ acc.getD j 0) (hv : 0 ≤ v) (j : Nat) : 0 ≤ (acc ++ [v]).getD j 0 := by
  rcases Nat.lt_trichotomy j acc.length with hj | hj | hj
  · rw [getD_append_lt hj]; exact h j
  · subst hj; rw [getD_append_len]; exact hv
  · rw [List.getD_eq_getElem?_getD, List.getElem?_eq_none (by simp; omega)]; exact Int.le_refl _
theorem cost_l0 (steps : List S51) (n fan L : Nat) (hL : L = steps.length) (hL2 : L ≤ 65536) (hn : n ≤ 65536) (hf : fan ≤ 64) : ∀ (d s : Nat) (A acc : List Int) (c : Int), L - s = d → s ≤ L → Flow n fan s (steps.drop s) A → acc.length = n + s → (∀ j, 0 ≤ acc.getD j 0) → sumAt acc A ≤ 70368744177664 → 0 ≤ c → c ≤ s * 70368744177664 →
    Ev (fun k => plan_Cost.l0 k acc c steps L s) (c + costOf acc (steps.drop s), 0) := by
  intro d
  induction d with
  | zero =>
    intro s A acc c hd hi hfl hl h0 hT hc0 hc
    have e : s = steps.length := by omega
    have e0 : ¬ (s : Int) < (L : Int) := by clear hT hc; omega
    refine Ev.step (f := fun _ => some (c, 0)) (fun k => ?_) ?_
    · rw [plan_Cost.l0, if_neg e0]
    · rw [e, List.drop_length, costOf, Int.add_zero]; exact Ev.now _
  | succ d ihd =>
    intro s A acc c hd hi hfl hl h0 hT hc0 hc
    have hlt : s < steps.length := by omega
    rw [drop_cons hlt] at hfl ⊢
    obtain ⟨R, h1, h2, h3, h4, h5, h5b, h6⟩ := hfl
    have hp := sumAt_part h1 h0
    have hn0 := sumAt_nonneg h0 (steps[s]).f0
    have htot := flow_total (n := n) (s := s) h1 h3 hl
    have hcs : c + sumAt acc (steps[s]).f0 ≤ ((s + 1 : Nat) : Int) * 70368744177664 := by
      rw [show ((s + 1 : Nat) : Int) = (s : Int) + 1 from by omega, Int.add_mul]; omega
    have ih := ihd (s + 1) _ (acc ++ [sumAt acc (steps[s]).f0]) (c + sumAt acc (steps[s]).f0) (by omega) (by omega) h6 (by rw [List.length_append, List.length_singleton, hl]; omega) (getD_append_nonneg h0 hn0) (by rw [htot]; exact hT) (by omega) hcs
    rw [costOf, ← Int.add_assoc]
    have hw : wrap64 (c + sumAt acc (steps[s]).f0) = c + sumAt acc (steps[s]).f0 := w64 _ (by omega) (by omega)
    have hin := cost_l1 acc c steps L s (steps[s]).f0 (by omega) (fun x hx => by have := h3 x (h1.mem_iff.2 (List.mem_append_left _ hx)); omega) h0 (by omega) (by omega) (by omega) hw _ ih (steps[s]).f0.length 0 rfl (Nat.zero_le _)
    refine Ev.step (fun k => ?_) hin
    have e1 : (s : Int) < (L : Int) := by omega
    have e2 : (0 : Int) ≤ (s : Int) := by omega
    have e3 : (s : Int) < steps.length := by omega
    rw [plan_Cost.l0, if_pos e1, if_pos e2, if_pos e3, rdT_getElem hlt]
    rfl
theorem sumAt_nums (l : List Int) : ∀ (k : Nat), k ≤ l.length → sumAt l (nums k) = (l.take k).sum
  | 0, _ => by simp [sumAt, nums]
  | k + 1, h => by
    rw [nums_succ, sumAt_append, sumAt_nums l k (by omega), List.take_add_one, List.getElem?_eq_getElem (by omega), List.sum_append]
    simp [sumAt, List.getD_eq_getElem?_getD, List.getElem?_eq_getElem (show k < l.length by omega)]
theorem given_nonneg {l : List Int} (h : ∀ x ∈ l, okW x) (j : Nat) : 0 ≤ l.getD j 0 := by
  rw [List.getD_eq_getElem?_getD]
  by_cases hj : j < l.length
  · rw [List.getElem?_eq_getElem hj]; exact (h _ (List.getElem_mem hj)).1
  · rw [List.getElem?_eq_none (by omega)]; exact Int.le_refl _
theorem given_sum {l : List Int} {fan : Int} (hg : givenV l fan = 0) : l.sum ≤ 70368744177664 := by
  obtain ⟨h1, h2, h3, h4, h5⟩ := givenV_zero hg
  have := sum_bound l 1073741824 (fun x hx => (h5 x hx).2)
  have h6 : (l.length : Int) * 1073741824 ≤ 65536 * 1073741824 := Int.mul_le_mul_of_nonneg_right (by omega) (by omega)
  omega
theorem cost_ev (l : List Int) (fan : Int) (steps : List S51) : Ev (fun k => plan_Cost.f k l fan steps) (if checkV l fan steps = 0 then (costOf l steps, 0) else (0, checkV l fan steps)) := by
  unfold plan_Cost.f
  refine Ev.bind (check_ev l fan steps) ?_
  by_cases h : checkV l fan steps = 0
  · simp only [if_pos h]
    obtain ⟨hg, hp⟩ := checkV_zero h
    obtain ⟨h1, h2, h3, h4, h5⟩ := givenV_zero hg
    have hfew := hp.few
    have := cost_l0 steps l.length fan.toNat steps.length rfl (by omega) h4 (by omega) steps.length 0 (nums l.length) l 0 rfl (Nat.zero_le _) (by simpa using flow_of_plan hp) rfl (given_nonneg h5) (by rw [sumAt_nums l _ (Nat.le_refl _), List.take_length]; exact given_sum hg) (Int.le_refl _) (by simp)
    rw [Int.zero_add, List.drop_zero] at this
    refine Ev.congr (fun k => ?_) this
    have e : slices_Clone_int_int.f l = some l := by unfold slices_Clone_int_int.f; exact if_pos (by omega)
    rw [e]; rfl
  · simp only [if_neg h]; exact Ev.now _

/-! ### Depth -/
/-- what the inner loop has when so many runs were looked at -/
theorem deepAt_take_succ (acc : List Int) (h0 : ∀ j, 0 ≤ acc.getD j 0) {ins : List Int} {i : Nat} (h : i < ins.length) : deepAt acc (ins.take (i + 1)) = max (deepAt acc (ins.take i)) (acc.getD (ins[i]).toNat 0 + 1) := by
  unfold deepAt
  rw [take_succ_at h, List.map_append, maxL_append, List.map_cons, List.map_nil, maxL_cons, show maxL [] = 0 from rfl]
  have := h0 (ins[i]).toNat
  omega
abbrev row (acc : List Int) (m : Int) (q : Nat) : List Int := acc ++ m :: List.replicate q 0
theorem row_lt {acc : List Int} {m : Int} {q j : Nat} (h : j < acc.length) : (row acc m q).getD j 0 = acc.getD j 0 := getD_append_lt h
theorem row_at (acc : List Int) (m : Int) (q : Nat) : (row acc m q).getD acc.length 0 = m := by
  rw [List.getD_eq_getElem?_getD, List.getElem?_append_right (Nat.le_refl _), Nat.sub_self]; rfl
theorem row_set (acc : List Int) (m v : Int) (q : Nat) : (row acc m q).set acc.length v = row acc v q := by
  unfold row
  rw [List.set_append_right _ _ (Nat.le_refl _), Nat.sub_self]; rfl
theorem row_length (acc : List Int) (m : Int) (q : Nat) : (row acc m q).length = acc.length + q + 1 := by
  unfold row; rw [List.length_append, List.length_cons, List.length_replicate]; omega
theorem depth_step (k : Nat) (acc : List Int) (m m' : Int) (q : Nat) (steps : List S51) (L s i : Nat) (ins : List Int) (hi : i < ins.length) (b : i < 1000000) (h0 : 0 ≤ ins[i]) (h1 : ins[i] < (acc.length : Int)) (h2 : 0 ≤ acc.getD (ins[i]).toNat 0) (h3 : acc.getD (ins[i]).toNat 0 ≤ 1000000) (hm : max m (acc.getD (ins[i]).toNat 0 + 1) = m') :
    plan_Depth.l1 (k + 1) (row acc m q) steps L s ins ins.length i ins acc.length = plan_Depth.l1 k (row acc m' q) steps L s ins ins.length ((i + 1 : Nat) : Int) ins acc.length := by
  have e1 : (i : Int) < ins.length := by clear hm h2 h3; omega
  have e2 : (0 : Int) ≤ (i : Int) := by clear hm h2 h3; omega
  have e3 : (0 : Int) ≤ (acc.length : Int) := by clear hm h2 h3; omega
  have e4 : (acc.length : Int) < (row acc m q).length := by clear hm h2 h3; rw [row_length]; omega
  have e5 : ins[i] < ((row acc m q).length : Int) := by clear hm h2 h3; rw [row_length]; omega
  have e6 : rd (row acc m q) ins[i] = acc.getD (ins[i]).toNat 0 := by unfold rd; exact row_lt (by clear hm h2 h3; omega)
  have e7 : rd (row acc m q) (acc.length : Int) = m := row_at acc m q
  have e8 : wrap64 (acc.getD (ins[i]).toNat 0 + 1) = acc.getD (ins[i]).toNat 0 + 1 := by
    generalize acc.getD (ins[i]).toNat 0 = v at h2 h3
    exact w64 _ (by omega) (by omega)
  have e9 : mx m (acc.getD (ins[i]).toNat 0 + 1) = m' := by
    rw [← hm]
    generalize acc.getD (ins[i]).toNat 0 = v
    unfold mx; split <;> omega
  rw [plan_Depth.l1, if_pos e1, if_pos e2, if_pos e1, if_pos e3, if_pos e4, rd_getElem hi, if_pos h0, if_pos e5, e6, e7, e8, e9, Int.toNat_natCast, row_set, wS (by clear hm h2 h3; omega)]
theorem depth_l1 (acc : List Int) (q : Nat) (steps : List S51) (L s : Nat) (ins : List Int) (hl : ins.length ≤ 64) (hr : ∀ x ∈ ins, 0 ≤ x ∧ x < (acc.length : Int)) (h0 : ∀ j, 0 ≤ acc.getD j 0) (hb : ∀ j, acc.getD j 0 ≤ 1000000) (hs : s < 1000000) (r : Int × Int)
    (cont : Ev (fun k => plan_Depth.l0 k (row acc (deepAt acc ins) q) steps L ((s + 1 : Nat) : Int)) r) :
    ∀ (d i : Nat), ins.length - i = d → i ≤ ins.length → Ev (fun k => plan_Depth.l1 k (row acc (deepAt acc (ins.take i)) q) steps L s ins ins.length i ins acc.length) r
  | 0, i, hd, hi => by
    have e : i = ins.length := by omega
    subst e
    rw [List.take_length]
    refine Ev.step (fun k => ?_) cont
    have e1 : ¬ (ins.length : Int) < ins.length := by omega
    rw [plan_Depth.l1, if_neg e1, wS (by omega)]
  | d + 1, i, hd, hi => by
    have hlt : i < ins.length := by omega
    have hm := hr _ (List.getElem_mem hlt)
    exact Ev.step (fun k => depth_step k acc (deepAt acc (ins.take i)) (deepAt acc (ins.take (i + 1))) q steps L s i ins hlt (by omega) hm.1 hm.2 (h0 _) (hb _) (deepAt_take_succ acc h0 hlt).symm) (depth_l1 acc q steps L s ins hl hr h0 hb hs r cont d (i + 1) (by omega) (by omega))
theorem deepAt_le {acc : List Int} {b : Int} (h0 : 0 ≤ b) (h : ∀ j, acc.getD j 0 ≤ b) : ∀ (ins : List Int), deepAt acc ins ≤ b + 1
  | [] => by unfold deepAt; rw [List.map_nil, show maxL [] = 0 from rfl]; omega
  | x :: ins => by
    have ih := deepAt_le h0 h ins
    unfold deepAt at ih ⊢
    rw [List.map_cons, maxL_cons]
    have := h x.toNat
    omega
theorem getD_append_le {acc : List Int} {v b : Int} (h0 : 0 ≤ b) (h : ∀ j, acc.getD j 0 ≤ b) (hv : v ≤ b) (j : Nat) : (acc ++ [v]).getD j 0 ≤ b := by
  rcases Nat.lt_trichotomy j acc.length with hj | hj | hj
  · rw [getD_append_lt hj]; exact h j
  · subst hj; rw [getD_append_len]; exact hv
  · rw [List.getD_eq_getElem?_getD, List.getElem?_eq_none (by simp; omega)]; exact h0
theorem depth_l0 (steps : List S51) (n fan L : Nat) (hout : ∀ (s : Nat) (h : s < steps.length), (steps[s]).f1 = ((n + s : Nat) : Int)) (hL : L = steps.length) (hL2 : L ≤ 65536) (hn : n ≤ 65536) (hn1 : 1 ≤ n + L) (hf : fan ≤ 64) : ∀ (d s : Nat) (A acc : List Int), L - s = d → s ≤ L → Flow n fan s (steps.drop s) A → acc.length = n + s → (∀ j, 0 ≤ acc.getD j 0) → (∀ j, acc.getD j 0 ≤ s) →
    Ev (fun k => plan_Depth.l0 k (acc ++ List.replicate (L - s) 0) steps L s) ((deepOf acc (steps.drop s)).getD (n + L - 1) 0, 0) := by
  intro d
  induction d with
  | zero =>
    intro s A acc hd hi hfl hl h0 hb
    have e : s = steps.length := by omega
    have e0 : ¬ (s : Int) < (L : Int) := by omega
    have e1 : wrap64 ((acc.length : Int) - 1) = ((n + L - 1 : Nat) : Int) := by rw [w64 _ (by omega) (by omega)]; omega
    have e2 : (0 : Int) ≤ ((n + L - 1 : Nat) : Int) := by omega
    have e3 : ((n + L - 1 : Nat) : Int) < acc.length := by omega
    refine Ev.step (f := fun _ => some (acc.getD (n + L - 1) 0, 0)) (fun k => ?_) ?_
    · rw [hd, List.replicate_zero, List.append_nil, plan_Depth.l0, if_neg e0, e1, if_pos e2, if_pos e3]; rfl
    · rw [e, List.drop_length, deepOf]; exact Ev.now _
  | succ d ihd =>
    intro s A acc hd hi hfl hl h0 hb
    have hlt : s < steps.length := by omega
    rw [drop_cons hlt] at hfl ⊢
    obtain ⟨R, h1, h2, h3, h4, h5, h5b, h6⟩ := hfl
    have hd0 : 0 ≤ deepAt acc (steps[s]).f0 := maxL_nonneg _
    have hd1 := deepAt_le (b := s) (by omega) hb (steps[s]).f0
    have ih := ihd (s + 1) _ (acc ++ [deepAt acc (steps[s]).f0]) (by omega) (by omega) h6 (by rw [List.length_append, List.length_singleton, hl]; omega) (getD_append_nonneg h0 hd0) (getD_append_le (by omega) (fun j => by have := hb j; generalize acc.getD j 0 = v at this ⊢; omega) (by omega))
    have hin := depth_l1 acc (L - (s + 1)) steps L s (steps[s]).f0 (by omega) (fun x hx => by have := h3 x (h1.mem_iff.2 (List.mem_append_left _ hx)); omega) h0 (fun j => by have := hb j; generalize acc.getD j 0 = v at this ⊢; omega) (by omega) ((deepOf (acc ++ [deepAt acc (steps[s]).f0]) (steps.drop (s + 1))).getD (n + L - 1) 0, 0) (by
      have e : row acc (deepAt acc (steps[s]).f0) (L - (s + 1)) = acc ++ [deepAt acc (steps[s]).f0] ++ List.replicate (L - (s + 1)) 0 := by unfold row; rw [List.append_assoc]; rfl
      rw [e]; exact ih) (steps[s]).f0.length 0 rfl (Nat.zero_le _)
    rw [deepOf]
    refine Ev.step (fun k => ?_) hin
    have e1 : (s : Int) < (L : Int) := by omega
    have e2 : (0 : Int) ≤ (s : Int) := by omega
    have e3 : (s : Int) < steps.length := by omega
    have e4 : acc ++ List.replicate (L - s) 0 = row acc 0 (L - (s + 1)) := by
      unfold row; rw [show L - s = L - (s + 1) + 1 from by omega, List.replicate_succ]
    have hpl : (steps[s]).f1 = (acc.length : Int) := by rw [hout s hlt, hl]
    rw [plan_Depth.l0, if_pos e1, if_pos e2, if_pos e3, rdT_getElem hlt, hpl, e4]
    rfl
def deepV (n : Nat) (steps : List S51) : Int := (deepOf (List.replicate n 0) steps).getD (n + steps.length - 1) 0
theorem getD_zeros (n j : Nat) : (List.replicate n (0 : Int)).getD j 0 = 0 := by
  rw [List.getD_eq_getElem?_getD, List.getElem?_replicate]; split <;> rfl
theorem depth_ev (l : List Int) (fan : Int) (steps : List S51) : Ev (fun k => plan_Depth.f k l fan steps) (if checkV l fan steps = 0 then (deepV l.length steps, 0) else (0, checkV l fan steps)) := by
  unfold plan_Depth.f
  refine Ev.bind (check_ev l fan steps) ?_
  by_cases h : checkV l fan steps = 0
  · simp only [if_pos h]
    obtain ⟨hg, hp⟩ := checkV_zero h
    obtain ⟨h1, h2, h3, h4, h5⟩ := givenV_zero hg
    have hfew := hp.few
    have := depth_l0 steps l.length fan.toNat steps.length (fun s hs => by have := (plan_at hp hs).1.1; omega) rfl (by omega) h4 (by omega) (by omega) steps.length 0 (nums l.length) (List.replicate l.length 0) rfl (Nat.zero_le _) (by simpa using flow_of_plan hp) (by simp) (fun j => by rw [getD_zeros]; exact Int.le_refl _) (fun j => by rw [getD_zeros]; exact Int.le_refl _)
    rw [List.drop_zero, Nat.sub_zero, List.replicate_append_replicate] at this
    refine Ev.congr (fun k => ?_) this
    have e1 : wrap64 ((l.length : Int) + (steps.length : Int)) = ((l.length + steps.length : Nat) : Int) := wA (by omega) (by omega)
    have e2 : (0 : Int) ≤ ((l.length + steps.length : Nat) : Int) := by omega
    have e3 : l.length + steps.length ≤ 35184372088832 := by omega
    rw [e1, if_pos e2, Int.toNat_natCast, if_pos e3]; rfl
  · simp only [if_neg h]; exact Ev.now _
end Go.Proofs.Ytbgabijjnbmghaa.P
