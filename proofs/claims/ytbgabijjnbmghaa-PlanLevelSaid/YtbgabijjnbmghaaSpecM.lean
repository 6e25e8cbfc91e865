/- Plain law: what plan.Make, plan.Check answer of given weights. -/
import Derived.Test.YtbgabijjnbmghaaSpecD
namespace Go.Proofs.Ytbgabijjnbmghaa.P
open Go.RowKit Go.Proofs.Ytbgabijjnbmghaa Go.Proofs.YtbgabijjnbmghaaW.PrintWords Go.Proofs.YtbgabijjnbmghaaW.PrintLast Go.Proofs.YtbgabijjnbmghaaW.PrintMore
set_option linter.unusedVariables false
set_option linter.unusedSimpArgs false

theorem wS {i : Nat} (h : i ≤ 4611686018427387904) : wrap64 ((i : Int) + 1) = ((i + 1 : Nat) : Int) := by unfold wrap64; omega
theorem wA {a b : Nat} (h : a ≤ 4611686018427387903) (h2 : b ≤ 4611686018427387903) : wrap64 ((a : Int) + (b : Int)) = ((a + b : Nat) : Int) := by unfold wrap64; omega
theorem makeSteps_eq {l : List Int} {fan : Int} (h : givenV l fan = 0) : makeSteps l fan.toNat = gSteps l fan.toNat := by
  obtain ⟨h1, h2, h3, h4, h5⟩ := givenV_zero h
  exact makeSteps_greedy (by omega) (by omega) h3 h4 (fun x hx => h5 x hx)
theorem make_ev {l : List Int} {fan : Int} (h : givenV l fan = 0) : Ev (fun k => plan_Make.f k l fan) (gSteps l fan.toNat, 0) := by
  unfold plan_Make.f
  refine Ev.bind (plan_given_ev l fan) ?_
  simp only [if_pos h]
  rw [makeSteps_eq h]
  exact Ev.now _
theorem make_ev_bad {l : List Int} {fan : Int} (h : givenV l fan ≠ 0) : Ev (fun k => plan_Make.f k l fan) ([], givenV l fan) := by
  unfold plan_Make.f
  refine Ev.bind (plan_given_ev l fan) ?_
  simp only [if_neg h]
  exact Ev.now _
theorem checkV_plan {l : List Int} {fan : Int} {st : List S51} (h : givenV l fan = 0) (hp : Plan l.length fan.toNat st) : checkV l fan st = 0 := by
  unfold checkV
  rw [if_pos h, if_pos hp]
theorem checkV_zero {l : List Int} {fan : Int} {st : List S51} (h : checkV l fan st = 0) : givenV l fan = 0 ∧ Plan l.length fan.toNat st := by
  unfold checkV at h
  by_cases h1 : givenV l fan = 0
  · rw [if_pos h1] at h
    by_cases h2 : Plan l.length fan.toNat st
    · exact ⟨h1, h2⟩
    · rw [if_neg h2] at h; cases h
  · rw [if_neg h1] at h; exact absurd h h1
theorem gSteps_check {l : List Int} {fan : Int} (h : givenV l fan = 0) : checkV l fan (gSteps l fan.toNat) = 0 := by
  obtain ⟨h1, h2, h3, h4, h5⟩ := givenV_zero h
  exact checkV_plan h (gSteps_plan (by omega) h3)
theorem sum_set {l : List Int} {i : Nat} (h : i < l.length) (v : Int) : (l.set i v).sum = l.sum - l.getD i 0 + v := by
  induction l generalizing i with
  | nil => simp at h
  | cons x l ih =>
    cases i with
    | zero => simp [List.getD]; omega
    | succ i =>
      have := ih (i := i) (by simpa using h)
      simp only [List.set_cons_succ, List.sum_cons, this, List.getD_cons_succ]
      omega
theorem sum_zero : ∀ (l : List Int), (∀ x ∈ l, x = 0) → l.sum = 0
  | [], _ => rfl
  | x :: l, h => by
    rw [List.sum_cons, h x (List.mem_cons_self ..), sum_zero l (fun y hy => h y (List.mem_cons_of_mem _ hy))]; rfl
theorem sum_nonneg : ∀ (l : List Int), (∀ x ∈ l, 0 ≤ x) → 0 ≤ l.sum
  | [], _ => Int.le_refl _
  | x :: l, h => by
    have h1 := h x (List.mem_cons_self ..)
    have h2 := sum_nonneg l (fun y hy => h y (List.mem_cons_of_mem _ hy))
    rw [List.sum_cons]; omega
theorem getD_le_sum : ∀ (l : List Int) (i : Nat), (∀ x ∈ l, 0 ≤ x) → l.getD i 0 ≤ l.sum
  | [], i, _ => by simp
  | x :: l, 0, h => by
    have h2 := sum_nonneg l (fun y hy => h y (List.mem_cons_of_mem _ hy))
    simp [List.getD]; omega
  | x :: l, i + 1, h => by
    have h1 := h x (List.mem_cons_self ..)
    have h2 := getD_le_sum l i (fun y hy => h y (List.mem_cons_of_mem _ hy))
    rw [List.getD_cons_succ, List.sum_cons]; omega
theorem getD_set {l : List Int} {i : Nat} (h : i < l.length) (v : Int) (j : Nat) : (l.set i v).getD j 0 = if j = i then v else l.getD j 0 := by
  rw [List.getD_eq_getElem?_getD, List.getElem?_set, List.getD_eq_getElem?_getD]
  by_cases e : i = j
  · subst e; rw [if_pos rfl, if_pos h, if_pos rfl]; rfl
  · rw [if_neg e, if_neg (fun h => e h.symm)]
theorem rd_nat (l : List Int) (j : Nat) : rd l (j : Int) = l.getD j 0 := rfl
theorem mem_getD {l : List Int} {P : Int → Prop} (h : ∀ j, j < l.length → P (l.getD j 0)) : ∀ x ∈ l, P x := by
  intro x hx
  obtain ⟨j, hj, rfl⟩ := List.getElem_of_mem hx
  have := h j hj
  rw [List.getD_eq_getElem?_getD, List.getElem?_eq_getElem hj] at this
  exact this
/-- a plan's step s, its runs merged ahead of it -/
theorem plan_at {n fan : Nat} {steps : List S51} (h : Plan n fan steps) {s : Nat} (hs : s < steps.length) :
    formOk n fan s steps[s] ∧ (∀ x ∈ (steps[s]).f0, 0 ≤ x ∧ x < (steps[s]).f1) ∧ (steps[s]).f0.Pairwise (· < ·) ∧ (∀ x ∈ (steps[s]).f0, x ∉ flat (steps.take s)) ∧ PlanFrom n fan (s + 1) (steps.drop (s + 1)) (flat (steps.take s) ++ (steps[s]).f0) := by
  have h1 := h.steps
  rw [← List.take_append_drop s steps, planFrom_append, drop_cons hs, List.length_take, Nat.min_eq_left (by omega), Nat.zero_add, List.nil_append] at h1
  exact h1.2
theorem flat_take_succ {steps : List S51} {s : Nat} (hs : s < steps.length) : flat (steps.take (s + 1)) = flat (steps.take s) ++ (steps[s]).f0 := by
  rw [List.take_add_one, List.getElem?_eq_getElem hs, flat_append]
  simp [flat]
theorem flat_take_low {n fan : Nat} {steps : List S51} (h : Plan n fan steps) : ∀ (s : Nat), s ≤ steps.length → ∀ x ∈ flat (steps.take s), 0 ≤ x ∧ x + 1 < (n : Int) + s
  | 0, _, x, hx => by simp [flat] at hx
  | s + 1, hs, x, hx => by
    rw [flat_take_succ (by omega)] at hx
    have h1 := plan_at h (s := s) (by omega)
    rcases List.mem_append.1 hx with hx | hx
    · have := flat_take_low h s (by omega) x hx; omega
    · have := h1.2.1 x hx
      have := h1.1.1
      omega
end Go.Proofs.Ytbgabijjnbmghaa.P
