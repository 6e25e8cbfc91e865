/- Plain law: what given (of plan and of the reference) answers. -/
import Derived.Test.YtbgabijjnbmghaaP3
import Derived.Test.YtbgabijjnbmghaaP12
namespace Go.Proofs.Ytbgabijjnbmghaa.P
open Go.RowKit Go.Proofs.YtbgabijjnbmghaaW.PrintWords Go.Proofs.YtbgabijjnbmghaaW.PrintLast Go.Proofs.YtbgabijjnbmghaaW.PrintMore
set_option linter.unusedVariables false
set_option linter.unusedSimpArgs false

theorem w64 (x : Int) (h : -9223372036854775808 ≤ x) (h2 : x ≤ 9223372036854775807) : wrap64 x = x := by unfold wrap64; omega
def okW (x : Int) : Prop := 0 ≤ x ∧ x ≤ 1073741824
instance (x : Int) : Decidable (okW x) := by unfold okW; infer_instance
def givenV (l : List Int) (fan : Int) : Int :=
  if fan < 2 ∨ fan > 64 then 2 else if l.length < 1 ∨ l.length > 65536 then 100 else if ∀ x ∈ l, okW x then 0 else 100
theorem rd_getElem {l : List Int} {i : Nat} (h : i < l.length) : rd l (i : Int) = l[i] := by
  unfold rd; rw [Int.toNat_natCast, List.getD_eq_getElem?_getD, List.getElem?_eq_getElem h]; rfl
theorem drop_cons {α : Type} {l : List α} {i : Nat} (h : i < l.length) : l.drop i = l[i] :: l.drop (i + 1) := List.drop_eq_getElem_cons h
theorem plan_given_l0 (l : List Int) (hl : l.length ≤ 65536) : ∀ (d i : Nat), l.length - i = d → i ≤ l.length → Ev (fun k => plan_given.l0 k l l.length (i : Int)) (if ∀ x ∈ l.drop i, okW x then 0 else 100)
  | 0, i, hd, hi => by
    have e : i = l.length := by omega
    subst e
    refine Ev.step (f := fun _ => some 0) (fun k => ?_) ?_
    · rw [plan_given.l0, if_neg (by omega)]
    · rw [List.drop_length, if_pos (by simp)]; exact Ev.now _
  | d + 1, i, hd, hi => by
    have hlt : i < l.length := by omega
    have ih := plan_given_l0 l hl d (i + 1) (by omega) (by omega)
    have hr := rd_getElem hlt
    by_cases h1 : l[i] < 0
    · refine Ev.step (f := fun _ => some 100) (fun k => ?_) ?_
      · rw [plan_given.l0, if_pos (by omega), if_pos (by omega), if_pos (by omega), hr, if_pos h1]
      · rw [drop_cons hlt, if_neg (fun h => by have := (h _ (List.mem_cons_self ..)).1; omega)]; exact Ev.now _
    · by_cases h2 : l[i] > 1073741824
      · refine Ev.step (f := fun _ => some 100) (fun k => ?_) ?_
        · rw [plan_given.l0, if_pos (by omega), if_pos (by omega), if_pos (by omega), hr, if_neg h1, if_pos h2]
        · rw [drop_cons hlt, if_neg (fun h => by have := (h _ (List.mem_cons_self ..)).2; omega)]; exact Ev.now _
      · refine Ev.step (f := fun k => plan_given.l0 k l l.length ((i + 1 : Nat) : Int)) (fun k => ?_) ?_
        · rw [plan_given.l0, if_pos (by omega), if_pos (by omega), if_pos (by omega), hr, if_neg h1, if_neg h2, w64 _ (by omega) (by omega)]; rfl
        · rw [drop_cons hlt]
          have e : (∀ x ∈ l[i] :: l.drop (i + 1), okW x) ↔ ∀ x ∈ l.drop (i + 1), okW x := by
            constructor
            · exact fun h x hx => h x (List.mem_cons_of_mem _ hx)
            · intro h x hx
              rcases List.mem_cons.1 hx with rfl | hx
              · exact ⟨by omega, by omega⟩
              · exact h x hx
          simp only [e]
          exact ih
theorem plan_given_ev (l : List Int) (fan : Int) : Ev (fun k => plan_given.f k l fan) (givenV l fan) := by
  unfold givenV plan_given.f
  by_cases h1 : fan < 2
  · rw [if_pos (.inl h1)]
    simp only [if_pos h1]
    exact Ev.step (f := fun _ => some 2) (fun k => by rw [plan_given.j0, if_pos rfl]) (Ev.now _)
  · simp only [if_neg h1]
    by_cases h2 : fan > 64
    · rw [if_pos (.inr h2)]
      exact Ev.step (f := fun _ => some 2) (fun k => by rw [plan_given.j0, if_pos (by simpa using h2)]) (Ev.now _)
    · rw [if_neg (by omega)]
      have e2 : ¬ (decide (fan > 64) = true) := by simpa using h2
      by_cases h3 : l.length < 1
      · rw [if_pos (.inl h3)]
        refine Ev.step (f := fun k => plan_given.j1 k l true) (fun k => by rw [plan_given.j0, if_neg e2, if_pos (by omega)]) ?_
        exact Ev.step (f := fun _ => some 100) (fun k => by rw [plan_given.j1, if_pos rfl]) (Ev.now _)
      · refine Ev.step (f := fun k => plan_given.j1 k l (decide ((l.length : Int) > 65536))) (fun k => by rw [plan_given.j0, if_neg e2, if_neg (by omega)]) ?_
        by_cases h4 : l.length > 65536
        · rw [if_pos (.inr h4)]
          exact Ev.step (f := fun _ => some 100) (fun k => by rw [plan_given.j1, if_pos (by simp; omega)]) (Ev.now _)
        · rw [if_neg (by omega)]
          refine Ev.step (f := fun k => plan_given.l0 k l l.length ((0 : Nat) : Int)) (fun k => by rw [plan_given.j1, if_neg (by simp; omega)]; rfl) ?_
          exact plan_given_l0 l (by omega) l.length 0 rfl (Nat.zero_le _)

theorem ref_given_l0 (l : List Int) (hl : l.length ≤ 65536) : ∀ (d i : Nat), l.length - i = d → i ≤ l.length → Ev (fun k => millref10_Given.l0 k l (i : Int)) (if ∀ x ∈ l.drop i, okW x then 0 else 100)
  | 0, i, hd, hi => by
    have e : i = l.length := by omega
    subst e
    refine Ev.step (f := fun _ => some 0) (fun k => ?_) ?_
    · rw [millref10_Given.l0, if_neg (by omega)]
    · rw [List.drop_length, if_pos (by simp)]; exact Ev.now _
  | d + 1, i, hd, hi => by
    have hlt : i < l.length := by omega
    have ih := ref_given_l0 l hl d (i + 1) (by omega) (by omega)
    have hr := rd_getElem hlt
    by_cases h1 : l[i] < 0
    · refine Ev.step (f := fun _ => some 100) (fun k => ?_) ?_
      · rw [millref10_Given.l0, if_pos (by omega), if_pos (by omega), hr, if_pos h1]
      · rw [drop_cons hlt, if_neg (fun h => by have := (h _ (List.mem_cons_self ..)).1; omega)]; exact Ev.now _
    · by_cases h2 : l[i] > 1073741824
      · refine Ev.step (f := fun _ => some 100) (fun k => ?_) ?_
        · rw [millref10_Given.l0, if_pos (by omega), if_pos (by omega), hr, if_neg h1, if_pos h2]
        · rw [drop_cons hlt, if_neg (fun h => by have := (h _ (List.mem_cons_self ..)).2; omega)]; exact Ev.now _
      · refine Ev.step (f := fun k => millref10_Given.l0 k l ((i + 1 : Nat) : Int)) (fun k => ?_) ?_
        · rw [millref10_Given.l0, if_pos (by omega), if_pos (by omega), hr, if_neg h1, if_neg h2, w64 _ (by omega) (by omega)]; rfl
        · rw [drop_cons hlt]
          have e : (∀ x ∈ l[i] :: l.drop (i + 1), okW x) ↔ ∀ x ∈ l.drop (i + 1), okW x := by
            constructor
            · exact fun h x hx => h x (List.mem_cons_of_mem _ hx)
            · intro h x hx
              rcases List.mem_cons.1 hx with rfl | hx
              · exact ⟨by omega, by omega⟩
              · exact h x hx
          simp only [e]
          exact ih
theorem ref_given_ev (l : List Int) (fan : Int) : Ev (fun k => millref10_Given.f k l fan) (givenV l fan) := by
  unfold givenV millref10_Given.f
  by_cases h1 : fan < 2
  · rw [if_pos (.inl h1)]
    simp only [if_pos h1]
    exact Ev.step (f := fun _ => some 2) (fun k => by rw [millref10_Given.j0, if_pos rfl]) (Ev.now _)
  · simp only [if_neg h1]
    by_cases h2 : fan > 64
    · rw [if_pos (.inr h2)]
      exact Ev.step (f := fun _ => some 2) (fun k => by rw [millref10_Given.j0, if_pos (by simpa using h2)]) (Ev.now _)
    · rw [if_neg (by omega)]
      have e2 : ¬ (decide (fan > 64) = true) := by simpa using h2
      by_cases h3 : l.length < 1
      · rw [if_pos (.inl h3)]
        refine Ev.step (f := fun k => millref10_Given.j1 k l true) (fun k => by rw [millref10_Given.j0, if_neg e2, if_pos (by omega)]) ?_
        exact Ev.step (f := fun _ => some 100) (fun k => by rw [millref10_Given.j1, if_pos rfl]) (Ev.now _)
      · refine Ev.step (f := fun k => millref10_Given.j1 k l (decide ((l.length : Int) > 65536))) (fun k => by rw [millref10_Given.j0, if_neg e2, if_neg (by omega)]) ?_
        by_cases h4 : l.length > 65536
        · rw [if_pos (.inr h4)]
          exact Ev.step (f := fun _ => some 100) (fun k => by rw [millref10_Given.j1, if_pos (by simp; omega)]) (Ev.now _)
        · rw [if_neg (by omega)]
          refine Ev.step (f := fun k => millref10_Given.l0 k l ((0 : Nat) : Int)) (fun k => by rw [millref10_Given.j1, if_neg (by simp; omega)]; rfl) ?_
          exact ref_given_l0 l (by omega) l.length 0 rfl (Nat.zero_le _)
theorem givenV_zero {l : List Int} {fan : Int} (h : givenV l fan = 0) : 2 ≤ fan ∧ fan ≤ 64 ∧ 1 ≤ l.length ∧ l.length ≤ 65536 ∧ ∀ x ∈ l, okW x := by
  unfold givenV at h
  split at h
  · omega
  · split at h
    · omega
    · split at h
      · rename_i h1 h2 h3; exact ⟨by omega, by omega, by omega, by omega, h3⟩
      · omega
end Go.Proofs.Ytbgabijjnbmghaa.P
