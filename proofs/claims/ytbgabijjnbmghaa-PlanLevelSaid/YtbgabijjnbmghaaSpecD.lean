/- Plain law: the greedy steps are a plan. -/
import Derived.Test.YtbgabijjnbmghaaSpecC
import Derived.Test.YtbgabijjnbmghaaGreedy
namespace Go.Proofs.Ytbgabijjnbmghaa.P
open Go.RowKit Go.Proofs.Ytbgabijjnbmghaa Go.Proofs.YtbgabijjnbmghaaW.PrintWords Go.Proofs.YtbgabijjnbmghaaW.PrintLast Go.Proofs.YtbgabijjnbmghaaW.PrintMore
set_option linter.unusedVariables false
set_option linter.unusedSimpArgs false

abbrev nextS (n t : Nat) (s : List Rung) (st : List S51) : List Rung := insR (((n + st.length : Nat) : Int), sumW (s.take t)) (s.drop t)
abbrev nextT (n t : Nat) (s : List Rung) (st : List S51) : List S51 := st ++ [⟨sortI ((s.take t).map (·.1)), ((n + st.length : Nat) : Int)⟩]
/-- what each step of the greedy rule keeps, holds at its end -/
theorem greedy_ind {n fan t0 : Nat} (hf : 2 ≤ fan) (I : List Rung → List S51 → Prop)
    (step : ∀ (t q : Nat) (s : List Rung) (st : List S51), I s st → s.length = t + q * (fan - 1) → 2 ≤ t → t ≤ fan → ((t = t0 ∧ st = []) ∨ (t = fan ∧ st ≠ [])) → I (nextS n t s st) (nextT n t s st)) :
    ∀ (q f t : Nat) (s : List Rung) (st : List S51), q < f → s.length = t + q * (fan - 1) → 2 ≤ t → t ≤ fan → ((t = t0 ∧ st = []) ∨ (t = fan ∧ st ≠ [])) → I s st →
      ∃ x, I [x] (greedy n fan f t s st) ∧ (greedy n fan f t s st).length = st.length + q + 1
  | q, 0, t, s, st, hq, _, _, _, _, _ => by omega
  | 0, f + 1, t, s, st, hq, hl, h2, hfa, ht, hi => by
    have h := step t 0 s st hi hl h2 hfa ht
    rw [greedy, if_pos (by omega)]
    have hl2 : (nextS n t s st).length = 1 := by rw [insR_length, List.length_drop]; omega
    obtain ⟨x, hx⟩ := List.length_eq_one_iff.1 hl2
    have e : greedy n fan f fan (nextS n t s st) (nextT n t s st) = nextT n t s st := by
      cases f with
      | zero => rfl
      | succ f => rw [greedy, if_neg (by omega)]
    rw [e]
    rw [hx] at h
    exact ⟨x, h, by simp⟩
  | q + 1, f + 1, t, s, st, hq, hl, h2, hfa, ht, hi => by
    have h := step t (q + 1) s st hi hl h2 hfa ht
    rw [greedy, if_pos (by omega)]
    have hl2 : (nextS n t s st).length = fan + q * (fan - 1) := by rw [insR_length, List.length_drop, hl, Nat.succ_mul]; omega
    obtain ⟨x, h3, h4⟩ := greedy_ind hf I step q f fan (nextS n t s st) (nextT n t s st) (by omega) hl2 hf (Nat.le_refl _) (.inr ⟨rfl, by simp⟩) h
    exact ⟨x, h3, by rw [h4]; simp; omega⟩

def nums (k : Nat) : List Int := (List.range k).map fun i : Nat => (i : Int)
theorem nums_mem {k : Nat} {x : Int} : x ∈ nums k ↔ 0 ≤ x ∧ x < k := by
  unfold nums
  rw [List.mem_map]
  constructor
  · rintro ⟨a, ha, rfl⟩
    have := List.mem_range.1 ha
    exact ⟨by omega, by omega⟩
  · rintro ⟨h1, h2⟩
    exact ⟨x.toNat, List.mem_range.2 (by omega), by omega⟩
theorem nums_nodup (k : Nat) : (nums k).Nodup := by
  unfold nums
  refine List.Pairwise.map _ ?_ List.nodup_range
  intro a b h e
  exact h (by omega)
theorem nums_succ (k : Nat) : nums (k + 1) = nums k ++ [(k : Int)] := by unfold nums; rw [List.range_succ, List.map_append]; rfl
theorem planFrom_append (n fan : Nat) : ∀ (a b : List S51) (s : Nat) (xs : List Int), PlanFrom n fan s (a ++ b) xs ↔ PlanFrom n fan s a xs ∧ PlanFrom n fan (s + a.length) b (xs ++ flat a)
  | [], b, s, xs => by simp [PlanFrom, flat]
  | st :: a, b, s, xs => by
    rw [List.cons_append, PlanFrom, PlanFrom, planFrom_append n fan a b (s + 1) (xs ++ st.f0), flat_cons, List.append_assoc, List.length_cons, show s + 1 + a.length = s + (a.length + 1) from by omega]
    constructor
    · rintro ⟨h1, h2, h3, h4, h5, h6⟩; exact ⟨⟨h1, h2, h3, h4, h5⟩, h6⟩
    · rintro ⟨⟨h1, h2, h3, h4, h5⟩, h6⟩; exact ⟨h1, h2, h3, h4, h5, h6⟩
theorem sortI_perm (l : List Int) : (sortI l).Perm l := List.mergeSort_perm ..
theorem sortI_sorted (l : List Int) : (sortI l).Pairwise (· ≤ ·) := by
  have := List.pairwise_mergeSort (le := fun x y : Int => decide (x ≤ y)) (fun a b c h1 h2 => by simp at *; omega) (fun a b => by simp; omega) l
  exact this.imp (fun h => by simpa using h)
theorem sortI_strict {l : List Int} (h : l.Nodup) : (sortI l).Pairwise (· < ·) := by
  have h1 := sortI_sorted l
  have h2 : (sortI l).Nodup := (sortI_perm l).nodup_iff.2 h
  exact List.Pairwise.imp₂ (fun a b (h3 : a ≤ b) (h4 : a ≠ b) => by omega) h1 h2
/-- what greedy keeps -/
structure InvA (n fan t0 : Nat) (s : List Rung) (st : List S51) : Prop where
  steps : PlanFrom n fan 0 st []
  perm : (flat st ++ s.map (·.1)).Perm (nums (n + st.length))
  last : st ≠ [] → ((n + st.length - 1 : Nat) : Int) ∈ s.map (·.1)
  lens : ∀ i (h : i < st.length), st[i].f0.length = if i = 0 then t0 else fan
theorem invA_step {n fan t0 : Nat} (hf : 2 ≤ fan) (t q : Nat) (s : List Rung) (st : List S51) (h : InvA n fan t0 s st) (hl : s.length = t + q * (fan - 1)) (h2 : 2 ≤ t) (hfa : t ≤ fan) (ht : (t = t0 ∧ st = []) ∨ (t = fan ∧ st ≠ [])) :
    InvA n fan t0 (nextS n t s st) (nextT n t s st) := by
  have hnd : (flat st ++ s.map (·.1)).Nodup := h.perm.nodup_iff.2 (nums_nodup _)
  have hsn : (s.map (·.1)).Nodup := (List.nodup_append.1 hnd).2.1
  have htk : ((s.take t).map (·.1)).Nodup := by rw [List.map_take]; exact hsn.sublist (List.take_sublist _ _)
  have hsplit : s.map (·.1) = (s.take t).map (·.1) ++ (s.drop t).map (·.1) := by rw [← List.map_append, List.take_append_drop]
  have hp := sortI_perm ((s.take t).map (·.1))
  have hlen : (sortI ((s.take t).map (·.1))).length = t := by rw [hp.length_eq, List.length_map, List.length_take]; omega
  have hmem : ∀ x ∈ sortI ((s.take t).map (·.1)), x ∈ s.map (·.1) := fun x hx => by
    rw [hsplit]; exact List.mem_append_left _ (hp.mem_iff.1 hx)
  have hrange : ∀ x ∈ s.map (·.1), 0 ≤ x ∧ x < ((n + st.length : Nat) : Int) := fun x hx => nums_mem.1 (h.perm.mem_iff.1 (List.mem_append_right _ hx))
  refine ⟨?_, ?_, ?_, ?_⟩
  · rw [planFrom_append]
    refine ⟨h.steps, ?_, ?_, ?_, ?_, trivial⟩
    · refine ⟨by simp only; omega, by simp only; omega, by simp only; omega, fun h1 => by simp only at h1; omega⟩
    · exact fun x hx => hrange x (hmem x hx)
    · exact sortI_strict htk
    · intro x hx hx2
      rw [List.nil_append] at hx2
      exact (List.nodup_append.1 hnd).2.2 x hx2 x (hmem x hx) rfl
  · rw [flat_append, List.length_append, List.length_singleton, ← Nat.add_assoc, nums_succ]
    have e1 : ((nextS n t s st).map (·.1)).Perm (((n + st.length : Nat) : Int) :: (s.drop t).map (·.1)) := (insR_perm _ _).map _
    have e2 : flat [(⟨sortI ((s.take t).map (·.1)), ((n + st.length : Nat) : Int)⟩ : S51)] = sortI ((s.take t).map (·.1)) := by simp [flat]
    rw [e2]
    refine ((hp.append_left _).append e1).trans ?_
    refine List.Perm.trans ?_ (h.perm.append_right _)
    rw [hsplit, List.append_assoc, List.append_assoc, List.append_assoc]
    refine List.Perm.append_left _ (List.Perm.append_left _ ?_)
    exact (List.perm_append_singleton _ _).symm
  · intro _
    have e1 : ((nextS n t s st).map (·.1)).Perm (((n + st.length : Nat) : Int) :: (s.drop t).map (·.1)) := (insR_perm _ _).map _
    rw [e1.mem_iff]
    simp
  · intro i hi
    rw [List.length_append, List.length_singleton] at hi
    by_cases e : i < st.length
    · rw [List.getElem_append_left e]; exact h.lens i e
    · rw [List.getElem_append_right (by omega)]
      simp only [List.getElem_singleton]
      rw [hlen]
      rcases ht with ⟨rfl, rfl⟩ | ⟨rfl, hne⟩
      · simp at hi; rw [if_pos hi]
      · have := List.length_pos_iff.2 hne; rw [if_neg (by omega)]
theorem rungs_fst : ∀ (l : List Int) (i : Nat), (rungs i l).map (·.1) = (List.range' i l.length).map fun i : Nat => (i : Int)
  | [], i => rfl
  | w :: l, i => by rw [rungs, List.map_cons, rungs_fst l (i + 1), List.length_cons, List.range'_succ]; rfl
theorem invA_start (l : List Int) (fan t0 : Nat) : InvA l.length fan t0 (sortR (rungs 0 l)) [] := by
  refine ⟨trivial, ?_, fun h => absurd rfl h, fun i h => by simp at h⟩
  rw [show flat [] = [] from rfl, List.nil_append, List.length_nil, Nat.add_zero]
  refine ((sortR_perm _).map _).trans ?_
  rw [rungs_fst]
  unfold nums
  rw [List.range_eq_range']
/-- the first step's length, and how many more there are -/
def takeOf (n fan : Nat) : Nat := if n = 1 then 1 else 2 + (n - 2) % (fan - 1)
def moreOf (n fan : Nat) : Nat := if n = 1 then 0 else (n - 2) / (fan - 1)
theorem take_more {n fan : Nat} (hf : 2 ≤ fan) (hn : 1 ≤ n) : n = takeOf n fan + moreOf n fan * (fan - 1) ∧ 1 ≤ takeOf n fan ∧ takeOf n fan ≤ fan ∧ (2 ≤ n → 2 ≤ takeOf n fan) := by
  unfold takeOf moreOf
  by_cases h : n = 1
  · subst h; simp; omega
  · rw [if_neg h, if_neg h]
    have h1 := Nat.div_add_mod (n - 2) (fan - 1)
    have h2 := Nat.mod_lt (n - 2) (show fan - 1 > 0 by omega)
    rw [Nat.mul_comm] at h1
    exact ⟨by omega, by omega, by omega, fun _ => by omega⟩
/-- the greedy run of more than one -/
theorem gSteps_ind {l : List Int} {fan : Nat} (hf : 2 ≤ fan) (hn : 2 ≤ l.length) (I : List Rung → List S51 → Prop)
    (step : ∀ (t q : Nat) (s : List Rung) (st : List S51), I s st → s.length = t + q * (fan - 1) → 2 ≤ t → t ≤ fan → ((t = takeOf l.length fan ∧ st = []) ∨ (t = fan ∧ st ≠ [])) → I (nextS l.length t s st) (nextT l.length t s st))
    (start : I (sortR (rungs 0 l)) []) : ∃ x, I [x] (gSteps l fan) ∧ (gSteps l fan).length = moreOf l.length fan + 1 := by
  obtain ⟨h1, h2, h3, h4⟩ := take_more hf (show 1 ≤ l.length by omega)
  have e : gSteps l fan = greedy l.length fan l.length (takeOf l.length fan) (sortR (rungs 0 l)) [] := by
    unfold gSteps takeOf
    rw [if_neg (by omega), if_neg (by omega)]
  rw [e]
  have hq : moreOf l.length fan ≤ moreOf l.length fan * (fan - 1) := Nat.le_mul_of_pos_right _ (by omega)
  obtain ⟨x, h5, h6⟩ := greedy_ind hf I step (moreOf l.length fan) l.length (takeOf l.length fan) (sortR (rungs 0 l)) [] (by omega) (by rw [sortR_length, rungs_length]; exact h1) (h4 hn) h3 (.inl ⟨rfl, rfl⟩) start
  exact ⟨x, h5, by rw [h6]; simp⟩
theorem gSteps_length {l : List Int} {fan : Nat} (hf : 2 ≤ fan) (hn : 1 ≤ l.length) : (gSteps l fan).length = moreOf l.length fan + 1 := by
  by_cases h : l.length = 1
  · unfold gSteps moreOf; rw [if_pos h, if_pos h]; rfl
  · obtain ⟨x, _, h2⟩ := gSteps_ind hf (show 2 ≤ l.length by omega) (fun _ _ => True) (fun _ _ _ _ _ _ _ _ _ => trivial) trivial
    exact h2
theorem gSteps_lens {l : List Int} {fan : Nat} (hf : 2 ≤ fan) (hn : 1 ≤ l.length) (i : Nat) (h : i < (gSteps l fan).length) : (gSteps l fan)[i].f0.length = if i = 0 then takeOf l.length fan else fan := by
  by_cases h1 : l.length = 1
  · have e : gSteps l fan = [⟨[0], 1⟩] := by unfold gSteps; rw [if_pos h1]
    simp only [e] at h ⊢
    have : i = 0 := by simpa using h
    subst this
    unfold takeOf
    simp [h1]
  · obtain ⟨x, h2, _⟩ := gSteps_ind hf (show 2 ≤ l.length by omega) (InvA l.length fan (takeOf l.length fan)) (fun t q s st => invA_step hf t q s st) (invA_start l fan _)
    exact h2.lens i h
theorem gSteps_plan {l : List Int} {fan : Nat} (hf : 2 ≤ fan) (hn : 1 ≤ l.length) : Plan l.length fan (gSteps l fan) := by
  have hlen := gSteps_length hf hn
  obtain ⟨t1, t2, t3, t4⟩ := take_more hf hn
  have hq : moreOf l.length fan ≤ moreOf l.length fan * (fan - 1) := Nat.le_mul_of_pos_right _ (by omega)
  by_cases h1 : l.length = 1
  · have e : gSteps l fan = [⟨[0], 1⟩] := by unfold gSteps; rw [if_pos h1]
    rw [e, h1]
    refine ⟨by simp, by simp, ⟨⟨rfl, by simp, by simp; omega, fun _ => Nat.le_refl _⟩, ?_, by simp, by simp, trivial⟩, ?_⟩
    · intro x hx; simp at hx; subst hx; exact ⟨Int.le_refl _, by decide⟩
    · intro j hj
      have : j = 0 := by simp at hj; omega
      subst this
      simp [flat]
  · obtain ⟨x, h2, _⟩ := gSteps_ind hf (show 2 ≤ l.length by omega) (InvA l.length fan (takeOf l.length fan)) (fun t q s st => invA_step hf t q s st) (invA_start l fan _)
    have t4 := t4 (by omega)
    refine ⟨by omega, by omega, h2.steps, ?_⟩
    intro j hj
    have hne : gSteps l fan ≠ [] := fun h => by rw [h] at hlen; simp at hlen
    have hx := h2.last hne
    simp only [List.map_cons, List.map_nil, List.mem_singleton] at hx
    have hm : (j : Int) ∈ flat (gSteps l fan) ++ [x].map (·.1) := h2.perm.mem_iff.2 (nums_mem.2 ⟨by omega, by omega⟩)
    rcases List.mem_append.1 hm with h | h
    · exact h
    · simp at h; omega
end Go.Proofs.Ytbgabijjnbmghaa.P
