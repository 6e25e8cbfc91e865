/- Plain law: what a plan is, and that plan.Check tells it. -/
import Derived.Test.YtbgabijjnbmghaaSpecB
namespace Go.Proofs.Ytbgabijjnbmghaa.P
open Go.RowKit Go.Proofs.YtbgabijjnbmghaaW.PrintWords Go.Proofs.YtbgabijjnbmghaaW.PrintLast Go.Proofs.YtbgabijjnbmghaaW.PrintMore
set_option linter.unusedVariables false
set_option linter.unusedSimpArgs false

def flat (l : List S51) : List Int := l.flatMap (·.f0)
theorem flat_cons (st : S51) (l : List S51) : flat (st :: l) = st.f0 ++ flat l := rfl
theorem flat_append (a b : List S51) : flat (a ++ b) = flat a ++ flat b := by simp [flat]
/-- the steps from number s on are those of a plan, xs being merged already -/
def PlanFrom (n fan : Nat) : Nat → List S51 → List Int → Prop
  | _, [], _ => True
  | s, st :: r, xs => formOk n fan s st ∧ (∀ x ∈ st.f0, 0 ≤ x ∧ x < st.f1) ∧ st.f0.Pairwise (· < ·) ∧ (∀ x ∈ st.f0, x ∉ xs) ∧ PlanFrom n fan (s + 1) r (xs ++ st.f0)
structure Plan (n fan : Nat) (l : List S51) : Prop where
  some : 1 ≤ l.length
  few : l.length ≤ n
  steps : PlanFrom n fan 0 l []
  all : ∀ j : Nat, j + 1 < n + l.length → (j : Int) ∈ flat l

/-! ### marks -/
def Marked (m : List Bool) (xs : List Int) : Prop := ∀ j : Nat, m.getD j false = true ↔ (j : Int) ∈ xs
theorem marked_none (k : Nat) : Marked (List.replicate k false) [] := by
  intro j
  rw [List.getD_eq_getElem?_getD, List.getElem?_replicate]
  split <;> simp
theorem marked_set {m : List Bool} {xs : List Int} (h : Marked m xs) {x : Int} (h0 : 0 ≤ x) (hl : x < m.length) : Marked (m.set x.toNat true) (xs ++ [x]) := by
  intro j
  rw [List.getD_eq_getElem?_getD, List.getElem?_set]
  have := h j
  rw [List.getD_eq_getElem?_getD] at this
  by_cases e : x.toNat = j
  · rw [if_pos e, if_pos (by omega)]
    simp only [List.mem_append, List.mem_singleton]
    constructor
    · intro _; right; omega
    · intro _; rfl
  · rw [if_neg e, this]
    simp only [List.mem_append, List.mem_singleton]
    constructor
    · exact Or.inl
    · rintro (h | h)
      · exact h
      · omega
theorem marked_false {m : List Bool} {xs : List Int} (h : Marked m xs) {x : Int} (h0 : 0 ≤ x) : m.getD x.toNat false = false ↔ x ∉ xs := by
  have := h x.toNat
  rw [Int.toNat_of_nonneg h0] at this
  cases hb : m.getD x.toNat false with
  | false => rw [hb] at this; simpa using this
  | true => rw [hb] at this; simp at this; simpa using this
theorem shapeRun_length (out : Int) : ∀ (l : List Int) (p : Option Int) (m : List Bool), (shapeRun out p l m).2.length = m.length
  | [], p, m => rfl
  | x :: r, p, m => by
    rw [shapeRun]
    split
    · rw [shapeRun_length out r, List.length_set]
    · rfl
theorem shapeRun_iff (out : Int) : ∀ (l : List Int) (p : Option Int) (m : List Bool) (xs : List Int), Marked m xs → out ≤ m.length →
    ((shapeRun out p l m).1 = true ↔ ((∀ x ∈ l, 0 ≤ x ∧ x < out) ∧ l.Pairwise (· < ·) ∧ (∀ y, p = some y → ∀ x ∈ l, y < x) ∧ ∀ x ∈ l, x ∉ xs)) ∧ ((shapeRun out p l m).1 = true → Marked (shapeRun out p l m).2 (xs ++ l))
  | [], p, m, xs, hm, ho => by
    rw [shapeRun]
    exact ⟨by simp, fun _ => by simpa using hm⟩
  | x :: r, p, m, xs, hm, ho => by
    rw [shapeRun]
    split
    · rename_i c
      obtain ⟨c1, c2, c3, c4⟩ := c
      have hx := (marked_false hm c1).1 c4
      obtain ⟨e, k⟩ := shapeRun_iff out r (some x) (m.set x.toNat true) (xs ++ [x]) (marked_set hm c1 (by omega)) (by rw [List.length_set]; exact ho)
      refine ⟨?_, fun h => ?_⟩
      · rw [e]
        constructor
        · rintro ⟨a1, a2, a3, a4⟩
          refine ⟨?_, ?_, ?_, ?_⟩
          · intro y hy
            rcases List.mem_cons.1 hy with rfl | hy
            · exact ⟨c1, c2⟩
            · exact a1 y hy
          · exact List.Pairwise.cons (fun y hy => a3 x rfl y hy) a2
          · intro z hz y hy
            have hzx := c3 z hz
            rcases List.mem_cons.1 hy with rfl | hy
            · exact hzx
            · have := a3 x rfl y hy; omega
          · intro y hy
            rcases List.mem_cons.1 hy with rfl | hy
            · exact hx
            · exact fun h => a4 y hy (List.mem_append_left _ h)
        · rintro ⟨a1, a2, a3, a4⟩
          have a2' := List.pairwise_cons.1 a2
          refine ⟨fun y hy => a1 y (List.mem_cons_of_mem _ hy), a2'.2, ?_, ?_⟩
          · intro z hz y hy; cases hz; exact a2'.1 y hy
          · intro y hy h
            rcases List.mem_append.1 h with h | h
            · exact a4 y (List.mem_cons_of_mem _ hy) h
            · have := a2'.1 y hy
              simp at h
              omega
      · have := k h
        rwa [List.append_assoc] at this
    · rename_i c
      refine ⟨⟨fun h => by simp at h, fun h => ?_⟩, fun h => by simp at h⟩
      refine absurd ⟨(h.1 x (List.mem_cons_self ..)).1, (h.1 x (List.mem_cons_self ..)).2, fun y hy => h.2.2.1 y hy x (List.mem_cons_self ..), ?_⟩ c
      exact (marked_false hm (h.1 x (List.mem_cons_self ..)).1).2 (h.2.2.2 x (List.mem_cons_self ..))
def stepsRun (n fan : Nat) : Nat → List S51 → List Bool → Option (List Bool)
  | _, [], m => Option.some m
  | s, st :: r, m => if formOk n fan s st ∧ (shapeRun st.f1 none st.f0 m).1 = true then stepsRun n fan (s + 1) r (shapeRun st.f1 none st.f0 m).2 else none
theorem stepsRun_iff (n fan : Nat) : ∀ (l : List S51) (s : Nat) (m : List Bool) (xs : List Int), Marked m xs → n + s + l.length ≤ m.length →
    (PlanFrom n fan s l xs → ∃ m', stepsRun n fan s l m = Option.some m' ∧ Marked m' (xs ++ flat l) ∧ m'.length = m.length) ∧ (¬ PlanFrom n fan s l xs → stepsRun n fan s l m = none)
  | [], s, m, xs, hm, hl => ⟨fun _ => ⟨m, rfl, by simpa [flat] using hm, rfl⟩, fun h => absurd trivial h⟩
  | st :: r, s, m, xs, hm, hl => by
    rw [List.length_cons] at hl
    rw [stepsRun]
    by_cases hf : formOk n fan s st
    · have ho : st.f1 ≤ m.length := by have := hf.1; omega
      obtain ⟨e, k⟩ := shapeRun_iff st.f1 st.f0 none m xs hm ho
      by_cases hr : (shapeRun st.f1 none st.f0 m).1 = true
      · rw [if_pos ⟨hf, hr⟩]
        obtain ⟨a1, a2, _, a4⟩ := e.1 hr
        obtain ⟨i1, i2⟩ := stepsRun_iff n fan r (s + 1) _ (xs ++ st.f0) (k hr) (by rw [shapeRun_length]; omega)
        refine ⟨fun h => ?_, fun h => i2 (fun h2 => h ⟨hf, a1, a2, a4, h2⟩)⟩
        obtain ⟨m', g1, g2, g3⟩ := i1 h.2.2.2.2
        exact ⟨m', g1, by rw [flat_cons, ← List.append_assoc]; exact g2, by rw [g3, shapeRun_length]⟩
      · rw [if_neg (fun h => hr h.2)]
        exact ⟨fun h => absurd (e.2 ⟨h.2.1, h.2.2.1, (fun y hy => by cases hy), h.2.2.2.1⟩) hr, fun _ => rfl⟩
    · rw [if_neg (fun h => hf h.1)]
      exact ⟨fun h => absurd h.1 hf, fun _ => rfl⟩

/-! ### the walk's loops -/
theorem index_l0 (l : List Bool) (hl : l.length ≤ 1073741824) : ∀ (d i : Nat), l.length - i = d → i ≤ l.length → ∃ r : Int, Ev (fun k => slices_Index_bool_bool.l0 k l false l.length (i : Int)) r ∧ (r ≥ 0 ↔ ∃ j, i ≤ j ∧ j < l.length ∧ l.getD j true = false)
  | 0, i, hd, hi => by
    have e : i = l.length := by omega
    subst e
    exact ⟨-1, Ev.step (f := fun _ => Option.some (-1)) (fun k => by rw [slices_Index_bool_bool.l0, if_neg (by omega)]) (Ev.now _), ⟨fun h => by omega, fun ⟨j, h1, h2, _⟩ => by omega⟩⟩
  | d + 1, i, hd, hi => by
    have hlt : i < l.length := by omega
    have hro : rdOf false l (i : Int) = l[i] := by unfold rdOf; rw [Int.toNat_natCast, List.getD_eq_getElem?_getD, List.getElem?_eq_getElem hlt]; rfl
    have hg : l.getD i true = l[i] := by rw [List.getD_eq_getElem?_getD, List.getElem?_eq_getElem hlt]; rfl
    cases hb : l[i] with
    | false =>
      refine ⟨i, Ev.step (f := fun _ => Option.some (i : Int)) (fun k => ?_) (Ev.now _), ⟨fun _ => ⟨i, Nat.le_refl _, hlt, by rw [hg, hb]⟩, fun _ => by omega⟩⟩
      rw [slices_Index_bool_bool.l0, if_pos (by omega), if_pos (by omega), if_pos (by omega), hro, hb, if_pos (by decide)]
    | true =>
      obtain ⟨r, h1, h2⟩ := index_l0 l hl d (i + 1) (by omega) (by omega)
      refine ⟨r, Ev.step (f := fun k => slices_Index_bool_bool.l0 k l false l.length ((i + 1 : Nat) : Int)) (fun k => ?_) h1, ?_⟩
      · rw [slices_Index_bool_bool.l0, if_pos (by omega), if_pos (by omega), if_pos (by omega), hro, hb, if_neg (by simp), w64 _ (by omega) (by omega)]; rfl
      · rw [h2]
        constructor
        · rintro ⟨j, a, b, c⟩; exact ⟨j, by omega, b, c⟩
        · rintro ⟨j, a, b, c⟩
          refine ⟨j, ?_, b, c⟩
          by_cases e : j = i
          · subst e; rw [hg, hb] at c; cases c
          · omega
theorem contains_ev (l : List Bool) (hl : l.length ≤ 1073741824) : Ev (fun k => slices_Contains_bool_bool.f k l false) (decide (∃ j, j < l.length ∧ l.getD j true = false)) := by
  obtain ⟨r, h1, h2⟩ := index_l0 l hl l.length 0 rfl (Nat.zero_le _)
  have e : decide (r ≥ 0) = decide (∃ j, j < l.length ∧ l.getD j true = false) := by
    apply decide_eq_decide.2
    rw [h2]
    exact ⟨fun ⟨j, _, a, b⟩ => ⟨j, a, b⟩, fun ⟨j, a, b⟩ => ⟨j, Nat.zero_le _, a, b⟩⟩
  rw [← e]
  exact Ev.bind (g := fun k => slices_Index_bool_bool.f k l false) (a := r) h1 (Ev.now _)
instance : DecidableEq S51 := fun a b => by
  cases a; cases b
  rename_i a0 a1 b0 b1
  exact decidable_of_iff (a0 = b0 ∧ a1 = b1) (by simp)

theorem rdT_getElem {l : List S51} {i : Nat} (h : i < l.length) : rd_T51 l (i : Int) = l[i] := by
  unfold rd_T51; rw [Int.toNat_natCast, List.getD_eq_getElem?_getD, List.getElem?_eq_getElem h]; rfl
open Classical in
/-- the answer at the end of the marks -/
noncomputable def tailV (m : List Bool) : Int := if (∃ j, j + 1 < m.length ∧ m.getD j true = false) then 101 else 0
theorem tailV_pos {m : List Bool} (h : ∃ j, j + 1 < m.length ∧ m.getD j true = false) : tailV m = 101 := by unfold tailV; exact if_pos h
theorem tailV_neg {m : List Bool} (h : ¬ ∃ j, j + 1 < m.length ∧ m.getD j true = false) : tailV m = 0 := by unfold tailV; exact if_neg h
theorem check_l0 (fan n : Nat) (steps : List S51) (hn : n ≤ 65536) (hs : steps.length ≤ 65536) (hf : fan ≤ 64) : ∀ (d s : Nat) (m : List Bool), steps.length - s = d → s ≤ steps.length → m.length = n + steps.length → 1 ≤ m.length →
    Ev (fun k => plan_Check.l0 k (fan : Int) (n : Int) m steps steps.length (s : Int)) (match stepsRun n fan s (steps.drop s) m with | Option.none => 101 | Option.some m' => tailV m')
  | 0, s, m, hd, hi, hm, h1 => by
    have e : s = steps.length := by omega
    subst e
    rw [List.drop_length, stepsRun]
    have hw : wrap64 ((m.length : Int) - 1) = ((m.length - 1 : Nat) : Int) := by rw [w64 _ (by omega) (by omega)]; omega
    refine Ev.step (f := fun k => (slices_Contains_bool_bool.f k (m.take (m.length - 1)) false).bind fun t140 => if t140 = true then Option.some 101 else Option.some 0) (fun k => ?_) ?_
    · rw [plan_Check.l0, if_neg (by omega), hw, if_pos (by omega), if_pos (by omega), Int.toNat_natCast]
    · refine Ev.bind (contains_ev _ (by rw [List.length_take]; omega)) ?_
      show Ev _ (tailV m)
      have e : (∃ j, j < (m.take (m.length - 1)).length ∧ (m.take (m.length - 1)).getD j true = false) ↔ ∃ j, j + 1 < m.length ∧ m.getD j true = false := by
        rw [List.length_take]
        constructor
        · rintro ⟨j, a, b⟩
          rw [List.getD_eq_getElem?_getD, List.getElem?_take_of_lt (by omega), ← List.getD_eq_getElem?_getD] at b
          exact ⟨j, by omega, b⟩
        · rintro ⟨j, a, b⟩
          refine ⟨j, by omega, ?_⟩
          rw [List.getD_eq_getElem?_getD, List.getElem?_take_of_lt (by omega), ← List.getD_eq_getElem?_getD]
          exact b
      by_cases h : ∃ j, j + 1 < m.length ∧ m.getD j true = false
      · rw [tailV_pos h, decide_eq_true (e.2 h)]; exact Ev.now _
      · rw [tailV_neg h, decide_eq_false (fun h2 => h (e.1 h2))]; exact Ev.now _
  | d + 1, s, m, hd, hi, hm, h1 => by
    have hlt : s < steps.length := by omega
    have hr := rdT_getElem hlt
    have hsh := shaped_ev steps[s] n fan s m hn (by omega) hf (by omega)
    rw [drop_cons hlt, stepsRun]
    have head : ∀ k, plan_Check.l0 (k + 1) (fan : Int) (n : Int) m steps steps.length (s : Int) = (plan_shaped.f k (steps[s]).f0 (steps[s]).f1 (s : Int) (n : Int) (fan : Int) m).bind fun bt => if bt.1 = true then plan_Check.l0 k (fan : Int) (n : Int) bt.2 steps steps.length ((s + 1 : Nat) : Int) else Option.some 101 := fun k => by
      rw [plan_Check.l0, if_pos (by omega), if_pos (by omega), if_pos (by omega), hr, w64 _ (by omega) (by omega)]; rfl
    by_cases hfm : formOk n fan s steps[s]
    · by_cases hb : (shapeRun (steps[s]).f1 none (steps[s]).f0 m).1 = true
      · rw [if_pos ⟨hfm, hb⟩]
        refine Ev.step head (Ev.bind (hsh.1 hfm) ?_)
        simp only [hb, if_true]
        exact check_l0 fan n steps hn hs hf d (s + 1) _ (by omega) (by omega) (by rw [shapeRun_length]; exact hm) (by rw [shapeRun_length]; exact h1)
      · rw [if_neg (fun h => hb h.2)]
        refine Ev.step head (Ev.bind (hsh.1 hfm) ?_)
        simp only [hb, if_false]
        exact Ev.now _
    · rw [if_neg (fun h => hfm h.1)]
      refine Ev.step head (Ev.bind (hsh.2 hfm) ?_)
      simp only [Bool.false_eq_true, if_false]
      exact Ev.now _
open Classical in
noncomputable def checkV (l : List Int) (fan : Int) (steps : List S51) : Int :=
  if givenV l fan = 0 then (if Plan l.length fan.toNat steps then 0 else 101) else givenV l fan
open Classical in
theorem check_ev (l : List Int) (fan : Int) (steps : List S51) : Ev (fun k => plan_Check.f k l fan steps) (checkV l fan steps) := by
  unfold checkV
  refine Ev.bind (plan_given_ev l fan) ?_
  by_cases hg : givenV l fan = 0
  · simp only [if_pos hg]
    obtain ⟨hf1, hf2, hn1, hn2, _⟩ := givenV_zero hg
    obtain ⟨F, rfl⟩ : ∃ F : Nat, fan = F := ⟨fan.toNat, by omega⟩
    rw [Int.toNat_natCast]
    by_cases h0 : steps.length = 0
    · rw [if_neg (fun h => by have := h.some; omega)]
      have e0 : (steps.length : Int) = 0 := by omega
      simp only [if_pos e0]
      exact Ev.step (f := fun _ => Option.some 101) (fun k => by rw [plan_Check.j0, if_pos rfl]) (Ev.now _)
    · have e0 : ¬ ((steps.length : Int) = 0) := by omega
      simp only [if_neg e0]
      by_cases h1 : steps.length > l.length
      · rw [if_neg (fun h => by have := h.few; omega)]
        exact Ev.step (f := fun _ => Option.some 101) (fun k => by rw [plan_Check.j0, if_pos (by simp; omega)]) (Ev.now _)
      · have hw : wrap64 ((l.length : Int) + (steps.length : Int)) = ((l.length + steps.length : Nat) : Int) := by rw [w64 _ (by omega) (by omega)]; omega
        refine Ev.step (f := fun k => plan_Check.l0 k (F : Int) (l.length : Int) (List.replicate (l.length + steps.length) false) steps steps.length ((0 : Nat) : Int)) (fun k => ?_) ?_
        · rw [plan_Check.j0, if_neg (by simp; omega), hw, if_pos (by omega), Int.toNat_natCast, if_pos (by omega)]; rfl
        · have hc := check_l0 F l.length steps hn2 (by omega) (by omega) steps.length 0 (List.replicate (l.length + steps.length) false) rfl (Nat.zero_le _) (by simp) (by simp; omega)
          rw [List.drop_zero] at hc
          obtain ⟨i1, i2⟩ := stepsRun_iff l.length F steps 0 (List.replicate (l.length + steps.length) false) [] (marked_none _) (by simp)
          by_cases hp : PlanFrom l.length F 0 steps []
          · obtain ⟨m', g1, g2, g3⟩ := i1 hp
            rw [g1] at hc
            simp only at hc
            rw [List.nil_append] at g2
            rw [List.length_replicate] at g3
            have e : tailV m' = if Plan l.length F steps then 0 else 101 := by
              by_cases ha : ∃ j, j + 1 < m'.length ∧ m'.getD j true = false
              · rw [tailV_pos ha, if_neg]
                intro hpl
                obtain ⟨j, a, b⟩ := ha
                have := (g2 j).2 (hpl.all j (by omega))
                rw [List.getD_eq_getElem?_getD, List.getElem?_eq_getElem (by omega)] at this b
                simp only [Option.getD_some] at this b
                rw [this] at b; cases b
              · rw [tailV_neg ha, if_pos]
                refine ⟨by omega, by omega, hp, fun j hj => (g2 j).1 ?_⟩
                have := fun h => ha ⟨j, by omega, h⟩
                rw [List.getD_eq_getElem?_getD, List.getElem?_eq_getElem (by omega)] at this ⊢
                simpa using this
            rw [← e]; exact hc
          · rw [i2 hp] at hc
            rw [if_neg (fun h => hp h.steps)]
            exact hc
  · simp only [if_neg hg]; exact Ev.now _
end Go.Proofs.Ytbgabijjnbmghaa.P
