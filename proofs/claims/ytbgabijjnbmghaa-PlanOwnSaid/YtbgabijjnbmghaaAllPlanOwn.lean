/- Proved: milllaw10.PlanOwn returns true, whatever comes in; its arguments read behind the call as before. Conditions: none. Several texts of this claim in one (the limit of files): YtbgabijjnbmghaaSpecA, YtbgabijjnbmghaaSpecB, YtbgabijjnbmghaaSpecC, YtbgabijjnbmghaaOrd, YtbgabijjnbmghaaGreedy, YtbgabijjnbmghaaSpecD, YtbgabijjnbmghaaSpecM, YtbgabijjnbmghaaOwnSame, YtbgabijjnbmghaaOwnFew, YtbgabijjnbmghaaOwnT, YtbgabijjnbmghaaOwnU, YtbgabijjnbmghaaPurePlanOwn, YtbgabijjnbmghaaLawPlanOwn. -/
import Derived.Test.YtbgabijjnbmghaaP3
import Derived.Test.YtbgabijjnbmghaaP12
import Derived.Test.YtbgabijjnbmghaaP7
import Derived.Test.YtbgabijjnbmghaaHeapC
import Derived.Test.YtbgabijjnbmghaaMakeA
import Derived.Test.YtbgabijjnbmghaaP2
import Derived.Test.YtbgabijjnbmghaaP10
import Derived.Test.YtbgabijjnbmghaaP21
import Derived.Test.YtbgabijjnbmghaaOwnB
import Derived.Test.YtbgabijjnbmghaaRows
import Derived.WalkKit
import Derived.ProofKit
import Derived.OpenShut
import Derived.ShutString
import Derived.ChangeOld
import Derived.Below
import Derived.SizedLaws
import Derived.Test.YtbgabijjnbmghaaWSized
/- Plain law: what given (of plan and of the reference) answers. -/
namespace Go.Proofs.Ytbgabijjnbmghaa.P
open Go.RowKit Go.Proofs.YtbgabijjnbmghaaW.PrintWords Go.Proofs.YtbgabijjnbmghaaW.PrintLast Go.Proofs.YtbgabijjnbmghaaW.PrintMore
set_option linter.unusedVariables false
set_option linter.unusedSimpArgs false

theorem w64 (x : Int) (h : -9223372036854775808 ≤ x) (h2 : x ≤ 9223372036854775807) : wrap64 x = x := by unfold wrap64; omega
def okW (x : Int) : Prop := 0 ≤ x ∧ x ≤ 1073741824
instance (x : Int) : Decidable (okW x) := by unfold okW; infer_instance
def givenV (l : List Int) (fan : Int) : Int :=
  if fan < 2 ∨ fan > 64 then 2 else if l.length < 1 ∨ l.length > 65536 then 100 else if ∀ x ∈ l, okW x then 0 else 100
theorem rd_getElem {l : List Int} {i : Nat} (h : i < l.length) : rd l (i : Int) = l[i] := by
  unfold rd; rw [Int.toNat_natCast, List.getD_eq_getElem?_getD, List.getElem?_eq_getElem h]; rfl
theorem drop_cons {α : Type} {l : List α} {i : Nat} (h : i < l.length) : l.drop i = l[i] :: l.drop (i + 1) := List.drop_eq_getElem_cons h
theorem plan_given_l0 (l : List Int) (hl : l.length ≤ 65536) : ∀ (d i : Nat), l.length - i = d → i ≤ l.length → Ev (fun k => plan_given.l0 k l l.length (i : Int)) (if ∀ x ∈ l.drop i, okW x then 0 else 100)
  | 0, i, hd, hi => by
    have e : i = l.length := by omega
    subst e
    refine Ev.step (f := fun _ => some 0) (fun k => ?_) ?_
    · rw [plan_given.l0, if_neg (by omega)]
    · rw [List.drop_length, if_pos (by simp)]; exact Ev.now _
  | d + 1, i, hd, hi => by
    have hlt : i < l.length := by omega
    have ih := plan_given_l0 l hl d (i + 1) (by omega) (by omega)
    have hr := rd_getElem hlt
    by_cases h1 : l[i] < 0
    · refine Ev.step (f := fun _ => some 100) (fun k => ?_) ?_
      · rw [plan_given.l0, if_pos (by omega), if_pos (by omega), if_pos (by omega), hr, if_pos h1]
      · rw [drop_cons hlt, if_neg (fun h => by have := (h _ (List.mem_cons_self ..)).1; omega)]; exact Ev.now _
    · by_cases h2 : l[i] > 1073741824
      · refine Ev.step (f := fun _ => some 100) (fun k => ?_) ?_
        · rw [plan_given.l0, if_pos (by omega), if_pos (by omega), if_pos (by omega), hr, if_neg h1, if_pos h2]
        · rw [drop_cons hlt, if_neg (fun h => by have := (h _ (List.mem_cons_self ..)).2; omega)]; exact Ev.now _
      · refine Ev.step (f := fun k => plan_given.l0 k l l.length ((i + 1 : Nat) : Int)) (fun k => ?_) ?_
        · rw [plan_given.l0, if_pos (by omega), if_pos (by omega), if_pos (by omega), hr, if_neg h1, if_neg h2, w64 _ (by omega) (by omega)]; rfl
        · rw [drop_cons hlt]
          have e : (∀ x ∈ l[i] :: l.drop (i + 1), okW x) ↔ ∀ x ∈ l.drop (i + 1), okW x := by
            constructor
            · exact fun h x hx => h x (List.mem_cons_of_mem _ hx)
            · intro h x hx
              rcases List.mem_cons.1 hx with rfl | hx
              · exact ⟨by omega, by omega⟩
              · exact h x hx
          simp only [e]
          exact ih
theorem plan_given_ev (l : List Int) (fan : Int) : Ev (fun k => plan_given.f k l fan) (givenV l fan) := by
  unfold givenV plan_given.f
  by_cases h1 : fan < 2
  · rw [if_pos (.inl h1)]
    simp only [if_pos h1]
    exact Ev.step (f := fun _ => some 2) (fun k => by rw [plan_given.j0, if_pos rfl]) (Ev.now _)
  · simp only [if_neg h1]
    by_cases h2 : fan > 64
    · rw [if_pos (.inr h2)]
      exact Ev.step (f := fun _ => some 2) (fun k => by rw [plan_given.j0, if_pos (by simpa using h2)]) (Ev.now _)
    · rw [if_neg (by omega)]
      have e2 : ¬ (decide (fan > 64) = true) := by simpa using h2
      by_cases h3 : l.length < 1
      · rw [if_pos (.inl h3)]
        refine Ev.step (f := fun k => plan_given.j1 k l true) (fun k => by rw [plan_given.j0, if_neg e2, if_pos (by omega)]) ?_
        exact Ev.step (f := fun _ => some 100) (fun k => by rw [plan_given.j1, if_pos rfl]) (Ev.now _)
      · refine Ev.step (f := fun k => plan_given.j1 k l (decide ((l.length : Int) > 65536))) (fun k => by rw [plan_given.j0, if_neg e2, if_neg (by omega)]) ?_
        by_cases h4 : l.length > 65536
        · rw [if_pos (.inr h4)]
          exact Ev.step (f := fun _ => some 100) (fun k => by rw [plan_given.j1, if_pos (by simp; omega)]) (Ev.now _)
        · rw [if_neg (by omega)]
          refine Ev.step (f := fun k => plan_given.l0 k l l.length ((0 : Nat) : Int)) (fun k => by rw [plan_given.j1, if_neg (by simp; omega)]; rfl) ?_
          exact plan_given_l0 l (by omega) l.length 0 rfl (Nat.zero_le _)

theorem ref_given_l0 (l : List Int) (hl : l.length ≤ 65536) : ∀ (d i : Nat), l.length - i = d → i ≤ l.length → Ev (fun k => millref10_Given.l0 k l (i : Int)) (if ∀ x ∈ l.drop i, okW x then 0 else 100)
  | 0, i, hd, hi => by
    have e : i = l.length := by omega
    subst e
    refine Ev.step (f := fun _ => some 0) (fun k => ?_) ?_
    · rw [millref10_Given.l0, if_neg (by omega)]
    · rw [List.drop_length, if_pos (by simp)]; exact Ev.now _
  | d + 1, i, hd, hi => by
    have hlt : i < l.length := by omega
    have ih := ref_given_l0 l hl d (i + 1) (by omega) (by omega)
    have hr := rd_getElem hlt
    by_cases h1 : l[i] < 0
    · refine Ev.step (f := fun _ => some 100) (fun k => ?_) ?_
      · rw [millref10_Given.l0, if_pos (by omega), if_pos (by omega), hr, if_pos h1]
      · rw [drop_cons hlt, if_neg (fun h => by have := (h _ (List.mem_cons_self ..)).1; omega)]; exact Ev.now _
    · by_cases h2 : l[i] > 1073741824
      · refine Ev.step (f := fun _ => some 100) (fun k => ?_) ?_
        · rw [millref10_Given.l0, if_pos (by omega), if_pos (by omega), hr, if_neg h1, if_pos h2]
        · rw [drop_cons hlt, if_neg (fun h => by have := (h _ (List.mem_cons_self ..)).2; omega)]; exact Ev.now _
      · refine Ev.step (f := fun k => millref10_Given.l0 k l ((i + 1 : Nat) : Int)) (fun k => ?_) ?_
        · rw [millref10_Given.l0, if_pos (by omega), if_pos (by omega), hr, if_neg h1, if_neg h2, w64 _ (by omega) (by omega)]; rfl
        · rw [drop_cons hlt]
          have e : (∀ x ∈ l[i] :: l.drop (i + 1), okW x) ↔ ∀ x ∈ l.drop (i + 1), okW x := by
            constructor
            · exact fun h x hx => h x (List.mem_cons_of_mem _ hx)
            · intro h x hx
              rcases List.mem_cons.1 hx with rfl | hx
              · exact ⟨by omega, by omega⟩
              · exact h x hx
          simp only [e]
          exact ih
theorem ref_given_ev (l : List Int) (fan : Int) : Ev (fun k => millref10_Given.f k l fan) (givenV l fan) := by
  unfold givenV millref10_Given.f
  by_cases h1 : fan < 2
  · rw [if_pos (.inl h1)]
    simp only [if_pos h1]
    exact Ev.step (f := fun _ => some 2) (fun k => by rw [millref10_Given.j0, if_pos rfl]) (Ev.now _)
  · simp only [if_neg h1]
    by_cases h2 : fan > 64
    · rw [if_pos (.inr h2)]
      exact Ev.step (f := fun _ => some 2) (fun k => by rw [millref10_Given.j0, if_pos (by simpa using h2)]) (Ev.now _)
    · rw [if_neg (by omega)]
      have e2 : ¬ (decide (fan > 64) = true) := by simpa using h2
      by_cases h3 : l.length < 1
      · rw [if_pos (.inl h3)]
        refine Ev.step (f := fun k => millref10_Given.j1 k l true) (fun k => by rw [millref10_Given.j0, if_neg e2, if_pos (by omega)]) ?_
        exact Ev.step (f := fun _ => some 100) (fun k => by rw [millref10_Given.j1, if_pos rfl]) (Ev.now _)
      · refine Ev.step (f := fun k => millref10_Given.j1 k l (decide ((l.length : Int) > 65536))) (fun k => by rw [millref10_Given.j0, if_neg e2, if_neg (by omega)]) ?_
        by_cases h4 : l.length > 65536
        · rw [if_pos (.inr h4)]
          exact Ev.step (f := fun _ => some 100) (fun k => by rw [millref10_Given.j1, if_pos (by simp; omega)]) (Ev.now _)
        · rw [if_neg (by omega)]
          refine Ev.step (f := fun k => millref10_Given.l0 k l ((0 : Nat) : Int)) (fun k => by rw [millref10_Given.j1, if_neg (by simp; omega)]; rfl) ?_
          exact ref_given_l0 l (by omega) l.length 0 rfl (Nat.zero_le _)
theorem givenV_zero {l : List Int} {fan : Int} (h : givenV l fan = 0) : 2 ≤ fan ∧ fan ≤ 64 ∧ 1 ≤ l.length ∧ l.length ≤ 65536 ∧ ∀ x ∈ l, okW x := by
  unfold givenV at h
  split at h
  · omega
  · split at h
    · omega
    · split at h
      · rename_i h1 h2 h3; exact ⟨by omega, by omega, by omega, by omega, h3⟩
      · omega
end Go.Proofs.Ytbgabijjnbmghaa.P
/- Plain law: what plan.Check answers. -/
namespace Go.Proofs.Ytbgabijjnbmghaa.P
open Go.RowKit Go.Proofs.YtbgabijjnbmghaaW.PrintWords Go.Proofs.YtbgabijjnbmghaaW.PrintLast Go.Proofs.YtbgabijjnbmghaaW.PrintMore
set_option linter.unusedVariables false
set_option linter.unusedSimpArgs false

/-- may x stand behind p? -/
def nextOk (p : Option Int) (x : Int) : Prop := ∀ y, p = some y → y < x
instance (p : Option Int) (x : Int) : Decidable (nextOk p x) := by
  unfold nextOk
  cases p with
  | none => exact isTrue (fun y h => by cases h)
  | some z => exact decidable_of_iff (z < x) ⟨fun h y e => by cases e; exact h, fun h => h z rfl⟩
/-- the marks of a step's runs, as plan does it -/
def shapeRun (out : Int) : Option Int → List Int → List Bool → Bool × List Bool
  | _, [], m => (true, m)
  | p, x :: r, m => if 0 ≤ x ∧ x < out ∧ nextOk p x ∧ m.getD x.toNat false = false then shapeRun out (some x) r (m.set x.toNat true) else (false, m)
def prevAt (l : List Int) (i : Nat) : Option Int := if i = 0 then none else l[i - 1]?
theorem shaped_l0 (ins : List Int) (out : Int) (hl : ins.length ≤ 65536) : ∀ (d i : Nat) (m : List Bool), ins.length - i = d → i ≤ ins.length → out ≤ m.length →
    Ev (fun k => plan_shaped.l0 k m ins ins.length (i : Int) ins out) (shapeRun out (prevAt ins i) (ins.drop i) m)
  | 0, i, m, hd, hi, ho => by
    have e : i = ins.length := by omega
    subst e
    refine Ev.step (f := fun _ => some (true, m)) (fun k => ?_) ?_
    · rw [plan_shaped.l0, if_neg (by omega)]
    · rw [List.drop_length]; exact Ev.now _
  | d + 1, i, m, hd, hi, ho => by
    have hlt : i < ins.length := by omega
    have ih := fun m' (h : out ≤ m'.length) => shaped_l0 ins out hl d (i + 1) m' (by omega) (by omega) h
    have hr := rd_getElem hlt
    have hpa : prevAt ins (i + 1) = some ins[i] := by simp [prevAt, hlt]
    rw [drop_cons hlt, shapeRun]
    by_cases h1 : ins[i] < 0
    · rw [if_neg (by omega)]
      exact Ev.step (f := fun _ => some (false, m)) (fun k => by rw [plan_shaped.l0, if_pos (by omega), if_pos (by omega), if_pos (by omega), hr, if_pos h1]) (Ev.now _)
    by_cases h2 : ins[i] ≥ out
    · rw [if_neg (by omega)]
      exact Ev.step (f := fun _ => some (false, m)) (fun k => by rw [plan_shaped.l0, if_pos (by omega), if_pos (by omega), if_pos (by omega), hr, if_neg h1, if_pos h2]) (Ev.now _)
    have hmk : ∀ (hn : nextOk (prevAt ins i) ins[i]) (hg : ∀ k (r : Option (Bool × List Bool)), (if 0 ≤ ins[i] then (if ins[i] < (m.length : Int) then (if rdOf false m ins[i] = true then some (false, m) else plan_shaped.l0 k (m.set (ins[i]).toNat true) ins ins.length (wrap64 ((i : Int) + 1)) ins out) else none) else none) = r → plan_shaped.l0 (k + 1) m ins ins.length (i : Int) ins out = r), Ev (fun k => plan_shaped.l0 k m ins ins.length (i : Int) ins out) (if 0 ≤ ins[i] ∧ ins[i] < out ∧ nextOk (prevAt ins i) ins[i] ∧ m.getD (ins[i]).toNat false = false then shapeRun out (some ins[i]) (ins.drop (i + 1)) (m.set (ins[i]).toNat true) else (false, m)) := by
      intro hn hg
      by_cases h3 : m.getD (ins[i]).toNat false = false
      · rw [if_pos ⟨by omega, by omega, hn, h3⟩]
        refine Ev.step (f := fun k => plan_shaped.l0 k (m.set (ins[i]).toNat true) ins ins.length ((i + 1 : Nat) : Int) ins out) (fun k => ?_) ?_
        · refine hg k _ ?_
          rw [if_pos (by omega), if_pos (by omega), if_neg (by unfold rdOf; rw [h3]; simp), w64 _ (by omega) (by omega)]; rfl
        · rw [← hpa]; exact ih _ (by rw [List.length_set]; exact ho)
      · rw [if_neg (fun h => h3 h.2.2.2)]
        refine Ev.step (f := fun _ => some (false, m)) (fun k => ?_) (Ev.now _)
        refine hg k _ ?_
        rw [if_pos (by omega), if_pos (by omega), if_pos (by unfold rdOf; simpa using h3)]
    by_cases hi0 : i = 0
    · subst hi0
      refine hmk (fun y h => by simp [prevAt] at h) (fun k r h => ?_)
      rw [plan_shaped.l0, if_pos (by omega), if_pos (by omega), if_pos (by omega), hr, if_neg h1, if_neg h2, if_neg (by omega)]
      exact h
    · have hlt2 : i - 1 < ins.length := by omega
      have hr2 : rd ins (wrap64 ((i : Int) - 1)) = ins[i - 1] := by
        rw [w64 _ (by omega) (by omega), show (i : Int) - 1 = ((i - 1 : Nat) : Int) by omega]; exact rd_getElem hlt2
      have hpi : prevAt ins i = some ins[i - 1] := by simp [prevAt, hi0, hlt2]
      by_cases h4 : ins[i] ≤ ins[i - 1]
      · rw [if_neg (fun h => by have := h.2.2.1 _ hpi; omega)]
        refine Ev.step (f := fun _ => some (false, m)) (fun k => ?_) (Ev.now _)
        rw [plan_shaped.l0, if_pos (by omega), if_pos (by omega), if_pos (by omega), hr, if_neg h1, if_neg h2, if_pos (by omega), if_pos (by rw [w64 _ (by omega) (by omega)]; omega), if_pos (by rw [w64 _ (by omega) (by omega)]; omega), hr2, if_pos h4]
      · refine hmk (fun y h => by rw [hpi] at h; cases h; omega) (fun k r h => ?_)
        rw [plan_shaped.l0, if_pos (by omega), if_pos (by omega), if_pos (by omega), hr, if_neg h1, if_neg h2, if_pos (by omega), if_pos (by rw [w64 _ (by omega) (by omega)]; omega), if_pos (by rw [w64 _ (by omega) (by omega)]; omega), hr2, if_neg h4]
        exact h
/-- is a step of the right form, but for its runs? -/
def formOk (n fan s : Nat) (st : S51) : Prop := st.f1 = (n : Int) + s ∧ 1 ≤ st.f0.length ∧ st.f0.length ≤ fan ∧ (st.f0.length = 1 → n ≤ 1)
instance (n fan s : Nat) (st : S51) : Decidable (formOk n fan s st) := by unfold formOk; infer_instance
theorem shaped_ev (st : S51) (n fan s : Nat) (m : List Bool) (hn : n ≤ 65536) (hs : s ≤ 65536) (hf : fan ≤ 64) (hm : n + s ≤ m.length) :
    (formOk n fan s st → Ev (fun k => plan_shaped.f k st.f0 st.f1 (s : Int) (n : Int) (fan : Int) m) (shapeRun st.f1 none st.f0 m)) ∧
    (¬ formOk n fan s st → Ev (fun k => plan_shaped.f k st.f0 st.f1 (s : Int) (n : Int) (fan : Int) m) (false, m)) := by
  have hw : wrap64 ((n : Int) + (s : Int)) = (n : Int) + s := w64 _ (by omega) (by omega)
  have bad : ∀ (g : Nat → Option (Bool × List Bool)), (∀ k, g k = plan_shaped.j0 k m true st.f0 st.f1) → Ev g (false, m) := fun g hg =>
    Ev.congr hg (Ev.step (f := fun _ => some (false, m)) (fun k => by rw [plan_shaped.j0, if_pos rfl]) (Ev.now _))
  refine ⟨fun h => ?_, fun h => ?_⟩
  · obtain ⟨h1, h2, h3, h4⟩ := h
    have good : ∀ (g : Nat → Option (Bool × List Bool)), (∀ k, g k = plan_shaped.j0 k m false st.f0 st.f1) → Ev g (shapeRun st.f1 none st.f0 m) := fun g hg => by
      refine Ev.congr hg (Ev.step (f := fun k => plan_shaped.l0 k m st.f0 st.f0.length ((0 : Nat) : Int) st.f0 st.f1) (fun k => by rw [plan_shaped.j0, if_neg (by simp)]; rfl) ?_)
      exact shaped_l0 st.f0 st.f1 (by omega) st.f0.length 0 m rfl (Nat.zero_le _) (by omega)
    refine good _ (fun k => ?_)
    rw [plan_shaped.f, if_pos (by rw [hw]; exact h1), if_neg (by omega), if_neg (by omega)]
    split
    · rw [decide_eq_false (by have := h4 (by omega); omega)]
    · rfl
  · refine bad _ (fun k => ?_)
    rw [plan_shaped.f]
    split
    · rename_i g1
      rw [hw] at g1
      split
      · rfl
      · split
        · rfl
        · split
          · rw [decide_eq_true]
            exact Classical.byContradiction fun hc => h ⟨g1, by omega, by omega, fun _ => by omega⟩
          · exact absurd ⟨g1, by omega, by omega, fun _ => by omega⟩ h
    · rfl
end Go.Proofs.Ytbgabijjnbmghaa.P
/- Plain law: what a plan is, and that plan.Check tells it. -/
namespace Go.Proofs.Ytbgabijjnbmghaa.P
open Go.RowKit Go.Proofs.YtbgabijjnbmghaaW.PrintWords Go.Proofs.YtbgabijjnbmghaaW.PrintLast Go.Proofs.YtbgabijjnbmghaaW.PrintMore
set_option linter.unusedVariables false
set_option linter.unusedSimpArgs false

def flat (l : List S51) : List Int := l.flatMap (·.f0)
theorem flat_cons (st : S51) (l : List S51) : flat (st :: l) = st.f0 ++ flat l := rfl
theorem flat_append (a b : List S51) : flat (a ++ b) = flat a ++ flat b := by simp [flat]
/-- the steps from number s on are those of a plan, xs being merged already -/
def PlanFrom (n fan : Nat) : Nat → List S51 → List Int → Prop
  | _, [], _ => True
  | s, st :: r, xs => formOk n fan s st ∧ (∀ x ∈ st.f0, 0 ≤ x ∧ x < st.f1) ∧ st.f0.Pairwise (· < ·) ∧ (∀ x ∈ st.f0, x ∉ xs) ∧ PlanFrom n fan (s + 1) r (xs ++ st.f0)
structure Plan (n fan : Nat) (l : List S51) : Prop where
  some : 1 ≤ l.length
  few : l.length ≤ n
  steps : PlanFrom n fan 0 l []
  all : ∀ j : Nat, j + 1 < n + l.length → (j : Int) ∈ flat l

/-! ### marks -/
def Marked (m : List Bool) (xs : List Int) : Prop := ∀ j : Nat, m.getD j false = true ↔ (j : Int) ∈ xs
theorem marked_none (k : Nat) : Marked (List.replicate k false) [] := by
  intro j
  rw [List.getD_eq_getElem?_getD, List.getElem?_replicate]
  split <;> simp
theorem marked_set {m : List Bool} {xs : List Int} (h : Marked m xs) {x : Int} (h0 : 0 ≤ x) (hl : x < m.length) : Marked (m.set x.toNat true) (xs ++ [x]) := by
  intro j
  rw [List.getD_eq_getElem?_getD, List.getElem?_set]
  have := h j
  rw [List.getD_eq_getElem?_getD] at this
  by_cases e : x.toNat = j
  · rw [if_pos e, if_pos (by omega)]
    simp only [List.mem_append, List.mem_singleton]
    constructor
    · intro _; right; omega
    · intro _; rfl
  · rw [if_neg e, this]
    simp only [List.mem_append, List.mem_singleton]
    constructor
    · exact Or.inl
    · rintro (h | h)
      · exact h
      · omega
theorem marked_false {m : List Bool} {xs : List Int} (h : Marked m xs) {x : Int} (h0 : 0 ≤ x) : m.getD x.toNat false = false ↔ x ∉ xs := by
  have := h x.toNat
  rw [Int.toNat_of_nonneg h0] at this
  cases hb : m.getD x.toNat false with
  | false => rw [hb] at this; simpa using this
  | true => rw [hb] at this; simp at this; simpa using this
theorem shapeRun_length (out : Int) : ∀ (l : List Int) (p : Option Int) (m : List Bool), (shapeRun out p l m).2.length = m.length
  | [], p, m => rfl
  | x :: r, p, m => by
    rw [shapeRun]
    split
    · rw [shapeRun_length out r, List.length_set]
    · rfl
theorem shapeRun_iff (out : Int) : ∀ (l : List Int) (p : Option Int) (m : List Bool) (xs : List Int), Marked m xs → out ≤ m.length →
    ((shapeRun out p l m).1 = true ↔ ((∀ x ∈ l, 0 ≤ x ∧ x < out) ∧ l.Pairwise (· < ·) ∧ (∀ y, p = some y → ∀ x ∈ l, y < x) ∧ ∀ x ∈ l, x ∉ xs)) ∧ ((shapeRun out p l m).1 = true → Marked (shapeRun out p l m).2 (xs ++ l))
  | [], p, m, xs, hm, ho => by
    rw [shapeRun]
    exact ⟨by simp, fun _ => by simpa using hm⟩
  | x :: r, p, m, xs, hm, ho => by
    rw [shapeRun]
    split
    · rename_i c
      obtain ⟨c1, c2, c3, c4⟩ := c
      have hx := (marked_false hm c1).1 c4
      obtain ⟨e, k⟩ := shapeRun_iff out r (some x) (m.set x.toNat true) (xs ++ [x]) (marked_set hm c1 (by omega)) (by rw [List.length_set]; exact ho)
      refine ⟨?_, fun h => ?_⟩
      · rw [e]
        constructor
        · rintro ⟨a1, a2, a3, a4⟩
          refine ⟨?_, ?_, ?_, ?_⟩
          · intro y hy
            rcases List.mem_cons.1 hy with rfl | hy
            · exact ⟨c1, c2⟩
            · exact a1 y hy
          · exact List.Pairwise.cons (fun y hy => a3 x rfl y hy) a2
          · intro z hz y hy
            have hzx := c3 z hz
            rcases List.mem_cons.1 hy with rfl | hy
            · exact hzx
            · have := a3 x rfl y hy; omega
          · intro y hy
            rcases List.mem_cons.1 hy with rfl | hy
            · exact hx
            · exact fun h => a4 y hy (List.mem_append_left _ h)
        · rintro ⟨a1, a2, a3, a4⟩
          have a2' := List.pairwise_cons.1 a2
          refine ⟨fun y hy => a1 y (List.mem_cons_of_mem _ hy), a2'.2, ?_, ?_⟩
          · intro z hz y hy; cases hz; exact a2'.1 y hy
          · intro y hy h
            rcases List.mem_append.1 h with h | h
            · exact a4 y (List.mem_cons_of_mem _ hy) h
            · have := a2'.1 y hy
              simp at h
              omega
      · have := k h
        rwa [List.append_assoc] at this
    · rename_i c
      refine ⟨⟨fun h => by simp at h, fun h => ?_⟩, fun h => by simp at h⟩
      refine absurd ⟨(h.1 x (List.mem_cons_self ..)).1, (h.1 x (List.mem_cons_self ..)).2, fun y hy => h.2.2.1 y hy x (List.mem_cons_self ..), ?_⟩ c
      exact (marked_false hm (h.1 x (List.mem_cons_self ..)).1).2 (h.2.2.2 x (List.mem_cons_self ..))
def stepsRun (n fan : Nat) : Nat → List S51 → List Bool → Option (List Bool)
  | _, [], m => Option.some m
  | s, st :: r, m => if formOk n fan s st ∧ (shapeRun st.f1 none st.f0 m).1 = true then stepsRun n fan (s + 1) r (shapeRun st.f1 none st.f0 m).2 else none
theorem stepsRun_iff (n fan : Nat) : ∀ (l : List S51) (s : Nat) (m : List Bool) (xs : List Int), Marked m xs → n + s + l.length ≤ m.length →
    (PlanFrom n fan s l xs → ∃ m', stepsRun n fan s l m = Option.some m' ∧ Marked m' (xs ++ flat l) ∧ m'.length = m.length) ∧ (¬ PlanFrom n fan s l xs → stepsRun n fan s l m = none)
  | [], s, m, xs, hm, hl => ⟨fun _ => ⟨m, rfl, by simpa [flat] using hm, rfl⟩, fun h => absurd trivial h⟩
  | st :: r, s, m, xs, hm, hl => by
    rw [List.length_cons] at hl
    rw [stepsRun]
    by_cases hf : formOk n fan s st
    · have ho : st.f1 ≤ m.length := by have := hf.1; omega
      obtain ⟨e, k⟩ := shapeRun_iff st.f1 st.f0 none m xs hm ho
      by_cases hr : (shapeRun st.f1 none st.f0 m).1 = true
      · rw [if_pos ⟨hf, hr⟩]
        obtain ⟨a1, a2, _, a4⟩ := e.1 hr
        obtain ⟨i1, i2⟩ := stepsRun_iff n fan r (s + 1) _ (xs ++ st.f0) (k hr) (by rw [shapeRun_length]; omega)
        refine ⟨fun h => ?_, fun h => i2 (fun h2 => h ⟨hf, a1, a2, a4, h2⟩)⟩
        obtain ⟨m', g1, g2, g3⟩ := i1 h.2.2.2.2
        exact ⟨m', g1, by rw [flat_cons, ← List.append_assoc]; exact g2, by rw [g3, shapeRun_length]⟩
      · rw [if_neg (fun h => hr h.2)]
        exact ⟨fun h => absurd (e.2 ⟨h.2.1, h.2.2.1, (fun y hy => by cases hy), h.2.2.2.1⟩) hr, fun _ => rfl⟩
    · rw [if_neg (fun h => hf h.1)]
      exact ⟨fun h => absurd h.1 hf, fun _ => rfl⟩

/-! ### the walk's loops -/
theorem index_l0 (l : List Bool) (hl : l.length ≤ 1073741824) : ∀ (d i : Nat), l.length - i = d → i ≤ l.length → ∃ r : Int, Ev (fun k => slices_Index_bool_bool.l0 k l false l.length (i : Int)) r ∧ (r ≥ 0 ↔ ∃ j, i ≤ j ∧ j < l.length ∧ l.getD j true = false)
  | 0, i, hd, hi => by
    have e : i = l.length := by omega
    subst e
    exact ⟨-1, Ev.step (f := fun _ => Option.some (-1)) (fun k => by rw [slices_Index_bool_bool.l0, if_neg (by omega)]) (Ev.now _), ⟨fun h => by omega, fun ⟨j, h1, h2, _⟩ => by omega⟩⟩
  | d + 1, i, hd, hi => by
    have hlt : i < l.length := by omega
    have hro : rdOf false l (i : Int) = l[i] := by unfold rdOf; rw [Int.toNat_natCast, List.getD_eq_getElem?_getD, List.getElem?_eq_getElem hlt]; rfl
    have hg : l.getD i true = l[i] := by rw [List.getD_eq_getElem?_getD, List.getElem?_eq_getElem hlt]; rfl
    cases hb : l[i] with
    | false =>
      refine ⟨i, Ev.step (f := fun _ => Option.some (i : Int)) (fun k => ?_) (Ev.now _), ⟨fun _ => ⟨i, Nat.le_refl _, hlt, by rw [hg, hb]⟩, fun _ => by omega⟩⟩
      rw [slices_Index_bool_bool.l0, if_pos (by omega), if_pos (by omega), if_pos (by omega), hro, hb, if_pos (by decide)]
    | true =>
      obtain ⟨r, h1, h2⟩ := index_l0 l hl d (i + 1) (by omega) (by omega)
      refine ⟨r, Ev.step (f := fun k => slices_Index_bool_bool.l0 k l false l.length ((i + 1 : Nat) : Int)) (fun k => ?_) h1, ?_⟩
      · rw [slices_Index_bool_bool.l0, if_pos (by omega), if_pos (by omega), if_pos (by omega), hro, hb, if_neg (by simp), w64 _ (by omega) (by omega)]; rfl
      · rw [h2]
        constructor
        · rintro ⟨j, a, b, c⟩; exact ⟨j, by omega, b, c⟩
        · rintro ⟨j, a, b, c⟩
          refine ⟨j, ?_, b, c⟩
          by_cases e : j = i
          · subst e; rw [hg, hb] at c; cases c
          · omega
theorem contains_ev (l : List Bool) (hl : l.length ≤ 1073741824) : Ev (fun k => slices_Contains_bool_bool.f k l false) (decide (∃ j, j < l.length ∧ l.getD j true = false)) := by
  obtain ⟨r, h1, h2⟩ := index_l0 l hl l.length 0 rfl (Nat.zero_le _)
  have e : decide (r ≥ 0) = decide (∃ j, j < l.length ∧ l.getD j true = false) := by
    apply decide_eq_decide.2
    rw [h2]
    exact ⟨fun ⟨j, _, a, b⟩ => ⟨j, a, b⟩, fun ⟨j, a, b⟩ => ⟨j, Nat.zero_le _, a, b⟩⟩
  rw [← e]
  exact Ev.bind (g := fun k => slices_Index_bool_bool.f k l false) (a := r) h1 (Ev.now _)
instance : DecidableEq S51 := fun a b => by
  cases a; cases b
  rename_i a0 a1 b0 b1
  exact decidable_of_iff (a0 = b0 ∧ a1 = b1) (by simp)

theorem rdT_getElem {l : List S51} {i : Nat} (h : i < l.length) : rd_T51 l (i : Int) = l[i] := by
  unfold rd_T51; rw [Int.toNat_natCast, List.getD_eq_getElem?_getD, List.getElem?_eq_getElem h]; rfl
open Classical in
/-- the answer at the end of the marks -/
noncomputable def tailV (m : List Bool) : Int := if (∃ j, j + 1 < m.length ∧ m.getD j true = false) then 101 else 0
theorem tailV_pos {m : List Bool} (h : ∃ j, j + 1 < m.length ∧ m.getD j true = false) : tailV m = 101 := by unfold tailV; exact if_pos h
theorem tailV_neg {m : List Bool} (h : ¬ ∃ j, j + 1 < m.length ∧ m.getD j true = false) : tailV m = 0 := by unfold tailV; exact if_neg h
theorem check_l0 (fan n : Nat) (steps : List S51) (hn : n ≤ 65536) (hs : steps.length ≤ 65536) (hf : fan ≤ 64) : ∀ (d s : Nat) (m : List Bool), steps.length - s = d → s ≤ steps.length → m.length = n + steps.length → 1 ≤ m.length →
    Ev (fun k => plan_Check.l0 k (fan : Int) (n : Int) m steps steps.length (s : Int)) (match stepsRun n fan s (steps.drop s) m with | Option.none => 101 | Option.some m' => tailV m')
  | 0, s, m, hd, hi, hm, h1 => by
    have e : s = steps.length := by omega
    subst e
    rw [List.drop_length, stepsRun]
    have hw : wrap64 ((m.length : Int) - 1) = ((m.length - 1 : Nat) : Int) := by rw [w64 _ (by omega) (by omega)]; omega
    refine Ev.step (f := fun k => (slices_Contains_bool_bool.f k (m.take (m.length - 1)) false).bind fun t140 => if t140 = true then Option.some 101 else Option.some 0) (fun k => ?_) ?_
    · rw [plan_Check.l0, if_neg (by omega), hw, if_pos (by omega), if_pos (by omega), Int.toNat_natCast]
    · refine Ev.bind (contains_ev _ (by rw [List.length_take]; omega)) ?_
      show Ev _ (tailV m)
      have e : (∃ j, j < (m.take (m.length - 1)).length ∧ (m.take (m.length - 1)).getD j true = false) ↔ ∃ j, j + 1 < m.length ∧ m.getD j true = false := by
        rw [List.length_take]
        constructor
        · rintro ⟨j, a, b⟩
          rw [List.getD_eq_getElem?_getD, List.getElem?_take_of_lt (by omega), ← List.getD_eq_getElem?_getD] at b
          exact ⟨j, by omega, b⟩
        · rintro ⟨j, a, b⟩
          refine ⟨j, by omega, ?_⟩
          rw [List.getD_eq_getElem?_getD, List.getElem?_take_of_lt (by omega), ← List.getD_eq_getElem?_getD]
          exact b
      by_cases h : ∃ j, j + 1 < m.length ∧ m.getD j true = false
      · rw [tailV_pos h, decide_eq_true (e.2 h)]; exact Ev.now _
      · rw [tailV_neg h, decide_eq_false (fun h2 => h (e.1 h2))]; exact Ev.now _
  | d + 1, s, m, hd, hi, hm, h1 => by
    have hlt : s < steps.length := by omega
    have hr := rdT_getElem hlt
    have hsh := shaped_ev steps[s] n fan s m hn (by omega) hf (by omega)
    rw [drop_cons hlt, stepsRun]
    have head : ∀ k, plan_Check.l0 (k + 1) (fan : Int) (n : Int) m steps steps.length (s : Int) = (plan_shaped.f k (steps[s]).f0 (steps[s]).f1 (s : Int) (n : Int) (fan : Int) m).bind fun bt => if bt.1 = true then plan_Check.l0 k (fan : Int) (n : Int) bt.2 steps steps.length ((s + 1 : Nat) : Int) else Option.some 101 := fun k => by
      rw [plan_Check.l0, if_pos (by omega), if_pos (by omega), if_pos (by omega), hr, w64 _ (by omega) (by omega)]; rfl
    by_cases hfm : formOk n fan s steps[s]
    · by_cases hb : (shapeRun (steps[s]).f1 none (steps[s]).f0 m).1 = true
      · rw [if_pos ⟨hfm, hb⟩]
        refine Ev.step head (Ev.bind (hsh.1 hfm) ?_)
        simp only [hb, if_true]
        exact check_l0 fan n steps hn hs hf d (s + 1) _ (by omega) (by omega) (by rw [shapeRun_length]; exact hm) (by rw [shapeRun_length]; exact h1)
      · rw [if_neg (fun h => hb h.2)]
        refine Ev.step head (Ev.bind (hsh.1 hfm) ?_)
        simp only [hb, if_false]
        exact Ev.now _
    · rw [if_neg (fun h => hfm h.1)]
      refine Ev.step head (Ev.bind (hsh.2 hfm) ?_)
      simp only [Bool.false_eq_true, if_false]
      exact Ev.now _
open Classical in
noncomputable def checkV (l : List Int) (fan : Int) (steps : List S51) : Int :=
  if givenV l fan = 0 then (if Plan l.length fan.toNat steps then 0 else 101) else givenV l fan
open Classical in
theorem check_ev (l : List Int) (fan : Int) (steps : List S51) : Ev (fun k => plan_Check.f k l fan steps) (checkV l fan steps) := by
  unfold checkV
  refine Ev.bind (plan_given_ev l fan) ?_
  by_cases hg : givenV l fan = 0
  · simp only [if_pos hg]
    obtain ⟨hf1, hf2, hn1, hn2, _⟩ := givenV_zero hg
    obtain ⟨F, rfl⟩ : ∃ F : Nat, fan = F := ⟨fan.toNat, by omega⟩
    rw [Int.toNat_natCast]
    by_cases h0 : steps.length = 0
    · rw [if_neg (fun h => by have := h.some; omega)]
      have e0 : (steps.length : Int) = 0 := by omega
      simp only [if_pos e0]
      exact Ev.step (f := fun _ => Option.some 101) (fun k => by rw [plan_Check.j0, if_pos rfl]) (Ev.now _)
    · have e0 : ¬ ((steps.length : Int) = 0) := by omega
      simp only [if_neg e0]
      by_cases h1 : steps.length > l.length
      · rw [if_neg (fun h => by have := h.few; omega)]
        exact Ev.step (f := fun _ => Option.some 101) (fun k => by rw [plan_Check.j0, if_pos (by simp; omega)]) (Ev.now _)
      · have hw : wrap64 ((l.length : Int) + (steps.length : Int)) = ((l.length + steps.length : Nat) : Int) := by rw [w64 _ (by omega) (by omega)]; omega
        refine Ev.step (f := fun k => plan_Check.l0 k (F : Int) (l.length : Int) (List.replicate (l.length + steps.length) false) steps steps.length ((0 : Nat) : Int)) (fun k => ?_) ?_
        · rw [plan_Check.j0, if_neg (by simp; omega), hw, if_pos (by omega), Int.toNat_natCast, if_pos (by omega)]; rfl
        · have hc := check_l0 F l.length steps hn2 (by omega) (by omega) steps.length 0 (List.replicate (l.length + steps.length) false) rfl (Nat.zero_le _) (by simp) (by simp; omega)
          rw [List.drop_zero] at hc
          obtain ⟨i1, i2⟩ := stepsRun_iff l.length F steps 0 (List.replicate (l.length + steps.length) false) [] (marked_none _) (by simp)
          by_cases hp : PlanFrom l.length F 0 steps []
          · obtain ⟨m', g1, g2, g3⟩ := i1 hp
            rw [g1] at hc
            simp only at hc
            rw [List.nil_append] at g2
            rw [List.length_replicate] at g3
            have e : tailV m' = if Plan l.length F steps then 0 else 101 := by
              by_cases ha : ∃ j, j + 1 < m'.length ∧ m'.getD j true = false
              · rw [tailV_pos ha, if_neg]
                intro hpl
                obtain ⟨j, a, b⟩ := ha
                have := (g2 j).2 (hpl.all j (by omega))
                rw [List.getD_eq_getElem?_getD, List.getElem?_eq_getElem (by omega)] at this b
                simp only [Option.getD_some] at this b
                rw [this] at b; cases b
              · rw [tailV_neg ha, if_pos]
                refine ⟨by omega, by omega, hp, fun j hj => (g2 j).1 ?_⟩
                have := fun h => ha ⟨j, by omega, h⟩
                rw [List.getD_eq_getElem?_getD, List.getElem?_eq_getElem (by omega)] at this ⊢
                simpa using this
            rw [← e]; exact hc
          · rw [i2 hp] at hc
            rw [if_neg (fun h => hp h.steps)]
            exact hc
  · simp only [if_neg hg]; exact Ev.now _
end Go.Proofs.Ytbgabijjnbmghaa.P
/- Plain law: the sift of container/heap over rungs makes a heap, and its pops come in order. -/
namespace Go.Proofs.Ytbgabijjnbmghaa
open Go.RowKit
set_option linter.unusedVariables false

/-- the order of rungs -/
def le (x y : Rung) : Prop := x.2 < y.2 ∨ (x.2 = y.2 ∧ x.1 ≤ y.1)
instance (x y : Rung) : Decidable (le x y) := by unfold le; infer_instance
theorem lessB_iff (x y : Rung) : lessB x y = true ↔ ¬ le y x := by
  unfold lessB le
  simp only [Bool.or_eq_true, Bool.and_eq_true, decide_eq_true_eq]
  omega
theorem lessB_false (x y : Rung) : lessB x y = false ↔ le y x := by
  have := lessB_iff x y
  cases h : lessB x y <;> simp [h] at this ⊢ <;> exact this
theorem le_refl (x : Rung) : le x x := by unfold le; omega
theorem le_total (x y : Rung) : le x y ∨ le y x := by unfold le; omega
theorem le_trans {x y z : Rung} (h : le x y) (k : le y z) : le x z := by unfold le at *; omega
theorem le_antisymm {x y : Rung} (h : le x y) (k : le y x) : x = y := by
  unfold le at *
  exact Prod.ext (by omega) (by omega)
theorem le_of_lessB {x y : Rung} (h : lessB x y = true) : le x y := by
  rcases le_total x y with k | k
  · exact k
  · exact absurd k ((lessB_iff x y).1 h)

/-! ### swaps -/
theorem at_swap {l : List Rung} {i j : Nat} (hi : i < l.length) (hj : j < l.length) (m : Nat) : at_ (swapAt l i j) m = if m = j then at_ l i else if m = i then at_ l j else at_ l m := by
  have h := swapAt_get hi hj m
  unfold at_ at *
  rw [List.getD_eq_getElem?_getD, h]
  split
  · rfl
  · split
    · rfl
    · rw [List.getD_eq_getElem?_getD]
theorem swapAt_perm {l : List Rung} {i j : Nat} (hi : i < l.length) (hj : j < l.length) : (swapAt l i j).Perm l := by
  have e1 : at_ l j = l[j] := by have := at_of_lt hj; rw [List.getElem?_eq_getElem hj] at this; exact (Option.some.inj this).symm
  have e2 : at_ l i = l[i] := by have := at_of_lt hi; rw [List.getElem?_eq_getElem hi] at this; exact (Option.some.inj this).symm
  unfold swapAt
  rw [e1, e2]
  exact List.set_set_perm hi hj

/-! ### down -/
/-- parents from s on come ahead of their children, below n -/
def HeapFrom (n s : Nat) (l : List Rung) : Prop := ∀ j, 0 < j → j < n → s ≤ (j - 1) / 2 → le (at_ l ((j - 1) / 2)) (at_ l j)
/-- .. but for i and its children, which stand behind i's parent -/
structure Hole (n s i : Nat) (l : List Rung) : Prop where
  rest : ∀ j, 0 < j → j < n → s ≤ (j - 1) / 2 → (j - 1) / 2 ≠ i → le (at_ l ((j - 1) / 2)) (at_ l j)
  over : 0 < i → s ≤ (i - 1) / 2 → ∀ j, 0 < j → j < n → (j - 1) / 2 = i → le (at_ l ((i - 1) / 2)) (at_ l j)
theorem hole_done {n s i : Nat} {l : List Rung} (h : Hole n s i l) (hc : ∀ j, 0 < j → j < n → (j - 1) / 2 = i → le (at_ l i) (at_ l j)) : HeapFrom n s l := by
  intro j h0 hj hs
  by_cases e : (j - 1) / 2 = i
  · have := hc j h0 hj e; rwa [← e] at this
  · exact h.rest j h0 hj hs e
theorem hole_next {n s i c : Nat} {l : List Rung} (h : Hole n s i l) (hn : n ≤ l.length) (hs : s ≤ i) (hcn : c < n) (hc0 : 0 < c) (hci : (c - 1) / 2 = i) (hmin : ∀ j, 0 < j → j < n → (j - 1) / 2 = i → le (at_ l c) (at_ l j)) (hlt : lessB (at_ l c) (at_ l i) = true) : Hole n s c (swapAt l i c) := by
  have hil : i < l.length := by omega
  have hcl : c < l.length := by omega
  have hic : i ≠ c := by omega
  refine ⟨?_, ?_⟩
  · intro j h0 hj hsj hne
    rw [at_swap hil hcl, at_swap hil hcl]
    rw [if_neg hne]
    by_cases e : (j - 1) / 2 = i
    · rw [if_pos e]
      by_cases ej : j = c
      · subst ej; rw [if_pos rfl]; exact le_of_lessB hlt
      · rw [if_neg ej, if_neg (by omega)]; exact hmin j h0 hj e
    · rw [if_neg e]
      by_cases ej : j = c
      · subst ej; omega
      · rw [if_neg ej]
        by_cases ei : j = i
        · subst ei
          rw [if_pos rfl]
          exact h.over h0 hsj c hc0 hcn hci
        · rw [if_neg ei]; exact h.rest j h0 hj hsj e
  · intro _ _ j h0 hj hjc
    rw [at_swap hil hcl, at_swap hil hcl]
    rw [if_neg (by omega), if_pos hci, if_neg (by omega), if_neg (by omega)]
    have := h.rest j h0 hj (by omega) (by omega)
    rwa [hjc] at this
theorem kids {i j : Nat} (h0 : 0 < j) (h : (j - 1) / 2 = i) : j = 2 * i + 1 ∨ j = 2 * i + 2 := by omega
theorem down_heap (n s : Nat) : ∀ (f : Nat) (l : List Rung) (i : Nat), n - i ≤ f → n ≤ l.length → s ≤ i → Hole n s i l → HeapFrom n s (downL n f l i)
  | 0, l, i, hf, hn, hs, h => hole_done h (fun j h0 hj e => by omega)
  | f + 1, l, i, hf, hn, hs, h => by
    unfold downL
    split
    · rename_i c1
      split
      · rename_i c2
        have hmin : ∀ j, 0 < j → j < n → (j - 1) / 2 = i → le (at_ l (2 * i + 2)) (at_ l j) := fun j h0 hj e => by
          rcases kids h0 e with rfl | rfl
          · exact le_of_lessB c2.2
          · exact le_refl _
        split
        · rename_i c3
          exact down_heap n s f _ _ (by omega) (by rw [swapAt_length]; exact hn) (by omega) (hole_next h hn hs c2.1 (by omega) (by omega) hmin c3)
        · rename_i c3
          have c3' : le (at_ l i) (at_ l (2 * i + 2)) := (lessB_false _ _).1 (by simpa using c3)
          exact hole_done h (fun j h0 hj e => le_trans c3' (hmin j h0 hj e))
      · rename_i c2
        have hmin : ∀ j, 0 < j → j < n → (j - 1) / 2 = i → le (at_ l (2 * i + 1)) (at_ l j) := fun j h0 hj e => by
          rcases kids h0 e with rfl | rfl
          · exact le_refl _
          · refine (lessB_false _ _).1 ?_
            cases hb : lessB (at_ l (2 * i + 2)) (at_ l (2 * i + 1)) with
            | false => rfl
            | true => exact absurd ⟨hj, hb⟩ c2
        split
        · rename_i c3
          exact down_heap n s f _ _ (by omega) (by rw [swapAt_length]; exact hn) (by omega) (hole_next h hn hs c1 (by omega) (by omega) hmin c3)
        · rename_i c3
          have c3' : le (at_ l i) (at_ l (2 * i + 1)) := (lessB_false _ _).1 (by simpa using c3)
          exact hole_done h (fun j h0 hj e => le_trans c3' (hmin j h0 hj e))
    · rename_i c1
      exact hole_done h (fun j h0 hj e => by rcases kids h0 e with rfl | rfl <;> omega)
theorem down_perm (n : Nat) : ∀ (f : Nat) (l : List Rung) (i : Nat), n ≤ l.length → (downL n f l i).Perm l
  | 0, l, i, hn => List.Perm.refl _
  | f + 1, l, i, hn => by
    unfold downL
    split
    · split
      · split
        · exact (down_perm n f _ _ (by rw [swapAt_length]; exact hn)).trans (swapAt_perm (by omega) (by omega))
        · exact List.Perm.refl _
      · split
        · exact (down_perm n f _ _ (by rw [swapAt_length]; exact hn)).trans (swapAt_perm (by omega) (by omega))
        · exact List.Perm.refl _
    · exact List.Perm.refl _
theorem down_far (n : Nat) : ∀ (f : Nat) (l : List Rung) (i m : Nat), n ≤ l.length → n ≤ m → at_ (downL n f l i) m = at_ l m
  | 0, l, i, m, hn, hm => rfl
  | f + 1, l, i, m, hn, hm => by
    unfold downL
    split
    · split
      · split
        · rw [down_far n f _ _ m (by rw [swapAt_length]; exact hn) hm, at_swap (by omega) (by omega), if_neg (by omega), if_neg (by omega)]
        · rfl
      · split
        · rw [down_far n f _ _ m (by rw [swapAt_length]; exact hn) hm, at_swap (by omega) (by omega), if_neg (by omega), if_neg (by omega)]
        · rfl
    · rfl

/-! ### up -/
structure Rise (n j : Nat) (l : List Rung) : Prop where
  rest : ∀ m, 0 < m → m < n → m ≠ j → le (at_ l ((m - 1) / 2)) (at_ l m)
  over : 0 < j → ∀ m, 0 < m → m < n → (m - 1) / 2 = j → le (at_ l ((j - 1) / 2)) (at_ l m)
theorem up_heap (n : Nat) : ∀ (f : Nat) (l : List Rung) (j : Nat), j ≤ f → n ≤ l.length → j < n → Rise n j l → HeapFrom n 0 (upL f l j)
  | 0, l, j, hf, hn, hj, h => fun m h0 hm _ => h.rest m h0 hm (by omega)
  | f + 1, l, j, hf, hn, hj, h => by
    unfold upL
    split
    · rename_i c1; exact fun m h0 hm _ => h.rest m h0 hm (by omega)
    · rename_i c1
      split
      · rename_i c2
        refine up_heap n f _ _ (by omega) (by rw [swapAt_length]; exact hn) (by omega) ?_
        have h1 : (j - 1) / 2 < l.length := by omega
        have h2 : j < l.length := by omega
        have hle := le_of_lessB c2
        refine ⟨?_, ?_⟩
        · intro m h0 hm hne
          rw [at_swap h1 h2, at_swap h1 h2]
          by_cases e1 : m = j
          · subst e1
            rw [if_neg (by omega), if_pos rfl, if_pos rfl]; exact hle
          · rw [if_neg e1, if_neg hne]
            by_cases e2 : (m - 1) / 2 = j
            · rw [if_pos e2]; exact h.over (by omega) m h0 hm e2
            · rw [if_neg e2]
              by_cases e3 : (m - 1) / 2 = (j - 1) / 2
              · rw [if_pos e3]
                have := h.rest m h0 hm e1
                rw [e3] at this
                exact le_trans hle this
              · rw [if_neg e3]; exact h.rest m h0 hm e1
        · intro hp0 m h0 hm e
          rw [at_swap h1 h2, at_swap h1 h2]
          rw [if_neg (by omega), if_neg (by omega)]
          have hp := h.rest ((j - 1) / 2) hp0 (by omega) (by omega)
          by_cases e1 : m = j
          · subst e1; rw [if_pos rfl]; exact hp
          · rw [if_neg e1, if_neg (by omega)]
            have := h.rest m h0 hm e1
            rw [e] at this
            exact le_trans hp this
      · rename_i c2
        intro m h0 hm _
        by_cases e : m = j
        · subst e; exact (lessB_false _ _).1 (by simpa using c2)
        · exact h.rest m h0 hm e
theorem up_perm : ∀ (f : Nat) (l : List Rung) (j : Nat), j < l.length → (upL f l j).Perm l
  | 0, l, j, hj => List.Perm.refl _
  | f + 1, l, j, hj => by
    unfold upL
    split
    · exact List.Perm.refl _
    · split
      · exact (up_perm f _ _ (by rw [swapAt_length]; omega)).trans (swapAt_perm (by omega) hj)
      · exact List.Perm.refl _

/-! ### the whole heap -/
def IsHeap (l : List Rung) : Prop := HeapFrom l.length 0 l
theorem init_heap (n : Nat) : ∀ (i : Nat) (l : List Rung), l.length = n → HeapFrom n i l → HeapFrom n 0 (initL n i l)
  | 0, l, hn, h => h
  | i + 1, l, hn, h => by
    rw [initL]
    refine init_heap n i _ (by rw [downL_length]; exact hn) ?_
    refine down_heap n i (n - i) l i (Nat.le_refl _) (by omega) (Nat.le_refl _) ⟨fun j h0 hj hs hne => h j h0 hj (by omega), fun h0 hs => by omega⟩
theorem init_perm (n : Nat) : ∀ (i : Nat) (l : List Rung), l.length = n → (initL n i l).Perm l
  | 0, l, hn => List.Perm.refl _
  | i + 1, l, hn => by
    rw [initL]
    exact (init_perm n i _ (by rw [downL_length]; exact hn)).trans (down_perm n _ l i (by omega))
theorem init_isHeap (l : List Rung) : IsHeap (initL l.length (l.length / 2) l) := by
  unfold IsHeap
  rw [initL_length]
  exact init_heap l.length _ l rfl (fun j h0 hj hs => by omega)
theorem heap_min {l : List Rung} (h : IsHeap l) : ∀ (j : Nat), j < l.length → le (at_ l 0) (at_ l j) := by
  intro j
  induction j using Nat.strongRecOn with
  | _ j ih =>
    intro hj
    by_cases e : j = 0
    · subst e; exact le_refl _
    · exact le_trans (ih ((j - 1) / 2) (by omega) (by omega)) (h j (by omega) hj (Nat.zero_le _))
theorem popL_last {l : List Rung} (h : l.length ≠ 0) : at_ (popL l) (l.length - 1) = at_ l 0 := by
  unfold popL
  rw [down_far _ _ _ _ _ (by rw [swapAt_length]; omega) (Nat.le_refl _), at_swap (by omega) (by omega), if_pos rfl]
theorem at_take {l : List Rung} {m j : Nat} (h : j < m) : at_ (l.take m) j = at_ l j := by
  unfold at_
  rw [List.getD_eq_getElem?_getD, List.getD_eq_getElem?_getD, List.getElem?_take_of_lt h]
theorem popL_heap {l : List Rung} (h : IsHeap l) (hl : l.length ≠ 0) : IsHeap ((popL l).take (l.length - 1)) := by
  have hp : HeapFrom (l.length - 1) 0 (popL l) := by
    refine down_heap (l.length - 1) 0 (l.length - 1) _ 0 (by omega) (by rw [swapAt_length]; omega) (Nat.le_refl _) ⟨?_, fun h0 => by omega⟩
    intro j h0 hj _ hne
    rw [at_swap (by omega) (by omega), at_swap (by omega) (by omega), if_neg (by omega), if_neg (by omega), if_neg (by omega), if_neg (by omega)]
    exact h j h0 (by omega) (Nat.zero_le _)
  intro j h0 hj _
  rw [List.length_take, popL_length] at hj
  rw [at_take (by omega), at_take (by omega)]
  exact hp j h0 (by omega) (Nat.zero_le _)
theorem popL_perm {l : List Rung} (hl : l.length ≠ 0) : (at_ l 0 :: (popL l).take (l.length - 1)).Perm l := by
  have h1 : (popL l).Perm l := (down_perm _ _ _ _ (by rw [swapAt_length]; omega)).trans (swapAt_perm (by omega) (by omega))
  have hlen := popL_length l
  have h2 : popL l = (popL l).take (l.length - 1) ++ [at_ l 0] := by
    have e := List.take_append_drop (l.length - 1) (popL l)
    have hd : (popL l).drop (l.length - 1) = [at_ l 0] := by
      rw [← popL_last hl]
      have hlt : l.length - 1 < (popL l).length := by omega
      rw [List.drop_eq_getElem_cons hlt, List.drop_of_length_le (by omega)]
      have := at_of_lt hlt
      rw [List.getElem?_eq_getElem hlt] at this
      rw [Option.some.inj this]
    rw [hd] at e
    exact e.symm
  rw [h2] at h1
  exact (List.perm_append_comm (l₁ := [at_ l 0]) (l₂ := (popL l).take (l.length - 1))).trans h1
theorem push_heap {l : List Rung} (h : IsHeap l) (x : Rung) : IsHeap (upL l.length (l ++ [x]) l.length) := by
  unfold IsHeap
  rw [upL_length]
  refine up_heap (l ++ [x]).length l.length _ l.length (Nat.le_refl _) (Nat.le_refl _) (by simp) ⟨?_, ?_⟩
  · intro m h0 hm hne
    have hm' : m < l.length := by simp at hm; omega
    have e : ∀ k, k < l.length → at_ (l ++ [x]) k = at_ l k := fun k hk => by
      unfold at_; rw [List.getD_eq_getElem?_getD, List.getD_eq_getElem?_getD, List.getElem?_append_left hk]
    rw [e _ hm', e _ (by omega)]
    exact h m h0 hm' (Nat.zero_le _)
  · intro h0 m hm0 hm e
    simp at hm; omega
theorem push_perm (l : List Rung) (x : Rung) : (upL l.length (l ++ [x]) l.length).Perm (x :: l) :=
  (up_perm _ _ _ (by simp)).trans List.perm_append_comm
end Go.Proofs.Ytbgabijjnbmghaa
/- Plain law: plan.Make's steps are those of the greedy rule on a sorted list of rungs. -/
namespace Go.Proofs.Ytbgabijjnbmghaa.P
open Go.RowKit Go.Proofs.Ytbgabijjnbmghaa
set_option linter.unusedVariables false

abbrev Sorted (s : List Rung) : Prop := s.Pairwise le
def insR (x : Rung) : List Rung → List Rung
  | [] => [x]
  | y :: l => if le x y then x :: y :: l else y :: insR x l
def sortR : List Rung → List Rung
  | [] => []
  | x :: l => insR x (sortR l)
def sumW (l : List Rung) : Int := (l.map (·.2)).sum
def greedy (n fan : Nat) : Nat → Nat → List Rung → List S51 → List S51
  | 0, _, _, st => st
  | f + 1, t, s, st =>
    if 1 < s.length then greedy n fan f fan (insR (((n + st.length : Nat) : Int), sumW (s.take t)) (s.drop t)) (st ++ [⟨sortI ((s.take t).map (·.1)), ((n + st.length : Nat) : Int)⟩])
    else st

theorem insR_perm (x : Rung) : ∀ (l : List Rung), (insR x l).Perm (x :: l)
  | [] => List.Perm.refl _
  | y :: l => by
    unfold insR
    split
    · exact List.Perm.refl _
    · exact ((insR_perm x l).cons y).trans (List.Perm.swap x y l)
theorem insR_length (x : Rung) (l : List Rung) : (insR x l).length = l.length + 1 := by rw [(insR_perm x l).length_eq]; rfl
theorem insR_sorted (x : Rung) : ∀ (l : List Rung), Sorted l → Sorted (insR x l)
  | [], h => List.pairwise_singleton _ _
  | y :: l, h => by
    unfold insR
    rw [Sorted, List.pairwise_cons] at h
    split
    · rename_i hxy
      refine List.Pairwise.cons ?_ (List.Pairwise.cons h.1 h.2)
      intro z hz
      rcases List.mem_cons.1 hz with rfl | hz
      · exact hxy
      · exact le_trans hxy (h.1 z hz)
    · rename_i hxy
      refine List.Pairwise.cons ?_ (insR_sorted x l h.2)
      intro z hz
      rcases List.mem_cons.1 ((insR_perm x l).mem_iff.1 hz) with rfl | hz
      · exact (le_total _ _).resolve_left hxy
      · exact h.1 z hz
theorem sortR_perm : ∀ (l : List Rung), (sortR l).Perm l
  | [] => List.Perm.refl _
  | x :: l => (insR_perm x _).trans ((sortR_perm l).cons x)
theorem sortR_sorted : ∀ (l : List Rung), Sorted (sortR l)
  | [] => List.Pairwise.nil
  | x :: l => insR_sorted x _ (sortR_sorted l)
theorem sortR_length (l : List Rung) : (sortR l).length = l.length := (sortR_perm l).length_eq
theorem sum_perm {a b : List Int} (h : a.Perm b) : a.sum = b.sum := by
  induction h with
  | nil => rfl
  | cons x _ ih => simp [ih]
  | swap x y l => simp; omega
  | trans _ _ ih1 ih2 => exact ih1.trans ih2
theorem sumW_perm {a b : List Rung} (h : a.Perm b) : sumW a = sumW b := sum_perm (h.map _)
theorem sumW_cons (x : Rung) (l : List Rung) : sumW (x :: l) = x.2 + sumW l := by simp [sumW]
theorem sumW_append (a b : List Rung) : sumW (a ++ b) = sumW a + sumW b := by simp [sumW]
theorem sumW_insR (x : Rung) (l : List Rung) : sumW (insR x l) = x.2 + sumW l := by rw [sumW_perm (insR_perm x l), sumW_cons]
theorem sumW_split (l : List Rung) (t : Nat) : sumW (l.take t) + sumW (l.drop t) = sumW l := by rw [← sumW_append, List.take_append_drop]
theorem sumW_nonneg : ∀ (l : List Rung), (∀ x ∈ l, 0 ≤ x.2) → 0 ≤ sumW l
  | [], h => by simp [sumW]
  | x :: l, h => by
    rw [sumW_cons]
    have h1 := h x (List.mem_cons_self ..)
    have h2 := sumW_nonneg l (fun y hy => h y (List.mem_cons_of_mem _ hy))
    omega
theorem wrap64_in (x : Int) (h : 0 ≤ x) (h2 : x ≤ 4611686018427387904) : wrap64 x = x := by unfold wrap64; omega

/-- the first of a sorted list is the heap's head -/
theorem head_eq {h s : List Rung} {x : Rung} (hh : IsHeap h) (hp : h.Perm (x :: s)) (hs : Sorted (x :: s)) : at_ h 0 = x := by
  have hl : 0 < h.length := by rw [hp.length_eq]; simp
  have h1 : at_ h 0 ∈ h := List.mem_of_getElem? (at_of_lt hl)
  have h2 : x ∈ h := hp.mem_iff.2 (List.mem_cons_self ..)
  obtain ⟨j, hj, rfl⟩ := List.getElem_of_mem h2
  have e : at_ h j = h[j] := by have := at_of_lt hj; rw [List.getElem?_eq_getElem hj] at this; exact (Option.some.inj this).symm
  have h3 := heap_min hh j hj
  rw [e] at h3
  refine le_antisymm h3 ?_
  rcases List.mem_cons.1 (hp.mem_iff.1 h1) with h4 | h4
  · rw [← h4]; exact le_refl _
  · exact (List.pairwise_cons.1 hs).1 _ h4
theorem popMany_spec : ∀ (t : Nat) (h s : List Rung) (ins : List Int) (sm : Int), IsHeap h → h.Perm s → Sorted s → t ≤ s.length → (∀ x ∈ s, 0 ≤ x.2) → 0 ≤ sm → sm + sumW s ≤ 4611686018427387904 →
    ∃ h', popMany t h ins sm = (h', ins ++ (s.take t).map (·.1), sm + sumW (s.take t)) ∧ IsHeap h' ∧ h'.Perm (s.drop t)
  | 0, h, s, ins, sm, hh, hp, hs, ht, hw, h0, hb => ⟨h, by simp [popMany, sumW], hh, by simpa using hp⟩
  | t + 1, h, [], ins, sm, hh, hp, hs, ht, hw, h0, hb => by simp at ht
  | t + 1, h, x :: s, ins, sm, hh, hp, hs, ht, hw, h0, hb => by
    have hl : h.length ≠ 0 := by rw [hp.length_eq]; simp
    have hx := head_eq hh hp hs
    have hlast := popL_last hl
    rw [hx] at hlast
    have hp' := popL_perm hl
    rw [hx] at hp'
    have hp2 : ((popL h).take (h.length - 1)).Perm s := (hp'.trans hp).cons_inv
    have hs' := List.pairwise_cons.1 hs
    have hx0 := hw x (List.mem_cons_self ..)
    have hs0 := sumW_nonneg s (fun y hy => hw y (List.mem_cons_of_mem _ hy))
    rw [sumW_cons] at hb
    obtain ⟨h', e, r1, r2⟩ := popMany_spec t ((popL h).take (h.length - 1)) s (ins ++ [x.1]) (sm + x.2) (popL_heap hh hl) hp2 hs'.2 (by simpa using ht) (fun y hy => hw y (List.mem_cons_of_mem _ hy)) (by omega) (by omega)
    refine ⟨h', ?_, r1, by simpa using r2⟩
    rw [popMany, hlast, wrap64_in _ (by omega) (by omega), e]
    simp [sumW_cons, Int.add_assoc]
/-- what holds of the numbers of runs and steps at a round's head, as in the walk -/
theorem runL_greedy (n fan : Nat) (hf : 2 ≤ fan) : ∀ (f t : Nat) (h s : List Rung) (st : List S51), IsHeap h → h.Perm s → Sorted s → (1 < s.length → 2 ≤ t ∧ ∃ q, s.length = t + q * (fan - 1)) → (∀ x ∈ s, 0 ≤ x.2) → sumW s ≤ 4611686018427387904 →
    runL n fan f t h st = greedy n fan f t s st
  | 0, t, h, s, st, hh, hp, hs, ht, hw, hb => rfl
  | f + 1, t, h, s, st, hh, hp, hs, ht, hw, hb => by
    have hlen := hp.length_eq
    rw [runL, greedy, hlen]
    split
    · rename_i h1
      obtain ⟨h2, q, hq⟩ := ht h1
      have htl : t ≤ s.length := by omega
      obtain ⟨h', e, r1, r2⟩ := popMany_spec t h s [] 0 hh hp hs htl hw (Int.le_refl _) (by omega)
      have hsH : stepH n t h st = pushL h' (((n + st.length : Nat) : Int), sumW (s.take t)) := by unfold stepH; rw [e]; simp
      have hsS : stepS n t h st = st ++ [⟨sortI ((s.take t).map (·.1)), ((n + st.length : Nat) : Int)⟩] := by unfold stepS; rw [e]; simp
      rw [hsH, hsS]
      have hW := sumW_split s t
      have hl2 : (insR (((n + st.length : Nat) : Int), sumW (s.take t)) (s.drop t)).length = s.length - t + 1 := by rw [insR_length, List.length_drop]
      refine runL_greedy n fan hf f fan _ _ _ (push_heap r1 _) ((push_perm h' _).trans ((r2.cons _).trans (insR_perm _ _).symm)) (insR_sorted _ _ (hs.sublist (List.drop_sublist _ _))) ?_ ?_ ?_
      · intro hgt
        rw [hl2] at hgt ⊢
        cases q with
        | zero => omega
        | succ q => exact ⟨hf, q, by rw [Nat.succ_mul] at hq; omega⟩
      · intro x hx
        rcases List.mem_cons.1 ((insR_perm _ _).mem_iff.1 hx) with rfl | hx
        · exact sumW_nonneg _ (fun y hy => hw y (List.mem_of_mem_take hy))
        · exact hw x (List.mem_of_mem_drop hx)
      · rw [sumW_insR]; simp only; omega
    · rfl
/-- what the document says of Make: greedy -/
def gSteps (l : List Int) (fan : Nat) : List S51 :=
  if l.length = 1 then [⟨[0], 1⟩] else greedy l.length fan l.length (2 + (l.length - 2) % (fan - 1)) (sortR (rungs 0 l)) []
theorem rungs_mem : ∀ (l : List Int) (i : Nat) (x : Rung), x ∈ rungs i l → x.2 ∈ l
  | [], i, x, h => by simp [rungs] at h
  | w :: l, i, x, h => by
    rcases List.mem_cons.1 h with rfl | h
    · exact List.mem_cons_self ..
    · exact List.mem_cons_of_mem _ (rungs_mem l (i + 1) x h)
theorem sumW_rungs : ∀ (l : List Int) (i : Nat), sumW (rungs i l) = l.sum
  | [], i => by simp [rungs, sumW]
  | w :: l, i => by rw [rungs, sumW_cons, sumW_rungs l (i + 1)]; simp
theorem sum_bound : ∀ (l : List Int) (b : Int), (∀ x ∈ l, x ≤ b) → l.sum ≤ l.length * b
  | [], b, h => by simp
  | x :: l, b, h => by
    have h1 := h x (List.mem_cons_self ..)
    have h2 := sum_bound l b (fun y hy => h y (List.mem_cons_of_mem _ hy))
    simp only [List.sum_cons, List.length_cons]
    rw [show (((l.length + 1 : Nat) : Int)) = (l.length : Int) + 1 from by omega, Int.add_mul]
    omega
theorem makeSteps_greedy {l : List Int} {fan : Nat} (hf : 2 ≤ fan) (hf2 : fan ≤ 64) (hn : 1 ≤ l.length) (hn2 : l.length ≤ 65536) (hw : ∀ x ∈ l, 0 ≤ x ∧ x ≤ 1073741824) : makeSteps l fan = gSteps l fan := by
  unfold makeSteps gSteps
  split
  · rfl
  · have hlen := rungs_length 0 l
    have hh := init_isHeap (rungs 0 l)
    have hp := init_perm l.length (l.length / 2) (rungs 0 l) hlen
    rw [hlen] at hh
    have hpr := sortR_perm (rungs 0 l)
    refine runL_greedy l.length fan hf _ _ _ _ [] hh (hp.trans hpr.symm) (sortR_sorted _) ?_ ?_ ?_
    · intro _
      rw [sortR_length, hlen]
      have h1 := Nat.div_add_mod (l.length - 2) (fan - 1)
      exact ⟨by omega, (l.length - 2) / (fan - 1), by rw [Nat.mul_comm]; omega⟩
    · intro x hx
      exact (hw _ (rungs_mem l 0 x (hpr.mem_iff.1 hx))).1
    · rw [sumW_perm hpr, sumW_rungs]
      have := sum_bound l 1073741824 (fun x hx => (hw x hx).2)
      have h3 : (l.length : Int) * 1073741824 ≤ 65536 * 1073741824 := Int.mul_le_mul_of_nonneg_right (by omega) (by omega)
      omega
end Go.Proofs.Ytbgabijjnbmghaa.P
/- Plain law: the greedy steps are a plan. -/
namespace Go.Proofs.Ytbgabijjnbmghaa.P
open Go.RowKit Go.Proofs.Ytbgabijjnbmghaa Go.Proofs.YtbgabijjnbmghaaW.PrintWords Go.Proofs.YtbgabijjnbmghaaW.PrintLast Go.Proofs.YtbgabijjnbmghaaW.PrintMore
set_option linter.unusedVariables false
set_option linter.unusedSimpArgs false

abbrev nextS (n t : Nat) (s : List Rung) (st : List S51) : List Rung := insR (((n + st.length : Nat) : Int), sumW (s.take t)) (s.drop t)
abbrev nextT (n t : Nat) (s : List Rung) (st : List S51) : List S51 := st ++ [⟨sortI ((s.take t).map (·.1)), ((n + st.length : Nat) : Int)⟩]
/-- what each step of the greedy rule keeps, holds at its end -/
theorem greedy_ind {n fan t0 : Nat} (hf : 2 ≤ fan) (I : List Rung → List S51 → Prop)
    (step : ∀ (t q : Nat) (s : List Rung) (st : List S51), I s st → s.length = t + q * (fan - 1) → 2 ≤ t → t ≤ fan → ((t = t0 ∧ st = []) ∨ (t = fan ∧ st ≠ [])) → I (nextS n t s st) (nextT n t s st)) :
    ∀ (q f t : Nat) (s : List Rung) (st : List S51), q < f → s.length = t + q * (fan - 1) → 2 ≤ t → t ≤ fan → ((t = t0 ∧ st = []) ∨ (t = fan ∧ st ≠ [])) → I s st →
      ∃ x, I [x] (greedy n fan f t s st) ∧ (greedy n fan f t s st).length = st.length + q + 1
  | q, 0, t, s, st, hq, _, _, _, _, _ => by omega
  | 0, f + 1, t, s, st, hq, hl, h2, hfa, ht, hi => by
    have h := step t 0 s st hi hl h2 hfa ht
    rw [greedy, if_pos (by omega)]
    have hl2 : (nextS n t s st).length = 1 := by rw [insR_length, List.length_drop]; omega
    obtain ⟨x, hx⟩ := List.length_eq_one_iff.1 hl2
    have e : greedy n fan f fan (nextS n t s st) (nextT n t s st) = nextT n t s st := by
      cases f with
      | zero => rfl
      | succ f => rw [greedy, if_neg (by omega)]
    rw [e]
    rw [hx] at h
    exact ⟨x, h, by simp⟩
  | q + 1, f + 1, t, s, st, hq, hl, h2, hfa, ht, hi => by
    have h := step t (q + 1) s st hi hl h2 hfa ht
    rw [greedy, if_pos (by omega)]
    have hl2 : (nextS n t s st).length = fan + q * (fan - 1) := by rw [insR_length, List.length_drop, hl, Nat.succ_mul]; omega
    obtain ⟨x, h3, h4⟩ := greedy_ind hf I step q f fan (nextS n t s st) (nextT n t s st) (by omega) hl2 hf (Nat.le_refl _) (.inr ⟨rfl, by simp⟩) h
    exact ⟨x, h3, by rw [h4]; simp; omega⟩

def nums (k : Nat) : List Int := (List.range k).map fun i : Nat => (i : Int)
theorem nums_mem {k : Nat} {x : Int} : x ∈ nums k ↔ 0 ≤ x ∧ x < k := by
  unfold nums
  rw [List.mem_map]
  constructor
  · rintro ⟨a, ha, rfl⟩
    have := List.mem_range.1 ha
    exact ⟨by omega, by omega⟩
  · rintro ⟨h1, h2⟩
    exact ⟨x.toNat, List.mem_range.2 (by omega), by omega⟩
theorem nums_nodup (k : Nat) : (nums k).Nodup := by
  unfold nums
  refine List.Pairwise.map _ ?_ List.nodup_range
  intro a b h e
  exact h (by omega)
theorem nums_succ (k : Nat) : nums (k + 1) = nums k ++ [(k : Int)] := by unfold nums; rw [List.range_succ, List.map_append]; rfl
theorem planFrom_append (n fan : Nat) : ∀ (a b : List S51) (s : Nat) (xs : List Int), PlanFrom n fan s (a ++ b) xs ↔ PlanFrom n fan s a xs ∧ PlanFrom n fan (s + a.length) b (xs ++ flat a)
  | [], b, s, xs => by simp [PlanFrom, flat]
  | st :: a, b, s, xs => by
    rw [List.cons_append, PlanFrom, PlanFrom, planFrom_append n fan a b (s + 1) (xs ++ st.f0), flat_cons, List.append_assoc, List.length_cons, show s + 1 + a.length = s + (a.length + 1) from by omega]
    constructor
    · rintro ⟨h1, h2, h3, h4, h5, h6⟩; exact ⟨⟨h1, h2, h3, h4, h5⟩, h6⟩
    · rintro ⟨⟨h1, h2, h3, h4, h5⟩, h6⟩; exact ⟨h1, h2, h3, h4, h5, h6⟩
theorem sortI_perm (l : List Int) : (sortI l).Perm l := List.mergeSort_perm ..
theorem sortI_sorted (l : List Int) : (sortI l).Pairwise (· ≤ ·) := by
  have := List.pairwise_mergeSort (le := fun x y : Int => decide (x ≤ y)) (fun a b c h1 h2 => by simp at *; omega) (fun a b => by simp; omega) l
  exact this.imp (fun h => by simpa using h)
theorem sortI_strict {l : List Int} (h : l.Nodup) : (sortI l).Pairwise (· < ·) := by
  have h1 := sortI_sorted l
  have h2 : (sortI l).Nodup := (sortI_perm l).nodup_iff.2 h
  exact List.Pairwise.imp₂ (fun a b (h3 : a ≤ b) (h4 : a ≠ b) => by omega) h1 h2
/-- what greedy keeps -/
structure InvA (n fan t0 : Nat) (s : List Rung) (st : List S51) : Prop where
  steps : PlanFrom n fan 0 st []
  perm : (flat st ++ s.map (·.1)).Perm (nums (n + st.length))
  last : st ≠ [] → ((n + st.length - 1 : Nat) : Int) ∈ s.map (·.1)
  lens : ∀ i (h : i < st.length), st[i].f0.length = if i = 0 then t0 else fan
theorem invA_step {n fan t0 : Nat} (hf : 2 ≤ fan) (t q : Nat) (s : List Rung) (st : List S51) (h : InvA n fan t0 s st) (hl : s.length = t + q * (fan - 1)) (h2 : 2 ≤ t) (hfa : t ≤ fan) (ht : (t = t0 ∧ st = []) ∨ (t = fan ∧ st ≠ [])) :
    InvA n fan t0 (nextS n t s st) (nextT n t s st) := by
  have hnd : (flat st ++ s.map (·.1)).Nodup := h.perm.nodup_iff.2 (nums_nodup _)
  have hsn : (s.map (·.1)).Nodup := (List.nodup_append.1 hnd).2.1
  have htk : ((s.take t).map (·.1)).Nodup := by rw [List.map_take]; exact hsn.sublist (List.take_sublist _ _)
  have hsplit : s.map (·.1) = (s.take t).map (·.1) ++ (s.drop t).map (·.1) := by rw [← List.map_append, List.take_append_drop]
  have hp := sortI_perm ((s.take t).map (·.1))
  have hlen : (sortI ((s.take t).map (·.1))).length = t := by rw [hp.length_eq, List.length_map, List.length_take]; omega
  have hmem : ∀ x ∈ sortI ((s.take t).map (·.1)), x ∈ s.map (·.1) := fun x hx => by
    rw [hsplit]; exact List.mem_append_left _ (hp.mem_iff.1 hx)
  have hrange : ∀ x ∈ s.map (·.1), 0 ≤ x ∧ x < ((n + st.length : Nat) : Int) := fun x hx => nums_mem.1 (h.perm.mem_iff.1 (List.mem_append_right _ hx))
  refine ⟨?_, ?_, ?_, ?_⟩
  · rw [planFrom_append]
    refine ⟨h.steps, ?_, ?_, ?_, ?_, trivial⟩
    · refine ⟨by simp only; omega, by simp only; omega, by simp only; omega, fun h1 => by simp only at h1; omega⟩
    · exact fun x hx => hrange x (hmem x hx)
    · exact sortI_strict htk
    · intro x hx hx2
      rw [List.nil_append] at hx2
      exact (List.nodup_append.1 hnd).2.2 x hx2 x (hmem x hx) rfl
  · rw [flat_append, List.length_append, List.length_singleton, ← Nat.add_assoc, nums_succ]
    have e1 : ((nextS n t s st).map (·.1)).Perm (((n + st.length : Nat) : Int) :: (s.drop t).map (·.1)) := (insR_perm _ _).map _
    have e2 : flat [(⟨sortI ((s.take t).map (·.1)), ((n + st.length : Nat) : Int)⟩ : S51)] = sortI ((s.take t).map (·.1)) := by simp [flat]
    rw [e2]
    refine ((hp.append_left _).append e1).trans ?_
    refine List.Perm.trans ?_ (h.perm.append_right _)
    rw [hsplit, List.append_assoc, List.append_assoc, List.append_assoc]
    refine List.Perm.append_left _ (List.Perm.append_left _ ?_)
    exact (List.perm_append_singleton _ _).symm
  · intro _
    have e1 : ((nextS n t s st).map (·.1)).Perm (((n + st.length : Nat) : Int) :: (s.drop t).map (·.1)) := (insR_perm _ _).map _
    rw [e1.mem_iff]
    simp
  · intro i hi
    rw [List.length_append, List.length_singleton] at hi
    by_cases e : i < st.length
    · rw [List.getElem_append_left e]; exact h.lens i e
    · rw [List.getElem_append_right (by omega)]
      simp only [List.getElem_singleton]
      rw [hlen]
      rcases ht with ⟨rfl, rfl⟩ | ⟨rfl, hne⟩
      · simp at hi; rw [if_pos hi]
      · have := List.length_pos_iff.2 hne; rw [if_neg (by omega)]
theorem rungs_fst : ∀ (l : List Int) (i : Nat), (rungs i l).map (·.1) = (List.range' i l.length).map fun i : Nat => (i : Int)
  | [], i => rfl
  | w :: l, i => by rw [rungs, List.map_cons, rungs_fst l (i + 1), List.length_cons, List.range'_succ]; rfl
theorem invA_start (l : List Int) (fan t0 : Nat) : InvA l.length fan t0 (sortR (rungs 0 l)) [] := by
  refine ⟨trivial, ?_, fun h => absurd rfl h, fun i h => by simp at h⟩
  rw [show flat [] = [] from rfl, List.nil_append, List.length_nil, Nat.add_zero]
  refine ((sortR_perm _).map _).trans ?_
  rw [rungs_fst]
  unfold nums
  rw [List.range_eq_range']
/-- the first step's length, and how many more there are -/
def takeOf (n fan : Nat) : Nat := if n = 1 then 1 else 2 + (n - 2) % (fan - 1)
def moreOf (n fan : Nat) : Nat := if n = 1 then 0 else (n - 2) / (fan - 1)
theorem take_more {n fan : Nat} (hf : 2 ≤ fan) (hn : 1 ≤ n) : n = takeOf n fan + moreOf n fan * (fan - 1) ∧ 1 ≤ takeOf n fan ∧ takeOf n fan ≤ fan ∧ (2 ≤ n → 2 ≤ takeOf n fan) := by
  unfold takeOf moreOf
  by_cases h : n = 1
  · subst h; simp; omega
  · rw [if_neg h, if_neg h]
    have h1 := Nat.div_add_mod (n - 2) (fan - 1)
    have h2 := Nat.mod_lt (n - 2) (show fan - 1 > 0 by omega)
    rw [Nat.mul_comm] at h1
    exact ⟨by omega, by omega, by omega, fun _ => by omega⟩
/-- the greedy run of more than one -/
theorem gSteps_ind {l : List Int} {fan : Nat} (hf : 2 ≤ fan) (hn : 2 ≤ l.length) (I : List Rung → List S51 → Prop)
    (step : ∀ (t q : Nat) (s : List Rung) (st : List S51), I s st → s.length = t + q * (fan - 1) → 2 ≤ t → t ≤ fan → ((t = takeOf l.length fan ∧ st = []) ∨ (t = fan ∧ st ≠ [])) → I (nextS l.length t s st) (nextT l.length t s st))
    (start : I (sortR (rungs 0 l)) []) : ∃ x, I [x] (gSteps l fan) ∧ (gSteps l fan).length = moreOf l.length fan + 1 := by
  obtain ⟨h1, h2, h3, h4⟩ := take_more hf (show 1 ≤ l.length by omega)
  have e : gSteps l fan = greedy l.length fan l.length (takeOf l.length fan) (sortR (rungs 0 l)) [] := by
    unfold gSteps takeOf
    rw [if_neg (by omega), if_neg (by omega)]
  rw [e]
  have hq : moreOf l.length fan ≤ moreOf l.length fan * (fan - 1) := Nat.le_mul_of_pos_right _ (by omega)
  obtain ⟨x, h5, h6⟩ := greedy_ind hf I step (moreOf l.length fan) l.length (takeOf l.length fan) (sortR (rungs 0 l)) [] (by omega) (by rw [sortR_length, rungs_length]; exact h1) (h4 hn) h3 (.inl ⟨rfl, rfl⟩) start
  exact ⟨x, h5, by rw [h6]; simp⟩
theorem gSteps_length {l : List Int} {fan : Nat} (hf : 2 ≤ fan) (hn : 1 ≤ l.length) : (gSteps l fan).length = moreOf l.length fan + 1 := by
  by_cases h : l.length = 1
  · unfold gSteps moreOf; rw [if_pos h, if_pos h]; rfl
  · obtain ⟨x, _, h2⟩ := gSteps_ind hf (show 2 ≤ l.length by omega) (fun _ _ => True) (fun _ _ _ _ _ _ _ _ _ => trivial) trivial
    exact h2
theorem gSteps_lens {l : List Int} {fan : Nat} (hf : 2 ≤ fan) (hn : 1 ≤ l.length) (i : Nat) (h : i < (gSteps l fan).length) : (gSteps l fan)[i].f0.length = if i = 0 then takeOf l.length fan else fan := by
  by_cases h1 : l.length = 1
  · have e : gSteps l fan = [⟨[0], 1⟩] := by unfold gSteps; rw [if_pos h1]
    simp only [e] at h ⊢
    have : i = 0 := by simpa using h
    subst this
    unfold takeOf
    simp [h1]
  · obtain ⟨x, h2, _⟩ := gSteps_ind hf (show 2 ≤ l.length by omega) (InvA l.length fan (takeOf l.length fan)) (fun t q s st => invA_step hf t q s st) (invA_start l fan _)
    exact h2.lens i h
theorem gSteps_plan {l : List Int} {fan : Nat} (hf : 2 ≤ fan) (hn : 1 ≤ l.length) : Plan l.length fan (gSteps l fan) := by
  have hlen := gSteps_length hf hn
  obtain ⟨t1, t2, t3, t4⟩ := take_more hf hn
  have hq : moreOf l.length fan ≤ moreOf l.length fan * (fan - 1) := Nat.le_mul_of_pos_right _ (by omega)
  by_cases h1 : l.length = 1
  · have e : gSteps l fan = [⟨[0], 1⟩] := by unfold gSteps; rw [if_pos h1]
    rw [e, h1]
    refine ⟨by simp, by simp, ⟨⟨rfl, by simp, by simp; omega, fun _ => Nat.le_refl _⟩, ?_, by simp, by simp, trivial⟩, ?_⟩
    · intro x hx; simp at hx; subst hx; exact ⟨Int.le_refl _, by decide⟩
    · intro j hj
      have : j = 0 := by simp at hj; omega
      subst this
      simp [flat]
  · obtain ⟨x, h2, _⟩ := gSteps_ind hf (show 2 ≤ l.length by omega) (InvA l.length fan (takeOf l.length fan)) (fun t q s st => invA_step hf t q s st) (invA_start l fan _)
    have t4 := t4 (by omega)
    refine ⟨by omega, by omega, h2.steps, ?_⟩
    intro j hj
    have hne : gSteps l fan ≠ [] := fun h => by rw [h] at hlen; simp at hlen
    have hx := h2.last hne
    simp only [List.map_cons, List.map_nil, List.mem_singleton] at hx
    have hm : (j : Int) ∈ flat (gSteps l fan) ++ [x].map (·.1) := h2.perm.mem_iff.2 (nums_mem.2 ⟨by omega, by omega⟩)
    rcases List.mem_append.1 hm with h | h
    · exact h
    · simp at h; omega
end Go.Proofs.Ytbgabijjnbmghaa.P
/- Plain law: what plan.Make, plan.Check answer of given weights. -/
namespace Go.Proofs.Ytbgabijjnbmghaa.P
open Go.RowKit Go.Proofs.Ytbgabijjnbmghaa Go.Proofs.YtbgabijjnbmghaaW.PrintWords Go.Proofs.YtbgabijjnbmghaaW.PrintLast Go.Proofs.YtbgabijjnbmghaaW.PrintMore
set_option linter.unusedVariables false
set_option linter.unusedSimpArgs false

theorem wS {i : Nat} (h : i ≤ 4611686018427387904) : wrap64 ((i : Int) + 1) = ((i + 1 : Nat) : Int) := by unfold wrap64; omega
theorem wA {a b : Nat} (h : a ≤ 4611686018427387903) (h2 : b ≤ 4611686018427387903) : wrap64 ((a : Int) + (b : Int)) = ((a + b : Nat) : Int) := by unfold wrap64; omega
theorem makeSteps_eq {l : List Int} {fan : Int} (h : givenV l fan = 0) : makeSteps l fan.toNat = gSteps l fan.toNat := by
  obtain ⟨h1, h2, h3, h4, h5⟩ := givenV_zero h
  exact makeSteps_greedy (by omega) (by omega) h3 h4 (fun x hx => h5 x hx)
theorem make_ev {l : List Int} {fan : Int} (h : givenV l fan = 0) : Ev (fun k => plan_Make.f k l fan) (gSteps l fan.toNat, 0) := by
  unfold plan_Make.f
  refine Ev.bind (plan_given_ev l fan) ?_
  simp only [if_pos h]
  rw [makeSteps_eq h]
  exact Ev.now _
theorem make_ev_bad {l : List Int} {fan : Int} (h : givenV l fan ≠ 0) : Ev (fun k => plan_Make.f k l fan) ([], givenV l fan) := by
  unfold plan_Make.f
  refine Ev.bind (plan_given_ev l fan) ?_
  simp only [if_neg h]
  exact Ev.now _
theorem checkV_plan {l : List Int} {fan : Int} {st : List S51} (h : givenV l fan = 0) (hp : Plan l.length fan.toNat st) : checkV l fan st = 0 := by
  unfold checkV
  rw [if_pos h, if_pos hp]
theorem checkV_zero {l : List Int} {fan : Int} {st : List S51} (h : checkV l fan st = 0) : givenV l fan = 0 ∧ Plan l.length fan.toNat st := by
  unfold checkV at h
  by_cases h1 : givenV l fan = 0
  · rw [if_pos h1] at h
    by_cases h2 : Plan l.length fan.toNat st
    · exact ⟨h1, h2⟩
    · rw [if_neg h2] at h; cases h
  · rw [if_neg h1] at h; exact absurd h h1
theorem gSteps_check {l : List Int} {fan : Int} (h : givenV l fan = 0) : checkV l fan (gSteps l fan.toNat) = 0 := by
  obtain ⟨h1, h2, h3, h4, h5⟩ := givenV_zero h
  exact checkV_plan h (gSteps_plan (by omega) h3)
theorem sum_set {l : List Int} {i : Nat} (h : i < l.length) (v : Int) : (l.set i v).sum = l.sum - l.getD i 0 + v := by
  induction l generalizing i with
  | nil => simp at h
  | cons x l ih =>
    cases i with
    | zero => simp [List.getD]; omega
    | succ i =>
      have := ih (i := i) (by simpa using h)
      simp only [List.set_cons_succ, List.sum_cons, this, List.getD_cons_succ]
      omega
theorem sum_zero : ∀ (l : List Int), (∀ x ∈ l, x = 0) → l.sum = 0
  | [], _ => rfl
  | x :: l, h => by
    rw [List.sum_cons, h x (List.mem_cons_self ..), sum_zero l (fun y hy => h y (List.mem_cons_of_mem _ hy))]; rfl
theorem sum_nonneg : ∀ (l : List Int), (∀ x ∈ l, 0 ≤ x) → 0 ≤ l.sum
  | [], _ => Int.le_refl _
  | x :: l, h => by
    have h1 := h x (List.mem_cons_self ..)
    have h2 := sum_nonneg l (fun y hy => h y (List.mem_cons_of_mem _ hy))
    rw [List.sum_cons]; omega
theorem getD_le_sum : ∀ (l : List Int) (i : Nat), (∀ x ∈ l, 0 ≤ x) → l.getD i 0 ≤ l.sum
  | [], i, _ => by simp
  | x :: l, 0, h => by
    have h2 := sum_nonneg l (fun y hy => h y (List.mem_cons_of_mem _ hy))
    simp [List.getD]; omega
  | x :: l, i + 1, h => by
    have h1 := h x (List.mem_cons_self ..)
    have h2 := getD_le_sum l i (fun y hy => h y (List.mem_cons_of_mem _ hy))
    rw [List.getD_cons_succ, List.sum_cons]; omega
theorem getD_set {l : List Int} {i : Nat} (h : i < l.length) (v : Int) (j : Nat) : (l.set i v).getD j 0 = if j = i then v else l.getD j 0 := by
  rw [List.getD_eq_getElem?_getD, List.getElem?_set, List.getD_eq_getElem?_getD]
  by_cases e : i = j
  · subst e; rw [if_pos rfl, if_pos h, if_pos rfl]; rfl
  · rw [if_neg e, if_neg (fun h => e h.symm)]
theorem rd_nat (l : List Int) (j : Nat) : rd l (j : Int) = l.getD j 0 := rfl
theorem mem_getD {l : List Int} {P : Int → Prop} (h : ∀ j, j < l.length → P (l.getD j 0)) : ∀ x ∈ l, P x := by
  intro x hx
  obtain ⟨j, hj, rfl⟩ := List.getElem_of_mem hx
  have := h j hj
  rw [List.getD_eq_getElem?_getD, List.getElem?_eq_getElem hj] at this
  exact this
/-- a plan's step s, its runs merged ahead of it -/
theorem plan_at {n fan : Nat} {steps : List S51} (h : Plan n fan steps) {s : Nat} (hs : s < steps.length) :
    formOk n fan s steps[s] ∧ (∀ x ∈ (steps[s]).f0, 0 ≤ x ∧ x < (steps[s]).f1) ∧ (steps[s]).f0.Pairwise (· < ·) ∧ (∀ x ∈ (steps[s]).f0, x ∉ flat (steps.take s)) ∧ PlanFrom n fan (s + 1) (steps.drop (s + 1)) (flat (steps.take s) ++ (steps[s]).f0) := by
  have h1 := h.steps
  rw [← List.take_append_drop s steps, planFrom_append, drop_cons hs, List.length_take, Nat.min_eq_left (by omega), Nat.zero_add, List.nil_append] at h1
  exact h1.2
theorem flat_take_succ {steps : List S51} {s : Nat} (hs : s < steps.length) : flat (steps.take (s + 1)) = flat (steps.take s) ++ (steps[s]).f0 := by
  rw [List.take_add_one, List.getElem?_eq_getElem hs, flat_append]
  simp [flat]
theorem flat_take_low {n fan : Nat} {steps : List S51} (h : Plan n fan steps) : ∀ (s : Nat), s ≤ steps.length → ∀ x ∈ flat (steps.take s), 0 ≤ x ∧ x + 1 < (n : Int) + s
  | 0, _, x, hx => by simp [flat] at hx
  | s + 1, hs, x, hx => by
    rw [flat_take_succ (by omega)] at hx
    have h1 := plan_at h (s := s) (by omega)
    rcases List.mem_append.1 hx with hx | hx
    · have := flat_take_low h s (by omega) x hx; omega
    · have := h1.2.1 x hx
      have := h1.1.1
      omega
end Go.Proofs.Ytbgabijjnbmghaa.P
/- Plain law: what sameInts, sameSteps and twin answer, of rows of any length that may be. -/
namespace Go.Proofs.Ytbgabijjnbmghaa.P
open Go.RowKit Go.Proofs.Ytbgabijjnbmghaa Go.Proofs.YtbgabijjnbmghaaW.PrintWords Go.Proofs.YtbgabijjnbmghaaW.PrintLast Go.Proofs.YtbgabijjnbmghaaW.PrintMore
set_option linter.unusedVariables false
set_option linter.unusedSimpArgs false

theorem sameInts_l0 (l : List Int) (hl : l.length ≤ 17592186044416) : ∀ (d i : Nat), l.length - i = d → i ≤ l.length → Ev (fun k => milllaw10_sameInts.l0 k l l i) true
  | 0, i, hd, hi => by
    have e1 : ¬ (i : Int) < l.length := by omega
    exact Ev.step (f := fun _ => some true) (fun k => by rw [milllaw10_sameInts.l0, if_neg e1]) (Ev.now _)
  | d + 1, i, hd, hi => by
    have e1 : (i : Int) < l.length := by omega
    have e2 : (0 : Int) ≤ (i : Int) := by omega
    exact Ev.step (fun k => by rw [milllaw10_sameInts.l0, if_pos e1, if_pos e2, if_pos e1, if_pos rfl, wS (by omega)]) (sameInts_l0 l hl d (i + 1) (by omega) (by omega))
theorem sameInts_ev (l : List Int) (hl : l.length ≤ 17592186044416) : Ev (fun k => milllaw10_sameInts.f k l l) true :=
  Ev.congr (fun k => by unfold milllaw10_sameInts.f; rw [if_pos rfl]; rfl) (sameInts_l0 l hl l.length 0 rfl (Nat.zero_le _))
theorem sameSteps_l0 (l : List S51) (hl : l.length ≤ 17592186044416) (hi : ∀ (s : Nat) (h : s < l.length), (l[s]).f0.length ≤ 17592186044416) : ∀ (d i : Nat), l.length - i = d → i ≤ l.length → Ev (fun k => milllaw10_sameSteps.l0 k l l i) true
  | 0, i, hd, hi2 => by
    have e1 : ¬ (i : Int) < l.length := by omega
    exact Ev.step (f := fun _ => some true) (fun k => by rw [milllaw10_sameSteps.l0, if_neg e1]) (Ev.now _)
  | d + 1, i, hd, hi2 => by
    have hlt : i < l.length := by omega
    have e1 : (i : Int) < l.length := by omega
    have e2 : (0 : Int) ≤ (i : Int) := by omega
    have hb : i ≤ 4611686018427387904 := by omega
    refine Ev.step (f := fun k => (milllaw10_sameInts.f k (l[i]).f0 (l[i]).f0).bind fun t => if t = true then milllaw10_sameSteps.l0 k l l ((i + 1 : Nat) : Int) else some false) (fun k => ?_) ?_
    · rw [milllaw10_sameSteps.l0, if_pos e1, if_pos e2, if_pos e1, rdT_getElem hlt, wS hb]; simp only [if_true]
    · refine Ev.bind (sameInts_ev _ (hi i hlt)) ?_
      simp only [if_true]
      exact sameSteps_l0 l hl hi d (i + 1) (by omega) (by omega)
theorem sameSteps_ev (l : List S51) (hl : l.length ≤ 17592186044416) (hi : ∀ (s : Nat) (h : s < l.length), (l[s]).f0.length ≤ 17592186044416) : Ev (fun k => milllaw10_sameSteps.f k l l) true :=
  Ev.congr (fun k => by unfold milllaw10_sameSteps.f; rw [if_pos rfl]; rfl) (sameSteps_l0 l hl hi l.length 0 rfl (Nat.zero_le _))
/-! ### twin -/
theorem twin_l0 (l : List S51) (hl : l.length ≤ 1000000) (hi : ∀ st ∈ l, st.f0.length < 17592186044416) : ∀ (d i : Nat), l.length - i = d → i ≤ l.length → Ev (fun k => milllaw10_twin.l0 k l (l.take i) i) l
  | 0, i, hd, hi2 => by
    have e : i = l.length := by omega
    subst e
    have e1 : ¬ (l.length : Int) < l.length := by omega
    rw [List.take_length]
    exact Ev.step (f := fun _ => some l) (fun k => by rw [milllaw10_twin.l0, if_neg e1]) (Ev.now _)
  | d + 1, i, hd, hi2 => by
    have hlt : i < l.length := by omega
    have e1 : (i : Int) < l.length := by omega
    have e2 : (0 : Int) ≤ (i : Int) := by omega
    have e3 : ([] : List Int).length + (l[i]).f0.length < 17592186044416 := by rw [List.length_nil, Nat.zero_add]; exact hi _ (List.getElem_mem hlt)
    have e4 : (l.take i).length < 4398046511104 := by rw [List.length_take]; omega
    have e5 : l.take i ++ [(⟨([] : List Int) ++ (l[i]).f0, (l[i]).f1⟩ : S51)] = l.take (i + 1) := by
      rw [List.take_add_one, List.getElem?_eq_getElem hlt, List.nil_append]; rfl
    refine Ev.step (fun k => ?_) (twin_l0 l hl hi d (i + 1) (by omega) (by omega))
    rw [milllaw10_twin.l0, if_pos e1, if_pos e2, rdT_getElem hlt, if_pos e3, if_pos e4, e5, wS (by omega)]
theorem twin_ev (l : List S51) (hl : l.length ≤ 1000000) (hi : ∀ st ∈ l, st.f0.length < 17592186044416) : Ev (fun k => milllaw10_twin.f k l) l := by
  unfold milllaw10_twin.f
  exact twin_l0 l hl hi l.length 0 rfl (Nat.zero_le _)
end Go.Proofs.Ytbgabijjnbmghaa.P
/- Few plain laws that the laws on the reference's Make lean on. -/
namespace Go.Proofs.Ytbgabijjnbmghaa.P
open Go.RowKit Go.Proofs.Ytbgabijjnbmghaa Go.Proofs.YtbgabijjnbmghaaW.PrintWords Go.Proofs.YtbgabijjnbmghaaW.PrintLast Go.Proofs.YtbgabijjnbmghaaW.PrintMore
set_option linter.unusedVariables false
set_option linter.unusedSimpArgs false
theorem getD_append_lt {acc b : List Int} {j : Nat} (h : j < acc.length) : (acc ++ b).getD j 0 = acc.getD j 0 := by
  rw [List.getD_eq_getElem?_getD, List.getD_eq_getElem?_getD, List.getElem?_append_left h]
theorem getD_append_len (acc : List Int) (v : Int) : (acc ++ [v]).getD acc.length 0 = v := by
  rw [List.getD_eq_getElem?_getD]; simp
abbrev Asc (l : List Int) : Prop := l.Pairwise (· ≤ ·)
theorem at_mid (a b : List Int) (x : Int) : (a ++ x :: b).getD a.length 0 = x := by
  rw [List.getD_eq_getElem?_getD, List.getElem?_append_right (Nat.le_refl _), Nat.sub_self]; rfl
theorem swap_mid (a b : List Int) (y x : Int) : ((a ++ y :: x :: b).set (a.length + 1) y).set a.length x = a ++ x :: y :: b := by
  rw [List.set_append_right _ _ (by omega), show a.length + 1 - a.length = 1 by omega]
  show ((a ++ y :: y :: b).set a.length x) = _
  rw [List.set_append_right _ _ (Nat.le_refl _), Nat.sub_self]; rfl
theorem head_min {x y : Int} {u v v' : List Int} (hs : Asc (x :: u)) (hp : (x :: u).Perm v) (hv : v.Perm (y :: v')) (hy : ∀ z ∈ v, y ≤ z) : x = y ∧ u.Perm v' := by
  have hx : x ∈ v := hp.mem_iff.1 (List.mem_cons_self ..)
  have hy2 : y ∈ x :: u := hp.mem_iff.2 (hv.mem_iff.2 (List.mem_cons_self ..))
  have h1 := hy x hx
  have h2 : x ≤ y := by
    rcases List.mem_cons.1 hy2 with rfl | h
    · exact Int.le_refl _
    · exact (List.pairwise_cons.1 hs).1 y h
  have e : x = y := by omega
  subst e
  exact ⟨rfl, (hp.trans hv).cons_inv⟩
theorem rungs_get_mem : ∀ (l : List Int) (i : Nat) (x : Rung), x ∈ rungs i l → ∃ j, j < l.length ∧ x = (((i + j : Nat) : Int), l.getD j 0)
  | [], i, x, h => by simp [rungs] at h
  | w :: l, i, x, h => by
    rcases List.mem_cons.1 h with rfl | h
    · exact ⟨0, by simp, rfl⟩
    · obtain ⟨j, h1, h2⟩ := rungs_get_mem l (i + 1) x h
      exact ⟨j + 1, by simpa using h1, by rw [h2, List.getD_cons_succ, show i + 1 + j = i + (j + 1) by omega]⟩
theorem rungs_nums : ∀ (l : List Int), rungs 0 l = (nums l.length).map fun x => (x, l.getD x.toNat 0) := fun l => by
  have h : ∀ (a b : List Int), rungs b.length a = (List.range' b.length a.length).map fun i : Nat => ((i : Int), (b ++ a).getD i 0) := by
    intro a
    induction a with
    | nil => intro b; rfl
    | cons w a ih =>
      intro b
      have := ih (b ++ [w])
      rw [List.length_append, List.length_singleton] at this
      have e : (b ++ w :: a).getD b.length 0 = w := by rw [List.getD_eq_getElem?_getD, List.getElem?_append_right (Nat.le_refl _), Nat.sub_self]; rfl
      rw [rungs, this, List.length_cons, List.range'_succ, List.map_cons, List.append_assoc, e]; rfl
  have := h l []
  rw [List.length_nil, List.nil_append] at this
  rw [this]
  unfold nums
  rw [List.map_map, List.range_eq_range']
  exact List.map_congr_left fun i _ => by simp
theorem given_nonneg {l : List Int} (h : ∀ x ∈ l, okW x) (j : Nat) : 0 ≤ l.getD j 0 := by
  rw [List.getD_eq_getElem?_getD]
  by_cases hj : j < l.length
  · rw [List.getElem?_eq_getElem hj]; exact (h _ (List.getElem_mem hj)).1
  · rw [List.getElem?_eq_none (by omega)]; exact Int.le_refl _
theorem given_sum {l : List Int} {fan : Int} (hg : givenV l fan = 0) : l.sum ≤ 70368744177664 := by
  obtain ⟨h1, h2, h3, h4, h5⟩ := givenV_zero hg
  have := sum_bound l 1073741824 (fun x hx => (h5 x hx).2)
  have h6 : (l.length : Int) * 1073741824 ≤ 65536 * 1073741824 := Int.mul_le_mul_of_nonneg_right (by omega) (by omega)
  omega
end Go.Proofs.Ytbgabijjnbmghaa.P
/- Plain law: the reference's Make answers the greedy steps. -/
namespace Go.Proofs.Ytbgabijjnbmghaa.P
open Go.RowKit Go.Proofs.Ytbgabijjnbmghaa Go.Proofs.YtbgabijjnbmghaaW.PrintWords Go.Proofs.YtbgabijjnbmghaaW.PrintLast Go.Proofs.YtbgabijjnbmghaaW.PrintMore
set_option linter.unusedVariables false
set_option linter.unusedSimpArgs false

theorem asc_unique : ∀ (a b : List Int), Asc a → Asc b → a.Perm b → a = b
  | [], b, ha, hb, hp => (List.nil_perm.1 hp).symm
  | x :: a, [], ha, hb, hp => absurd (List.perm_nil.1 hp) (by simp)
  | x :: a, y :: b, ha, hb, hp => by
    obtain ⟨e1, e2⟩ := head_min (v' := b) ha hp (List.Perm.refl _) (fun z hz => by
      rcases List.mem_cons.1 hz with rfl | hz
      · exact Int.le_refl _
      · exact (List.pairwise_cons.1 hb).1 z hz)
    rw [e1, asc_unique a b (List.pairwise_cons.1 ha).2 (List.pairwise_cons.1 hb).2 e2]
/-! ### put -/
theorem put_swap (k : Nat) (a b : List Int) (y x : Int) (hb : a.length ≤ 1000000) (h : y > x) :
    millref10_put.l0 (k + 1) (a ++ y :: x :: b) ((a.length + 1 : Nat) : Int) = millref10_put.l0 k (a ++ x :: y :: b) (a.length : Int) := by
  have e1 : ((a.length + 1 : Nat) : Int) > 0 := by omega
  have e2 : (0 : Int) ≤ (a.length : Int) := by omega
  have e3 : (a.length : Int) < ((a ++ y :: x :: b).length : Int) := by rw [List.length_append, List.length_cons, List.length_cons]; omega
  have e4 : (0 : Int) ≤ ((a.length + 1 : Nat) : Int) := by omega
  have e5 : ((a.length + 1 : Nat) : Int) < ((a ++ y :: x :: b).length : Int) := by rw [List.length_append, List.length_cons, List.length_cons]; omega
  have e6 : rd (a ++ y :: x :: b) (a.length : Int) = y := at_mid a (x :: b) y
  have e7 : rd (a ++ y :: x :: b) ((a.length + 1 : Nat) : Int) = x := by
    have := at_mid (a ++ [y]) b x
    rw [List.length_append, List.append_assoc] at this
    exact this
  have e8 : wrap64 (((a.length + 1 : Nat) : Int) - 1) = (a.length : Int) := by rw [w64 _ (by omega) (by omega)]; omega
  rw [millref10_put.l0, if_pos e1, e8, if_pos e2, if_pos e3, if_pos e4, if_pos e5, e6, e7, if_pos h, Int.toNat_natCast, Int.toNat_natCast, swap_mid]
theorem put_stop (k : Nat) (a b : List Int) (y x : Int) (hb : a.length ≤ 1000000) (h : ¬ y > x) :
    millref10_put.l0 (k + 1) (a ++ y :: x :: b) ((a.length + 1 : Nat) : Int) = some (a ++ y :: x :: b) := by
  have e1 : ((a.length + 1 : Nat) : Int) > 0 := by omega
  have e2 : (0 : Int) ≤ (a.length : Int) := by omega
  have e3 : (a.length : Int) < ((a ++ y :: x :: b).length : Int) := by rw [List.length_append, List.length_cons, List.length_cons]; omega
  have e4 : (0 : Int) ≤ ((a.length + 1 : Nat) : Int) := by omega
  have e5 : ((a.length + 1 : Nat) : Int) < ((a ++ y :: x :: b).length : Int) := by rw [List.length_append, List.length_cons, List.length_cons]; omega
  have e6 : rd (a ++ y :: x :: b) (a.length : Int) = y := at_mid a (x :: b) y
  have e7 : rd (a ++ y :: x :: b) ((a.length + 1 : Nat) : Int) = x := by
    have := at_mid (a ++ [y]) b x
    rw [List.length_append, List.append_assoc] at this
    exact this
  have e8 : wrap64 (((a.length + 1 : Nat) : Int) - 1) = (a.length : Int) := by rw [w64 _ (by omega) (by omega)]; omega
  rw [millref10_put.l0, if_pos e1, e8, if_pos e2, if_pos e3, if_pos e4, if_pos e5, e6, e7, if_neg h]
theorem put_l0 (x : Int) : ∀ (m : Nat) (a b : List Int), a.length = m → a.length ≤ 1000000 → Asc (a ++ b) → (∀ z ∈ b, x < z) → ∃ r, Ev (fun k => millref10_put.l0 k (a ++ x :: b) (a.length : Int)) r ∧ Asc r ∧ r.Perm (a ++ x :: b)
  | 0, a, b, hm, hb, hs, hx => by
    have : a = [] := List.length_eq_zero_iff.1 hm
    subst this
    have e1 : ¬ ((0 : Nat) : Int) > 0 := by omega
    exact ⟨x :: b, Ev.step (f := fun _ => some (x :: b)) (fun k => by show millref10_put.l0 (k + 1) (x :: b) ((0 : Nat) : Int) = _; rw [millref10_put.l0, if_neg e1]) (Ev.now _), List.Pairwise.cons (fun z hz => Int.le_of_lt (hx z hz)) (by simpa using hs), List.Perm.refl _⟩
  | m + 1, a, b, hm, hb, hs, hx => by
    obtain ⟨a', y, rfl⟩ : ∃ a' y, a = a' ++ [y] := ⟨a.dropLast, a.getLast (fun h => by rw [h] at hm; simp at hm), (List.dropLast_concat_getLast _).symm⟩
    rw [List.length_append, List.length_singleton] at hm hb
    have e : (a' ++ [y]) ++ x :: b = a' ++ y :: x :: b := by rw [List.append_assoc]; rfl
    rw [e, List.length_append, List.length_singleton]
    by_cases h : y > x
    · obtain ⟨r, h1, h2, h3⟩ := put_l0 x m a' (y :: b) (by omega) (by omega) (by rw [List.append_assoc] at hs; exact hs) (fun z hz => by
        rcases List.mem_cons.1 hz with rfl | hz
        · exact h
        · exact hx z hz)
      exact ⟨r, Ev.step (fun k => put_swap k a' b y x (by omega) h) h1, h2, h3.trans (List.Perm.append_left _ (List.Perm.swap y x b))⟩
    · refine ⟨a' ++ y :: x :: b, Ev.step (f := fun _ => some (a' ++ y :: x :: b)) (fun k => put_stop k a' b y x (by omega) h) (Ev.now _), ?_, List.Perm.refl _⟩
      rw [Asc, List.pairwise_append] at hs ⊢
      rw [List.pairwise_append] at hs
      obtain ⟨⟨p1, p2, p3⟩, p4, p5⟩ := hs
      have hyx : y ≤ x := by omega
      refine ⟨p1, List.Pairwise.cons (fun z hz => ?_) (List.Pairwise.cons (fun z hz => Int.le_of_lt (hx z hz)) p4), fun u hu z hz => ?_⟩
      · rcases List.mem_cons.1 hz with rfl | hz
        · exact hyx
        · have := hx z hz; omega
      · have huy := p3 u hu y (by simp)
        rcases List.mem_cons.1 hz with rfl | hz
        · exact huy
        · rcases List.mem_cons.1 hz with rfl | hz
          · omega
          · have := hx z hz; omega
theorem put_ev (l : List Int) (x : Int) (hl : l.length ≤ 1000000) (hs : Asc l) : ∃ r, Ev (fun k => millref10_put.f k l x) r ∧ Asc r ∧ r.Perm (l ++ [x]) := by
  obtain ⟨r, h1, h2, h3⟩ := put_l0 x l.length l [] rfl hl (by simpa using hs) (fun z hz => by simp at hz)
  refine ⟨r, Ev.congr (fun k => ?_) h1, h2, h3⟩
  have e1 : l.length < 17592186044416 := by omega
  have e2 : (l ++ [x]).length = l.length + 1 := by rw [List.length_append, List.length_singleton]
  have e3 : wrap64 (((l ++ [x]).length : Int) - 1) = (l.length : Int) := by rw [e2, w64 _ (by omega) (by omega)]; omega
  unfold millref10_put.f
  rw [if_pos e1]
  simp only [Option.bind_some, e3]
/-! ### lightest -/
/-- the best among the first i -/
def BestAt (all : List Int) (i : Nat) (b : Int) : Prop :=
  (b = -1 ∧ ∀ j, j < i → all.getD j 0 < 0) ∨ ∃ B : Nat, b = B ∧ B < i ∧ 0 ≤ all.getD B 0 ∧ ∀ j, j < i → 0 ≤ all.getD j 0 → all.getD B 0 ≤ all.getD j 0 ∧ (all.getD B 0 = all.getD j 0 → B ≤ j)
theorem bestAt_skip {all : List Int} {i : Nat} {b : Int} (h : BestAt all i b) (hn : all.getD i 0 < 0) : BestAt all (i + 1) b := by
  rcases h with ⟨h1, h2⟩ | ⟨B, h1, h2, h3, h4⟩
  · refine .inl ⟨h1, fun j hj => ?_⟩
    by_cases e : j = i
    · rw [e]; exact hn
    · exact h2 j (by omega)
  · refine .inr ⟨B, h1, by omega, h3, fun j hj h0 => ?_⟩
    by_cases e : j = i
    · rw [e] at h0; exact absurd hn (Int.not_lt.2 h0)
    · exact h4 j (by omega) h0
theorem bestAt_keep {all : List Int} {i B : Nat} (h : BestAt all i (B : Int)) (hn : ¬ all.getD i 0 < all.getD B 0) : BestAt all (i + 1) (B : Int) := by
  rcases h with ⟨h1, h2⟩ | ⟨B', h1, h2, h3, h4⟩
  · omega
  · have : B = B' := by omega
    subst this
    refine .inr ⟨B, rfl, by omega, h3, fun j hj h0 => ?_⟩
    by_cases e : j = i
    · rw [e]; exact ⟨Int.not_lt.1 hn, fun _ => Nat.le_of_lt h2⟩
    · exact h4 j (by omega) h0
theorem bestAt_new {all : List Int} {i : Nat} {b : Int} (h : BestAt all i b) (h0 : 0 ≤ all.getD i 0) (hn : b = -1 ∨ all.getD i 0 < all.getD b.toNat 0) : BestAt all (i + 1) (i : Int) := by
  refine .inr ⟨i, rfl, by omega, h0, fun j hj hj0 => ?_⟩
  by_cases e : j = i
  · rw [e]; exact ⟨Int.le_refl _, fun _ => Nat.le_refl _⟩
  · rcases h with ⟨h1, h2⟩ | ⟨B, h1, h2, h3, h4⟩
    · exact absurd (h2 j (by omega)) (Int.not_lt.2 hj0)
    · rcases hn with hn | hn
      · omega
      · subst h1
        rw [Int.toNat_natCast] at hn
        have := (h4 j (by omega) hj0).1
        have h5 := Int.lt_of_lt_of_le hn this
        exact ⟨Int.le_of_lt h5, fun h6 => absurd h6 (Int.ne_of_lt h5)⟩
theorem light_l0 (all : List Int) (hl : all.length ≤ 1000000) : ∀ (d i : Nat) (b : Int), all.length - i = d → i ≤ all.length → BestAt all i b → ∃ r, Ev (fun k => millref10_lightest.l0 k all b i) r ∧ BestAt all all.length r
  | 0, i, b, hd, hi, hb => by
    have e : i = all.length := by omega
    subst e
    have e1 : ¬ (all.length : Int) < all.length := by omega
    exact ⟨b, Ev.step (f := fun _ => some b) (fun k => by rw [millref10_lightest.l0, if_neg e1]) (Ev.now _), hb⟩
  | d + 1, i, b, hd, hi, hb => by
    have hlt : i < all.length := by omega
    have e1 : (i : Int) < all.length := by omega
    have e2 : (0 : Int) ≤ (i : Int) := by omega
    have e3 : wrap64 ((i : Int) + 1) = ((i + 1 : Nat) : Int) := wS (by omega)
    have next : ∀ b', BestAt all (i + 1) b' → (∀ k, millref10_lightest.l0 (k + 1) all b i = millref10_lightest.l0 k all b' ((i + 1 : Nat) : Int)) → ∃ r, Ev (fun k => millref10_lightest.l0 k all b i) r ∧ BestAt all all.length r := fun b' h1 h2 => by
      obtain ⟨r, h3, h4⟩ := light_l0 all hl d (i + 1) b' (by clear e3; omega) hlt h1
      exact ⟨r, Ev.step h2 h3, h4⟩
    by_cases c1 : all.getD i 0 ≥ 0
    · by_cases c2 : b < 0
      · have hb1 : b = -1 := by
          rcases hb with ⟨h, _⟩ | ⟨B, h, _⟩
          · exact h
          · clear e3; omega
        exact next i (bestAt_new hb c1 (.inl hb1)) (fun k => by rw [millref10_lightest.l0, if_pos e1, if_pos e2, rd_nat, if_pos c1, if_pos c2, e3])
      · obtain ⟨B, rfl⟩ : ∃ B : Nat, b = B := ⟨b.toNat, by clear e3; omega⟩
        have hB : B < i := by
          rcases hb with ⟨h, _⟩ | ⟨B', h, h2, _⟩
          · clear e3; omega
          · clear e3; omega
        have e4 : (0 : Int) ≤ (B : Int) := Int.natCast_nonneg _
        have e5 : (B : Int) < (all.length : Int) := by clear e3; omega
        by_cases c3 : all.getD i 0 < all.getD B 0
        · exact next i (bestAt_new hb c1 (.inr (by rw [Int.toNat_natCast]; exact c3))) (fun k => by rw [millref10_lightest.l0, if_pos e1, if_pos e2, rd_nat, if_pos c1, if_neg c2, if_pos e4, if_pos e5, rd_nat, if_pos c3, e3])
        · exact next B (bestAt_keep hb c3) (fun k => by rw [millref10_lightest.l0, if_pos e1, if_pos e2, rd_nat, if_pos c1, if_neg c2, if_pos e4, if_pos e5, rd_nat, if_neg c3, e3])
    · exact next b (bestAt_skip hb (Int.not_le.1 c1)) (fun k => by rw [millref10_lightest.l0, if_pos e1, if_pos e2, rd_nat, if_neg c1, e3])
/-- the list holds what is left -/
structure Rep (all : List Int) (s : List Rung) : Prop where
  there : ∀ x ∈ s, 0 ≤ x.1 ∧ x.1 < (all.length : Int) ∧ all.getD x.1.toNat 0 = x.2 ∧ 0 ≤ x.2
  only : ∀ j : Nat, j < all.length → 0 ≤ all.getD j 0 → ((j : Int), all.getD j 0) ∈ s
theorem light_ev {all : List Int} (hl : all.length ≤ 1000000) {x : Rung} {s : List Rung} (hs : Sorted (x :: s)) (h : Rep all (x :: s)) : Ev (fun k => millref10_lightest.f k all) x.1 := by
  obtain ⟨r, h1, h2⟩ := light_l0 all hl all.length 0 (-1) rfl (Nat.zero_le _) (.inl ⟨rfl, fun j hj => by omega⟩)
  have hx := h.there x (List.mem_cons_self ..)
  have e : r = x.1 := by
    rcases h2 with ⟨h3, h4⟩ | ⟨B, h3, h4, h5, h6⟩
    · have := h4 x.1.toNat (by omega)
      rw [hx.2.2.1] at this
      omega
    · have h7 := h6 x.1.toNat (by omega) (by rw [hx.2.2.1]; exact hx.2.2.2)
      rw [hx.2.2.1] at h7
      have h8 : le x ((B : Int), all.getD B 0) := by
        rcases List.mem_cons.1 (h.only B h4 h5) with h9 | h9
        · rw [h9]; exact le_refl _
        · exact (List.pairwise_cons.1 hs).1 _ h9
      unfold le at h8
      simp only at h8
      have h9 := h7.2
      have h10 := h7.1
      generalize all.getD B 0 = v at h8 h9 h10
      rcases Int.lt_or_eq_of_le h10 with h11 | h11
      · omega
      · have := h9 h11
        omega
  rw [← e]
  exact Ev.congr (fun k => rfl) h1
theorem rep_take {all : List Int} {x : Rung} {s : List Rung} (h : Rep all (x :: s)) (hn : ∀ y ∈ s, y.1 ≠ x.1) : Rep (all.set x.1.toNat (-1)) s := by
  have hx := h.there x (List.mem_cons_self ..)
  refine ⟨fun y hy => ?_, fun j hj h0 => ?_⟩
  · have h1 := h.there y (List.mem_cons_of_mem _ hy)
    have h2 := hn y hy
    rw [List.length_set, getD_set (by omega), if_neg (by omega)]
    exact h1
  · rw [List.length_set] at hj
    rw [getD_set (by omega)] at h0 ⊢
    by_cases e : j = x.1.toNat
    · rw [if_pos e] at h0; omega
    · rw [if_neg e] at h0 ⊢
      rcases List.mem_cons.1 (h.only j hj h0) with h1 | h1
      · exact absurd (congrArg Prod.fst h1) (by simp only; omega)
      · exact h1
theorem rep_new {all : List Int} {s : List Rung} {v : Int} (h : Rep all s) (h0 : 0 ≤ v) : Rep (all ++ [v]) (insR ((all.length : Int), v) s) := by
  refine ⟨fun y hy => ?_, fun j hj hj0 => ?_⟩
  · rw [List.length_append, List.length_singleton]
    rcases List.mem_cons.1 ((insR_perm _ _).mem_iff.1 hy) with rfl | hy
    · refine ⟨Int.natCast_nonneg _, by simp only; omega, ?_, h0⟩
      rw [Int.toNat_natCast, getD_append_len]
    · obtain ⟨h1, h2, h3, h4⟩ := h.there y hy
      exact ⟨h1, by omega, by rw [getD_append_lt (by omega)]; exact h3, h4⟩
  · refine (insR_perm _ _).mem_iff.2 ?_
    rw [List.length_append, List.length_singleton] at hj
    by_cases e : j = all.length
    · subst e
      rw [getD_append_len]
      exact List.mem_cons_self ..
    · rw [getD_append_lt (by omega)] at hj0 ⊢
      exact List.mem_cons_of_mem _ (h.only j (by omega) hj0)
end Go.Proofs.Ytbgabijjnbmghaa.P
/- Plain law: the reference's Make answers the greedy steps (the loops). -/
namespace Go.Proofs.Ytbgabijjnbmghaa.P
open Go.RowKit Go.Proofs.Ytbgabijjnbmghaa Go.Proofs.YtbgabijjnbmghaaW.PrintWords Go.Proofs.YtbgabijjnbmghaaW.PrintLast Go.Proofs.YtbgabijjnbmghaaW.PrintMore
set_option linter.unusedVariables false
set_option linter.unusedSimpArgs false

theorem refMake_step (k : Nat) (fan n : Int) (all : List Int) (st : List S51) (left t : Int) (ins ins' : List Int) (sm sm' : Int) (q T : Nat) (x : Int) (hT : t = T) (hq : q < T) (hb : q ≤ 1000000) (h1 : millref10_lightest.f k all = some x) (h2 : 0 ≤ x) (h3 : x < (all.length : Int)) (h4 : millref10_put.f k ins x = some ins') (hw : wrap64 (sm + rd all x) = sm') :
    millref10_Make.l1 (k + 1) fan n all st left t ins sm q = millref10_Make.l1 k fan n (all.set x.toNat (-1)) st left t ins' sm' ((q + 1 : Nat) : Int) := by
  have e1 : (q : Int) < t := by clear hw; omega
  rw [millref10_Make.l1, if_pos e1, h1]
  simp only [Option.bind_some]
  rw [if_pos h2, if_pos h3, h4]
  simp only [Option.bind_some]
  rw [hw, wS (by clear hw; omega)]
theorem refMake_l1 (fan n : Int) (st : List S51) (left : Int) (t : Nat) (ht : t ≤ 64) (r : List S51 × Int) (N : Nat) (hN : N ≤ 1000000) : ∀ (d q : Nat) (s : List Rung) (all ins : List Int) (sm : Int), t - q = d → q ≤ t → d ≤ s.length → all.length = N → Rep all s → Sorted s → (s.map (·.1)).Nodup → Asc ins → ins.length = q → 0 ≤ sm → sm + sumW s ≤ 4611686018427387904 →
    (∀ all' ins', all'.length = N → Rep all' (s.drop d) → Asc ins' → ins'.Perm (ins ++ (s.take d).map (·.1)) → Ev (fun k => millref10_Make.l1 k fan n all' st left t ins' (sm + sumW (s.take d)) t) r) →
    Ev (fun k => millref10_Make.l1 k fan n all st left t ins sm q) r
  | 0, q, s, all, ins, sm, hd, hq, hl, hN2, hR, hs, hnd, ha, hil, h0, hb, cont => by
    have e : q = t := by omega
    subst e
    have := cont all ins hN2 (by simpa using hR) ha (by simp)
    have e0 : sumW (s.take 0) = 0 := by simp [sumW]
    rw [e0, Int.add_zero] at this
    exact this
  | d + 1, q, [], all, ins, sm, hd, hq, hl, hN2, hR, hs, hnd, ha, hil, h0, hb, cont => by simp at hl
  | d + 1, q, x :: s, all, ins, sm, hd, hq, hl, hN2, hR, hs, hnd, ha, hil, h0, hb, cont => by
    have hx := hR.there x (List.mem_cons_self ..)
    have hnd' := List.nodup_cons.1 hnd
    have hne : ∀ y ∈ s, y.1 ≠ x.1 := fun y hy e => hnd'.1 (List.mem_map.2 ⟨y, hy, e⟩)
    have hs0 : 0 ≤ sumW s := sumW_nonneg s (fun y hy => (hR.there y (List.mem_cons_of_mem _ hy)).2.2.2)
    rw [sumW_cons] at hb
    obtain ⟨K1, hK1⟩ := light_ev (by omega) hs hR
    obtain ⟨ins', ⟨K2, hK2⟩, p2, p3⟩ := put_ev ins x.1 (by omega) ha
    have hw : wrap64 (sm + rd all x.1) = sm + x.2 := by
      show wrap64 (sm + all.getD x.1.toNat 0) = _
      rw [hx.2.2.1]
      exact w64 _ (by omega) (by omega)
    have ih := refMake_l1 fan n st left t ht r N hN d (q + 1) s (all.set x.1.toNat (-1)) ins' (sm + x.2) (by clear hw; omega) (by clear hw; omega) (by simpa using hl) (by rw [List.length_set]; exact hN2) (rep_take hR hne) (List.pairwise_cons.1 hs).2 hnd'.2 p2 (by rw [p3.length_eq, List.length_append, hil]; rfl) (by clear hw; omega) (by clear hw; omega) (fun all' ins'' c1 c2 c3 c4 => by
      have := cont all' ins'' c1 c2 c3 (c4.trans (by
        rw [List.take_succ_cons, List.map_cons]
        refine (p3.append_right _).trans ?_
        rw [List.append_assoc]; exact List.Perm.refl _))
      rw [List.take_succ_cons, sumW_cons, ← Int.add_assoc] at this
      exact this)
    obtain ⟨K3, hK3⟩ := ih
    refine ⟨K1 + K2 + K3 + 1, fun m hm => ?_⟩
    obtain ⟨m, rfl⟩ : ∃ m', m = m' + 1 := ⟨m - 1, by clear hw; omega⟩
    show millref10_Make.l1 (m + 1) fan n all st left t ins sm q = some r
    rw [refMake_step m fan n all st left t ins ins' sm (sm + x.2) q t x.1 rfl (by clear hw; omega) (by clear hw; omega) (hK1 m (by clear hw; omega)) hx.1 hx.2.1 (hK2 m (by clear hw; omega)) hw]
    exact hK3 m (by clear hw; omega)
theorem refMake_end (fan n : Int) (all : List Int) (st : List S51) (left t : Int) (h : ¬ left > 1) : Ev (fun k => millref10_Make.l0 k fan n all st left t) (st, 0) :=
  Ev.step (f := fun _ => some (st, 0)) (fun k => by rw [millref10_Make.l0, if_neg h]) (Ev.now _)
theorem greedy_one (n fan f t : Nat) (s : List Rung) (st : List S51) (h : s.length ≤ 1) : greedy n fan f t s st = st := by
  cases f with
  | zero => rfl
  | succ f => rw [greedy, if_neg (by omega)]
theorem refMake_back (fan : Int) (n : Nat) (all : List Int) (st : List S51) (left t left' : Nat) (ins : List Int) (sm : Int) (h1 : st.length ≤ 1000000) (h2 : all.length ≤ 1000000) (h3 : n ≤ 1000000) (h4 : t ≤ left) (h5 : left ≤ 1000000) (h6 : left' = left - t + 1) (r : List S51 × Int)
    (cont : Ev (fun k => millref10_Make.l0 k fan n (all ++ [sm]) (st ++ [⟨ins, ((n + st.length : Nat) : Int)⟩]) left' fan) r) : Ev (fun k => millref10_Make.l1 k fan n all st left t ins sm t) r := by
  refine Ev.step (fun k => ?_) cont
  have e1 : ¬ (t : Int) < (t : Int) := by omega
  have e2 : st.length < 4398046511104 := by omega
  have e3 : all.length < 17592186044416 := by omega
  have e5 : wrap64 (wrap64 ((left : Int) - (t : Int)) + 1) = (left' : Int) := by
    rw [w64 ((left : Int) - (t : Int)) (by omega) (by omega), w64 _ (by omega) (by omega)]; omega
  rw [millref10_Make.l1, if_neg e1, if_pos e2, if_pos e3, e5, wA (by clear e5; omega) (by clear e5; omega)]
theorem refMake_l0 (fan n : Nat) (hf : 2 ≤ fan) (hf2 : fan ≤ 64) (hn : n ≤ 65536) : ∀ (q f t : Nat) (s : List Rung) (st : List S51) (all : List Int), q < f → s.length = t + q * (fan - 1) → 2 ≤ t → t ≤ fan → s.length ≤ 65536 → Rep all s → Sorted s → (s.map (·.1)).Nodup → all.length = n + st.length → st.length + q ≤ 66000 → sumW s ≤ 4611686018427387904 →
    Ev (fun k => millref10_Make.l0 k fan n all st s.length t) (greedy n fan f t s st, 0) := by
  intro q
  induction q with
  | zero =>
    intro f t s st all hq hl h2 ht hl2 hR hs hnd hal hst hb
    obtain ⟨f, rfl⟩ : ∃ f', f = f' + 1 := ⟨f - 1, by omega⟩
    have e1 : (s.length : Int) > 1 := by omega
    have hone : (nextS n t s st).length = 1 := by rw [insR_length, List.length_drop]; omega
    rw [greedy, if_pos (by omega), greedy_one _ _ _ _ _ _ (Nat.le_of_eq hone)]
    refine Ev.step (f := fun k => millref10_Make.l1 k fan n all st s.length t [] 0 ((0 : Nat) : Int)) (fun k => by rw [millref10_Make.l0, if_pos e1]; rfl) ?_
    refine refMake_l1 fan n st s.length t (by omega) _ all.length (by omega) t 0 s all [] 0 rfl (Nat.zero_le _) (by omega) rfl hR hs hnd List.Pairwise.nil rfl (Int.le_refl _) (by omega) (fun all' ins' c1 c2 c3 c4 => ?_)
    have e2 : ins' = sortI ((s.take t).map (·.1)) := asc_unique _ _ c3 (sortI_sorted _) (c4.trans (by rw [List.nil_append]; exact (sortI_perm _).symm))
    rw [e2, Int.zero_add]
    exact refMake_back fan n all' st s.length t 1 _ _ (by omega) (by omega) (by omega) (by omega) (by omega) (by omega) _ (refMake_end _ _ _ _ _ _ (by omega))
  | succ q ih =>
    intro f t s st all hq hl h2 ht hl2 hR hs hnd hal hst hb
    obtain ⟨f, rfl⟩ : ∃ f', f = f' + 1 := ⟨f - 1, by omega⟩
    have e1 : (s.length : Int) > 1 := by omega
    have hlen : (nextS n t s st).length = fan + q * (fan - 1) := by rw [insR_length, List.length_drop, hl, Nat.succ_mul]; omega
    have hlen2 : (nextS n t s st).length = s.length - t + 1 := by rw [insR_length, List.length_drop]
    rw [greedy, if_pos (by omega)]
    refine Ev.step (f := fun k => millref10_Make.l1 k fan n all st s.length t [] 0 ((0 : Nat) : Int)) (fun k => by rw [millref10_Make.l0, if_pos e1]; rfl) ?_
    refine refMake_l1 fan n st s.length t (by omega) _ all.length (by omega) t 0 s all [] 0 rfl (Nat.zero_le _) (by omega) rfl hR hs hnd List.Pairwise.nil rfl (Int.le_refl _) (by omega) (fun all' ins' c1 c2 c3 c4 => ?_)
    have e2 : ins' = sortI ((s.take t).map (·.1)) := asc_unique _ _ c3 (sortI_sorted _) (c4.trans (by rw [List.nil_append]; exact (sortI_perm _).symm))
    rw [e2, Int.zero_add]
    have hs0 := sumW_nonneg (s.take t) (fun y hy => (hR.there y (List.mem_of_mem_take hy)).2.2.2)
    have hspl := sumW_split s t
    have hrep := rep_new (v := sumW (s.take t)) c2 hs0
    rw [c1, hal] at hrep
    refine refMake_back fan n all' st s.length t (nextS n t s st).length _ _ (by omega) (by omega) (by omega) (by omega) (by omega) hlen2 _ ?_
    refine ih f fan (nextS n t s st) (nextT n t s st) (all' ++ [sumW (s.take t)]) (by omega) hlen hf (Nat.le_refl _) (by omega) hrep (insR_sorted _ _ (hs.sublist (List.drop_sublist _ _))) ?_ (by rw [List.length_append, List.length_append, List.length_singleton, List.length_singleton]; omega) (by rw [List.length_append, List.length_singleton]; omega) ?_
    · refine (((insR_perm _ _).map (·.1)).nodup_iff).2 ?_
      rw [List.map_cons, List.nodup_cons]
      refine ⟨fun hm => ?_, ?_⟩
      · obtain ⟨y, hy, e⟩ := List.mem_map.1 hm
        have := (c2.there y hy).2.1
        simp only at e
        omega
      · rw [List.map_drop]; exact hnd.sublist (List.drop_sublist _ _)
    · rw [sumW_insR]; simp only; omega
theorem refMake_ev {l : List Int} {fan : Int} (hg : givenV l fan = 0) : Ev (fun k => millref10_Make.f k l fan) (gSteps l fan.toNat, 0) := by
  unfold millref10_Make.f
  refine Ev.bind (ref_given_ev l fan) ?_
  rw [hg]
  simp only [if_true]
  obtain ⟨g1, g2, g3, g4, g5⟩ := givenV_zero hg
  obtain ⟨F, rfl⟩ : ∃ F : Nat, fan = F := ⟨fan.toNat, by omega⟩
  rw [Int.toNat_natCast]
  by_cases h1 : l.length = 1
  · have e1 : (l.length : Int) = 1 := by omega
    simp only [if_pos e1]
    have e : gSteps l F = [⟨[0], 1⟩] := by unfold gSteps; rw [if_pos h1]
    rw [e]
    exact Ev.now _
  · have e1 : ¬ (l.length : Int) = 1 := by omega
    have e2 : ([] : List Int).length + l.length < 17592186044416 := by rw [List.length_nil]; omega
    have e3 : ¬ (wrap64 ((F : Int) - 1) = 0) := by rw [w64 _ (by omega) (by omega)]; omega
    simp only [if_neg e1, if_pos e2, if_neg e3]
    have e4 : wrap64 (2 + Int.tmod (wrap64 ((l.length : Int) - 2)) (wrap64 ((F : Int) - 1))) = ((takeOf l.length F : Nat) : Int) := by
      clear e3
      have a1 : wrap64 ((l.length : Int) - 2) = ((l.length - 2 : Nat) : Int) := by rw [w64 _ (by omega) (by omega)]; omega
      rw [a1]
      clear a1
      have a2 : wrap64 ((F : Int) - 1) = ((F - 1 : Nat) : Int) := by rw [w64 _ (by omega) (by omega)]; omega
      rw [a2]
      clear a2
      rw [Int.tmod_eq_emod_of_nonneg (Int.natCast_nonneg _), ← Int.natCast_emod]
      have a3 := Nat.mod_lt (l.length - 2) (show F - 1 > 0 by omega)
      unfold takeOf
      rw [if_neg h1]
      generalize (l.length - 2) % (F - 1) = z at a3
      rw [w64 _ (by omega) (by omega)]; omega
    rw [e4]
    clear e3 e4
    obtain ⟨t1, t2, t3, t4⟩ := take_more (n := l.length) (fan := F) (by omega) g3
    have hq : moreOf l.length F ≤ moreOf l.length F * (F - 1) := Nat.le_mul_of_pos_right _ (by omega)
    have htk : takeOf l.length F = 2 + (l.length - 2) % (F - 1) := by unfold takeOf; rw [if_neg h1]
    have hlen : (sortR (rungs 0 l)).length = l.length := by rw [sortR_length, rungs_length]
    have hinv := invA_start l F 0
    have hnd : ((sortR (rungs 0 l)).map (·.1)).Nodup := (List.nodup_append.1 (hinv.perm.nodup_iff.2 (nums_nodup _))).2.1
    have hsum : sumW (sortR (rungs 0 l)) ≤ 4611686018427387904 := by
      rw [sumW_perm (sortR_perm _), sumW_rungs]
      have := given_sum hg
      omega
    have hrep : Rep l (sortR (rungs 0 l)) := by
      refine ⟨fun x hx => ?_, fun j hj h0 => ?_⟩
      · obtain ⟨j, h1, h2⟩ := rungs_get_mem l 0 x ((sortR_perm _).mem_iff.1 hx)
        rw [h2, Nat.zero_add, Int.toNat_natCast]
        exact ⟨Int.natCast_nonneg _, by simp only; omega, rfl, given_nonneg g5 j⟩
      · refine (sortR_perm _).mem_iff.2 ?_
        rw [rungs_nums]
        exact List.mem_map.2 ⟨(j : Int), nums_mem.2 ⟨Int.natCast_nonneg _, by omega⟩, by rw [Int.toNat_natCast]⟩
    have := refMake_l0 F l.length (by omega) (by omega) g4 (moreOf l.length F) l.length (takeOf l.length F) (sortR (rungs 0 l)) [] l (by omega) (by rw [hlen]; exact t1) (t4 (by omega)) t3 (by omega) hrep (sortR_sorted _) hnd rfl (by rw [List.length_nil]; omega) hsum
    rw [hlen] at this
    have e : gSteps l F = greedy l.length F l.length (takeOf l.length F) (sortR (rungs 0 l)) [] := by
      unfold gSteps; rw [if_neg h1, htk]
    rw [e]
    exact this
theorem refMake_bad {l : List Int} {fan : Int} (hg : givenV l fan ≠ 0) : Ev (fun k => millref10_Make.f k l fan) ([], givenV l fan) := by
  unfold millref10_Make.f
  refine Ev.bind (ref_given_ev l fan) ?_
  simp only [if_neg hg]
  exact Ev.now _
end Go.Proofs.Ytbgabijjnbmghaa.P
/- Plain law: PlanOwn answers true: all that its walk asks is there. -/
namespace Go.Proofs.Ytbgabijjnbmghaa.P
open Go.RowKit Go.Proofs.Ytbgabijjnbmghaa Go.Proofs.YtbgabijjnbmghaaW.PrintWords Go.Proofs.YtbgabijjnbmghaaW.PrintLast Go.Proofs.YtbgabijjnbmghaaW.PrintMore
set_option linter.unusedVariables false
set_option linter.unusedSimpArgs false

theorem givenV_mk {l : List Int} {fan : Int} (h1 : 2 ≤ fan) (h2 : fan ≤ 64) (h3 : 1 ≤ l.length) (h4 : l.length ≤ 65536) (h5 : ∀ x ∈ l, okW x) : givenV l fan = 0 := by
  unfold givenV
  rw [if_neg (by omega), if_neg (by omega), if_pos h5]
theorem small_steps {l : List Int} {fan : Int} (hg : givenV l fan = 0) (hl : l.length ≤ 300) : Small (gSteps l fan.toNat) := by
  obtain ⟨g1, g2, g3, g4, g5⟩ := givenV_zero hg
  have hp := gSteps_plan (l := l) (fan := fan.toNat) (by omega) g3
  have h1 := hp.some
  have h2 := hp.few
  refine ⟨by omega, by omega, fun x hx => ?_⟩
  obtain ⟨s, hs, rfl⟩ := List.getElem_of_mem hx
  have h3 := (plan_at hp hs).1
  exact ⟨h3.2.1, by have := h3.2.2.1; omega⟩
theorem own_true (A0 : Option Addr) (c0 : Nat) (l0 : List Int) (a1 : Int) (w : World) (hr0 : Kd.C (Kd.int .i64) w A0 l0.length l0) (hc0 : l0.length ≤ c0) :
    Calls Try.prog 5 #[.slice A0 l0.length c0, .int .i64 a1] w fun e w' => e = .returned (.bool true) ∧ Below w.heap.size w w' := by
  obtain ⟨K1, e1⟩ := ref_given_ev l0 a1
  by_cases hg : givenV l0 a1 = 0
  case neg => exact own_bad K1 A0 c0 l0 a1 w hr0 hc0 _ (e1 K1 (Nat.le_refl _)) hg
  rw [hg] at e1
  by_cases h1 : 300 < l0.length
  · exact own_far K1 A0 c0 l0 a1 w hr0 hc0 (e1 K1 (Nat.le_refl _)) h1
  obtain ⟨g1, g2, g3, g4, g5⟩ := givenV_zero hg
  have hgc : givenV [3, 1, 2] a1 = 0 := givenV_mk g1 g2 (by simp) (by simp) (fun x hx => by
    simp at hx
    rcases hx with rfl | rfl | rfl <;> decide)
  have hgr : givenV l0.reverse a1 = 0 := givenV_mk g1 g2 (by rw [List.length_reverse]; exact g3) (by rw [List.length_reverse]; exact g4) (fun x hx => g5 x (List.mem_reverse.1 hx))
  have sa := small_steps hg (by omega)
  have sc := small_steps hgc (by simp)
  have sx := small_steps hgr (by rw [List.length_reverse]; omega)
  obtain ⟨K2, e2⟩ := make_ev hg
  obtain ⟨K3, e3⟩ := make_ev hgc
  obtain ⟨K4, e4⟩ := make_ev hgr
  obtain ⟨K5, e5⟩ := refMake_ev hgr
  obtain ⟨K6, e6⟩ := twin_ev (gSteps l0 a1.toNat) (by have := sa.2.1; omega) (fun st h => by have := (sa.2.2 st h).2; omega)
  obtain ⟨K7, e7⟩ := sameSteps_ev (gSteps l0 a1.toNat) (by have := sa.2.1; omega) (fun s h => by have := (sa.2.2 _ (List.getElem_mem h)).2; omega)
  obtain ⟨K8, e8⟩ := sameSteps_ev (gSteps l0.reverse a1.toNat) (by have := sx.2.1; omega) (fun s h => by have := (sx.2.2 _ (List.getElem_mem h)).2; omega)
  obtain ⟨k, g1, g2, g3, g4, g5, g6, g7, g8⟩ : ∃ k, K1 ≤ k ∧ K2 ≤ k ∧ K3 ≤ k ∧ K4 ≤ k ∧ K5 ≤ k ∧ K6 ≤ k ∧ K7 ≤ k ∧ K8 ≤ k := ⟨K1 + K2 + K3 + K4 + K5 + K6 + K7 + K8, by omega, by omega, by omega, by omega, by omega, by omega, by omega, by omega⟩
  exact own_main k A0 c0 l0 a1 l0.reverse _ _ _ w hr0 hc0 (by omega) (by omega) rfl (e1 k g1) (e2 k g2) (e3 k g3) (e4 k g4) (e5 k g5) (e6 k g6) (e7 k g7) (e8 k g8) sa sc sx
end Go.Proofs.Ytbgabijjnbmghaa.P
/- PlanOwn answers true, whatever comes in: from the printed row of PlanOwn, turned by hand. -/
namespace Go.Proofs.Ytbgabijjnbmghaa.planOwn
open Go.ChangeShapes Go.WideShapes Go.ChangeAt Go.RowKit Go.Proofs.YtbgabijjnbmghaaW.PrintWords
open Go.ChangeMaps (open_string shut_string)
set_option linter.unusedVariables false
theorem own : ownKnob Try.prog.godebug = none := by kernel_rfl
theorem laidOut : laidOutB Try.prog = true := by kernel_rfl
def IsRow (k : IntKind) (w : World) (a : Option Addr) (len cap : Nat) (zs : List Int) : Prop :=
  (a = none ∧ len = 0 ∧ cap = 0 ∧ zs = []) ∨
  ∃ x, a = some x ∧ len ≤ cap ∧ cap ≤ maxLen ∧ zs.length = cap ∧ (∀ i, i < zs.length → w.cell? (x.add i) = some (.int k (zs.getD i 0))) ∧ ∀ n ∈ zs, (Lit.int k n).wf = true
set_option maxRecDepth 100000 in
theorem lifted (os : Os) (started : os.Started) (H : Type) (enc : TypeId × Value → H) :
    ReturnsInHanded {} Try.checked os 5 .any (Rows.planOwnSpec.pre6 enc Try.prog Try.f5 Rows.planOwnRow.domain false) (Rows.planOwnSpec.post enc Try.prog Try.f5 false true false false) := by
  refine returnsInHanded_of_change_sized (C := Try.checked) own started (by kernel_rfl) Try.func5
    (ChangeSpec.witness6 (enc := enc) (C := Try.checked) false ⟨#[], #[.slice none 0 0, .int .i64 0], []⟩ 8 (by kernel_rfl) (by kernel_rfl) (by kernel_rfl) (by kernel_rfl)) ?_
  intro W base args ds gs before hval0 hW hcnd hsz0 _
  have hsz : (DataW.weightsEach Try.prog (Try.f5.params.toList ++ Rows.planOwnSpec.plain.varTypes Try.prog) (ds ++ gs)).all (· ≤ reachBytes) = true := hsz0
  have hval : ∀ (j : Nat) t v, Try.f5.params[j]? = some t → args[j]? = some v → Value.okWide Try.prog W .any base t v := hval0
  have hW' := hW
  obtain ⟨p, q, hA0, hV, rfl, hfz, hnd⟩ := hW
  have hA : DataW.TrodAll enc Try.prog W 0 (fun _ => true) true Try.f5.params.toList args.toList ds p := hA0
  rw [Try.params5] at hA hval hsz
  obtain ⟨v0, vs0, d0, ds0, p0, q0, hargs, rfl, rfl, h0, r0⟩ := trodAll_cons hA
  obtain ⟨v1, vs1, d1, ds1, p1, q1, rfl, rfl, rfl, h1, r1⟩ := trodAll_cons r0
  obtain ⟨rfl, rfl, rfl⟩ := trodAll_nil r1
  obtain rfl : args = #[v0, v1] := by cases args; simp_all
  obtain ⟨rfl, rfl⟩ := trodVars_none hV
  obtain ⟨a0, len0, cap0, rfl⟩ := okWide_slice Try.underlying22 (hval 0 22 v0 rfl rfl)
  have k0 := h0
  have lt0 : ∀ x ∈ p0, x.block < W.heap.size := by obtain ⟨m, hm⟩ := k0; exact DataW.trod_lt m _ _ _ hm
  obtain ⟨z0, w0⟩ : ∃ zs, IsRow .i64 W a0 len0 cap0 zs := by
    obtain ⟨fuel, hf⟩ := h0
    rcases open_ints Try.underlying22 Try.underlying3 (by kernel_rfl) hf with ⟨hcs, _⟩ | ⟨x, l, c, zs, hcs, _, hl, hm, hz, _, hcell, hwz⟩
    · simp [Value.cells] at hcs
      obtain ⟨rfl, rfl, rfl⟩ := hcs
      exact ⟨[], .inl ⟨rfl, rfl, rfl, rfl⟩⟩
    · simp [Value.cells] at hcs
      obtain ⟨rfl, rfl, rfl⟩ := hcs
      exact ⟨zs, .inr ⟨_, rfl, hl, hm, by simpa using hz, hcell, hwz⟩⟩
  have y0 : len0 * 8 ≤ 140737488351232 := Go.Proofs.YtbgabijjnbmghaaW.PrintWords.sized_ints hsz (j := 0) (t := 22) rfl rfl Try.underlying22 Try.underlying3 (by kernel_rfl) (by kernel_rfl) h0
  obtain ⟨a1, rfl, rfl, rfl, w1⟩ := open_int Try.underlying3 (hval 1 3 v1 rfl rfl) h1
  clear hA0 hval0 hsz0 hsz
  obtain ⟨l0, rfl, hr0, hm0, hw0, hc0⟩ := ReadsInt.ofRowC w0
  refine (P.own_true _ _ l0 a1 W (Kd.C_of_reads (d := (0 : Int)) (h1 := fun _ => rfl) hr0) hc0).mono fun e W' ⟨he, bel⟩ => ?_
  subst he
  exact ⟨_, rfl, _, _, _, [], _, [], hW', trodAll_mk1 (shut_bool Try.underlying4 _), (trodAll_cons_mk (Below.trod laidOut (by kernel_rfl) (of_decide_eq_true (by kernel_rfl)) k0 bel lt0) (trodAll_cons_mk (shut_int Try.underlying3 w1) trodAll_mk0)), rfl, bel.frame _, fun h => by cases h⟩
theorem over : Rows.planOwnRow.holds Try.pinned (OpenSpec.ofChange Rows.planOwnSpec) :=
  OpenClaim.holds_of_wide 5 Try.f5 rfl rfl rfl rfl rfl rfl rfl ⟨rfl, rfl, rfl, rfl, rfl⟩ rfl rfl rfl rfl rfl (by kernel_rfl) Try.func5 (by kernel_rfl)
    (of_decide_eq_true (by kernel_rfl)) (by unfold Func.isWrapper; first | (rw [if_pos (by decide +kernel)]; kernel_rfl) | (rw [if_neg (by decide +kernel)]; exact ⟨rfl, rfl⟩))
    (fun os started H enc _ => lifted os started H enc)
theorem proved : Rows.PlanOwnSaid := over
#print axioms proved
end Go.Proofs.Ytbgabijjnbmghaa.planOwn
namespace Go.Proofs.Ytbgabijjnbmghaa
/-- The row, under a short name, for the claim. -/
theorem planOwn_holds : Rows.PlanOwnSaid := planOwn.proved
end Go.Proofs.Ytbgabijjnbmghaa
