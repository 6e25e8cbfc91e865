/- Plain law: what plan.Check answers. -/
import Derived.Test.YtbgabijjnbmghaaSpecA
import Derived.Test.YtbgabijjnbmghaaP7
namespace Go.Proofs.Ytbgabijjnbmghaa.P
open Go.RowKit Go.Proofs.YtbgabijjnbmghaaW.PrintWords Go.Proofs.YtbgabijjnbmghaaW.PrintLast Go.Proofs.YtbgabijjnbmghaaW.PrintMore
set_option linter.unusedVariables false
set_option linter.unusedSimpArgs false

/-- may x stand behind p? -/
def nextOk (p : Option Int) (x : Int) : Prop := ∀ y, p = some y → y < x
instance (p : Option Int) (x : Int) : Decidable (nextOk p x) := by
  unfold nextOk
  cases p with
  | none => exact isTrue (fun y h => by cases h)
  | some z => exact decidable_of_iff (z < x) ⟨fun h y e => by cases e; exact h, fun h => h z rfl⟩
/-- the marks of a step's runs, as plan does it -/
def shapeRun (out : Int) : Option Int → List Int → List Bool → Bool × List Bool
  | _, [], m => (true, m)
  | p, x :: r, m => if 0 ≤ x ∧ x < out ∧ nextOk p x ∧ m.getD x.toNat false = false then shapeRun out (some x) r (m.set x.toNat true) else (false, m)
def prevAt (l : List Int) (i : Nat) : Option Int := if i = 0 then none else l[i - 1]?
theorem shaped_l0 (ins : List Int) (out : Int) (hl : ins.length ≤ 65536) : ∀ (d i : Nat) (m : List Bool), ins.length - i = d → i ≤ ins.length → out ≤ m.length →
    Ev (fun k => plan_shaped.l0 k m ins ins.length (i : Int) ins out) (shapeRun out (prevAt ins i) (ins.drop i) m)
  | 0, i, m, hd, hi, ho => by
    have e : i = ins.length := by omega
    subst e
    refine Ev.step (f := fun _ => some (true, m)) (fun k => ?_) ?_
    · rw [plan_shaped.l0, if_neg (by omega)]
    · rw [List.drop_length]; exact Ev.now _
  | d + 1, i, m, hd, hi, ho => by
    have hlt : i < ins.length := by omega
    have ih := fun m' (h : out ≤ m'.length) => shaped_l0 ins out hl d (i + 1) m' (by omega) (by omega) h
    have hr := rd_getElem hlt
    have hpa : prevAt ins (i + 1) = some ins[i] := by simp [prevAt, hlt]
    rw [drop_cons hlt, shapeRun]
    by_cases h1 : ins[i] < 0
    · rw [if_neg (by omega)]
      exact Ev.step (f := fun _ => some (false, m)) (fun k => by rw [plan_shaped.l0, if_pos (by omega), if_pos (by omega), if_pos (by omega), hr, if_pos h1]) (Ev.now _)
    by_cases h2 : ins[i] ≥ out
    · rw [if_neg (by omega)]
      exact Ev.step (f := fun _ => some (false, m)) (fun k => by rw [plan_shaped.l0, if_pos (by omega), if_pos (by omega), if_pos (by omega), hr, if_neg h1, if_pos h2]) (Ev.now _)
    have hmk : ∀ (hn : nextOk (prevAt ins i) ins[i]) (hg : ∀ k (r : Option (Bool × List Bool)), (if 0 ≤ ins[i] then (if ins[i] < (m.length : Int) then (if rdOf false m ins[i] = true then some (false, m) else plan_shaped.l0 k (m.set (ins[i]).toNat true) ins ins.length (wrap64 ((i : Int) + 1)) ins out) else none) else none) = r → plan_shaped.l0 (k + 1) m ins ins.length (i : Int) ins out = r), Ev (fun k => plan_shaped.l0 k m ins ins.length (i : Int) ins out) (if 0 ≤ ins[i] ∧ ins[i] < out ∧ nextOk (prevAt ins i) ins[i] ∧ m.getD (ins[i]).toNat false = false then shapeRun out (some ins[i]) (ins.drop (i + 1)) (m.set (ins[i]).toNat true) else (false, m)) := by
      intro hn hg
      by_cases h3 : m.getD (ins[i]).toNat false = false
      · rw [if_pos ⟨by omega, by omega, hn, h3⟩]
        refine Ev.step (f := fun k => plan_shaped.l0 k (m.set (ins[i]).toNat true) ins ins.length ((i + 1 : Nat) : Int) ins out) (fun k => ?_) ?_
        · refine hg k _ ?_
          rw [if_pos (by omega), if_pos (by omega), if_neg (by unfold rdOf; rw [h3]; simp), w64 _ (by omega) (by omega)]; rfl
        · rw [← hpa]; exact ih _ (by rw [List.length_set]; exact ho)
      · rw [if_neg (fun h => h3 h.2.2.2)]
        refine Ev.step (f := fun _ => some (false, m)) (fun k => ?_) (Ev.now _)
        refine hg k _ ?_
        rw [if_pos (by omega), if_pos (by omega), if_pos (by unfold rdOf; simpa using h3)]
    by_cases hi0 : i = 0
    · subst hi0
      refine hmk (fun y h => by simp [prevAt] at h) (fun k r h => ?_)
      rw [plan_shaped.l0, if_pos (by omega), if_pos (by omega), if_pos (by omega), hr, if_neg h1, if_neg h2, if_neg (by omega)]
      exact h
    · have hlt2 : i - 1 < ins.length := by omega
      have hr2 : rd ins (wrap64 ((i : Int) - 1)) = ins[i - 1] := by
        rw [w64 _ (by omega) (by omega), show (i : Int) - 1 = ((i - 1 : Nat) : Int) by omega]; exact rd_getElem hlt2
      have hpi : prevAt ins i = some ins[i - 1] := by simp [prevAt, hi0, hlt2]
      by_cases h4 : ins[i] ≤ ins[i - 1]
      · rw [if_neg (fun h => by have := h.2.2.1 _ hpi; omega)]
        refine Ev.step (f := fun _ => some (false, m)) (fun k => ?_) (Ev.now _)
        rw [plan_shaped.l0, if_pos (by omega), if_pos (by omega), if_pos (by omega), hr, if_neg h1, if_neg h2, if_pos (by omega), if_pos (by rw [w64 _ (by omega) (by omega)]; omega), if_pos (by rw [w64 _ (by omega) (by omega)]; omega), hr2, if_pos h4]
      · refine hmk (fun y h => by rw [hpi] at h; cases h; omega) (fun k r h => ?_)
        rw [plan_shaped.l0, if_pos (by omega), if_pos (by omega), if_pos (by omega), hr, if_neg h1, if_neg h2, if_pos (by omega), if_pos (by rw [w64 _ (by omega) (by omega)]; omega), if_pos (by rw [w64 _ (by omega) (by omega)]; omega), hr2, if_neg h4]
        exact h
/-- is a step of the right form, but for its runs? -/
def formOk (n fan s : Nat) (st : S51) : Prop := st.f1 = (n : Int) + s ∧ 1 ≤ st.f0.length ∧ st.f0.length ≤ fan ∧ (st.f0.length = 1 → n ≤ 1)
instance (n fan s : Nat) (st : S51) : Decidable (formOk n fan s st) := by unfold formOk; infer_instance
theorem shaped_ev (st : S51) (n fan s : Nat) (m : List Bool) (hn : n ≤ 65536) (hs : s ≤ 65536) (hf : fan ≤ 64) (hm : n + s ≤ m.length) :
    (formOk n fan s st → Ev (fun k => plan_shaped.f k st.f0 st.f1 (s : Int) (n : Int) (fan : Int) m) (shapeRun st.f1 none st.f0 m)) ∧
    (¬ formOk n fan s st → Ev (fun k => plan_shaped.f k st.f0 st.f1 (s : Int) (n : Int) (fan : Int) m) (false, m)) := by
  have hw : wrap64 ((n : Int) + (s : Int)) = (n : Int) + s := w64 _ (by omega) (by omega)
  have bad : ∀ (g : Nat → Option (Bool × List Bool)), (∀ k, g k = plan_shaped.j0 k m true st.f0 st.f1) → Ev g (false, m) := fun g hg =>
    Ev.congr hg (Ev.step (f := fun _ => some (false, m)) (fun k => by rw [plan_shaped.j0, if_pos rfl]) (Ev.now _))
  refine ⟨fun h => ?_, fun h => ?_⟩
  · obtain ⟨h1, h2, h3, h4⟩ := h
    have good : ∀ (g : Nat → Option (Bool × List Bool)), (∀ k, g k = plan_shaped.j0 k m false st.f0 st.f1) → Ev g (shapeRun st.f1 none st.f0 m) := fun g hg => by
      refine Ev.congr hg (Ev.step (f := fun k => plan_shaped.l0 k m st.f0 st.f0.length ((0 : Nat) : Int) st.f0 st.f1) (fun k => by rw [plan_shaped.j0, if_neg (by simp)]; rfl) ?_)
      exact shaped_l0 st.f0 st.f1 (by omega) st.f0.length 0 m rfl (Nat.zero_le _) (by omega)
    refine good _ (fun k => ?_)
    rw [plan_shaped.f, if_pos (by rw [hw]; exact h1), if_neg (by omega), if_neg (by omega)]
    split
    · rw [decide_eq_false (by have := h4 (by omega); omega)]
    · rfl
  · refine bad _ (fun k => ?_)
    rw [plan_shaped.f]
    split
    · rename_i g1
      rw [hw] at g1
      split
      · rfl
      · split
        · rfl
        · split
          · rw [decide_eq_true]
            exact Classical.byContradiction fun hc => h ⟨g1, by omega, by omega, fun _ => by omega⟩
          · exact absurd ⟨g1, by omega, by omega, fun _ => by omega⟩ h
    · rfl
end Go.Proofs.Ytbgabijjnbmghaa.P
