/- slices.Clone at []int: the shelf's contract, in the printed texts' words. -/
import Derived.Test.YtbgabijjnbmghaaP0
import Derived.Test.YtbgabijjnbmghaaShelf
namespace Go.Proofs.Ytbgabijjnbmghaa.P
open Go.RowKit Go.Proofs.YtbgabijjnbmghaaW.PrintWords Go.Proofs.YtbgabijjnbmghaaW.PrintLast Go.Proofs.YtbgabijjnbmghaaW.PrintMore
set_option linter.unusedVariables false
set_option linter.unusedSimpArgs false
def slices_Clone_int_int.f (l0 : List Int) : Option (List Int) := if l0.length ≤ 17592186044416 then some l0 else none
theorem slices_Clone_int_int.calls (A0 : Option Addr) (c0 : Nat) (l0 : List Int) (r : List Int) (w : World) (hr0 : Kd.C (Kd.int .i64) w A0 l0.length l0) (hc0 : l0.length ≤ c0) (h : slices_Clone_int_int.f l0 = some r) :
    Calls Try.prog 33 #[.slice A0 l0.length c0] w fun e w' => ∃ v0_ : Value, e = .returned (v0_) ∧ Kd.R (Kd.int .i64) 3 w' w.heap.size (fun _ => True) v0_ r ∧ Below w.heap.size w w' := by
  unfold slices_Clone_int_int.f at h
  split at h
  · rename_i hb
    obtain rfl := Option.some.inj h
    cases A0 with
    | none =>
      have h0 : l0.length = 0 := by
        by_cases h0 : l0.length = 0
        · exact h0
        · obtain ⟨ad, he, _⟩ := Kd.at_int hr0 0 (by omega) (by omega)
          cases he
      have hn : l0 = [] := List.eq_nil_of_length_eq_zero h0
      subst hn
      refine (Try.slices_Clone_int_nil _ c0 w).mono ?_
      rintro e w' ⟨rfl, rfl⟩
      exact ⟨_, rfl, Kd.R_nil _ _ _ _ _, Below.refl _ _⟩
    | some ad =>
      by_cases h0 : l0.length = 0
      · have hn : l0 = [] := List.eq_nil_of_length_eq_zero h0
        subst hn
        refine (Try.slices_Clone_int_zero ad c0 w).mono ?_
        rintro e w' ⟨v, rfl, ho, _, hb⟩
        exact ⟨v, rfl, Kd.R_of_own ho (fun _ _ => trivial), hb⟩
      · obtain ⟨b, off, sp⟩ := ad
        obtain ⟨ad', he, hc⟩ := Kd.at_int hr0 0 (by omega) (by omega)
        cases he
        have hsp := World.cell?_spot hc
        simp only [Addr.add] at hsp
        have hsp' : sp = none := by simpa using hsp
        subst hsp'
        refine (Try.slices_Clone_int b off l0.length c0 l0 w (Nat.le_refl _) (by omega) ?_).mono ?_
        · intro j hj
          obtain ⟨ad', he, hc⟩ := Kd.at_int hr0 (j : Int) (by omega) (by omega)
          cases he
          rw [Int.toNat_natCast, add_at] at hc
          rw [hc]; rfl
        · rintro e w' ⟨v, rfl, ho, _, hb⟩
          rw [List.take_length] at ho
          exact ⟨v, rfl, Kd.R_of_own ho (fun _ _ => trivial), hb⟩
  · cases h
end Go.Proofs.Ytbgabijjnbmghaa.P
