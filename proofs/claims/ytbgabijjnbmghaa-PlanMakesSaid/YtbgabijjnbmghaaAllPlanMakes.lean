/- Proved: milllaw10.PlanMakes returns true, whatever comes in; its arguments read behind the call as before. Conditions: none. Several texts of this claim in one (the limit of files): YtbgabijjnbmghaaOrd, YtbgabijjnbmghaaGreedy, YtbgabijjnbmghaaSpecA, YtbgabijjnbmghaaSpecB, YtbgabijjnbmghaaSpecC, YtbgabijjnbmghaaSpecD, YtbgabijjnbmghaaSpecM, YtbgabijjnbmghaaSpecE, YtbgabijjnbmghaaSpecF, YtbgabijjnbmghaaBest, YtbgabijjnbmghaaSpecR, YtbgabijjnbmghaaSpecS, YtbgabijjnbmghaaSpecQ, YtbgabijjnbmghaaSpecT, YtbgabijjnbmghaaSpecU, YtbgabijjnbmghaaPlanMakes, YtbgabijjnbmghaaPurePlanMakes, YtbgabijjnbmghaaLawPlanMakes. -/
import Derived.Test.YtbgabijjnbmghaaHeapC
import Derived.Test.YtbgabijjnbmghaaMakeA
import Derived.Test.YtbgabijjnbmghaaP3
import Derived.Test.YtbgabijjnbmghaaP12
import Derived.Test.YtbgabijjnbmghaaP7
import Derived.Test.YtbgabijjnbmghaaP24
import Derived.Test.YtbgabijjnbmghaaP8
import Derived.Test.YtbgabijjnbmghaaP13
import Derived.Test.YtbgabijjnbmghaaP14
import Derived.Test.YtbgabijjnbmghaaP15
import Derived.Test.YtbgabijjnbmghaaP16
import Derived.Test.YtbgabijjnbmghaaP22
import Derived.Test.YtbgabijjnbmghaaP23
import Derived.Test.YtbgabijjnbmghaaP21
import Derived.Test.YtbgabijjnbmghaaMakeC
import Derived.Test.YtbgabijjnbmghaaP0
import Derived.Test.YtbgabijjnbmghaaRoomy
import Derived.Test.YtbgabijjnbmghaaKept
import Derived.Test.YtbgabijjnbmghaaP10
import Derived.Test.YtbgabijjnbmghaaP18
import Derived.Test.YtbgabijjnbmghaaRows
import Derived.WalkKit
import Derived.ProofKit
import Derived.OpenShut
import Derived.ShutString
import Derived.ChangeOld
import Derived.Below
import Derived.SizedLaws
import Derived.Test.YtbgabijjnbmghaaWSized
/- Plain law: the sift of container/heap over rungs makes a heap, and its pops come in order. -/
namespace Go.Proofs.Ytbgabijjnbmghaa
open Go.RowKit
set_option linter.unusedVariables false

/-- the order of rungs -/
def le (x y : Rung) : Prop := x.2 < y.2 ∨ (x.2 = y.2 ∧ x.1 ≤ y.1)
instance (x y : Rung) : Decidable (le x y) := by unfold le; infer_instance
theorem lessB_iff (x y : Rung) : lessB x y = true ↔ ¬ le y x := by
  unfold lessB le
  simp only [Bool.or_eq_true, Bool.and_eq_true, decide_eq_true_eq]
  omega
theorem lessB_false (x y : Rung) : lessB x y = false ↔ le y x := by
  have := lessB_iff x y
  cases h : lessB x y <;> simp [h] at this ⊢ <;> exact this
theorem le_refl (x : Rung) : le x x := by unfold le; omega
theorem le_total (x y : Rung) : le x y ∨ le y x := by unfold le; omega
theorem le_trans {x y z : Rung} (h : le x y) (k : le y z) : le x z := by unfold le at *; omega
theorem le_antisymm {x y : Rung} (h : le x y) (k : le y x) : x = y := by
  unfold le at *
  exact Prod.ext (by omega) (by omega)
theorem le_of_lessB {x y : Rung} (h : lessB x y = true) : le x y := by
  rcases le_total x y with k | k
  · exact k
  · exact absurd k ((lessB_iff x y).1 h)

/-! ### swaps -/
theorem at_swap {l : List Rung} {i j : Nat} (hi : i < l.length) (hj : j < l.length) (m : Nat) : at_ (swapAt l i j) m = if m = j then at_ l i else if m = i then at_ l j else at_ l m := by
  have h := swapAt_get hi hj m
  unfold at_ at *
  rw [List.getD_eq_getElem?_getD, h]
  split
  · rfl
  · split
    · rfl
    · rw [List.getD_eq_getElem?_getD]
theorem swapAt_perm {l : List Rung} {i j : Nat} (hi : i < l.length) (hj : j < l.length) : (swapAt l i j).Perm l := by
  have e1 : at_ l j = l[j] := by have := at_of_lt hj; rw [List.getElem?_eq_getElem hj] at this; exact (Option.some.inj this).symm
  have e2 : at_ l i = l[i] := by have := at_of_lt hi; rw [List.getElem?_eq_getElem hi] at this; exact (Option.some.inj this).symm
  unfold swapAt
  rw [e1, e2]
  exact List.set_set_perm hi hj

/-! ### down -/
/-- parents from s on come ahead of their children, below n -/
def HeapFrom (n s : Nat) (l : List Rung) : Prop := ∀ j, 0 < j → j < n → s ≤ (j - 1) / 2 → le (at_ l ((j - 1) / 2)) (at_ l j)
/-- .. but for i and its children, which stand behind i's parent -/
structure Hole (n s i : Nat) (l : List Rung) : Prop where
  rest : ∀ j, 0 < j → j < n → s ≤ (j - 1) / 2 → (j - 1) / 2 ≠ i → le (at_ l ((j - 1) / 2)) (at_ l j)
  over : 0 < i → s ≤ (i - 1) / 2 → ∀ j, 0 < j → j < n → (j - 1) / 2 = i → le (at_ l ((i - 1) / 2)) (at_ l j)
theorem hole_done {n s i : Nat} {l : List Rung} (h : Hole n s i l) (hc : ∀ j, 0 < j → j < n → (j - 1) / 2 = i → le (at_ l i) (at_ l j)) : HeapFrom n s l := by
  intro j h0 hj hs
  by_cases e : (j - 1) / 2 = i
  · have := hc j h0 hj e; rwa [← e] at this
  · exact h.rest j h0 hj hs e
theorem hole_next {n s i c : Nat} {l : List Rung} (h : Hole n s i l) (hn : n ≤ l.length) (hs : s ≤ i) (hcn : c < n) (hc0 : 0 < c) (hci : (c - 1) / 2 = i) (hmin : ∀ j, 0 < j → j < n → (j - 1) / 2 = i → le (at_ l c) (at_ l j)) (hlt : lessB (at_ l c) (at_ l i) = true) : Hole n s c (swapAt l i c) := by
  have hil : i < l.length := by omega
  have hcl : c < l.length := by omega
  have hic : i ≠ c := by omega
  refine ⟨?_, ?_⟩
  · intro j h0 hj hsj hne
    rw [at_swap hil hcl, at_swap hil hcl]
    rw [if_neg hne]
    by_cases e : (j - 1) / 2 = i
    · rw [if_pos e]
      by_cases ej : j = c
      · subst ej; rw [if_pos rfl]; exact le_of_lessB hlt
      · rw [if_neg ej, if_neg (by omega)]; exact hmin j h0 hj e
    · rw [if_neg e]
      by_cases ej : j = c
      · subst ej; omega
      · rw [if_neg ej]
        by_cases ei : j = i
        · subst ei
          rw [if_pos rfl]
          exact h.over h0 hsj c hc0 hcn hci
        · rw [if_neg ei]; exact h.rest j h0 hj hsj e
  · intro _ _ j h0 hj hjc
    rw [at_swap hil hcl, at_swap hil hcl]
    rw [if_neg (by omega), if_pos hci, if_neg (by omega), if_neg (by omega)]
    have := h.rest j h0 hj (by omega) (by omega)
    rwa [hjc] at this
theorem kids {i j : Nat} (h0 : 0 < j) (h : (j - 1) / 2 = i) : j = 2 * i + 1 ∨ j = 2 * i + 2 := by omega
theorem down_heap (n s : Nat) : ∀ (f : Nat) (l : List Rung) (i : Nat), n - i ≤ f → n ≤ l.length → s ≤ i → Hole n s i l → HeapFrom n s (downL n f l i)
  | 0, l, i, hf, hn, hs, h => hole_done h (fun j h0 hj e => by omega)
  | f + 1, l, i, hf, hn, hs, h => by
    unfold downL
    split
    · rename_i c1
      split
      · rename_i c2
        have hmin : ∀ j, 0 < j → j < n → (j - 1) / 2 = i → le (at_ l (2 * i + 2)) (at_ l j) := fun j h0 hj e => by
          rcases kids h0 e with rfl | rfl
          · exact le_of_lessB c2.2
          · exact le_refl _
        split
        · rename_i c3
          exact down_heap n s f _ _ (by omega) (by rw [swapAt_length]; exact hn) (by omega) (hole_next h hn hs c2.1 (by omega) (by omega) hmin c3)
        · rename_i c3
          have c3' : le (at_ l i) (at_ l (2 * i + 2)) := (lessB_false _ _).1 (by simpa using c3)
          exact hole_done h (fun j h0 hj e => le_trans c3' (hmin j h0 hj e))
      · rename_i c2
        have hmin : ∀ j, 0 < j → j < n → (j - 1) / 2 = i → le (at_ l (2 * i + 1)) (at_ l j) := fun j h0 hj e => by
          rcases kids h0 e with rfl | rfl
          · exact le_refl _
          · refine (lessB_false _ _).1 ?_
            cases hb : lessB (at_ l (2 * i + 2)) (at_ l (2 * i + 1)) with
            | false => rfl
            | true => exact absurd ⟨hj, hb⟩ c2
        split
        · rename_i c3
          exact down_heap n s f _ _ (by omega) (by rw [swapAt_length]; exact hn) (by omega) (hole_next h hn hs c1 (by omega) (by omega) hmin c3)
        · rename_i c3
          have c3' : le (at_ l i) (at_ l (2 * i + 1)) := (lessB_false _ _).1 (by simpa using c3)
          exact hole_done h (fun j h0 hj e => le_trans c3' (hmin j h0 hj e))
    · rename_i c1
      exact hole_done h (fun j h0 hj e => by rcases kids h0 e with rfl | rfl <;> omega)
theorem down_perm (n : Nat) : ∀ (f : Nat) (l : List Rung) (i : Nat), n ≤ l.length → (downL n f l i).Perm l
  | 0, l, i, hn => List.Perm.refl _
  | f + 1, l, i, hn => by
    unfold downL
    split
    · split
      · split
        · exact (down_perm n f _ _ (by rw [swapAt_length]; exact hn)).trans (swapAt_perm (by omega) (by omega))
        · exact List.Perm.refl _
      · split
        · exact (down_perm n f _ _ (by rw [swapAt_length]; exact hn)).trans (swapAt_perm (by omega) (by omega))
        · exact List.Perm.refl _
    · exact List.Perm.refl _
theorem down_far (n : Nat) : ∀ (f : Nat) (l : List Rung) (i m : Nat), n ≤ l.length → n ≤ m → at_ (downL n f l i) m = at_ l m
  | 0, l, i, m, hn, hm => rfl
  | f + 1, l, i, m, hn, hm => by
    unfold downL
    split
    · split
      · split
        · rw [down_far n f _ _ m (by rw [swapAt_length]; exact hn) hm, at_swap (by omega) (by omega), if_neg (by omega), if_neg (by omega)]
        · rfl
      · split
        · rw [down_far n f _ _ m (by rw [swapAt_length]; exact hn) hm, at_swap (by omega) (by omega), if_neg (by omega), if_neg (by omega)]
        · rfl
    · rfl

/-! ### up -/
structure Rise (n j : Nat) (l : List Rung) : Prop where
  rest : ∀ m, 0 < m → m < n → m ≠ j → le (at_ l ((m - 1) / 2)) (at_ l m)
  over : 0 < j → ∀ m, 0 < m → m < n → (m - 1) / 2 = j → le (at_ l ((j - 1) / 2)) (at_ l m)
theorem up_heap (n : Nat) : ∀ (f : Nat) (l : List Rung) (j : Nat), j ≤ f → n ≤ l.length → j < n → Rise n j l → HeapFrom n 0 (upL f l j)
  | 0, l, j, hf, hn, hj, h => fun m h0 hm _ => h.rest m h0 hm (by omega)
  | f + 1, l, j, hf, hn, hj, h => by
    unfold upL
    split
    · rename_i c1; exact fun m h0 hm _ => h.rest m h0 hm (by omega)
    · rename_i c1
      split
      · rename_i c2
        refine up_heap n f _ _ (by omega) (by rw [swapAt_length]; exact hn) (by omega) ?_
        have h1 : (j - 1) / 2 < l.length := by omega
        have h2 : j < l.length := by omega
        have hle := le_of_lessB c2
        refine ⟨?_, ?_⟩
        · intro m h0 hm hne
          rw [at_swap h1 h2, at_swap h1 h2]
          by_cases e1 : m = j
          · subst e1
            rw [if_neg (by omega), if_pos rfl, if_pos rfl]; exact hle
          · rw [if_neg e1, if_neg hne]
            by_cases e2 : (m - 1) / 2 = j
            · rw [if_pos e2]; exact h.over (by omega) m h0 hm e2
            · rw [if_neg e2]
              by_cases e3 : (m - 1) / 2 = (j - 1) / 2
              · rw [if_pos e3]
                have := h.rest m h0 hm e1
                rw [e3] at this
                exact le_trans hle this
              · rw [if_neg e3]; exact h.rest m h0 hm e1
        · intro hp0 m h0 hm e
          rw [at_swap h1 h2, at_swap h1 h2]
          rw [if_neg (by omega), if_neg (by omega)]
          have hp := h.rest ((j - 1) / 2) hp0 (by omega) (by omega)
          by_cases e1 : m = j
          · subst e1; rw [if_pos rfl]; exact hp
          · rw [if_neg e1, if_neg (by omega)]
            have := h.rest m h0 hm e1
            rw [e] at this
            exact le_trans hp this
      · rename_i c2
        intro m h0 hm _
        by_cases e : m = j
        · subst e; exact (lessB_false _ _).1 (by simpa using c2)
        · exact h.rest m h0 hm e
theorem up_perm : ∀ (f : Nat) (l : List Rung) (j : Nat), j < l.length → (upL f l j).Perm l
  | 0, l, j, hj => List.Perm.refl _
  | f + 1, l, j, hj => by
    unfold upL
    split
    · exact List.Perm.refl _
    · split
      · exact (up_perm f _ _ (by rw [swapAt_length]; omega)).trans (swapAt_perm (by omega) hj)
      · exact List.Perm.refl _

/-! ### the whole heap -/
def IsHeap (l : List Rung) : Prop := HeapFrom l.length 0 l
theorem init_heap (n : Nat) : ∀ (i : Nat) (l : List Rung), l.length = n → HeapFrom n i l → HeapFrom n 0 (initL n i l)
  | 0, l, hn, h => h
  | i + 1, l, hn, h => by
    rw [initL]
    refine init_heap n i _ (by rw [downL_length]; exact hn) ?_
    refine down_heap n i (n - i) l i (Nat.le_refl _) (by omega) (Nat.le_refl _) ⟨fun j h0 hj hs hne => h j h0 hj (by omega), fun h0 hs => by omega⟩
theorem init_perm (n : Nat) : ∀ (i : Nat) (l : List Rung), l.length = n → (initL n i l).Perm l
  | 0, l, hn => List.Perm.refl _
  | i + 1, l, hn => by
    rw [initL]
    exact (init_perm n i _ (by rw [downL_length]; exact hn)).trans (down_perm n _ l i (by omega))
theorem init_isHeap (l : List Rung) : IsHeap (initL l.length (l.length / 2) l) := by
  unfold IsHeap
  rw [initL_length]
  exact init_heap l.length _ l rfl (fun j h0 hj hs => by omega)
theorem heap_min {l : List Rung} (h : IsHeap l) : ∀ (j : Nat), j < l.length → le (at_ l 0) (at_ l j) := by
  intro j
  induction j using Nat.strongRecOn with
  | _ j ih =>
    intro hj
    by_cases e : j = 0
    · subst e; exact le_refl _
    · exact le_trans (ih ((j - 1) / 2) (by omega) (by omega)) (h j (by omega) hj (Nat.zero_le _))
theorem popL_last {l : List Rung} (h : l.length ≠ 0) : at_ (popL l) (l.length - 1) = at_ l 0 := by
  unfold popL
  rw [down_far _ _ _ _ _ (by rw [swapAt_length]; omega) (Nat.le_refl _), at_swap (by omega) (by omega), if_pos rfl]
theorem at_take {l : List Rung} {m j : Nat} (h : j < m) : at_ (l.take m) j = at_ l j := by
  unfold at_
  rw [List.getD_eq_getElem?_getD, List.getD_eq_getElem?_getD, List.getElem?_take_of_lt h]
theorem popL_heap {l : List Rung} (h : IsHeap l) (hl : l.length ≠ 0) : IsHeap ((popL l).take (l.length - 1)) := by
  have hp : HeapFrom (l.length - 1) 0 (popL l) := by
    refine down_heap (l.length - 1) 0 (l.length - 1) _ 0 (by omega) (by rw [swapAt_length]; omega) (Nat.le_refl _) ⟨?_, fun h0 => by omega⟩
    intro j h0 hj _ hne
    rw [at_swap (by omega) (by omega), at_swap (by omega) (by omega), if_neg (by omega), if_neg (by omega), if_neg (by omega), if_neg (by omega)]
    exact h j h0 (by omega) (Nat.zero_le _)
  intro j h0 hj _
  rw [List.length_take, popL_length] at hj
  rw [at_take (by omega), at_take (by omega)]
  exact hp j h0 (by omega) (Nat.zero_le _)
theorem popL_perm {l : List Rung} (hl : l.length ≠ 0) : (at_ l 0 :: (popL l).take (l.length - 1)).Perm l := by
  have h1 : (popL l).Perm l := (down_perm _ _ _ _ (by rw [swapAt_length]; omega)).trans (swapAt_perm (by omega) (by omega))
  have hlen := popL_length l
  have h2 : popL l = (popL l).take (l.length - 1) ++ [at_ l 0] := by
    have e := List.take_append_drop (l.length - 1) (popL l)
    have hd : (popL l).drop (l.length - 1) = [at_ l 0] := by
      rw [← popL_last hl]
      have hlt : l.length - 1 < (popL l).length := by omega
      rw [List.drop_eq_getElem_cons hlt, List.drop_of_length_le (by omega)]
      have := at_of_lt hlt
      rw [List.getElem?_eq_getElem hlt] at this
      rw [Option.some.inj this]
    rw [hd] at e
    exact e.symm
  rw [h2] at h1
  exact (List.perm_append_comm (l₁ := [at_ l 0]) (l₂ := (popL l).take (l.length - 1))).trans h1
theorem push_heap {l : List Rung} (h : IsHeap l) (x : Rung) : IsHeap (upL l.length (l ++ [x]) l.length) := by
  unfold IsHeap
  rw [upL_length]
  refine up_heap (l ++ [x]).length l.length _ l.length (Nat.le_refl _) (Nat.le_refl _) (by simp) ⟨?_, ?_⟩
  · intro m h0 hm hne
    have hm' : m < l.length := by simp at hm; omega
    have e : ∀ k, k < l.length → at_ (l ++ [x]) k = at_ l k := fun k hk => by
      unfold at_; rw [List.getD_eq_getElem?_getD, List.getD_eq_getElem?_getD, List.getElem?_append_left hk]
    rw [e _ hm', e _ (by omega)]
    exact h m h0 hm' (Nat.zero_le _)
  · intro h0 m hm0 hm e
    simp at hm; omega
theorem push_perm (l : List Rung) (x : Rung) : (upL l.length (l ++ [x]) l.length).Perm (x :: l) :=
  (up_perm _ _ _ (by simp)).trans List.perm_append_comm
end Go.Proofs.Ytbgabijjnbmghaa
/- Plain law: plan.Make's steps are those of the greedy rule on a sorted list of rungs. -/
namespace Go.Proofs.Ytbgabijjnbmghaa.P
open Go.RowKit Go.Proofs.Ytbgabijjnbmghaa
set_option linter.unusedVariables false

abbrev Sorted (s : List Rung) : Prop := s.Pairwise le
def insR (x : Rung) : List Rung → List Rung
  | [] => [x]
  | y :: l => if le x y then x :: y :: l else y :: insR x l
def sortR : List Rung → List Rung
  | [] => []
  | x :: l => insR x (sortR l)
def sumW (l : List Rung) : Int := (l.map (·.2)).sum
def greedy (n fan : Nat) : Nat → Nat → List Rung → List S51 → List S51
  | 0, _, _, st => st
  | f + 1, t, s, st =>
    if 1 < s.length then greedy n fan f fan (insR (((n + st.length : Nat) : Int), sumW (s.take t)) (s.drop t)) (st ++ [⟨sortI ((s.take t).map (·.1)), ((n + st.length : Nat) : Int)⟩])
    else st

theorem insR_perm (x : Rung) : ∀ (l : List Rung), (insR x l).Perm (x :: l)
  | [] => List.Perm.refl _
  | y :: l => by
    unfold insR
    split
    · exact List.Perm.refl _
    · exact ((insR_perm x l).cons y).trans (List.Perm.swap x y l)
theorem insR_length (x : Rung) (l : List Rung) : (insR x l).length = l.length + 1 := by rw [(insR_perm x l).length_eq]; rfl
theorem insR_sorted (x : Rung) : ∀ (l : List Rung), Sorted l → Sorted (insR x l)
  | [], h => List.pairwise_singleton _ _
  | y :: l, h => by
    unfold insR
    rw [Sorted, List.pairwise_cons] at h
    split
    · rename_i hxy
      refine List.Pairwise.cons ?_ (List.Pairwise.cons h.1 h.2)
      intro z hz
      rcases List.mem_cons.1 hz with rfl | hz
      · exact hxy
      · exact le_trans hxy (h.1 z hz)
    · rename_i hxy
      refine List.Pairwise.cons ?_ (insR_sorted x l h.2)
      intro z hz
      rcases List.mem_cons.1 ((insR_perm x l).mem_iff.1 hz) with rfl | hz
      · exact (le_total _ _).resolve_left hxy
      · exact h.1 z hz
theorem sortR_perm : ∀ (l : List Rung), (sortR l).Perm l
  | [] => List.Perm.refl _
  | x :: l => (insR_perm x _).trans ((sortR_perm l).cons x)
theorem sortR_sorted : ∀ (l : List Rung), Sorted (sortR l)
  | [] => List.Pairwise.nil
  | x :: l => insR_sorted x _ (sortR_sorted l)
theorem sortR_length (l : List Rung) : (sortR l).length = l.length := (sortR_perm l).length_eq
theorem sum_perm {a b : List Int} (h : a.Perm b) : a.sum = b.sum := by
  induction h with
  | nil => rfl
  | cons x _ ih => simp [ih]
  | swap x y l => simp; omega
  | trans _ _ ih1 ih2 => exact ih1.trans ih2
theorem sumW_perm {a b : List Rung} (h : a.Perm b) : sumW a = sumW b := sum_perm (h.map _)
theorem sumW_cons (x : Rung) (l : List Rung) : sumW (x :: l) = x.2 + sumW l := by simp [sumW]
theorem sumW_append (a b : List Rung) : sumW (a ++ b) = sumW a + sumW b := by simp [sumW]
theorem sumW_insR (x : Rung) (l : List Rung) : sumW (insR x l) = x.2 + sumW l := by rw [sumW_perm (insR_perm x l), sumW_cons]
theorem sumW_split (l : List Rung) (t : Nat) : sumW (l.take t) + sumW (l.drop t) = sumW l := by rw [← sumW_append, List.take_append_drop]
theorem sumW_nonneg : ∀ (l : List Rung), (∀ x ∈ l, 0 ≤ x.2) → 0 ≤ sumW l
  | [], h => by simp [sumW]
  | x :: l, h => by
    rw [sumW_cons]
    have h1 := h x (List.mem_cons_self ..)
    have h2 := sumW_nonneg l (fun y hy => h y (List.mem_cons_of_mem _ hy))
    omega
theorem wrap64_in (x : Int) (h : 0 ≤ x) (h2 : x ≤ 4611686018427387904) : wrap64 x = x := by unfold wrap64; omega

/-- the first of a sorted list is the heap's head -/
theorem head_eq {h s : List Rung} {x : Rung} (hh : IsHeap h) (hp : h.Perm (x :: s)) (hs : Sorted (x :: s)) : at_ h 0 = x := by
  have hl : 0 < h.length := by rw [hp.length_eq]; simp
  have h1 : at_ h 0 ∈ h := List.mem_of_getElem? (at_of_lt hl)
  have h2 : x ∈ h := hp.mem_iff.2 (List.mem_cons_self ..)
  obtain ⟨j, hj, rfl⟩ := List.getElem_of_mem h2
  have e : at_ h j = h[j] := by have := at_of_lt hj; rw [List.getElem?_eq_getElem hj] at this; exact (Option.some.inj this).symm
  have h3 := heap_min hh j hj
  rw [e] at h3
  refine le_antisymm h3 ?_
  rcases List.mem_cons.1 (hp.mem_iff.1 h1) with h4 | h4
  · rw [← h4]; exact le_refl _
  · exact (List.pairwise_cons.1 hs).1 _ h4
theorem popMany_spec : ∀ (t : Nat) (h s : List Rung) (ins : List Int) (sm : Int), IsHeap h → h.Perm s → Sorted s → t ≤ s.length → (∀ x ∈ s, 0 ≤ x.2) → 0 ≤ sm → sm + sumW s ≤ 4611686018427387904 →
    ∃ h', popMany t h ins sm = (h', ins ++ (s.take t).map (·.1), sm + sumW (s.take t)) ∧ IsHeap h' ∧ h'.Perm (s.drop t)
  | 0, h, s, ins, sm, hh, hp, hs, ht, hw, h0, hb => ⟨h, by simp [popMany, sumW], hh, by simpa using hp⟩
  | t + 1, h, [], ins, sm, hh, hp, hs, ht, hw, h0, hb => by simp at ht
  | t + 1, h, x :: s, ins, sm, hh, hp, hs, ht, hw, h0, hb => by
    have hl : h.length ≠ 0 := by rw [hp.length_eq]; simp
    have hx := head_eq hh hp hs
    have hlast := popL_last hl
    rw [hx] at hlast
    have hp' := popL_perm hl
    rw [hx] at hp'
    have hp2 : ((popL h).take (h.length - 1)).Perm s := (hp'.trans hp).cons_inv
    have hs' := List.pairwise_cons.1 hs
    have hx0 := hw x (List.mem_cons_self ..)
    have hs0 := sumW_nonneg s (fun y hy => hw y (List.mem_cons_of_mem _ hy))
    rw [sumW_cons] at hb
    obtain ⟨h', e, r1, r2⟩ := popMany_spec t ((popL h).take (h.length - 1)) s (ins ++ [x.1]) (sm + x.2) (popL_heap hh hl) hp2 hs'.2 (by simpa using ht) (fun y hy => hw y (List.mem_cons_of_mem _ hy)) (by omega) (by omega)
    refine ⟨h', ?_, r1, by simpa using r2⟩
    rw [popMany, hlast, wrap64_in _ (by omega) (by omega), e]
    simp [sumW_cons, Int.add_assoc]
/-- what holds of the numbers of runs and steps at a round's head, as in the walk -/
theorem runL_greedy (n fan : Nat) (hf : 2 ≤ fan) : ∀ (f t : Nat) (h s : List Rung) (st : List S51), IsHeap h → h.Perm s → Sorted s → (1 < s.length → 2 ≤ t ∧ ∃ q, s.length = t + q * (fan - 1)) → (∀ x ∈ s, 0 ≤ x.2) → sumW s ≤ 4611686018427387904 →
    runL n fan f t h st = greedy n fan f t s st
  | 0, t, h, s, st, hh, hp, hs, ht, hw, hb => rfl
  | f + 1, t, h, s, st, hh, hp, hs, ht, hw, hb => by
    have hlen := hp.length_eq
    rw [runL, greedy, hlen]
    split
    · rename_i h1
      obtain ⟨h2, q, hq⟩ := ht h1
      have htl : t ≤ s.length := by omega
      obtain ⟨h', e, r1, r2⟩ := popMany_spec t h s [] 0 hh hp hs htl hw (Int.le_refl _) (by omega)
      have hsH : stepH n t h st = pushL h' (((n + st.length : Nat) : Int), sumW (s.take t)) := by unfold stepH; rw [e]; simp
      have hsS : stepS n t h st = st ++ [⟨sortI ((s.take t).map (·.1)), ((n + st.length : Nat) : Int)⟩] := by unfold stepS; rw [e]; simp
      rw [hsH, hsS]
      have hW := sumW_split s t
      have hl2 : (insR (((n + st.length : Nat) : Int), sumW (s.take t)) (s.drop t)).length = s.length - t + 1 := by rw [insR_length, List.length_drop]
      refine runL_greedy n fan hf f fan _ _ _ (push_heap r1 _) ((push_perm h' _).trans ((r2.cons _).trans (insR_perm _ _).symm)) (insR_sorted _ _ (hs.sublist (List.drop_sublist _ _))) ?_ ?_ ?_
      · intro hgt
        rw [hl2] at hgt ⊢
        cases q with
        | zero => omega
        | succ q => exact ⟨hf, q, by rw [Nat.succ_mul] at hq; omega⟩
      · intro x hx
        rcases List.mem_cons.1 ((insR_perm _ _).mem_iff.1 hx) with rfl | hx
        · exact sumW_nonneg _ (fun y hy => hw y (List.mem_of_mem_take hy))
        · exact hw x (List.mem_of_mem_drop hx)
      · rw [sumW_insR]; simp only; omega
    · rfl
/-- what the document says of Make: greedy -/
def gSteps (l : List Int) (fan : Nat) : List S51 :=
  if l.length = 1 then [⟨[0], 1⟩] else greedy l.length fan l.length (2 + (l.length - 2) % (fan - 1)) (sortR (rungs 0 l)) []
theorem rungs_mem : ∀ (l : List Int) (i : Nat) (x : Rung), x ∈ rungs i l → x.2 ∈ l
  | [], i, x, h => by simp [rungs] at h
  | w :: l, i, x, h => by
    rcases List.mem_cons.1 h with rfl | h
    · exact List.mem_cons_self ..
    · exact List.mem_cons_of_mem _ (rungs_mem l (i + 1) x h)
theorem sumW_rungs : ∀ (l : List Int) (i : Nat), sumW (rungs i l) = l.sum
  | [], i => by simp [rungs, sumW]
  | w :: l, i => by rw [rungs, sumW_cons, sumW_rungs l (i + 1)]; simp
theorem sum_bound : ∀ (l : List Int) (b : Int), (∀ x ∈ l, x ≤ b) → l.sum ≤ l.length * b
  | [], b, h => by simp
  | x :: l, b, h => by
    have h1 := h x (List.mem_cons_self ..)
    have h2 := sum_bound l b (fun y hy => h y (List.mem_cons_of_mem _ hy))
    simp only [List.sum_cons, List.length_cons]
    rw [show (((l.length + 1 : Nat) : Int)) = (l.length : Int) + 1 from by omega, Int.add_mul]
    omega
theorem makeSteps_greedy {l : List Int} {fan : Nat} (hf : 2 ≤ fan) (hf2 : fan ≤ 64) (hn : 1 ≤ l.length) (hn2 : l.length ≤ 65536) (hw : ∀ x ∈ l, 0 ≤ x ∧ x ≤ 1073741824) : makeSteps l fan = gSteps l fan := by
  unfold makeSteps gSteps
  split
  · rfl
  · have hlen := rungs_length 0 l
    have hh := init_isHeap (rungs 0 l)
    have hp := init_perm l.length (l.length / 2) (rungs 0 l) hlen
    rw [hlen] at hh
    have hpr := sortR_perm (rungs 0 l)
    refine runL_greedy l.length fan hf _ _ _ _ [] hh (hp.trans hpr.symm) (sortR_sorted _) ?_ ?_ ?_
    · intro _
      rw [sortR_length, hlen]
      have h1 := Nat.div_add_mod (l.length - 2) (fan - 1)
      exact ⟨by omega, (l.length - 2) / (fan - 1), by rw [Nat.mul_comm]; omega⟩
    · intro x hx
      exact (hw _ (rungs_mem l 0 x (hpr.mem_iff.1 hx))).1
    · rw [sumW_perm hpr, sumW_rungs]
      have := sum_bound l 1073741824 (fun x hx => (hw x hx).2)
      have h3 : (l.length : Int) * 1073741824 ≤ 65536 * 1073741824 := Int.mul_le_mul_of_nonneg_right (by omega) (by omega)
      omega
end Go.Proofs.Ytbgabijjnbmghaa.P
/- Plain law: what given (of plan and of the reference) answers. -/
namespace Go.Proofs.Ytbgabijjnbmghaa.P
open Go.RowKit Go.Proofs.YtbgabijjnbmghaaW.PrintWords Go.Proofs.YtbgabijjnbmghaaW.PrintLast Go.Proofs.YtbgabijjnbmghaaW.PrintMore
set_option linter.unusedVariables false
set_option linter.unusedSimpArgs false

theorem w64 (x : Int) (h : -9223372036854775808 ≤ x) (h2 : x ≤ 9223372036854775807) : wrap64 x = x := by unfold wrap64; omega
def okW (x : Int) : Prop := 0 ≤ x ∧ x ≤ 1073741824
instance (x : Int) : Decidable (okW x) := by unfold okW; infer_instance
def givenV (l : List Int) (fan : Int) : Int :=
  if fan < 2 ∨ fan > 64 then 2 else if l.length < 1 ∨ l.length > 65536 then 100 else if ∀ x ∈ l, okW x then 0 else 100
theorem rd_getElem {l : List Int} {i : Nat} (h : i < l.length) : rd l (i : Int) = l[i] := by
  unfold rd; rw [Int.toNat_natCast, List.getD_eq_getElem?_getD, List.getElem?_eq_getElem h]; rfl
theorem drop_cons {α : Type} {l : List α} {i : Nat} (h : i < l.length) : l.drop i = l[i] :: l.drop (i + 1) := List.drop_eq_getElem_cons h
theorem plan_given_l0 (l : List Int) (hl : l.length ≤ 65536) : ∀ (d i : Nat), l.length - i = d → i ≤ l.length → Ev (fun k => plan_given.l0 k l l.length (i : Int)) (if ∀ x ∈ l.drop i, okW x then 0 else 100)
  | 0, i, hd, hi => by
    have e : i = l.length := by omega
    subst e
    refine Ev.step (f := fun _ => some 0) (fun k => ?_) ?_
    · rw [plan_given.l0, if_neg (by omega)]
    · rw [List.drop_length, if_pos (by simp)]; exact Ev.now _
  | d + 1, i, hd, hi => by
    have hlt : i < l.length := by omega
    have ih := plan_given_l0 l hl d (i + 1) (by omega) (by omega)
    have hr := rd_getElem hlt
    by_cases h1 : l[i] < 0
    · refine Ev.step (f := fun _ => some 100) (fun k => ?_) ?_
      · rw [plan_given.l0, if_pos (by omega), if_pos (by omega), if_pos (by omega), hr, if_pos h1]
      · rw [drop_cons hlt, if_neg (fun h => by have := (h _ (List.mem_cons_self ..)).1; omega)]; exact Ev.now _
    · by_cases h2 : l[i] > 1073741824
      · refine Ev.step (f := fun _ => some 100) (fun k => ?_) ?_
        · rw [plan_given.l0, if_pos (by omega), if_pos (by omega), if_pos (by omega), hr, if_neg h1, if_pos h2]
        · rw [drop_cons hlt, if_neg (fun h => by have := (h _ (List.mem_cons_self ..)).2; omega)]; exact Ev.now _
      · refine Ev.step (f := fun k => plan_given.l0 k l l.length ((i + 1 : Nat) : Int)) (fun k => ?_) ?_
        · rw [plan_given.l0, if_pos (by omega), if_pos (by omega), if_pos (by omega), hr, if_neg h1, if_neg h2, w64 _ (by omega) (by omega)]; rfl
        · rw [drop_cons hlt]
          have e : (∀ x ∈ l[i] :: l.drop (i + 1), okW x) ↔ ∀ x ∈ l.drop (i + 1), okW x := by
            constructor
            · exact fun h x hx => h x (List.mem_cons_of_mem _ hx)
            · intro h x hx
              rcases List.mem_cons.1 hx with rfl | hx
              · exact ⟨by omega, by omega⟩
              · exact h x hx
          simp only [e]
          exact ih
theorem plan_given_ev (l : List Int) (fan : Int) : Ev (fun k => plan_given.f k l fan) (givenV l fan) := by
  unfold givenV plan_given.f
  by_cases h1 : fan < 2
  · rw [if_pos (.inl h1)]
    simp only [if_pos h1]
    exact Ev.step (f := fun _ => some 2) (fun k => by rw [plan_given.j0, if_pos rfl]) (Ev.now _)
  · simp only [if_neg h1]
    by_cases h2 : fan > 64
    · rw [if_pos (.inr h2)]
      exact Ev.step (f := fun _ => some 2) (fun k => by rw [plan_given.j0, if_pos (by simpa using h2)]) (Ev.now _)
    · rw [if_neg (by omega)]
      have e2 : ¬ (decide (fan > 64) = true) := by simpa using h2
      by_cases h3 : l.length < 1
      · rw [if_pos (.inl h3)]
        refine Ev.step (f := fun k => plan_given.j1 k l true) (fun k => by rw [plan_given.j0, if_neg e2, if_pos (by omega)]) ?_
        exact Ev.step (f := fun _ => some 100) (fun k => by rw [plan_given.j1, if_pos rfl]) (Ev.now _)
      · refine Ev.step (f := fun k => plan_given.j1 k l (decide ((l.length : Int) > 65536))) (fun k => by rw [plan_given.j0, if_neg e2, if_neg (by omega)]) ?_
        by_cases h4 : l.length > 65536
        · rw [if_pos (.inr h4)]
          exact Ev.step (f := fun _ => some 100) (fun k => by rw [plan_given.j1, if_pos (by simp; omega)]) (Ev.now _)
        · rw [if_neg (by omega)]
          refine Ev.step (f := fun k => plan_given.l0 k l l.length ((0 : Nat) : Int)) (fun k => by rw [plan_given.j1, if_neg (by simp; omega)]; rfl) ?_
          exact plan_given_l0 l (by omega) l.length 0 rfl (Nat.zero_le _)

theorem ref_given_l0 (l : List Int) (hl : l.length ≤ 65536) : ∀ (d i : Nat), l.length - i = d → i ≤ l.length → Ev (fun k => millref10_Given.l0 k l (i : Int)) (if ∀ x ∈ l.drop i, okW x then 0 else 100)
  | 0, i, hd, hi => by
    have e : i = l.length := by omega
    subst e
    refine Ev.step (f := fun _ => some 0) (fun k => ?_) ?_
    · rw [millref10_Given.l0, if_neg (by omega)]
    · rw [List.drop_length, if_pos (by simp)]; exact Ev.now _
  | d + 1, i, hd, hi => by
    have hlt : i < l.length := by omega
    have ih := ref_given_l0 l hl d (i + 1) (by omega) (by omega)
    have hr := rd_getElem hlt
    by_cases h1 : l[i] < 0
    · refine Ev.step (f := fun _ => some 100) (fun k => ?_) ?_
      · rw [millref10_Given.l0, if_pos (by omega), if_pos (by omega), hr, if_pos h1]
      · rw [drop_cons hlt, if_neg (fun h => by have := (h _ (List.mem_cons_self ..)).1; omega)]; exact Ev.now _
    · by_cases h2 : l[i] > 1073741824
      · refine Ev.step (f := fun _ => some 100) (fun k => ?_) ?_
        · rw [millref10_Given.l0, if_pos (by omega), if_pos (by omega), hr, if_neg h1, if_pos h2]
        · rw [drop_cons hlt, if_neg (fun h => by have := (h _ (List.mem_cons_self ..)).2; omega)]; exact Ev.now _
      · refine Ev.step (f := fun k => millref10_Given.l0 k l ((i + 1 : Nat) : Int)) (fun k => ?_) ?_
        · rw [millref10_Given.l0, if_pos (by omega), if_pos (by omega), hr, if_neg h1, if_neg h2, w64 _ (by omega) (by omega)]; rfl
        · rw [drop_cons hlt]
          have e : (∀ x ∈ l[i] :: l.drop (i + 1), okW x) ↔ ∀ x ∈ l.drop (i + 1), okW x := by
            constructor
            · exact fun h x hx => h x (List.mem_cons_of_mem _ hx)
            · intro h x hx
              rcases List.mem_cons.1 hx with rfl | hx
              · exact ⟨by omega, by omega⟩
              · exact h x hx
          simp only [e]
          exact ih
theorem ref_given_ev (l : List Int) (fan : Int) : Ev (fun k => millref10_Given.f k l fan) (givenV l fan) := by
  unfold givenV millref10_Given.f
  by_cases h1 : fan < 2
  · rw [if_pos (.inl h1)]
    simp only [if_pos h1]
    exact Ev.step (f := fun _ => some 2) (fun k => by rw [millref10_Given.j0, if_pos rfl]) (Ev.now _)
  · simp only [if_neg h1]
    by_cases h2 : fan > 64
    · rw [if_pos (.inr h2)]
      exact Ev.step (f := fun _ => some 2) (fun k => by rw [millref10_Given.j0, if_pos (by simpa using h2)]) (Ev.now _)
    · rw [if_neg (by omega)]
      have e2 : ¬ (decide (fan > 64) = true) := by simpa using h2
      by_cases h3 : l.length < 1
      · rw [if_pos (.inl h3)]
        refine Ev.step (f := fun k => millref10_Given.j1 k l true) (fun k => by rw [millref10_Given.j0, if_neg e2, if_pos (by omega)]) ?_
        exact Ev.step (f := fun _ => some 100) (fun k => by rw [millref10_Given.j1, if_pos rfl]) (Ev.now _)
      · refine Ev.step (f := fun k => millref10_Given.j1 k l (decide ((l.length : Int) > 65536))) (fun k => by rw [millref10_Given.j0, if_neg e2, if_neg (by omega)]) ?_
        by_cases h4 : l.length > 65536
        · rw [if_pos (.inr h4)]
          exact Ev.step (f := fun _ => some 100) (fun k => by rw [millref10_Given.j1, if_pos (by simp; omega)]) (Ev.now _)
        · rw [if_neg (by omega)]
          refine Ev.step (f := fun k => millref10_Given.l0 k l ((0 : Nat) : Int)) (fun k => by rw [millref10_Given.j1, if_neg (by simp; omega)]; rfl) ?_
          exact ref_given_l0 l (by omega) l.length 0 rfl (Nat.zero_le _)
theorem givenV_zero {l : List Int} {fan : Int} (h : givenV l fan = 0) : 2 ≤ fan ∧ fan ≤ 64 ∧ 1 ≤ l.length ∧ l.length ≤ 65536 ∧ ∀ x ∈ l, okW x := by
  unfold givenV at h
  split at h
  · omega
  · split at h
    · omega
    · split at h
      · rename_i h1 h2 h3; exact ⟨by omega, by omega, by omega, by omega, h3⟩
      · omega
end Go.Proofs.Ytbgabijjnbmghaa.P
/- Plain law: what plan.Check answers. -/
namespace Go.Proofs.Ytbgabijjnbmghaa.P
open Go.RowKit Go.Proofs.YtbgabijjnbmghaaW.PrintWords Go.Proofs.YtbgabijjnbmghaaW.PrintLast Go.Proofs.YtbgabijjnbmghaaW.PrintMore
set_option linter.unusedVariables false
set_option linter.unusedSimpArgs false

/-- may x stand behind p? -/
def nextOk (p : Option Int) (x : Int) : Prop := ∀ y, p = some y → y < x
instance (p : Option Int) (x : Int) : Decidable (nextOk p x) := by
  unfold nextOk
  cases p with
  | none => exact isTrue (fun y h => by cases h)
  | some z => exact decidable_of_iff (z < x) ⟨fun h y e => by cases e; exact h, fun h => h z rfl⟩
/-- the marks of a step's runs, as plan does it -/
def shapeRun (out : Int) : Option Int → List Int → List Bool → Bool × List Bool
  | _, [], m => (true, m)
  | p, x :: r, m => if 0 ≤ x ∧ x < out ∧ nextOk p x ∧ m.getD x.toNat false = false then shapeRun out (some x) r (m.set x.toNat true) else (false, m)
def prevAt (l : List Int) (i : Nat) : Option Int := if i = 0 then none else l[i - 1]?
theorem shaped_l0 (ins : List Int) (out : Int) (hl : ins.length ≤ 65536) : ∀ (d i : Nat) (m : List Bool), ins.length - i = d → i ≤ ins.length → out ≤ m.length →
    Ev (fun k => plan_shaped.l0 k m ins ins.length (i : Int) ins out) (shapeRun out (prevAt ins i) (ins.drop i) m)
  | 0, i, m, hd, hi, ho => by
    have e : i = ins.length := by omega
    subst e
    refine Ev.step (f := fun _ => some (true, m)) (fun k => ?_) ?_
    · rw [plan_shaped.l0, if_neg (by omega)]
    · rw [List.drop_length]; exact Ev.now _
  | d + 1, i, m, hd, hi, ho => by
    have hlt : i < ins.length := by omega
    have ih := fun m' (h : out ≤ m'.length) => shaped_l0 ins out hl d (i + 1) m' (by omega) (by omega) h
    have hr := rd_getElem hlt
    have hpa : prevAt ins (i + 1) = some ins[i] := by simp [prevAt, hlt]
    rw [drop_cons hlt, shapeRun]
    by_cases h1 : ins[i] < 0
    · rw [if_neg (by omega)]
      exact Ev.step (f := fun _ => some (false, m)) (fun k => by rw [plan_shaped.l0, if_pos (by omega), if_pos (by omega), if_pos (by omega), hr, if_pos h1]) (Ev.now _)
    by_cases h2 : ins[i] ≥ out
    · rw [if_neg (by omega)]
      exact Ev.step (f := fun _ => some (false, m)) (fun k => by rw [plan_shaped.l0, if_pos (by omega), if_pos (by omega), if_pos (by omega), hr, if_neg h1, if_pos h2]) (Ev.now _)
    have hmk : ∀ (hn : nextOk (prevAt ins i) ins[i]) (hg : ∀ k (r : Option (Bool × List Bool)), (if 0 ≤ ins[i] then (if ins[i] < (m.length : Int) then (if rdOf false m ins[i] = true then some (false, m) else plan_shaped.l0 k (m.set (ins[i]).toNat true) ins ins.length (wrap64 ((i : Int) + 1)) ins out) else none) else none) = r → plan_shaped.l0 (k + 1) m ins ins.length (i : Int) ins out = r), Ev (fun k => plan_shaped.l0 k m ins ins.length (i : Int) ins out) (if 0 ≤ ins[i] ∧ ins[i] < out ∧ nextOk (prevAt ins i) ins[i] ∧ m.getD (ins[i]).toNat false = false then shapeRun out (some ins[i]) (ins.drop (i + 1)) (m.set (ins[i]).toNat true) else (false, m)) := by
      intro hn hg
      by_cases h3 : m.getD (ins[i]).toNat false = false
      · rw [if_pos ⟨by omega, by omega, hn, h3⟩]
        refine Ev.step (f := fun k => plan_shaped.l0 k (m.set (ins[i]).toNat true) ins ins.length ((i + 1 : Nat) : Int) ins out) (fun k => ?_) ?_
        · refine hg k _ ?_
          rw [if_pos (by omega), if_pos (by omega), if_neg (by unfold rdOf; rw [h3]; simp), w64 _ (by omega) (by omega)]; rfl
        · rw [← hpa]; exact ih _ (by rw [List.length_set]; exact ho)
      · rw [if_neg (fun h => h3 h.2.2.2)]
        refine Ev.step (f := fun _ => some (false, m)) (fun k => ?_) (Ev.now _)
        refine hg k _ ?_
        rw [if_pos (by omega), if_pos (by omega), if_pos (by unfold rdOf; simpa using h3)]
    by_cases hi0 : i = 0
    · subst hi0
      refine hmk (fun y h => by simp [prevAt] at h) (fun k r h => ?_)
      rw [plan_shaped.l0, if_pos (by omega), if_pos (by omega), if_pos (by omega), hr, if_neg h1, if_neg h2, if_neg (by omega)]
      exact h
    · have hlt2 : i - 1 < ins.length := by omega
      have hr2 : rd ins (wrap64 ((i : Int) - 1)) = ins[i - 1] := by
        rw [w64 _ (by omega) (by omega), show (i : Int) - 1 = ((i - 1 : Nat) : Int) by omega]; exact rd_getElem hlt2
      have hpi : prevAt ins i = some ins[i - 1] := by simp [prevAt, hi0, hlt2]
      by_cases h4 : ins[i] ≤ ins[i - 1]
      · rw [if_neg (fun h => by have := h.2.2.1 _ hpi; omega)]
        refine Ev.step (f := fun _ => some (false, m)) (fun k => ?_) (Ev.now _)
        rw [plan_shaped.l0, if_pos (by omega), if_pos (by omega), if_pos (by omega), hr, if_neg h1, if_neg h2, if_pos (by omega), if_pos (by rw [w64 _ (by omega) (by omega)]; omega), if_pos (by rw [w64 _ (by omega) (by omega)]; omega), hr2, if_pos h4]
      · refine hmk (fun y h => by rw [hpi] at h; cases h; omega) (fun k r h => ?_)
        rw [plan_shaped.l0, if_pos (by omega), if_pos (by omega), if_pos (by omega), hr, if_neg h1, if_neg h2, if_pos (by omega), if_pos (by rw [w64 _ (by omega) (by omega)]; omega), if_pos (by rw [w64 _ (by omega) (by omega)]; omega), hr2, if_neg h4]
        exact h
/-- is a step of the right form, but for its runs? -/
def formOk (n fan s : Nat) (st : S51) : Prop := st.f1 = (n : Int) + s ∧ 1 ≤ st.f0.length ∧ st.f0.length ≤ fan ∧ (st.f0.length = 1 → n ≤ 1)
instance (n fan s : Nat) (st : S51) : Decidable (formOk n fan s st) := by unfold formOk; infer_instance
theorem shaped_ev (st : S51) (n fan s : Nat) (m : List Bool) (hn : n ≤ 65536) (hs : s ≤ 65536) (hf : fan ≤ 64) (hm : n + s ≤ m.length) :
    (formOk n fan s st → Ev (fun k => plan_shaped.f k st.f0 st.f1 (s : Int) (n : Int) (fan : Int) m) (shapeRun st.f1 none st.f0 m)) ∧
    (¬ formOk n fan s st → Ev (fun k => plan_shaped.f k st.f0 st.f1 (s : Int) (n : Int) (fan : Int) m) (false, m)) := by
  have hw : wrap64 ((n : Int) + (s : Int)) = (n : Int) + s := w64 _ (by omega) (by omega)
  have bad : ∀ (g : Nat → Option (Bool × List Bool)), (∀ k, g k = plan_shaped.j0 k m true st.f0 st.f1) → Ev g (false, m) := fun g hg =>
    Ev.congr hg (Ev.step (f := fun _ => some (false, m)) (fun k => by rw [plan_shaped.j0, if_pos rfl]) (Ev.now _))
  refine ⟨fun h => ?_, fun h => ?_⟩
  · obtain ⟨h1, h2, h3, h4⟩ := h
    have good : ∀ (g : Nat → Option (Bool × List Bool)), (∀ k, g k = plan_shaped.j0 k m false st.f0 st.f1) → Ev g (shapeRun st.f1 none st.f0 m) := fun g hg => by
      refine Ev.congr hg (Ev.step (f := fun k => plan_shaped.l0 k m st.f0 st.f0.length ((0 : Nat) : Int) st.f0 st.f1) (fun k => by rw [plan_shaped.j0, if_neg (by simp)]; rfl) ?_)
      exact shaped_l0 st.f0 st.f1 (by omega) st.f0.length 0 m rfl (Nat.zero_le _) (by omega)
    refine good _ (fun k => ?_)
    rw [plan_shaped.f, if_pos (by rw [hw]; exact h1), if_neg (by omega), if_neg (by omega)]
    split
    · rw [decide_eq_false (by have := h4 (by omega); omega)]
    · rfl
  · refine bad _ (fun k => ?_)
    rw [plan_shaped.f]
    split
    · rename_i g1
      rw [hw] at g1
      split
      · rfl
      · split
        · rfl
        · split
          · rw [decide_eq_true]
            exact Classical.byContradiction fun hc => h ⟨g1, by omega, by omega, fun _ => by omega⟩
          · exact absurd ⟨g1, by omega, by omega, fun _ => by omega⟩ h
    · rfl
end Go.Proofs.Ytbgabijjnbmghaa.P
/- Plain law: what a plan is, and that plan.Check tells it. -/
namespace Go.Proofs.Ytbgabijjnbmghaa.P
open Go.RowKit Go.Proofs.YtbgabijjnbmghaaW.PrintWords Go.Proofs.YtbgabijjnbmghaaW.PrintLast Go.Proofs.YtbgabijjnbmghaaW.PrintMore
set_option linter.unusedVariables false
set_option linter.unusedSimpArgs false

def flat (l : List S51) : List Int := l.flatMap (·.f0)
theorem flat_cons (st : S51) (l : List S51) : flat (st :: l) = st.f0 ++ flat l := rfl
theorem flat_append (a b : List S51) : flat (a ++ b) = flat a ++ flat b := by simp [flat]
/-- the steps from number s on are those of a plan, xs being merged already -/
def PlanFrom (n fan : Nat) : Nat → List S51 → List Int → Prop
  | _, [], _ => True
  | s, st :: r, xs => formOk n fan s st ∧ (∀ x ∈ st.f0, 0 ≤ x ∧ x < st.f1) ∧ st.f0.Pairwise (· < ·) ∧ (∀ x ∈ st.f0, x ∉ xs) ∧ PlanFrom n fan (s + 1) r (xs ++ st.f0)
structure Plan (n fan : Nat) (l : List S51) : Prop where
  some : 1 ≤ l.length
  few : l.length ≤ n
  steps : PlanFrom n fan 0 l []
  all : ∀ j : Nat, j + 1 < n + l.length → (j : Int) ∈ flat l

/-! ### marks -/
def Marked (m : List Bool) (xs : List Int) : Prop := ∀ j : Nat, m.getD j false = true ↔ (j : Int) ∈ xs
theorem marked_none (k : Nat) : Marked (List.replicate k false) [] := by
  intro j
  rw [List.getD_eq_getElem?_getD, List.getElem?_replicate]
  split <;> simp
theorem marked_set {m : List Bool} {xs : List Int} (h : Marked m xs) {x : Int} (h0 : 0 ≤ x) (hl : x < m.length) : Marked (m.set x.toNat true) (xs ++ [x]) := by
  intro j
  rw [List.getD_eq_getElem?_getD, List.getElem?_set]
  have := h j
  rw [List.getD_eq_getElem?_getD] at this
  by_cases e : x.toNat = j
  · rw [if_pos e, if_pos (by omega)]
    simp only [List.mem_append, List.mem_singleton]
    constructor
    · intro _; right; omega
    · intro _; rfl
  · rw [if_neg e, this]
    simp only [List.mem_append, List.mem_singleton]
    constructor
    · exact Or.inl
    · rintro (h | h)
      · exact h
      · omega
theorem marked_false {m : List Bool} {xs : List Int} (h : Marked m xs) {x : Int} (h0 : 0 ≤ x) : m.getD x.toNat false = false ↔ x ∉ xs := by
  have := h x.toNat
  rw [Int.toNat_of_nonneg h0] at this
  cases hb : m.getD x.toNat false with
  | false => rw [hb] at this; simpa using this
  | true => rw [hb] at this; simp at this; simpa using this
theorem shapeRun_length (out : Int) : ∀ (l : List Int) (p : Option Int) (m : List Bool), (shapeRun out p l m).2.length = m.length
  | [], p, m => rfl
  | x :: r, p, m => by
    rw [shapeRun]
    split
    · rw [shapeRun_length out r, List.length_set]
    · rfl
theorem shapeRun_iff (out : Int) : ∀ (l : List Int) (p : Option Int) (m : List Bool) (xs : List Int), Marked m xs → out ≤ m.length →
    ((shapeRun out p l m).1 = true ↔ ((∀ x ∈ l, 0 ≤ x ∧ x < out) ∧ l.Pairwise (· < ·) ∧ (∀ y, p = some y → ∀ x ∈ l, y < x) ∧ ∀ x ∈ l, x ∉ xs)) ∧ ((shapeRun out p l m).1 = true → Marked (shapeRun out p l m).2 (xs ++ l))
  | [], p, m, xs, hm, ho => by
    rw [shapeRun]
    exact ⟨by simp, fun _ => by simpa using hm⟩
  | x :: r, p, m, xs, hm, ho => by
    rw [shapeRun]
    split
    · rename_i c
      obtain ⟨c1, c2, c3, c4⟩ := c
      have hx := (marked_false hm c1).1 c4
      obtain ⟨e, k⟩ := shapeRun_iff out r (some x) (m.set x.toNat true) (xs ++ [x]) (marked_set hm c1 (by omega)) (by rw [List.length_set]; exact ho)
      refine ⟨?_, fun h => ?_⟩
      · rw [e]
        constructor
        · rintro ⟨a1, a2, a3, a4⟩
          refine ⟨?_, ?_, ?_, ?_⟩
          · intro y hy
            rcases List.mem_cons.1 hy with rfl | hy
            · exact ⟨c1, c2⟩
            · exact a1 y hy
          · exact List.Pairwise.cons (fun y hy => a3 x rfl y hy) a2
          · intro z hz y hy
            have hzx := c3 z hz
            rcases List.mem_cons.1 hy with rfl | hy
            · exact hzx
            · have := a3 x rfl y hy; omega
          · intro y hy
            rcases List.mem_cons.1 hy with rfl | hy
            · exact hx
            · exact fun h => a4 y hy (List.mem_append_left _ h)
        · rintro ⟨a1, a2, a3, a4⟩
          have a2' := List.pairwise_cons.1 a2
          refine ⟨fun y hy => a1 y (List.mem_cons_of_mem _ hy), a2'.2, ?_, ?_⟩
          · intro z hz y hy; cases hz; exact a2'.1 y hy
          · intro y hy h
            rcases List.mem_append.1 h with h | h
            · exact a4 y (List.mem_cons_of_mem _ hy) h
            · have := a2'.1 y hy
              simp at h
              omega
      · have := k h
        rwa [List.append_assoc] at this
    · rename_i c
      refine ⟨⟨fun h => by simp at h, fun h => ?_⟩, fun h => by simp at h⟩
      refine absurd ⟨(h.1 x (List.mem_cons_self ..)).1, (h.1 x (List.mem_cons_self ..)).2, fun y hy => h.2.2.1 y hy x (List.mem_cons_self ..), ?_⟩ c
      exact (marked_false hm (h.1 x (List.mem_cons_self ..)).1).2 (h.2.2.2 x (List.mem_cons_self ..))
def stepsRun (n fan : Nat) : Nat → List S51 → List Bool → Option (List Bool)
  | _, [], m => Option.some m
  | s, st :: r, m => if formOk n fan s st ∧ (shapeRun st.f1 none st.f0 m).1 = true then stepsRun n fan (s + 1) r (shapeRun st.f1 none st.f0 m).2 else none
theorem stepsRun_iff (n fan : Nat) : ∀ (l : List S51) (s : Nat) (m : List Bool) (xs : List Int), Marked m xs → n + s + l.length ≤ m.length →
    (PlanFrom n fan s l xs → ∃ m', stepsRun n fan s l m = Option.some m' ∧ Marked m' (xs ++ flat l) ∧ m'.length = m.length) ∧ (¬ PlanFrom n fan s l xs → stepsRun n fan s l m = none)
  | [], s, m, xs, hm, hl => ⟨fun _ => ⟨m, rfl, by simpa [flat] using hm, rfl⟩, fun h => absurd trivial h⟩
  | st :: r, s, m, xs, hm, hl => by
    rw [List.length_cons] at hl
    rw [stepsRun]
    by_cases hf : formOk n fan s st
    · have ho : st.f1 ≤ m.length := by have := hf.1; omega
      obtain ⟨e, k⟩ := shapeRun_iff st.f1 st.f0 none m xs hm ho
      by_cases hr : (shapeRun st.f1 none st.f0 m).1 = true
      · rw [if_pos ⟨hf, hr⟩]
        obtain ⟨a1, a2, _, a4⟩ := e.1 hr
        obtain ⟨i1, i2⟩ := stepsRun_iff n fan r (s + 1) _ (xs ++ st.f0) (k hr) (by rw [shapeRun_length]; omega)
        refine ⟨fun h => ?_, fun h => i2 (fun h2 => h ⟨hf, a1, a2, a4, h2⟩)⟩
        obtain ⟨m', g1, g2, g3⟩ := i1 h.2.2.2.2
        exact ⟨m', g1, by rw [flat_cons, ← List.append_assoc]; exact g2, by rw [g3, shapeRun_length]⟩
      · rw [if_neg (fun h => hr h.2)]
        exact ⟨fun h => absurd (e.2 ⟨h.2.1, h.2.2.1, (fun y hy => by cases hy), h.2.2.2.1⟩) hr, fun _ => rfl⟩
    · rw [if_neg (fun h => hf h.1)]
      exact ⟨fun h => absurd h.1 hf, fun _ => rfl⟩

/-! ### the walk's loops -/
theorem index_l0 (l : List Bool) (hl : l.length ≤ 1073741824) : ∀ (d i : Nat), l.length - i = d → i ≤ l.length → ∃ r : Int, Ev (fun k => slices_Index_bool_bool.l0 k l false l.length (i : Int)) r ∧ (r ≥ 0 ↔ ∃ j, i ≤ j ∧ j < l.length ∧ l.getD j true = false)
  | 0, i, hd, hi => by
    have e : i = l.length := by omega
    subst e
    exact ⟨-1, Ev.step (f := fun _ => Option.some (-1)) (fun k => by rw [slices_Index_bool_bool.l0, if_neg (by omega)]) (Ev.now _), ⟨fun h => by omega, fun ⟨j, h1, h2, _⟩ => by omega⟩⟩
  | d + 1, i, hd, hi => by
    have hlt : i < l.length := by omega
    have hro : rdOf false l (i : Int) = l[i] := by unfold rdOf; rw [Int.toNat_natCast, List.getD_eq_getElem?_getD, List.getElem?_eq_getElem hlt]; rfl
    have hg : l.getD i true = l[i] := by rw [List.getD_eq_getElem?_getD, List.getElem?_eq_getElem hlt]; rfl
    cases hb : l[i] with
    | false =>
      refine ⟨i, Ev.step (f := fun _ => Option.some (i : Int)) (fun k => ?_) (Ev.now _), ⟨fun _ => ⟨i, Nat.le_refl _, hlt, by rw [hg, hb]⟩, fun _ => by omega⟩⟩
      rw [slices_Index_bool_bool.l0, if_pos (by omega), if_pos (by omega), if_pos (by omega), hro, hb, if_pos (by decide)]
    | true =>
      obtain ⟨r, h1, h2⟩ := index_l0 l hl d (i + 1) (by omega) (by omega)
      refine ⟨r, Ev.step (f := fun k => slices_Index_bool_bool.l0 k l false l.length ((i + 1 : Nat) : Int)) (fun k => ?_) h1, ?_⟩
      · rw [slices_Index_bool_bool.l0, if_pos (by omega), if_pos (by omega), if_pos (by omega), hro, hb, if_neg (by simp), w64 _ (by omega) (by omega)]; rfl
      · rw [h2]
        constructor
        · rintro ⟨j, a, b, c⟩; exact ⟨j, by omega, b, c⟩
        · rintro ⟨j, a, b, c⟩
          refine ⟨j, ?_, b, c⟩
          by_cases e : j = i
          · subst e; rw [hg, hb] at c; cases c
          · omega
theorem contains_ev (l : List Bool) (hl : l.length ≤ 1073741824) : Ev (fun k => slices_Contains_bool_bool.f k l false) (decide (∃ j, j < l.length ∧ l.getD j true = false)) := by
  obtain ⟨r, h1, h2⟩ := index_l0 l hl l.length 0 rfl (Nat.zero_le _)
  have e : decide (r ≥ 0) = decide (∃ j, j < l.length ∧ l.getD j true = false) := by
    apply decide_eq_decide.2
    rw [h2]
    exact ⟨fun ⟨j, _, a, b⟩ => ⟨j, a, b⟩, fun ⟨j, a, b⟩ => ⟨j, Nat.zero_le _, a, b⟩⟩
  rw [← e]
  exact Ev.bind (g := fun k => slices_Index_bool_bool.f k l false) (a := r) h1 (Ev.now _)
instance : DecidableEq S51 := fun a b => by
  cases a; cases b
  rename_i a0 a1 b0 b1
  exact decidable_of_iff (a0 = b0 ∧ a1 = b1) (by simp)

theorem rdT_getElem {l : List S51} {i : Nat} (h : i < l.length) : rd_T51 l (i : Int) = l[i] := by
  unfold rd_T51; rw [Int.toNat_natCast, List.getD_eq_getElem?_getD, List.getElem?_eq_getElem h]; rfl
open Classical in
/-- the answer at the end of the marks -/
noncomputable def tailV (m : List Bool) : Int := if (∃ j, j + 1 < m.length ∧ m.getD j true = false) then 101 else 0
theorem tailV_pos {m : List Bool} (h : ∃ j, j + 1 < m.length ∧ m.getD j true = false) : tailV m = 101 := by unfold tailV; exact if_pos h
theorem tailV_neg {m : List Bool} (h : ¬ ∃ j, j + 1 < m.length ∧ m.getD j true = false) : tailV m = 0 := by unfold tailV; exact if_neg h
theorem check_l0 (fan n : Nat) (steps : List S51) (hn : n ≤ 65536) (hs : steps.length ≤ 65536) (hf : fan ≤ 64) : ∀ (d s : Nat) (m : List Bool), steps.length - s = d → s ≤ steps.length → m.length = n + steps.length → 1 ≤ m.length →
    Ev (fun k => plan_Check.l0 k (fan : Int) (n : Int) m steps steps.length (s : Int)) (match stepsRun n fan s (steps.drop s) m with | Option.none => 101 | Option.some m' => tailV m')
  | 0, s, m, hd, hi, hm, h1 => by
    have e : s = steps.length := by omega
    subst e
    rw [List.drop_length, stepsRun]
    have hw : wrap64 ((m.length : Int) - 1) = ((m.length - 1 : Nat) : Int) := by rw [w64 _ (by omega) (by omega)]; omega
    refine Ev.step (f := fun k => (slices_Contains_bool_bool.f k (m.take (m.length - 1)) false).bind fun t140 => if t140 = true then Option.some 101 else Option.some 0) (fun k => ?_) ?_
    · rw [plan_Check.l0, if_neg (by omega), hw, if_pos (by omega), if_pos (by omega), Int.toNat_natCast]
    · refine Ev.bind (contains_ev _ (by rw [List.length_take]; omega)) ?_
      show Ev _ (tailV m)
      have e : (∃ j, j < (m.take (m.length - 1)).length ∧ (m.take (m.length - 1)).getD j true = false) ↔ ∃ j, j + 1 < m.length ∧ m.getD j true = false := by
        rw [List.length_take]
        constructor
        · rintro ⟨j, a, b⟩
          rw [List.getD_eq_getElem?_getD, List.getElem?_take_of_lt (by omega), ← List.getD_eq_getElem?_getD] at b
          exact ⟨j, by omega, b⟩
        · rintro ⟨j, a, b⟩
          refine ⟨j, by omega, ?_⟩
          rw [List.getD_eq_getElem?_getD, List.getElem?_take_of_lt (by omega), ← List.getD_eq_getElem?_getD]
          exact b
      by_cases h : ∃ j, j + 1 < m.length ∧ m.getD j true = false
      · rw [tailV_pos h, decide_eq_true (e.2 h)]; exact Ev.now _
      · rw [tailV_neg h, decide_eq_false (fun h2 => h (e.1 h2))]; exact Ev.now _
  | d + 1, s, m, hd, hi, hm, h1 => by
    have hlt : s < steps.length := by omega
    have hr := rdT_getElem hlt
    have hsh := shaped_ev steps[s] n fan s m hn (by omega) hf (by omega)
    rw [drop_cons hlt, stepsRun]
    have head : ∀ k, plan_Check.l0 (k + 1) (fan : Int) (n : Int) m steps steps.length (s : Int) = (plan_shaped.f k (steps[s]).f0 (steps[s]).f1 (s : Int) (n : Int) (fan : Int) m).bind fun bt => if bt.1 = true then plan_Check.l0 k (fan : Int) (n : Int) bt.2 steps steps.length ((s + 1 : Nat) : Int) else Option.some 101 := fun k => by
      rw [plan_Check.l0, if_pos (by omega), if_pos (by omega), if_pos (by omega), hr, w64 _ (by omega) (by omega)]; rfl
    by_cases hfm : formOk n fan s steps[s]
    · by_cases hb : (shapeRun (steps[s]).f1 none (steps[s]).f0 m).1 = true
      · rw [if_pos ⟨hfm, hb⟩]
        refine Ev.step head (Ev.bind (hsh.1 hfm) ?_)
        simp only [hb, if_true]
        exact check_l0 fan n steps hn hs hf d (s + 1) _ (by omega) (by omega) (by rw [shapeRun_length]; exact hm) (by rw [shapeRun_length]; exact h1)
      · rw [if_neg (fun h => hb h.2)]
        refine Ev.step head (Ev.bind (hsh.1 hfm) ?_)
        simp only [hb, if_false]
        exact Ev.now _
    · rw [if_neg (fun h => hfm h.1)]
      refine Ev.step head (Ev.bind (hsh.2 hfm) ?_)
      simp only [Bool.false_eq_true, if_false]
      exact Ev.now _
open Classical in
noncomputable def checkV (l : List Int) (fan : Int) (steps : List S51) : Int :=
  if givenV l fan = 0 then (if Plan l.length fan.toNat steps then 0 else 101) else givenV l fan
open Classical in
theorem check_ev (l : List Int) (fan : Int) (steps : List S51) : Ev (fun k => plan_Check.f k l fan steps) (checkV l fan steps) := by
  unfold checkV
  refine Ev.bind (plan_given_ev l fan) ?_
  by_cases hg : givenV l fan = 0
  · simp only [if_pos hg]
    obtain ⟨hf1, hf2, hn1, hn2, _⟩ := givenV_zero hg
    obtain ⟨F, rfl⟩ : ∃ F : Nat, fan = F := ⟨fan.toNat, by omega⟩
    rw [Int.toNat_natCast]
    by_cases h0 : steps.length = 0
    · rw [if_neg (fun h => by have := h.some; omega)]
      have e0 : (steps.length : Int) = 0 := by omega
      simp only [if_pos e0]
      exact Ev.step (f := fun _ => Option.some 101) (fun k => by rw [plan_Check.j0, if_pos rfl]) (Ev.now _)
    · have e0 : ¬ ((steps.length : Int) = 0) := by omega
      simp only [if_neg e0]
      by_cases h1 : steps.length > l.length
      · rw [if_neg (fun h => by have := h.few; omega)]
        exact Ev.step (f := fun _ => Option.some 101) (fun k => by rw [plan_Check.j0, if_pos (by simp; omega)]) (Ev.now _)
      · have hw : wrap64 ((l.length : Int) + (steps.length : Int)) = ((l.length + steps.length : Nat) : Int) := by rw [w64 _ (by omega) (by omega)]; omega
        refine Ev.step (f := fun k => plan_Check.l0 k (F : Int) (l.length : Int) (List.replicate (l.length + steps.length) false) steps steps.length ((0 : Nat) : Int)) (fun k => ?_) ?_
        · rw [plan_Check.j0, if_neg (by simp; omega), hw, if_pos (by omega), Int.toNat_natCast, if_pos (by omega)]; rfl
        · have hc := check_l0 F l.length steps hn2 (by omega) (by omega) steps.length 0 (List.replicate (l.length + steps.length) false) rfl (Nat.zero_le _) (by simp) (by simp; omega)
          rw [List.drop_zero] at hc
          obtain ⟨i1, i2⟩ := stepsRun_iff l.length F steps 0 (List.replicate (l.length + steps.length) false) [] (marked_none _) (by simp)
          by_cases hp : PlanFrom l.length F 0 steps []
          · obtain ⟨m', g1, g2, g3⟩ := i1 hp
            rw [g1] at hc
            simp only at hc
            rw [List.nil_append] at g2
            rw [List.length_replicate] at g3
            have e : tailV m' = if Plan l.length F steps then 0 else 101 := by
              by_cases ha : ∃ j, j + 1 < m'.length ∧ m'.getD j true = false
              · rw [tailV_pos ha, if_neg]
                intro hpl
                obtain ⟨j, a, b⟩ := ha
                have := (g2 j).2 (hpl.all j (by omega))
                rw [List.getD_eq_getElem?_getD, List.getElem?_eq_getElem (by omega)] at this b
                simp only [Option.getD_some] at this b
                rw [this] at b; cases b
              · rw [tailV_neg ha, if_pos]
                refine ⟨by omega, by omega, hp, fun j hj => (g2 j).1 ?_⟩
                have := fun h => ha ⟨j, by omega, h⟩
                rw [List.getD_eq_getElem?_getD, List.getElem?_eq_getElem (by omega)] at this ⊢
                simpa using this
            rw [← e]; exact hc
          · rw [i2 hp] at hc
            rw [if_neg (fun h => hp h.steps)]
            exact hc
  · simp only [if_neg hg]; exact Ev.now _
end Go.Proofs.Ytbgabijjnbmghaa.P
/- Plain law: the greedy steps are a plan. -/
namespace Go.Proofs.Ytbgabijjnbmghaa.P
open Go.RowKit Go.Proofs.Ytbgabijjnbmghaa Go.Proofs.YtbgabijjnbmghaaW.PrintWords Go.Proofs.YtbgabijjnbmghaaW.PrintLast Go.Proofs.YtbgabijjnbmghaaW.PrintMore
set_option linter.unusedVariables false
set_option linter.unusedSimpArgs false

abbrev nextS (n t : Nat) (s : List Rung) (st : List S51) : List Rung := insR (((n + st.length : Nat) : Int), sumW (s.take t)) (s.drop t)
abbrev nextT (n t : Nat) (s : List Rung) (st : List S51) : List S51 := st ++ [⟨sortI ((s.take t).map (·.1)), ((n + st.length : Nat) : Int)⟩]
/-- what each step of the greedy rule keeps, holds at its end -/
theorem greedy_ind {n fan t0 : Nat} (hf : 2 ≤ fan) (I : List Rung → List S51 → Prop)
    (step : ∀ (t q : Nat) (s : List Rung) (st : List S51), I s st → s.length = t + q * (fan - 1) → 2 ≤ t → t ≤ fan → ((t = t0 ∧ st = []) ∨ (t = fan ∧ st ≠ [])) → I (nextS n t s st) (nextT n t s st)) :
    ∀ (q f t : Nat) (s : List Rung) (st : List S51), q < f → s.length = t + q * (fan - 1) → 2 ≤ t → t ≤ fan → ((t = t0 ∧ st = []) ∨ (t = fan ∧ st ≠ [])) → I s st →
      ∃ x, I [x] (greedy n fan f t s st) ∧ (greedy n fan f t s st).length = st.length + q + 1
  | q, 0, t, s, st, hq, _, _, _, _, _ => by omega
  | 0, f + 1, t, s, st, hq, hl, h2, hfa, ht, hi => by
    have h := step t 0 s st hi hl h2 hfa ht
    rw [greedy, if_pos (by omega)]
    have hl2 : (nextS n t s st).length = 1 := by rw [insR_length, List.length_drop]; omega
    obtain ⟨x, hx⟩ := List.length_eq_one_iff.1 hl2
    have e : greedy n fan f fan (nextS n t s st) (nextT n t s st) = nextT n t s st := by
      cases f with
      | zero => rfl
      | succ f => rw [greedy, if_neg (by omega)]
    rw [e]
    rw [hx] at h
    exact ⟨x, h, by simp⟩
  | q + 1, f + 1, t, s, st, hq, hl, h2, hfa, ht, hi => by
    have h := step t (q + 1) s st hi hl h2 hfa ht
    rw [greedy, if_pos (by omega)]
    have hl2 : (nextS n t s st).length = fan + q * (fan - 1) := by rw [insR_length, List.length_drop, hl, Nat.succ_mul]; omega
    obtain ⟨x, h3, h4⟩ := greedy_ind hf I step q f fan (nextS n t s st) (nextT n t s st) (by omega) hl2 hf (Nat.le_refl _) (.inr ⟨rfl, by simp⟩) h
    exact ⟨x, h3, by rw [h4]; simp; omega⟩

def nums (k : Nat) : List Int := (List.range k).map fun i : Nat => (i : Int)
theorem nums_mem {k : Nat} {x : Int} : x ∈ nums k ↔ 0 ≤ x ∧ x < k := by
  unfold nums
  rw [List.mem_map]
  constructor
  · rintro ⟨a, ha, rfl⟩
    have := List.mem_range.1 ha
    exact ⟨by omega, by omega⟩
  · rintro ⟨h1, h2⟩
    exact ⟨x.toNat, List.mem_range.2 (by omega), by omega⟩
theorem nums_nodup (k : Nat) : (nums k).Nodup := by
  unfold nums
  refine List.Pairwise.map _ ?_ List.nodup_range
  intro a b h e
  exact h (by omega)
theorem nums_succ (k : Nat) : nums (k + 1) = nums k ++ [(k : Int)] := by unfold nums; rw [List.range_succ, List.map_append]; rfl
theorem planFrom_append (n fan : Nat) : ∀ (a b : List S51) (s : Nat) (xs : List Int), PlanFrom n fan s (a ++ b) xs ↔ PlanFrom n fan s a xs ∧ PlanFrom n fan (s + a.length) b (xs ++ flat a)
  | [], b, s, xs => by simp [PlanFrom, flat]
  | st :: a, b, s, xs => by
    rw [List.cons_append, PlanFrom, PlanFrom, planFrom_append n fan a b (s + 1) (xs ++ st.f0), flat_cons, List.append_assoc, List.length_cons, show s + 1 + a.length = s + (a.length + 1) from by omega]
    constructor
    · rintro ⟨h1, h2, h3, h4, h5, h6⟩; exact ⟨⟨h1, h2, h3, h4, h5⟩, h6⟩
    · rintro ⟨⟨h1, h2, h3, h4, h5⟩, h6⟩; exact ⟨h1, h2, h3, h4, h5, h6⟩
theorem sortI_perm (l : List Int) : (sortI l).Perm l := List.mergeSort_perm ..
theorem sortI_sorted (l : List Int) : (sortI l).Pairwise (· ≤ ·) := by
  have := List.pairwise_mergeSort (le := fun x y : Int => decide (x ≤ y)) (fun a b c h1 h2 => by simp at *; omega) (fun a b => by simp; omega) l
  exact this.imp (fun h => by simpa using h)
theorem sortI_strict {l : List Int} (h : l.Nodup) : (sortI l).Pairwise (· < ·) := by
  have h1 := sortI_sorted l
  have h2 : (sortI l).Nodup := (sortI_perm l).nodup_iff.2 h
  exact List.Pairwise.imp₂ (fun a b (h3 : a ≤ b) (h4 : a ≠ b) => by omega) h1 h2
/-- what greedy keeps -/
structure InvA (n fan t0 : Nat) (s : List Rung) (st : List S51) : Prop where
  steps : PlanFrom n fan 0 st []
  perm : (flat st ++ s.map (·.1)).Perm (nums (n + st.length))
  last : st ≠ [] → ((n + st.length - 1 : Nat) : Int) ∈ s.map (·.1)
  lens : ∀ i (h : i < st.length), st[i].f0.length = if i = 0 then t0 else fan
theorem invA_step {n fan t0 : Nat} (hf : 2 ≤ fan) (t q : Nat) (s : List Rung) (st : List S51) (h : InvA n fan t0 s st) (hl : s.length = t + q * (fan - 1)) (h2 : 2 ≤ t) (hfa : t ≤ fan) (ht : (t = t0 ∧ st = []) ∨ (t = fan ∧ st ≠ [])) :
    InvA n fan t0 (nextS n t s st) (nextT n t s st) := by
  have hnd : (flat st ++ s.map (·.1)).Nodup := h.perm.nodup_iff.2 (nums_nodup _)
  have hsn : (s.map (·.1)).Nodup := (List.nodup_append.1 hnd).2.1
  have htk : ((s.take t).map (·.1)).Nodup := by rw [List.map_take]; exact hsn.sublist (List.take_sublist _ _)
  have hsplit : s.map (·.1) = (s.take t).map (·.1) ++ (s.drop t).map (·.1) := by rw [← List.map_append, List.take_append_drop]
  have hp := sortI_perm ((s.take t).map (·.1))
  have hlen : (sortI ((s.take t).map (·.1))).length = t := by rw [hp.length_eq, List.length_map, List.length_take]; omega
  have hmem : ∀ x ∈ sortI ((s.take t).map (·.1)), x ∈ s.map (·.1) := fun x hx => by
    rw [hsplit]; exact List.mem_append_left _ (hp.mem_iff.1 hx)
  have hrange : ∀ x ∈ s.map (·.1), 0 ≤ x ∧ x < ((n + st.length : Nat) : Int) := fun x hx => nums_mem.1 (h.perm.mem_iff.1 (List.mem_append_right _ hx))
  refine ⟨?_, ?_, ?_, ?_⟩
  · rw [planFrom_append]
    refine ⟨h.steps, ?_, ?_, ?_, ?_, trivial⟩
    · refine ⟨by simp only; omega, by simp only; omega, by simp only; omega, fun h1 => by simp only at h1; omega⟩
    · exact fun x hx => hrange x (hmem x hx)
    · exact sortI_strict htk
    · intro x hx hx2
      rw [List.nil_append] at hx2
      exact (List.nodup_append.1 hnd).2.2 x hx2 x (hmem x hx) rfl
  · rw [flat_append, List.length_append, List.length_singleton, ← Nat.add_assoc, nums_succ]
    have e1 : ((nextS n t s st).map (·.1)).Perm (((n + st.length : Nat) : Int) :: (s.drop t).map (·.1)) := (insR_perm _ _).map _
    have e2 : flat [(⟨sortI ((s.take t).map (·.1)), ((n + st.length : Nat) : Int)⟩ : S51)] = sortI ((s.take t).map (·.1)) := by simp [flat]
    rw [e2]
    refine ((hp.append_left _).append e1).trans ?_
    refine List.Perm.trans ?_ (h.perm.append_right _)
    rw [hsplit, List.append_assoc, List.append_assoc, List.append_assoc]
    refine List.Perm.append_left _ (List.Perm.append_left _ ?_)
    exact (List.perm_append_singleton _ _).symm
  · intro _
    have e1 : ((nextS n t s st).map (·.1)).Perm (((n + st.length : Nat) : Int) :: (s.drop t).map (·.1)) := (insR_perm _ _).map _
    rw [e1.mem_iff]
    simp
  · intro i hi
    rw [List.length_append, List.length_singleton] at hi
    by_cases e : i < st.length
    · rw [List.getElem_append_left e]; exact h.lens i e
    · rw [List.getElem_append_right (by omega)]
      simp only [List.getElem_singleton]
      rw [hlen]
      rcases ht with ⟨rfl, rfl⟩ | ⟨rfl, hne⟩
      · simp at hi; rw [if_pos hi]
      · have := List.length_pos_iff.2 hne; rw [if_neg (by omega)]
theorem rungs_fst : ∀ (l : List Int) (i : Nat), (rungs i l).map (·.1) = (List.range' i l.length).map fun i : Nat => (i : Int)
  | [], i => rfl
  | w :: l, i => by rw [rungs, List.map_cons, rungs_fst l (i + 1), List.length_cons, List.range'_succ]; rfl
theorem invA_start (l : List Int) (fan t0 : Nat) : InvA l.length fan t0 (sortR (rungs 0 l)) [] := by
  refine ⟨trivial, ?_, fun h => absurd rfl h, fun i h => by simp at h⟩
  rw [show flat [] = [] from rfl, List.nil_append, List.length_nil, Nat.add_zero]
  refine ((sortR_perm _).map _).trans ?_
  rw [rungs_fst]
  unfold nums
  rw [List.range_eq_range']
/-- the first step's length, and how many more there are -/
def takeOf (n fan : Nat) : Nat := if n = 1 then 1 else 2 + (n - 2) % (fan - 1)
def moreOf (n fan : Nat) : Nat := if n = 1 then 0 else (n - 2) / (fan - 1)
theorem take_more {n fan : Nat} (hf : 2 ≤ fan) (hn : 1 ≤ n) : n = takeOf n fan + moreOf n fan * (fan - 1) ∧ 1 ≤ takeOf n fan ∧ takeOf n fan ≤ fan ∧ (2 ≤ n → 2 ≤ takeOf n fan) := by
  unfold takeOf moreOf
  by_cases h : n = 1
  · subst h; simp; omega
  · rw [if_neg h, if_neg h]
    have h1 := Nat.div_add_mod (n - 2) (fan - 1)
    have h2 := Nat.mod_lt (n - 2) (show fan - 1 > 0 by omega)
    rw [Nat.mul_comm] at h1
    exact ⟨by omega, by omega, by omega, fun _ => by omega⟩
/-- the greedy run of more than one -/
theorem gSteps_ind {l : List Int} {fan : Nat} (hf : 2 ≤ fan) (hn : 2 ≤ l.length) (I : List Rung → List S51 → Prop)
    (step : ∀ (t q : Nat) (s : List Rung) (st : List S51), I s st → s.length = t + q * (fan - 1) → 2 ≤ t → t ≤ fan → ((t = takeOf l.length fan ∧ st = []) ∨ (t = fan ∧ st ≠ [])) → I (nextS l.length t s st) (nextT l.length t s st))
    (start : I (sortR (rungs 0 l)) []) : ∃ x, I [x] (gSteps l fan) ∧ (gSteps l fan).length = moreOf l.length fan + 1 := by
  obtain ⟨h1, h2, h3, h4⟩ := take_more hf (show 1 ≤ l.length by omega)
  have e : gSteps l fan = greedy l.length fan l.length (takeOf l.length fan) (sortR (rungs 0 l)) [] := by
    unfold gSteps takeOf
    rw [if_neg (by omega), if_neg (by omega)]
  rw [e]
  have hq : moreOf l.length fan ≤ moreOf l.length fan * (fan - 1) := Nat.le_mul_of_pos_right _ (by omega)
  obtain ⟨x, h5, h6⟩ := greedy_ind hf I step (moreOf l.length fan) l.length (takeOf l.length fan) (sortR (rungs 0 l)) [] (by omega) (by rw [sortR_length, rungs_length]; exact h1) (h4 hn) h3 (.inl ⟨rfl, rfl⟩) start
  exact ⟨x, h5, by rw [h6]; simp⟩
theorem gSteps_length {l : List Int} {fan : Nat} (hf : 2 ≤ fan) (hn : 1 ≤ l.length) : (gSteps l fan).length = moreOf l.length fan + 1 := by
  by_cases h : l.length = 1
  · unfold gSteps moreOf; rw [if_pos h, if_pos h]; rfl
  · obtain ⟨x, _, h2⟩ := gSteps_ind hf (show 2 ≤ l.length by omega) (fun _ _ => True) (fun _ _ _ _ _ _ _ _ _ => trivial) trivial
    exact h2
theorem gSteps_lens {l : List Int} {fan : Nat} (hf : 2 ≤ fan) (hn : 1 ≤ l.length) (i : Nat) (h : i < (gSteps l fan).length) : (gSteps l fan)[i].f0.length = if i = 0 then takeOf l.length fan else fan := by
  by_cases h1 : l.length = 1
  · have e : gSteps l fan = [⟨[0], 1⟩] := by unfold gSteps; rw [if_pos h1]
    simp only [e] at h ⊢
    have : i = 0 := by simpa using h
    subst this
    unfold takeOf
    simp [h1]
  · obtain ⟨x, h2, _⟩ := gSteps_ind hf (show 2 ≤ l.length by omega) (InvA l.length fan (takeOf l.length fan)) (fun t q s st => invA_step hf t q s st) (invA_start l fan _)
    exact h2.lens i h
theorem gSteps_plan {l : List Int} {fan : Nat} (hf : 2 ≤ fan) (hn : 1 ≤ l.length) : Plan l.length fan (gSteps l fan) := by
  have hlen := gSteps_length hf hn
  obtain ⟨t1, t2, t3, t4⟩ := take_more hf hn
  have hq : moreOf l.length fan ≤ moreOf l.length fan * (fan - 1) := Nat.le_mul_of_pos_right _ (by omega)
  by_cases h1 : l.length = 1
  · have e : gSteps l fan = [⟨[0], 1⟩] := by unfold gSteps; rw [if_pos h1]
    rw [e, h1]
    refine ⟨by simp, by simp, ⟨⟨rfl, by simp, by simp; omega, fun _ => Nat.le_refl _⟩, ?_, by simp, by simp, trivial⟩, ?_⟩
    · intro x hx; simp at hx; subst hx; exact ⟨Int.le_refl _, by decide⟩
    · intro j hj
      have : j = 0 := by simp at hj; omega
      subst this
      simp [flat]
  · obtain ⟨x, h2, _⟩ := gSteps_ind hf (show 2 ≤ l.length by omega) (InvA l.length fan (takeOf l.length fan)) (fun t q s st => invA_step hf t q s st) (invA_start l fan _)
    have t4 := t4 (by omega)
    refine ⟨by omega, by omega, h2.steps, ?_⟩
    intro j hj
    have hne : gSteps l fan ≠ [] := fun h => by rw [h] at hlen; simp at hlen
    have hx := h2.last hne
    simp only [List.map_cons, List.map_nil, List.mem_singleton] at hx
    have hm : (j : Int) ∈ flat (gSteps l fan) ++ [x].map (·.1) := h2.perm.mem_iff.2 (nums_mem.2 ⟨by omega, by omega⟩)
    rcases List.mem_append.1 hm with h | h
    · exact h
    · simp at h; omega
end Go.Proofs.Ytbgabijjnbmghaa.P
/- Plain law: what plan.Make, plan.Check answer of given weights. -/
namespace Go.Proofs.Ytbgabijjnbmghaa.P
open Go.RowKit Go.Proofs.Ytbgabijjnbmghaa Go.Proofs.YtbgabijjnbmghaaW.PrintWords Go.Proofs.YtbgabijjnbmghaaW.PrintLast Go.Proofs.YtbgabijjnbmghaaW.PrintMore
set_option linter.unusedVariables false
set_option linter.unusedSimpArgs false

theorem wS {i : Nat} (h : i ≤ 4611686018427387904) : wrap64 ((i : Int) + 1) = ((i + 1 : Nat) : Int) := by unfold wrap64; omega
theorem wA {a b : Nat} (h : a ≤ 4611686018427387903) (h2 : b ≤ 4611686018427387903) : wrap64 ((a : Int) + (b : Int)) = ((a + b : Nat) : Int) := by unfold wrap64; omega
theorem makeSteps_eq {l : List Int} {fan : Int} (h : givenV l fan = 0) : makeSteps l fan.toNat = gSteps l fan.toNat := by
  obtain ⟨h1, h2, h3, h4, h5⟩ := givenV_zero h
  exact makeSteps_greedy (by omega) (by omega) h3 h4 (fun x hx => h5 x hx)
theorem make_ev {l : List Int} {fan : Int} (h : givenV l fan = 0) : Ev (fun k => plan_Make.f k l fan) (gSteps l fan.toNat, 0) := by
  unfold plan_Make.f
  refine Ev.bind (plan_given_ev l fan) ?_
  simp only [if_pos h]
  rw [makeSteps_eq h]
  exact Ev.now _
theorem make_ev_bad {l : List Int} {fan : Int} (h : givenV l fan ≠ 0) : Ev (fun k => plan_Make.f k l fan) ([], givenV l fan) := by
  unfold plan_Make.f
  refine Ev.bind (plan_given_ev l fan) ?_
  simp only [if_neg h]
  exact Ev.now _
theorem checkV_plan {l : List Int} {fan : Int} {st : List S51} (h : givenV l fan = 0) (hp : Plan l.length fan.toNat st) : checkV l fan st = 0 := by
  unfold checkV
  rw [if_pos h, if_pos hp]
theorem checkV_zero {l : List Int} {fan : Int} {st : List S51} (h : checkV l fan st = 0) : givenV l fan = 0 ∧ Plan l.length fan.toNat st := by
  unfold checkV at h
  by_cases h1 : givenV l fan = 0
  · rw [if_pos h1] at h
    by_cases h2 : Plan l.length fan.toNat st
    · exact ⟨h1, h2⟩
    · rw [if_neg h2] at h; cases h
  · rw [if_neg h1] at h; exact absurd h h1
theorem gSteps_check {l : List Int} {fan : Int} (h : givenV l fan = 0) : checkV l fan (gSteps l fan.toNat) = 0 := by
  obtain ⟨h1, h2, h3, h4, h5⟩ := givenV_zero h
  exact checkV_plan h (gSteps_plan (by omega) h3)
theorem sum_set {l : List Int} {i : Nat} (h : i < l.length) (v : Int) : (l.set i v).sum = l.sum - l.getD i 0 + v := by
  induction l generalizing i with
  | nil => simp at h
  | cons x l ih =>
    cases i with
    | zero => simp [List.getD]; omega
    | succ i =>
      have := ih (i := i) (by simpa using h)
      simp only [List.set_cons_succ, List.sum_cons, this, List.getD_cons_succ]
      omega
theorem sum_zero : ∀ (l : List Int), (∀ x ∈ l, x = 0) → l.sum = 0
  | [], _ => rfl
  | x :: l, h => by
    rw [List.sum_cons, h x (List.mem_cons_self ..), sum_zero l (fun y hy => h y (List.mem_cons_of_mem _ hy))]; rfl
theorem sum_nonneg : ∀ (l : List Int), (∀ x ∈ l, 0 ≤ x) → 0 ≤ l.sum
  | [], _ => Int.le_refl _
  | x :: l, h => by
    have h1 := h x (List.mem_cons_self ..)
    have h2 := sum_nonneg l (fun y hy => h y (List.mem_cons_of_mem _ hy))
    rw [List.sum_cons]; omega
theorem getD_le_sum : ∀ (l : List Int) (i : Nat), (∀ x ∈ l, 0 ≤ x) → l.getD i 0 ≤ l.sum
  | [], i, _ => by simp
  | x :: l, 0, h => by
    have h2 := sum_nonneg l (fun y hy => h y (List.mem_cons_of_mem _ hy))
    simp [List.getD]; omega
  | x :: l, i + 1, h => by
    have h1 := h x (List.mem_cons_self ..)
    have h2 := getD_le_sum l i (fun y hy => h y (List.mem_cons_of_mem _ hy))
    rw [List.getD_cons_succ, List.sum_cons]; omega
theorem getD_set {l : List Int} {i : Nat} (h : i < l.length) (v : Int) (j : Nat) : (l.set i v).getD j 0 = if j = i then v else l.getD j 0 := by
  rw [List.getD_eq_getElem?_getD, List.getElem?_set, List.getD_eq_getElem?_getD]
  by_cases e : i = j
  · subst e; rw [if_pos rfl, if_pos h, if_pos rfl]; rfl
  · rw [if_neg e, if_neg (fun h => e h.symm)]
theorem rd_nat (l : List Int) (j : Nat) : rd l (j : Int) = l.getD j 0 := rfl
theorem mem_getD {l : List Int} {P : Int → Prop} (h : ∀ j, j < l.length → P (l.getD j 0)) : ∀ x ∈ l, P x := by
  intro x hx
  obtain ⟨j, hj, rfl⟩ := List.getElem_of_mem hx
  have := h j hj
  rw [List.getD_eq_getElem?_getD, List.getElem?_eq_getElem hj] at this
  exact this
/-- a plan's step s, its runs merged ahead of it -/
theorem plan_at {n fan : Nat} {steps : List S51} (h : Plan n fan steps) {s : Nat} (hs : s < steps.length) :
    formOk n fan s steps[s] ∧ (∀ x ∈ (steps[s]).f0, 0 ≤ x ∧ x < (steps[s]).f1) ∧ (steps[s]).f0.Pairwise (· < ·) ∧ (∀ x ∈ (steps[s]).f0, x ∉ flat (steps.take s)) ∧ PlanFrom n fan (s + 1) (steps.drop (s + 1)) (flat (steps.take s) ++ (steps[s]).f0) := by
  have h1 := h.steps
  rw [← List.take_append_drop s steps, planFrom_append, drop_cons hs, List.length_take, Nat.min_eq_left (by omega), Nat.zero_add, List.nil_append] at h1
  exact h1.2
theorem flat_take_succ {steps : List S51} {s : Nat} (hs : s < steps.length) : flat (steps.take (s + 1)) = flat (steps.take s) ++ (steps[s]).f0 := by
  rw [List.take_add_one, List.getElem?_eq_getElem hs, flat_append]
  simp [flat]
theorem flat_take_low {n fan : Nat} {steps : List S51} (h : Plan n fan steps) : ∀ (s : Nat), s ≤ steps.length → ∀ x ∈ flat (steps.take s), 0 ≤ x ∧ x + 1 < (n : Int) + s
  | 0, _, x, hx => by simp [flat] at hx
  | s + 1, hs, x, hx => by
    rw [flat_take_succ (by omega)] at hx
    have h1 := plan_at h (s := s) (by omega)
    rcases List.mem_append.1 hx with hx | hx
    · have := flat_take_low h s (by omega) x hx; omega
    · have := h1.2.1 x hx
      have := h1.1.1
      omega
end Go.Proofs.Ytbgabijjnbmghaa.P
/- Plain law: a plan as a flow of runs: what is left, through how many steps each goes, what it costs. -/
namespace Go.Proofs.Ytbgabijjnbmghaa.P
open Go.RowKit Go.Proofs.Ytbgabijjnbmghaa Go.Proofs.YtbgabijjnbmghaaW.PrintWords Go.Proofs.YtbgabijjnbmghaaW.PrintLast Go.Proofs.YtbgabijjnbmghaaW.PrintMore
set_option linter.unusedVariables false
set_option linter.unusedSimpArgs false

/-- through how many of the steps (numbers s and on) a run goes -/
def upFrom (n : Nat) : Nat → List S51 → Int → Nat
  | _, [], _ => 0
  | s, st :: r, x => if x ∈ st.f0 then upFrom n (s + 1) r ((n + s : Nat) : Int) + 1 else upFrom n (s + 1) r x
theorem upFrom_le (n : Nat) : ∀ (l : List S51) (s : Nat) (x : Int), upFrom n s l x ≤ l.length
  | [], s, x => Nat.le_refl _
  | st :: r, s, x => by
    rw [upFrom, List.length_cons]
    have h1 := upFrom_le n r (s + 1) ((n + s : Nat) : Int)
    have h2 := upFrom_le n r (s + 1) x
    split <;> omega
/-- A holds the runs that are left ahead of step s -/
def Flow (n fan : Nat) : Nat → List S51 → List Int → Prop
  | s, [], A => A = [((n + s - 1 : Nat) : Int)]
  | s, st :: r, A => ∃ R : List Int, A.Perm (st.f0 ++ R) ∧ (∀ x ∈ R, x ∉ st.f0) ∧ (∀ x ∈ A, 0 ≤ x ∧ x < ((n + s : Nat) : Int)) ∧ 1 ≤ st.f0.length ∧ st.f0.length ≤ fan ∧ (2 ≤ n → 2 ≤ st.f0.length) ∧ Flow n fan (s + 1) r (((n + s : Nat) : Int) :: R)
theorem perm_nodup {a b : List Int} (ha : a.Nodup) (hb : b.Nodup) (h : ∀ x, x ∈ a ↔ x ∈ b) : a.Perm b := (List.perm_ext_iff_of_nodup ha hb).2 h
theorem flow_of (n fan : Nat) (L : Nat) : ∀ (steps : List S51) (s : Nat) (xs A : List Int), (xs ++ A).Perm (nums (n + s)) → PlanFrom n fan s steps xs → s + steps.length = L → 1 ≤ n + L → (∀ j : Nat, j + 1 < n + L → (j : Int) ∈ xs ++ flat steps) → (∀ x ∈ xs, x + 1 < (n : Int) + s) → Flow n fan s steps A
  | [], s, xs, A, hp, hf, hL, h1, hall, hlow => by
    have hnd := (hp.nodup_iff).2 (nums_nodup _)
    have hA : A.Perm [((n + s - 1 : Nat) : Int)] := by
      refine perm_nodup (List.nodup_append.1 hnd).2.1 (by simp) (fun x => ?_)
      have hm := hp.mem_iff (a := x)
      rw [nums_mem, List.mem_append] at hm
      simp at hL
      constructor
      · intro hx
        have h2 := hm.1 (.inr hx)
        have h3 := hall x.toNat
        simp only [List.mem_singleton]
        by_cases e : x = ((n + s - 1 : Nat) : Int)
        · exact e
        · have h4 := h3 (by omega)
          simp [flat] at h4
          rw [show max x 0 = x by omega] at h4
          exact absurd rfl ((List.nodup_append.1 hnd).2.2 x h4 x hx)
      · intro hx
        simp only [List.mem_singleton] at hx
        rcases hm.2 ⟨by omega, by omega⟩ with h | h
        · have := hlow x h; omega
        · exact h
    have := List.perm_singleton.1 hA
    exact this
  | st :: r, s, xs, A, hp, hf, hL, h1, hall, hlow => by
    obtain ⟨f, hr, hpw, hx, hrest⟩ := hf
    obtain ⟨f1, f2, f3, f4⟩ := f
    have hnd := (hp.nodup_iff).2 (nums_nodup _)
    have hA := (List.nodup_append.1 hnd).2.1
    have hins : st.f0.Nodup := hpw.imp (fun {a b} h => by omega)
    have hinA : ∀ x ∈ st.f0, x ∈ A := fun x hxm => by
      have := hr x hxm
      rcases List.mem_append.1 (hp.mem_iff.2 (nums_mem.2 ⟨this.1, by omega⟩)) with h | h
      · exact absurd h (hx x hxm)
      · exact h
    have hR : (A.filter (fun x => x ∉ st.f0)).Nodup := hA.sublist List.filter_sublist
    have hperm : A.Perm (st.f0 ++ A.filter (fun x => x ∉ st.f0)) := by
      refine perm_nodup hA ?_ (fun x => ?_)
      · rw [List.nodup_append]
        exact ⟨hins, hR, fun a ha b hb e => by subst e; simp at hb; exact hb.2 ha⟩
      · simp only [List.mem_append, List.mem_filter, decide_eq_true_eq]
        constructor
        · intro h
          by_cases h2 : x ∈ st.f0
          · exact .inl h2
          · exact .inr ⟨h, h2⟩
        · rintro (h | h)
          · exact hinA x h
          · exact h.1
    have hrange : ∀ x ∈ A, 0 ≤ x ∧ x < ((n + s : Nat) : Int) := fun x h => nums_mem.1 (hp.mem_iff.1 (List.mem_append_right _ h))
    refine ⟨A.filter (fun x => x ∉ st.f0), hperm, ?_, hrange, f2, f3, fun h => ?_, ?_⟩
    · intro x hx; simp at hx; exact hx.2
    · rcases Nat.lt_or_ge st.f0.length 2 with h2 | h2
      · have := f4 (by omega); omega
      · exact h2
    · refine flow_of n fan L r (s + 1) (xs ++ st.f0) _ ?_ hrest (by rw [List.length_cons] at hL; omega) h1 (fun j hj => ?_) (fun x hx => ?_)
      · rw [show n + (s + 1) = (n + s) + 1 from rfl, nums_succ, List.append_assoc]
        have e1 : (st.f0 ++ ((n + s : Nat) : Int) :: A.filter (fun x => x ∉ st.f0)).Perm (A ++ [((n + s : Nat) : Int)]) := by
          refine List.perm_middle.trans (List.Perm.trans ?_ (List.perm_append_singleton _ _).symm)
          exact hperm.symm.cons _
        refine (e1.append_left xs).trans ?_
        rw [← List.append_assoc]
        exact hp.append_right _
      · have := hall j hj
        rwa [flat_cons, ← List.append_assoc] at this
      · rcases List.mem_append.1 hx with hx | hx
        · have := hlow x hx; omega
        · have := hr x hx; omega
theorem flow_of_plan {n fan : Nat} {steps : List S51} (h : Plan n fan steps) : Flow n fan 0 steps (nums n) :=
  flow_of n fan steps.length steps 0 [] (nums n) (by simp) h.steps (by omega) (by have := h.some; omega) (fun j hj => by simpa using h.all j hj) (fun x hx => by simp at hx)
/-- how many places are taken -/
theorem flow_taken (n fan : Nat) : ∀ (steps : List S51) (s : Nat) (A : List Int), Flow n fan s steps A → (flat steps).length + 1 = A.length + steps.length
  | [], s, A, h => by rw [Flow] at h; subst h; rfl
  | st :: r, s, A, h => by
    obtain ⟨R, h1, h2, h3, h4, h5, h5b, h6⟩ := h
    have ih := flow_taken n fan r (s + 1) _ h6
    have hl := h1.length_eq
    rw [List.length_append] at hl
    rw [flat_cons, List.length_append]
    simp only [List.length_cons] at ih ⊢
    omega
theorem flow_flat_le (n fan : Nat) : ∀ (steps : List S51) (s : Nat) (A : List Int), Flow n fan s steps A → (flat steps).length ≤ fan * steps.length
  | [], s, A, h => Nat.zero_le _
  | st :: r, s, A, h => by
    obtain ⟨R, h1, h2, h3, h4, h5, h5b, h6⟩ := h
    have ih := flow_flat_le n fan r (s + 1) _ h6
    rw [flat_cons, List.length_append, List.length_cons, Nat.mul_succ]
    omega
/-! ### sums over what is left -/
theorem sum_map_perm {a b : List Int} (f : Int → Int) (h : a.Perm b) : (a.map f).sum = (b.map f).sum := sum_perm (h.map f)
theorem sum_map_congr {a : List Int} {f g : Int → Int} (h : ∀ x ∈ a, f x = g x) : (a.map f).sum = (a.map g).sum := by
  rw [List.map_congr_left h]
theorem sum_const (a : List Int) (c : Int) : (a.map fun _ => c).sum = a.length * c := by
  induction a with
  | nil => simp
  | cons x a ih =>
    simp only [List.map_cons, List.sum_cons, ih, List.length_cons]
    rw [show (((a.length + 1 : Nat) : Int)) = (a.length : Int) + 1 from by omega, Int.add_mul]
    omega
theorem sum_map_mul (a : List Int) (f : Int → Int) (c : Int) : (a.map fun x => f x * c).sum = (a.map f).sum * c := by
  induction a with
  | nil => simp
  | cons x a ih => simp only [List.map_cons, List.sum_cons, ih, Int.add_mul]
theorem sum_map_add (a : List Int) (f g : Int → Int) : (a.map fun x => f x + g x).sum = (a.map f).sum + (a.map g).sum := by
  induction a with
  | nil => simp
  | cons x a ih => simp only [List.map_cons, List.sum_cons, ih]; omega
theorem flow_up {n fan s : Nat} {st : S51} {r : List S51} {R : List Int} (h2 : ∀ x ∈ R, x ∉ st.f0) :
    (∀ x ∈ st.f0, upFrom n s (st :: r) x = upFrom n (s + 1) r ((n + s : Nat) : Int) + 1) ∧ ∀ x ∈ R, upFrom n s (st :: r) x = upFrom n (s + 1) r x :=
  ⟨fun x hx => by rw [upFrom, if_pos hx], fun x hx => by rw [upFrom, if_neg (h2 x hx)]⟩
/-- the inequality of Kraft -/
theorem flow_kraft (n fan : Nat) (hf : 1 ≤ fan) : ∀ (steps : List S51) (s D : Nat) (A : List Int), Flow n fan s steps A → steps.length ≤ D → (A.map fun x => ((fan ^ (D - upFrom n s steps x) : Nat) : Int)).sum ≤ ((fan ^ D : Nat) : Int)
  | [], s, D, A, h, hD => by rw [Flow] at h; subst h; simp [upFrom]
  | st :: r, s, D, A, h, hD => by
    obtain ⟨R, h1, h2, h3, h4, h5, h5b, h6⟩ := h
    rw [List.length_cons] at hD
    have ih := flow_kraft n fan hf r (s + 1) D _ h6 (by omega)
    obtain ⟨u1, u2⟩ := flow_up (n := n) (fan := fan) (s := s) (st := st) (r := r) h2
    rw [sum_map_perm _ h1, List.map_append, List.sum_append, sum_map_congr (f := fun x => ((fan ^ (D - upFrom n s (st :: r) x) : Nat) : Int)) (g := fun x => ((fan ^ (D - (upFrom n (s + 1) r ((n + s : Nat) : Int) + 1)) : Nat) : Int)) (fun x hx => by rw [u1 x hx]), sum_const,
      sum_map_congr (f := fun x => ((fan ^ (D - upFrom n s (st :: r) x) : Nat) : Int)) (g := fun x => ((fan ^ (D - upFrom n (s + 1) r x) : Nat) : Int)) (fun x hx => by rw [u2 x hx])]
    rw [List.map_cons, List.sum_cons] at ih
    have hu := upFrom_le n r (s + 1) ((n + s : Nat) : Int)
    generalize upFrom n (s + 1) r ((n + s : Nat) : Int) = u at ih hu ⊢
    have e : D - u = (D - (u + 1)) + 1 := by omega
    have hle : ((st.f0.length * fan ^ (D - (u + 1)) : Nat) : Int) ≤ ((fan ^ (D - u) : Nat) : Int) := by
      rw [e, Nat.pow_succ, Nat.mul_comm]
      have := Nat.mul_le_mul_left (fan ^ (D - (u + 1))) h5
      omega
    rw [Int.natCast_mul] at hle
    omega
/-! ### costs -/
def sumAt (acc : List Int) (ins : List Int) : Int := (ins.map fun x => acc.getD x.toNat 0).sum
def costOf : List Int → List S51 → Int
  | _, [] => 0
  | acc, st :: r => sumAt acc st.f0 + costOf (acc ++ [sumAt acc st.f0]) r
theorem getD_append_lt {acc b : List Int} {j : Nat} (h : j < acc.length) : (acc ++ b).getD j 0 = acc.getD j 0 := by
  rw [List.getD_eq_getElem?_getD, List.getD_eq_getElem?_getD, List.getElem?_append_left h]
theorem getD_append_len (acc : List Int) (v : Int) : (acc ++ [v]).getD acc.length 0 = v := by
  rw [List.getD_eq_getElem?_getD]; simp
theorem flow_cost (n fan : Nat) : ∀ (steps : List S51) (s : Nat) (A acc : List Int), Flow n fan s steps A → acc.length = n + s → (A.map fun x => acc.getD x.toNat 0 * (upFrom n s steps x : Int)).sum = costOf acc steps
  | [], s, A, acc, h, hl => by rw [Flow] at h; subst h; simp [upFrom, costOf]
  | st :: r, s, A, acc, h, hl => by
    obtain ⟨R, h1, h2, h3, h4, h5, h5b, h6⟩ := h
    have ih := flow_cost n fan r (s + 1) _ (acc ++ [sumAt acc st.f0]) h6 (by rw [List.length_append, List.length_singleton, hl]; omega)
    obtain ⟨u1, u2⟩ := flow_up (n := n) (fan := fan) (s := s) (st := st) (r := r) h2
    have hR : ∀ x ∈ R, x.toNat < acc.length := fun x hx => by
      have := h3 x (h1.mem_iff.2 (List.mem_append_right _ hx)); omega
    rw [costOf, ← ih, sum_map_perm _ h1, List.map_append, List.sum_append, List.map_cons, List.sum_cons, Int.toNat_natCast, ← hl, getD_append_len, hl]
    rw [sum_map_congr (a := st.f0) (g := fun x => acc.getD x.toNat 0 * ((upFrom n (s + 1) r ((n + s : Nat) : Int) : Nat) : Int) + acc.getD x.toNat 0) (fun x hx => by rw [u1 x hx, show ((upFrom n (s + 1) r ((n + s : Nat) : Int) + 1 : Nat) : Int) = (upFrom n (s + 1) r ((n + s : Nat) : Int) : Int) + 1 from by omega, Int.mul_add, Int.mul_one]), sum_map_add, sum_map_mul]
    rw [sum_map_congr (a := R) (g := fun x => (acc ++ [sumAt acc st.f0]).getD x.toNat 0 * (upFrom n (s + 1) r x : Int)) (fun x hx => by rw [u2 x hx, getD_append_lt (hR x hx)])]
    unfold sumAt
    omega
/-! ### depths -/
def maxL (l : List Int) : Int := l.foldr (fun x m => max x m) 0
theorem maxL_cons (x : Int) (l : List Int) : maxL (x :: l) = max x (maxL l) := rfl
theorem maxL_nonneg : ∀ (l : List Int), 0 ≤ maxL l
  | [] => Int.le_refl _
  | x :: l => by have := maxL_nonneg l; rw [maxL_cons]; omega
theorem maxL_append : ∀ (a b : List Int), maxL (a ++ b) = max (maxL a) (maxL b)
  | [], b => by have := maxL_nonneg b; rw [List.nil_append, show maxL [] = 0 from rfl]; omega
  | x :: a, b => by rw [List.cons_append, maxL_cons, maxL_cons, maxL_append a b]; omega
theorem maxL_perm {a b : List Int} (h : a.Perm b) : maxL a = maxL b := by
  induction h with
  | nil => rfl
  | cons x _ ih => rw [maxL_cons, maxL_cons, ih]
  | swap x y l => simp only [maxL_cons]; omega
  | trans _ _ ih1 ih2 => exact ih1.trans ih2
def deepAt (acc : List Int) (ins : List Int) : Int := maxL (ins.map fun x => acc.getD x.toNat 0 + 1)
def deepOf : List Int → List S51 → List Int
  | acc, [] => acc
  | acc, st :: r => deepOf (acc ++ [deepAt acc st.f0]) r
theorem maxL_shift : ∀ (a : List Int) (u : Int), 0 ≤ u → 1 ≤ a.length → (∀ x ∈ a, 0 ≤ x) → maxL (a.map fun x => x + u) = maxL a + u
  | [], u, hu, h1, h => by simp at h1
  | [x], u, hu, h1, h => by
    have := h x (List.mem_cons_self ..)
    show max (x + u) 0 = max x 0 + u
    omega
  | x :: y :: a, u, hu, h1, h => by
    have ih := maxL_shift (y :: a) u hu (by simp) (fun z hz => h z (List.mem_cons_of_mem _ hz))
    rw [List.map_cons, maxL_cons, ih, maxL_cons x]
    omega
theorem flow_depth (n fan : Nat) : ∀ (steps : List S51) (s : Nat) (A acc : List Int), Flow n fan s steps A → acc.length = n + s → 1 ≤ n + s → (∀ j, 0 ≤ acc.getD j 0) → maxL (A.map fun x => acc.getD x.toNat 0 + (upFrom n s steps x : Int)) = (deepOf acc steps).getD (n + s + steps.length - 1) 0
  | [], s, A, acc, h, hl, h1, h0 => by
    rw [Flow] at h; subst h
    have := h0 (n + s - 1)
    simp only [List.map_cons, List.map_nil, maxL_cons, upFrom, deepOf, List.length_nil, Nat.add_zero, Int.toNat_natCast]
    rw [show maxL [] = 0 from rfl]
    omega
  | st :: r, s, A, acc, h, hl, h01, h0 => by
    obtain ⟨R, h1, h2, h3, h4, h5, h5b, h6⟩ := h
    have hd0 := maxL_nonneg (st.f0.map fun x => acc.getD x.toNat 0 + 1)
    have ih := flow_depth n fan r (s + 1) _ (acc ++ [deepAt acc st.f0]) h6 (by rw [List.length_append, List.length_singleton, hl]; omega) (by omega) (fun j => by
      rcases Nat.lt_trichotomy j acc.length with hj | hj | hj
      · rw [getD_append_lt hj]; exact h0 j
      · subst hj; rw [getD_append_len]; exact hd0
      · rw [List.getD_eq_getElem?_getD, List.getElem?_eq_none (by simp; omega)]; exact Int.le_refl _)
    obtain ⟨u1, u2⟩ := flow_up (n := n) (fan := fan) (s := s) (st := st) (r := r) h2
    have hR : ∀ x ∈ R, x.toNat < acc.length := fun x hx => by
      have := h3 x (h1.mem_iff.2 (List.mem_append_right _ hx)); omega
    rw [deepOf, List.length_cons, show n + s + (r.length + 1) - 1 = n + (s + 1) + r.length - 1 from by omega, ← ih]
    rw [maxL_perm (h1.map _), List.map_append, maxL_append, List.map_cons, maxL_cons, Int.toNat_natCast, ← hl, getD_append_len, hl]
    have e1 : st.f0.map (fun x => acc.getD x.toNat 0 + (upFrom n s (st :: r) x : Int)) = (st.f0.map fun x => acc.getD x.toNat 0 + 1).map fun y => y + ((upFrom n (s + 1) r ((n + s : Nat) : Int) : Nat) : Int) := by
      rw [List.map_map]
      refine List.map_congr_left fun x hx => ?_
      rw [u1 x hx]
      simp only [Function.comp]
      omega
    have e2 : R.map (fun x => acc.getD x.toNat 0 + (upFrom n s (st :: r) x : Int)) = R.map fun x => (acc ++ [deepAt acc st.f0]).getD x.toNat 0 + (upFrom n (s + 1) r x : Int) :=
      List.map_congr_left fun x hx => by rw [u2 x hx, getD_append_lt (hR x hx)]
    rw [e1, e2, maxL_shift _ _ (by omega) (by rw [List.length_map]; exact h4) (fun y hy => by
      obtain ⟨x, _, rfl⟩ := List.mem_map.1 hy
      have := h0 x.toNat; omega)]
    rfl
end Go.Proofs.Ytbgabijjnbmghaa.P
/- Plain law: what plan.Cost and plan.Depth answer. -/
namespace Go.Proofs.Ytbgabijjnbmghaa.P
open Go.RowKit Go.Proofs.Ytbgabijjnbmghaa Go.Proofs.YtbgabijjnbmghaaW.PrintWords Go.Proofs.YtbgabijjnbmghaaW.PrintLast Go.Proofs.YtbgabijjnbmghaaW.PrintMore
set_option linter.unusedVariables false
set_option linter.unusedSimpArgs false

theorem sumAt_nonneg {acc : List Int} (h : ∀ j, 0 ≤ acc.getD j 0) (ins : List Int) : 0 ≤ sumAt acc ins :=
  sum_nonneg _ (fun y hy => by obtain ⟨x, _, rfl⟩ := List.mem_map.1 hy; exact h _)
theorem sumAt_append (acc a b : List Int) : sumAt acc (a ++ b) = sumAt acc a + sumAt acc b := by simp [sumAt]
theorem sumAt_take_le {acc : List Int} (h : ∀ j, 0 ≤ acc.getD j 0) (ins : List Int) (i : Nat) : sumAt acc (ins.take i) ≤ sumAt acc ins := by
  have e : sumAt acc ins = sumAt acc (ins.take i) + sumAt acc (ins.drop i) := by rw [← sumAt_append, List.take_append_drop]
  have := sumAt_nonneg h (ins.drop i)
  omega
theorem take_succ_at {ins : List Int} {i : Nat} (h : i < ins.length) : ins.take (i + 1) = ins.take i ++ [ins[i]] := by
  rw [List.take_add_one, List.getElem?_eq_getElem h]; rfl
theorem sumAt_take_succ (acc : List Int) {ins : List Int} {i : Nat} (h : i < ins.length) : sumAt acc (ins.take (i + 1)) = sumAt acc (ins.take i) + acc.getD (ins[i]).toNat 0 := by
  rw [take_succ_at h, sumAt_append]; simp [sumAt]
theorem cost_step (k : Nat) (acc : List Int) (c v v' : Int) (steps : List S51) (L s i : Nat) (ins : List Int) (hi : i < ins.length) (b : i < 1000000) (h0 : 0 ≤ ins[i]) (h1 : ins[i] < (acc.length : Int)) (hv : wrap64 (v + acc.getD (ins[i]).toNat 0) = v') :
    plan_Cost.l1 (k + 1) acc c v steps L s ins ins.length i = plan_Cost.l1 k acc c v' steps L s ins ins.length ((i + 1 : Nat) : Int) := by
  have e1 : (i : Int) < ins.length := by clear hv; omega
  have e2 : (0 : Int) ≤ (i : Int) := by clear hv; omega
  rw [plan_Cost.l1, if_pos e1, if_pos e2, if_pos e1, rd_getElem hi, if_pos h0, if_pos h1, wS (by clear hv; omega)]
  rw [← hv]; rfl
theorem cost_l1 (acc : List Int) (c : Int) (steps : List S51) (L s : Nat) (ins : List Int) (hl : ins.length ≤ 64) (hr : ∀ x ∈ ins, 0 ≤ x ∧ x < (acc.length : Int)) (h0 : ∀ j, 0 ≤ acc.getD j 0) (hT : sumAt acc ins ≤ 70368744177664) (hacc : acc.length < 1000000) (hs : s < 1000000) (hc : wrap64 (c + sumAt acc ins) = c + sumAt acc ins) (r : Int × Int)
    (cont : Ev (fun k => plan_Cost.l0 k (acc ++ [sumAt acc ins]) (c + sumAt acc ins) steps L ((s + 1 : Nat) : Int)) r) :
    ∀ (d i : Nat), ins.length - i = d → i ≤ ins.length → Ev (fun k => plan_Cost.l1 k acc c (sumAt acc (ins.take i)) steps L s ins ins.length i) r
  | 0, i, hd, hi => by
    have e : i = ins.length := by omega
    subst e
    rw [List.take_length]
    refine Ev.step (fun k => ?_) cont
    have e1 : ¬ (ins.length : Int) < ins.length := by clear hT hc; omega
    have e2 : acc.length < 17592186044416 := by clear hT hc; omega
    rw [plan_Cost.l1, if_neg e1, if_pos e2, hc, wS (by clear hT hc; omega)]
  | d + 1, i, hd, hi => by
    have hlt : i < ins.length := by omega
    have hm := hr _ (List.getElem_mem hlt)
    refine Ev.step (fun k => cost_step k acc c (sumAt acc (ins.take i)) (sumAt acc (ins.take (i + 1))) steps L s i ins hlt (by omega) hm.1 hm.2 ?_) (cost_l1 acc c steps L s ins hl hr h0 hT hacc hs hc r cont d (i + 1) (by omega) (by omega))
    have h1 := sumAt_take_le h0 ins (i + 1)
    have h2 := sumAt_nonneg h0 (ins.take (i + 1))
    rw [← sumAt_take_succ acc hlt, w64 _ (by omega) (by omega)]
/-- what is left weighs as much as ever -/
theorem flow_total {n s : Nat} {st : S51} {A R acc : List Int} (h1 : A.Perm (st.f0 ++ R)) (h3 : ∀ x ∈ A, 0 ≤ x ∧ x < ((n + s : Nat) : Int)) (hl : acc.length = n + s) :
    sumAt (acc ++ [sumAt acc st.f0]) (((n + s : Nat) : Int) :: R) = sumAt acc A := by
  have hR : ∀ x ∈ R, x.toNat < acc.length := fun x hx => by
    have := h3 x (h1.mem_iff.2 (List.mem_append_right _ hx)); omega
  unfold sumAt
  rw [sum_map_perm _ h1, List.map_append, List.sum_append, List.map_cons, List.sum_cons, Int.toNat_natCast, ← hl, getD_append_len]
  rw [sum_map_congr (a := R) (f := fun x => acc.getD x.toNat 0) (g := fun x => (acc ++ [(st.f0.map fun x => acc.getD x.toNat 0).sum]).getD x.toNat 0) (fun x hx => by rw [getD_append_lt (hR x hx)])]
theorem sumAt_part {st : S51} {A R acc : List Int} (h1 : A.Perm (st.f0 ++ R)) (h0 : ∀ j, 0 ≤ acc.getD j 0) : sumAt acc st.f0 ≤ sumAt acc A := by
  have e : sumAt acc A = sumAt acc st.f0 + sumAt acc R := by rw [← sumAt_append]; exact sum_map_perm _ h1
  have := sumAt_nonneg h0 R
  omega
theorem getD_append_nonneg {acc : List Int} {v : Int} (h : ∀ j, 0 ≤ acc.getD j 0) (hv : 0 ≤ v) (j : Nat) : 0 ≤ (acc ++ [v]).getD j 0 := by
  rcases Nat.lt_trichotomy j acc.length with hj | hj | hj
  · rw [getD_append_lt hj]; exact h j
  · subst hj; rw [getD_append_len]; exact hv
  · rw [List.getD_eq_getElem?_getD, List.getElem?_eq_none (by simp; omega)]; exact Int.le_refl _
theorem cost_l0 (steps : List S51) (n fan L : Nat) (hL : L = steps.length) (hL2 : L ≤ 65536) (hn : n ≤ 65536) (hf : fan ≤ 64) : ∀ (d s : Nat) (A acc : List Int) (c : Int), L - s = d → s ≤ L → Flow n fan s (steps.drop s) A → acc.length = n + s → (∀ j, 0 ≤ acc.getD j 0) → sumAt acc A ≤ 70368744177664 → 0 ≤ c → c ≤ s * 70368744177664 →
    Ev (fun k => plan_Cost.l0 k acc c steps L s) (c + costOf acc (steps.drop s), 0) := by
  intro d
  induction d with
  | zero =>
    intro s A acc c hd hi hfl hl h0 hT hc0 hc
    have e : s = steps.length := by omega
    have e0 : ¬ (s : Int) < (L : Int) := by clear hT hc; omega
    refine Ev.step (f := fun _ => some (c, 0)) (fun k => ?_) ?_
    · rw [plan_Cost.l0, if_neg e0]
    · rw [e, List.drop_length, costOf, Int.add_zero]; exact Ev.now _
  | succ d ihd =>
    intro s A acc c hd hi hfl hl h0 hT hc0 hc
    have hlt : s < steps.length := by omega
    rw [drop_cons hlt] at hfl ⊢
    obtain ⟨R, h1, h2, h3, h4, h5, h5b, h6⟩ := hfl
    have hp := sumAt_part h1 h0
    have hn0 := sumAt_nonneg h0 (steps[s]).f0
    have htot := flow_total (n := n) (s := s) h1 h3 hl
    have hcs : c + sumAt acc (steps[s]).f0 ≤ ((s + 1 : Nat) : Int) * 70368744177664 := by
      rw [show ((s + 1 : Nat) : Int) = (s : Int) + 1 from by omega, Int.add_mul]; omega
    have ih := ihd (s + 1) _ (acc ++ [sumAt acc (steps[s]).f0]) (c + sumAt acc (steps[s]).f0) (by omega) (by omega) h6 (by rw [List.length_append, List.length_singleton, hl]; omega) (getD_append_nonneg h0 hn0) (by rw [htot]; exact hT) (by omega) hcs
    rw [costOf, ← Int.add_assoc]
    have hw : wrap64 (c + sumAt acc (steps[s]).f0) = c + sumAt acc (steps[s]).f0 := w64 _ (by omega) (by omega)
    have hin := cost_l1 acc c steps L s (steps[s]).f0 (by omega) (fun x hx => by have := h3 x (h1.mem_iff.2 (List.mem_append_left _ hx)); omega) h0 (by omega) (by omega) (by omega) hw _ ih (steps[s]).f0.length 0 rfl (Nat.zero_le _)
    refine Ev.step (fun k => ?_) hin
    have e1 : (s : Int) < (L : Int) := by omega
    have e2 : (0 : Int) ≤ (s : Int) := by omega
    have e3 : (s : Int) < steps.length := by omega
    rw [plan_Cost.l0, if_pos e1, if_pos e2, if_pos e3, rdT_getElem hlt]
    rfl
theorem sumAt_nums (l : List Int) : ∀ (k : Nat), k ≤ l.length → sumAt l (nums k) = (l.take k).sum
  | 0, _ => by simp [sumAt, nums]
  | k + 1, h => by
    rw [nums_succ, sumAt_append, sumAt_nums l k (by omega), List.take_add_one, List.getElem?_eq_getElem (by omega), List.sum_append]
    simp [sumAt, List.getD_eq_getElem?_getD, List.getElem?_eq_getElem (show k < l.length by omega)]
theorem given_nonneg {l : List Int} (h : ∀ x ∈ l, okW x) (j : Nat) : 0 ≤ l.getD j 0 := by
  rw [List.getD_eq_getElem?_getD]
  by_cases hj : j < l.length
  · rw [List.getElem?_eq_getElem hj]; exact (h _ (List.getElem_mem hj)).1
  · rw [List.getElem?_eq_none (by omega)]; exact Int.le_refl _
theorem given_sum {l : List Int} {fan : Int} (hg : givenV l fan = 0) : l.sum ≤ 70368744177664 := by
  obtain ⟨h1, h2, h3, h4, h5⟩ := givenV_zero hg
  have := sum_bound l 1073741824 (fun x hx => (h5 x hx).2)
  have h6 : (l.length : Int) * 1073741824 ≤ 65536 * 1073741824 := Int.mul_le_mul_of_nonneg_right (by omega) (by omega)
  omega
theorem cost_ev (l : List Int) (fan : Int) (steps : List S51) : Ev (fun k => plan_Cost.f k l fan steps) (if checkV l fan steps = 0 then (costOf l steps, 0) else (0, checkV l fan steps)) := by
  unfold plan_Cost.f
  refine Ev.bind (check_ev l fan steps) ?_
  by_cases h : checkV l fan steps = 0
  · simp only [if_pos h]
    obtain ⟨hg, hp⟩ := checkV_zero h
    obtain ⟨h1, h2, h3, h4, h5⟩ := givenV_zero hg
    have hfew := hp.few
    have := cost_l0 steps l.length fan.toNat steps.length rfl (by omega) h4 (by omega) steps.length 0 (nums l.length) l 0 rfl (Nat.zero_le _) (by simpa using flow_of_plan hp) rfl (given_nonneg h5) (by rw [sumAt_nums l _ (Nat.le_refl _), List.take_length]; exact given_sum hg) (Int.le_refl _) (by simp)
    rw [Int.zero_add, List.drop_zero] at this
    refine Ev.congr (fun k => ?_) this
    have e : slices_Clone_int_int.f l = some l := by unfold slices_Clone_int_int.f; exact if_pos (by omega)
    rw [e]; rfl
  · simp only [if_neg h]; exact Ev.now _

/-! ### Depth -/
/-- what the inner loop has when so many runs were looked at -/
theorem deepAt_take_succ (acc : List Int) (h0 : ∀ j, 0 ≤ acc.getD j 0) {ins : List Int} {i : Nat} (h : i < ins.length) : deepAt acc (ins.take (i + 1)) = max (deepAt acc (ins.take i)) (acc.getD (ins[i]).toNat 0 + 1) := by
  unfold deepAt
  rw [take_succ_at h, List.map_append, maxL_append, List.map_cons, List.map_nil, maxL_cons, show maxL [] = 0 from rfl]
  have := h0 (ins[i]).toNat
  omega
abbrev row (acc : List Int) (m : Int) (q : Nat) : List Int := acc ++ m :: List.replicate q 0
theorem row_lt {acc : List Int} {m : Int} {q j : Nat} (h : j < acc.length) : (row acc m q).getD j 0 = acc.getD j 0 := getD_append_lt h
theorem row_at (acc : List Int) (m : Int) (q : Nat) : (row acc m q).getD acc.length 0 = m := by
  rw [List.getD_eq_getElem?_getD, List.getElem?_append_right (Nat.le_refl _), Nat.sub_self]; rfl
theorem row_set (acc : List Int) (m v : Int) (q : Nat) : (row acc m q).set acc.length v = row acc v q := by
  unfold row
  rw [List.set_append_right _ _ (Nat.le_refl _), Nat.sub_self]; rfl
theorem row_length (acc : List Int) (m : Int) (q : Nat) : (row acc m q).length = acc.length + q + 1 := by
  unfold row; rw [List.length_append, List.length_cons, List.length_replicate]; omega
theorem depth_step (k : Nat) (acc : List Int) (m m' : Int) (q : Nat) (steps : List S51) (L s i : Nat) (ins : List Int) (hi : i < ins.length) (b : i < 1000000) (h0 : 0 ≤ ins[i]) (h1 : ins[i] < (acc.length : Int)) (h2 : 0 ≤ acc.getD (ins[i]).toNat 0) (h3 : acc.getD (ins[i]).toNat 0 ≤ 1000000) (hm : max m (acc.getD (ins[i]).toNat 0 + 1) = m') :
    plan_Depth.l1 (k + 1) (row acc m q) steps L s ins ins.length i ins acc.length = plan_Depth.l1 k (row acc m' q) steps L s ins ins.length ((i + 1 : Nat) : Int) ins acc.length := by
  have e1 : (i : Int) < ins.length := by clear hm h2 h3; omega
  have e2 : (0 : Int) ≤ (i : Int) := by clear hm h2 h3; omega
  have e3 : (0 : Int) ≤ (acc.length : Int) := by clear hm h2 h3; omega
  have e4 : (acc.length : Int) < (row acc m q).length := by clear hm h2 h3; rw [row_length]; omega
  have e5 : ins[i] < ((row acc m q).length : Int) := by clear hm h2 h3; rw [row_length]; omega
  have e6 : rd (row acc m q) ins[i] = acc.getD (ins[i]).toNat 0 := by unfold rd; exact row_lt (by clear hm h2 h3; omega)
  have e7 : rd (row acc m q) (acc.length : Int) = m := row_at acc m q
  have e8 : wrap64 (acc.getD (ins[i]).toNat 0 + 1) = acc.getD (ins[i]).toNat 0 + 1 := by
    generalize acc.getD (ins[i]).toNat 0 = v at h2 h3
    exact w64 _ (by omega) (by omega)
  have e9 : mx m (acc.getD (ins[i]).toNat 0 + 1) = m' := by
    rw [← hm]
    generalize acc.getD (ins[i]).toNat 0 = v
    unfold mx; split <;> omega
  rw [plan_Depth.l1, if_pos e1, if_pos e2, if_pos e1, if_pos e3, if_pos e4, rd_getElem hi, if_pos h0, if_pos e5, e6, e7, e8, e9, Int.toNat_natCast, row_set, wS (by clear hm h2 h3; omega)]
theorem depth_l1 (acc : List Int) (q : Nat) (steps : List S51) (L s : Nat) (ins : List Int) (hl : ins.length ≤ 64) (hr : ∀ x ∈ ins, 0 ≤ x ∧ x < (acc.length : Int)) (h0 : ∀ j, 0 ≤ acc.getD j 0) (hb : ∀ j, acc.getD j 0 ≤ 1000000) (hs : s < 1000000) (r : Int × Int)
    (cont : Ev (fun k => plan_Depth.l0 k (row acc (deepAt acc ins) q) steps L ((s + 1 : Nat) : Int)) r) :
    ∀ (d i : Nat), ins.length - i = d → i ≤ ins.length → Ev (fun k => plan_Depth.l1 k (row acc (deepAt acc (ins.take i)) q) steps L s ins ins.length i ins acc.length) r
  | 0, i, hd, hi => by
    have e : i = ins.length := by omega
    subst e
    rw [List.take_length]
    refine Ev.step (fun k => ?_) cont
    have e1 : ¬ (ins.length : Int) < ins.length := by omega
    rw [plan_Depth.l1, if_neg e1, wS (by omega)]
  | d + 1, i, hd, hi => by
    have hlt : i < ins.length := by omega
    have hm := hr _ (List.getElem_mem hlt)
    exact Ev.step (fun k => depth_step k acc (deepAt acc (ins.take i)) (deepAt acc (ins.take (i + 1))) q steps L s i ins hlt (by omega) hm.1 hm.2 (h0 _) (hb _) (deepAt_take_succ acc h0 hlt).symm) (depth_l1 acc q steps L s ins hl hr h0 hb hs r cont d (i + 1) (by omega) (by omega))
theorem deepAt_le {acc : List Int} {b : Int} (h0 : 0 ≤ b) (h : ∀ j, acc.getD j 0 ≤ b) : ∀ (ins : List Int), deepAt acc ins ≤ b + 1
  | [] => by unfold deepAt; rw [List.map_nil, show maxL [] = 0 from rfl]; omega
  | x :: ins => by
    have ih := deepAt_le h0 h ins
    unfold deepAt at ih ⊢
    rw [List.map_cons, maxL_cons]
    have := h x.toNat
    omega
theorem getD_append_le {acc : List Int} {v b : Int} (h0 : 0 ≤ b) (h : ∀ j, acc.getD j 0 ≤ b) (hv : v ≤ b) (j : Nat) : (acc ++ [v]).getD j 0 ≤ b := by
  rcases Nat.lt_trichotomy j acc.length with hj | hj | hj
  · rw [getD_append_lt hj]; exact h j
  · subst hj; rw [getD_append_len]; exact hv
  · rw [List.getD_eq_getElem?_getD, List.getElem?_eq_none (by simp; omega)]; exact h0
theorem depth_l0 (steps : List S51) (n fan L : Nat) (hout : ∀ (s : Nat) (h : s < steps.length), (steps[s]).f1 = ((n + s : Nat) : Int)) (hL : L = steps.length) (hL2 : L ≤ 65536) (hn : n ≤ 65536) (hn1 : 1 ≤ n + L) (hf : fan ≤ 64) : ∀ (d s : Nat) (A acc : List Int), L - s = d → s ≤ L → Flow n fan s (steps.drop s) A → acc.length = n + s → (∀ j, 0 ≤ acc.getD j 0) → (∀ j, acc.getD j 0 ≤ s) →
    Ev (fun k => plan_Depth.l0 k (acc ++ List.replicate (L - s) 0) steps L s) ((deepOf acc (steps.drop s)).getD (n + L - 1) 0, 0) := by
  intro d
  induction d with
  | zero =>
    intro s A acc hd hi hfl hl h0 hb
    have e : s = steps.length := by omega
    have e0 : ¬ (s : Int) < (L : Int) := by omega
    have e1 : wrap64 ((acc.length : Int) - 1) = ((n + L - 1 : Nat) : Int) := by rw [w64 _ (by omega) (by omega)]; omega
    have e2 : (0 : Int) ≤ ((n + L - 1 : Nat) : Int) := by omega
    have e3 : ((n + L - 1 : Nat) : Int) < acc.length := by omega
    refine Ev.step (f := fun _ => some (acc.getD (n + L - 1) 0, 0)) (fun k => ?_) ?_
    · rw [hd, List.replicate_zero, List.append_nil, plan_Depth.l0, if_neg e0, e1, if_pos e2, if_pos e3]; rfl
    · rw [e, List.drop_length, deepOf]; exact Ev.now _
  | succ d ihd =>
    intro s A acc hd hi hfl hl h0 hb
    have hlt : s < steps.length := by omega
    rw [drop_cons hlt] at hfl ⊢
    obtain ⟨R, h1, h2, h3, h4, h5, h5b, h6⟩ := hfl
    have hd0 : 0 ≤ deepAt acc (steps[s]).f0 := maxL_nonneg _
    have hd1 := deepAt_le (b := s) (by omega) hb (steps[s]).f0
    have ih := ihd (s + 1) _ (acc ++ [deepAt acc (steps[s]).f0]) (by omega) (by omega) h6 (by rw [List.length_append, List.length_singleton, hl]; omega) (getD_append_nonneg h0 hd0) (getD_append_le (by omega) (fun j => by have := hb j; generalize acc.getD j 0 = v at this ⊢; omega) (by omega))
    have hin := depth_l1 acc (L - (s + 1)) steps L s (steps[s]).f0 (by omega) (fun x hx => by have := h3 x (h1.mem_iff.2 (List.mem_append_left _ hx)); omega) h0 (fun j => by have := hb j; generalize acc.getD j 0 = v at this ⊢; omega) (by omega) ((deepOf (acc ++ [deepAt acc (steps[s]).f0]) (steps.drop (s + 1))).getD (n + L - 1) 0, 0) (by
      have e : row acc (deepAt acc (steps[s]).f0) (L - (s + 1)) = acc ++ [deepAt acc (steps[s]).f0] ++ List.replicate (L - (s + 1)) 0 := by unfold row; rw [List.append_assoc]; rfl
      rw [e]; exact ih) (steps[s]).f0.length 0 rfl (Nat.zero_le _)
    rw [deepOf]
    refine Ev.step (fun k => ?_) hin
    have e1 : (s : Int) < (L : Int) := by omega
    have e2 : (0 : Int) ≤ (s : Int) := by omega
    have e3 : (s : Int) < steps.length := by omega
    have e4 : acc ++ List.replicate (L - s) 0 = row acc 0 (L - (s + 1)) := by
      unfold row; rw [show L - s = L - (s + 1) + 1 from by omega, List.replicate_succ]
    have hpl : (steps[s]).f1 = (acc.length : Int) := by rw [hout s hlt, hl]
    rw [plan_Depth.l0, if_pos e1, if_pos e2, if_pos e3, rdT_getElem hlt, hpl, e4]
    rfl
def deepV (n : Nat) (steps : List S51) : Int := (deepOf (List.replicate n 0) steps).getD (n + steps.length - 1) 0
theorem getD_zeros (n j : Nat) : (List.replicate n (0 : Int)).getD j 0 = 0 := by
  rw [List.getD_eq_getElem?_getD, List.getElem?_replicate]; split <;> rfl
theorem depth_ev (l : List Int) (fan : Int) (steps : List S51) : Ev (fun k => plan_Depth.f k l fan steps) (if checkV l fan steps = 0 then (deepV l.length steps, 0) else (0, checkV l fan steps)) := by
  unfold plan_Depth.f
  refine Ev.bind (check_ev l fan steps) ?_
  by_cases h : checkV l fan steps = 0
  · simp only [if_pos h]
    obtain ⟨hg, hp⟩ := checkV_zero h
    obtain ⟨h1, h2, h3, h4, h5⟩ := givenV_zero hg
    have hfew := hp.few
    have := depth_l0 steps l.length fan.toNat steps.length (fun s hs => by have := (plan_at hp hs).1.1; omega) rfl (by omega) h4 (by omega) (by omega) steps.length 0 (nums l.length) (List.replicate l.length 0) rfl (Nat.zero_le _) (by simpa using flow_of_plan hp) (by simp) (fun j => by rw [getD_zeros]; exact Int.le_refl _) (fun j => by rw [getD_zeros]; exact Int.le_refl _)
    rw [List.drop_zero, Nat.sub_zero, List.replicate_append_replicate] at this
    refine Ev.congr (fun k => ?_) this
    have e1 : wrap64 ((l.length : Int) + (steps.length : Int)) = ((l.length + steps.length : Nat) : Int) := wA (by omega) (by omega)
    have e2 : (0 : Int) ≤ ((l.length + steps.length : Nat) : Int) := by omega
    have e3 : l.length + steps.length ≤ 35184372088832 := by omega
    rw [e1, if_pos e2, Int.toNat_natCast, if_pos e3]; rfl
  · simp only [if_neg h]; exact Ev.now _
end Go.Proofs.Ytbgabijjnbmghaa.P
/- Plain law: no plan costs less than the greedy one, or has fewer steps. -/
namespace Go.Proofs.Ytbgabijjnbmghaa.P
open Go.RowKit Go.Proofs.Ytbgabijjnbmghaa Go.Proofs.YtbgabijjnbmghaaW.PrintWords Go.Proofs.YtbgabijjnbmghaaW.PrintLast Go.Proofs.YtbgabijjnbmghaaW.PrintMore
set_option linter.unusedVariables false
set_option linter.unusedSimpArgs false

def gCost (fan : Nat) : Nat → Nat → List Rung → Nat → Int
  | 0, _, _, _ => 0
  | f + 1, t, s, m => if 1 < s.length then sumW (s.take t) + gCost fan f fan (insR ((m : Int), sumW (s.take t)) (s.drop t)) (m + 1) else 0
/-! ### the dearest runs last: rearranging -/
def cst : List Rung → List Nat → Int
  | x :: s, d :: ds => x.2 * d + cst s ds
  | _, _ => 0
def insD (d : Nat) : List Nat → List Nat
  | [] => [d]
  | e :: l => if e ≤ d then d :: e :: l else e :: insD d l
def sortD : List Nat → List Nat
  | [] => []
  | d :: l => insD d (sortD l)
theorem insD_perm (d : Nat) : ∀ (l : List Nat), (insD d l).Perm (d :: l)
  | [] => List.Perm.refl _
  | e :: l => by
    unfold insD
    split
    · exact List.Perm.refl _
    · exact ((insD_perm d l).cons e).trans (List.Perm.swap d e l)
theorem sortD_perm : ∀ (l : List Nat), (sortD l).Perm l
  | [] => List.Perm.refl _
  | d :: l => (insD_perm d _).trans ((sortD_perm l).cons d)
abbrev Desc (l : List Nat) : Prop := l.Pairwise (· ≥ ·)
theorem insD_desc (d : Nat) : ∀ (l : List Nat), Desc l → Desc (insD d l)
  | [], h => List.pairwise_singleton _ _
  | e :: l, h => by
    unfold insD
    rw [Desc, List.pairwise_cons] at h
    split
    · rename_i hed
      refine List.Pairwise.cons ?_ (List.Pairwise.cons h.1 h.2)
      intro z hz
      rcases List.mem_cons.1 hz with rfl | hz
      · exact hed
      · have := h.1 z hz; omega
    · rename_i hed
      refine List.Pairwise.cons ?_ (insD_desc d l h.2)
      intro z hz
      rcases List.mem_cons.1 ((insD_perm d l).mem_iff.1 hz) with rfl | hz
      · omega
      · exact h.1 z hz
theorem sortD_desc : ∀ (l : List Nat), Desc (sortD l)
  | [] => List.Pairwise.nil
  | d :: l => insD_desc d _ (sortD_desc l)
theorem cst_insD (d : Nat) : ∀ (ds : List Nat) (x : Rung) (s : List Rung), Sorted (x :: s) → ds.length = s.length → cst (x :: s) (insD d ds) ≤ x.2 * d + cst s ds
  | [], x, s, hs, hl => by
    have : s = [] := List.length_eq_zero_iff.1 hl.symm
    subst this
    exact Int.le_refl _
  | e :: es, x, [], hs, hl => by simp at hl
  | e :: es, x, y :: s, hs, hl => by
    unfold insD
    split
    · exact Int.le_refl _
    · rename_i hed
      have hs' := List.pairwise_cons.1 hs
      have ih := cst_insD d es y s hs'.2 (by simpa using hl)
      have hxy : x.2 ≤ y.2 := by have := hs'.1 y (List.mem_cons_self ..); unfold le at this; omega
      show x.2 * e + cst (y :: s) (insD d es) ≤ x.2 * d + (y.2 * e + cst s es)
      have hp : 0 ≤ (y.2 - x.2) * ((e : Int) - d) := Int.mul_nonneg (by omega) (by omega)
      rw [Int.sub_mul, Int.mul_sub, Int.mul_sub] at hp
      omega
theorem cst_sortD : ∀ (ds : List Nat) (s : List Rung), Sorted s → ds.length = s.length → cst s (sortD ds) ≤ cst s ds
  | [], s, hs, hl => Int.le_refl _
  | d :: ds, [], hs, hl => by simp at hl
  | d :: ds, x :: s, hs, hl => by
    have ih := cst_sortD ds s (List.pairwise_cons.1 hs).2 (by simpa using hl)
    have h := cst_insD d (sortD ds) x s hs (by rw [(sortD_perm ds).length_eq]; simpa using hl)
    show cst (x :: s) (insD d (sortD ds)) ≤ x.2 * d + cst s ds
    omega
theorem lift_perm {α β : Type} (f : α → β) {a s : List β} (h : a.Perm s) : ∀ (l : List α), l.map f = a → ∃ l', l.Perm l' ∧ l'.map f = s := by
  induction h with
  | nil => exact fun l e => ⟨l, List.Perm.refl _, e⟩
  | cons x _ ih =>
    intro l e
    match l, e with
    | y :: l, e =>
      rw [List.map_cons] at e
      injection e with e1 e2
      obtain ⟨l', h1, h2⟩ := ih l e2
      exact ⟨y :: l', h1.cons y, by rw [List.map_cons, e1, h2]⟩
  | swap x y l0 =>
    intro l e
    match l, e with
    | a :: b :: l, e =>
      rw [List.map_cons, List.map_cons] at e
      injection e with e1 e2
      injection e2 with e2 e3
      exact ⟨b :: a :: l, List.Perm.swap b a l, by rw [List.map_cons, List.map_cons, e1, e2, e3]⟩
  | trans _ _ ih1 ih2 =>
    intro l e
    obtain ⟨l1, h1, h2⟩ := ih1 l e
    obtain ⟨l2, h3, h4⟩ := ih2 l1 h2
    exact ⟨l2, h1.trans h3, h4⟩
def costP (P : List (Rung × Nat)) : Int := (P.map fun p => p.1.2 * (p.2 : Int)).sum
theorem costP_perm {P Q : List (Rung × Nat)} (h : P.Perm Q) : costP P = costP Q := sum_perm (h.map _)
theorem costP_cst : ∀ (P : List (Rung × Nat)), costP P = cst (P.map (·.1)) (P.map (·.2))
  | [] => rfl
  | p :: P => by
    have := costP_cst P
    unfold costP at this ⊢
    rw [List.map_cons, List.sum_cons, this]; rfl
theorem rearrange {P : List (Rung × Nat)} {s : List Rung} (h : (P.map (·.1)).Perm s) (hs : Sorted s) : ∃ ds : List Nat, ds.Perm (P.map (·.2)) ∧ Desc ds ∧ ds.length = s.length ∧ cst s ds ≤ costP P := by
  obtain ⟨P', h1, h2⟩ := lift_perm (·.1) h P rfl
  have hl : (P'.map (·.2)).length = s.length := by rw [← h2, List.length_map, List.length_map]
  refine ⟨sortD (P'.map (·.2)), (sortD_perm _).trans (h1.symm.map _), sortD_desc _, by rw [(sortD_perm _).length_eq]; exact hl, ?_⟩
  have := cst_sortD (P'.map (·.2)) s hs hl
  rw [costP_perm h1, costP_cst, h2]
  exact this
/-! ### Kraft's sum -/
def kr (fan D : Nat) (ds : List Nat) : Nat := (ds.map fun d => fan ^ (D - d)).sum
theorem kr_cons (fan D d : Nat) (ds : List Nat) : kr fan D (d :: ds) = fan ^ (D - d) + kr fan D ds := by simp [kr]
theorem kr_append (fan D : Nat) (a b : List Nat) : kr fan D (a ++ b) = kr fan D a + kr fan D b := by simp [kr]
theorem natsum_perm {a b : List Nat} (h : a.Perm b) : a.sum = b.sum := by
  induction h with
  | nil => rfl
  | cons x _ ih => simp [ih]
  | swap x y l => simp; omega
  | trans _ _ ih1 ih2 => exact ih1.trans ih2
theorem kr_perm {fan D : Nat} {a b : List Nat} (h : a.Perm b) : kr fan D a = kr fan D b := natsum_perm (h.map _)
theorem kr_replicate (fan D t : Nat) : kr fan D (List.replicate t D) = t := by
  induction t with
  | zero => rfl
  | succ t ih => rw [List.replicate_succ, kr_cons, ih, Nat.sub_self, Nat.pow_zero]; omega
theorem pow_one_mod (g : Nat) : ∀ (x : Nat), ∃ c : Nat, (g + 1) ^ x = 1 + g * c
  | 0 => ⟨0, by simp⟩
  | x + 1 => by
    obtain ⟨c, h⟩ := pow_one_mod g x
    refine ⟨c + (1 + g * c), ?_⟩
    rw [Nat.pow_succ, h, Nat.mul_add, Nat.mul_one, Nat.mul_comm (1 + g * c) g, Nat.mul_add g c]
    omega
theorem kr_mod (g D : Nat) : ∀ (ds : List Nat), ∃ b : Nat, kr (g + 1) D ds = ds.length + g * b
  | [] => ⟨0, by simp [kr]⟩
  | d :: ds => by
    obtain ⟨b, h⟩ := kr_mod g D ds
    obtain ⟨c, h2⟩ := pow_one_mod g (D - d)
    exact ⟨c + b, by rw [kr_cons, h, h2, List.length_cons, Nat.mul_add]; omega⟩
/-- those at the depth D, and the others -/
theorem kr_count (fan D : Nat) : ∀ (ds : List Nat), (∀ d ∈ ds, d ≤ D) → 1 ≤ D → ∃ X : Nat, kr fan D ds = ds.count D + fan * X ∧ kr fan (D - 1) (ds.map fun d => min d (D - 1)) = ds.count D + X
  | [], _, _ => ⟨0, by simp [kr], by simp [kr]⟩
  | d :: ds, h, hD => by
    obtain ⟨X, h1, h2⟩ := kr_count fan D ds (fun e he => h e (List.mem_cons_of_mem _ he)) hD
    have hd := h d (List.mem_cons_self ..)
    rw [kr_cons, List.map_cons, kr_cons, h1, h2, List.count_cons]
    by_cases e : d = D
    · subst e
      refine ⟨X, ?_, ?_⟩
      · simp; omega
      · rw [show min d (d - 1) = d - 1 by omega]; simp; omega
    · refine ⟨fan ^ (D - 1 - d) + X, ?_, ?_⟩
      · rw [show D - d = (D - 1 - d) + 1 from by omega, Nat.pow_succ, Nat.mul_add, Nat.mul_comm fan (fan ^ (D - 1 - d))]
        simp [e]; omega
      · rw [show min d (D - 1) = d from by omega]
        simp [e]; omega
/-- the two facts about the room that is left -/
theorem slack {g t q n m K X a b Y : Nat} (hg : 1 ≤ g) (h2 : 2 ≤ t) (ht : t ≤ g + 1) (hn : n = t + q * g) (hK : K = n + g * b) (hp : (g + 1) * Y = 1 + g * a) (hKX : K = m + (g + 1) * X) (hle : K ≤ (g + 1) * Y) :
    K + (g + 1) ≤ (g + 1) * Y + t ∧ (m < t → m + X ≤ Y) := by
  have hS : ((g + 1) * Y : Nat) = 1 + g * a := hp
  have eS : (((g + 1) * Y : Nat) : Int) - K = 1 - t + g * ((a : Int) - b - q) := by
    rw [hS, hK, hn, Int.mul_sub, Int.mul_sub, Int.mul_comm (g : Int) (q : Int)]
    simp only [Int.natCast_add, Int.natCast_mul]
    omega
  generalize hz : (a : Int) - b - q = z at eS
  have hz1 : 1 ≤ z := by
    refine Classical.byContradiction fun hc => ?_
    have : (g : Int) * z ≤ 0 := Int.mul_nonpos_of_nonneg_of_nonpos (by omega) (by omega)
    omega
  have hgz : (g : Int) ≤ g * z := by
    calc (g : Int) = g * 1 := (Int.mul_one _).symm
      _ ≤ g * z := Int.mul_le_mul_of_nonneg_left hz1 (by omega)
  refine ⟨by omega, fun hm => ?_⟩
  have eU : (((g + 1) * Y : Nat) : Int) - K = g * ((Y : Int) - X) + ((Y : Int) - X) - m := by
    rw [hKX, Int.mul_sub]
    simp only [Int.natCast_add, Int.natCast_mul, Int.add_mul, Int.one_mul]
    omega
  generalize hu : (Y : Int) - X = u at eU
  have e3 : u - m = 1 - t + g * (z - u) := by rw [Int.mul_sub]; omega
  refine Classical.byContradiction fun hc => ?_
  have hum : u < m := by omega
  by_cases hzu : z - u ≤ 0
  · have : (g : Int) * (z - u) ≤ 0 := Int.mul_nonpos_of_nonneg_of_nonpos (by omega) hzu
    have hu0 : u ≤ 0 := by omega
    have : (g : Int) * u ≤ 0 := Int.mul_nonpos_of_nonneg_of_nonpos (by omega) hu0
    omega
  · have : (g : Int) ≤ g * (z - u) := by
      calc (g : Int) = g * 1 := (Int.mul_one _).symm
        _ ≤ g * (z - u) := Int.mul_le_mul_of_nonneg_left (by omega) (by omega)
    omega
theorem desc_take {D : Nat} : ∀ (t : Nat) (ds : List Nat), Desc ds → (∀ d ∈ ds, d ≤ D) → t ≤ ds.count D → ds.take t = List.replicate t D
  | 0, ds, _, _, _ => by simp
  | t + 1, [], _, _, h => by simp at h
  | t + 1, d :: ds, hd, hb, h => by
    have hd' := List.pairwise_cons.1 hd
    have e : d = D := by
      refine Classical.byContradiction fun hne => ?_
      rw [List.count_cons_of_ne hne] at h
      have : D ∈ ds := List.count_pos_iff.1 (by omega)
      have := hd'.1 D this
      have := hb d (List.mem_cons_self ..)
      omega
    subst e
    rw [List.take_succ_cons, List.replicate_succ, desc_take t ds hd'.2 (fun e he => hb e (List.mem_cons_of_mem _ he)) (by simpa using h)]
theorem cst_append : ∀ (a b : List Rung) (x y : List Nat), a.length = x.length → cst (a ++ b) (x ++ y) = cst a x + cst b y
  | [], b, [], y, _ => by simp [cst]
  | [], b, x :: xs, y, h => by simp at h
  | a :: az, b, [], y, h => by simp at h
  | a :: az, b, x :: xs, y, h => by
    rw [List.cons_append, List.cons_append, cst, cst, cst_append az b xs y (by simpa using h)]
    omega
theorem cst_replicate (D : Nat) : ∀ (a : List Rung), cst a (List.replicate a.length D) = sumW a * D
  | [] => by simp [cst, sumW]
  | x :: a => by rw [List.length_cons, List.replicate_succ, cst, cst_replicate D a, sumW_cons, Int.add_mul]
theorem cst_nonneg : ∀ (s : List Rung) (ds : List Nat), (∀ x ∈ s, 0 ≤ x.2) → 0 ≤ cst s ds
  | [], _, _ => by simp [cst]
  | x :: s, [], _ => by simp [cst]
  | x :: s, d :: ds, h => by
    have h1 := h x (List.mem_cons_self ..)
    have h2 := cst_nonneg s ds (fun y hy => h y (List.mem_cons_of_mem _ hy))
    have h3 : 0 ≤ x.2 * (d : Int) := Int.mul_nonneg h1 (by omega)
    rw [cst]; omega
theorem cst_min (D : Nat) : ∀ (s : List Rung) (ds : List Nat), (∀ x ∈ s, 0 ≤ x.2) → cst s (ds.map fun d => min d D) ≤ cst s ds
  | [], _, _ => by simp [cst]
  | x :: s, [], _ => by simp [cst]
  | x :: s, d :: ds, h => by
    have h1 := h x (List.mem_cons_self ..)
    have h2 := cst_min D s ds (fun y hy => h y (List.mem_cons_of_mem _ hy))
    rw [List.map_cons, cst, cst]
    have h3 : x.2 * ((min d D : Nat) : Int) ≤ x.2 * (d : Int) := Int.mul_le_mul_of_nonneg_left (by omega) h1
    omega
theorem zip_maps : ∀ (s : List Rung) (ds : List Nat), s.length = ds.length → (s.zip ds).map (·.1) = s ∧ (s.zip ds).map (·.2) = ds
  | [], [], _ => ⟨rfl, rfl⟩
  | [], d :: ds, h => by simp at h
  | x :: s, [], h => by simp at h
  | x :: s, d :: ds, h => by
    obtain ⟨h1, h2⟩ := zip_maps s ds (by simpa using h)
    rw [List.zip_cons_cons, List.map_cons, List.map_cons, h1, h2]
    exact ⟨rfl, rfl⟩
theorem gCost_one (fan f t m : Nat) (s : List Rung) (h : s.length ≤ 1) : gCost fan f t s m = 0 := by
  cases f with
  | zero => rfl
  | succ f => rw [gCost, if_neg (by omega)]
/-- no depths that can be cost less than the greedy steps -/
theorem opt {fan : Nat} (hf : 2 ≤ fan) : ∀ (q D f t m : Nat) (s : List Rung) (P : List (Rung × Nat)), q < f → s.length = t + q * (fan - 1) → 2 ≤ t → t ≤ fan → Sorted s → (∀ x ∈ s, 0 ≤ x.2) → (P.map (·.1)).Perm s → (∀ d ∈ P.map (·.2), d ≤ D) → kr fan D (P.map (·.2)) ≤ fan ^ D → gCost fan f t s m ≤ costP P := by
  intro q
  induction q with
  | zero =>
    intro D
    induction D with
    | zero =>
      intro f t m s P hq hl h2 ht hs hw hp hb hk
      have hlen := hp.length_eq
      have e : P.map (·.2) = List.replicate P.length 0 := by
        rw [List.eq_replicate_iff]
        exact ⟨by simp, fun d hd => by have := hb d hd; omega⟩
      rw [e, kr_replicate, Nat.pow_zero] at hk
      rw [List.length_map] at hlen
      omega
    | succ D ihD =>
      intro f t m s P hq hl h2 ht hs hw hp hb hk
      obtain ⟨ds, d1, d2, d3, d4⟩ := rearrange hp hs
      have hb' : ∀ d ∈ ds, d ≤ D + 1 := fun d hd => hb d (d1.mem_iff.1 hd)
      rw [← kr_perm d1] at hk
      obtain ⟨f, rfl⟩ : ∃ f', f = f' + 1 := ⟨f - 1, by omega⟩
      rcases Nat.lt_or_ge (ds.count (D + 1)) t with hc | hc
      · obtain ⟨X, k1, k2⟩ := kr_count fan (D + 1) ds hb' (by omega)
        rw [Nat.add_sub_cancel] at k2
        obtain ⟨b, k3⟩ := kr_mod (fan - 1) (D + 1) ds
        obtain ⟨a, k4⟩ := pow_one_mod (fan - 1) (D + 1)
        rw [show fan - 1 + 1 = fan by omega] at k3 k4
        have := (slack (g := fan - 1) (t := t) (q := 0) (n := ds.length) (m := ds.count (D + 1)) (K := kr fan (D + 1) ds) (X := X) (a := a) (b := b) (Y := fan ^ D) (by omega) h2 (by omega) (by omega) k3 (by rw [show fan - 1 + 1 = fan by omega, ← k4, Nat.pow_succ, Nat.mul_comm]) (by rw [show fan - 1 + 1 = fan by omega]; exact k1) (by rw [show fan - 1 + 1 = fan by omega, Nat.mul_comm, ← Nat.pow_succ]; exact hk)).2 hc
        obtain ⟨z1, z2⟩ := zip_maps s (ds.map fun d => min d D) (by rw [List.length_map]; omega)
        have ih := ihD (f + 1) t m s (s.zip (ds.map fun d => min d D)) (by omega) hl h2 ht hs hw (by rw [z1]) (fun d hd => by
          rw [z2] at hd
          obtain ⟨e, _, rfl⟩ := List.mem_map.1 hd
          omega) (by rw [z2, k2]; exact this)
        rw [costP_cst, z1, z2] at ih
        have := cst_min D s ds hw
        omega
      · have htk := desc_take t ds d2 hb' hc
        have hsplit : s.take t = s := List.take_of_length_le (by omega)
        have hds : ds = List.replicate t (D + 1) := by rw [← htk, List.take_of_length_le (by omega)]
        have hone : (insR ((m : Int), sumW (s.take t)) (s.drop t)).length ≤ 1 := by rw [insR_length, List.length_drop]; omega
        rw [gCost, if_pos (by omega), gCost_one _ _ _ _ _ hone, hsplit]
        have hst : s.length = t := by omega
        rw [hds, ← hst, cst_replicate] at d4
        have h0 := sumW_nonneg s hw
        have : sumW s * 1 ≤ sumW s * ((D + 1 : Nat) : Int) := Int.mul_le_mul_of_nonneg_left (by omega) h0
        omega
  | succ q ihq =>
    intro D
    induction D with
    | zero =>
      intro f t m s P hq hl h2 ht hs hw hp hb hk
      have hlen := hp.length_eq
      have e : P.map (·.2) = List.replicate P.length 0 := by
        rw [List.eq_replicate_iff]
        exact ⟨by simp, fun d hd => by have := hb d hd; omega⟩
      rw [e, kr_replicate, Nat.pow_zero] at hk
      rw [List.length_map] at hlen
      omega
    | succ D ihD =>
      intro f t m s P hq hl h2 ht hs hw hp hb hk
      obtain ⟨ds, d1, d2, d3, d4⟩ := rearrange hp hs
      have hb' : ∀ d ∈ ds, d ≤ D + 1 := fun d hd => hb d (d1.mem_iff.1 hd)
      rw [← kr_perm d1] at hk
      obtain ⟨f, rfl⟩ : ∃ f', f = f' + 1 := ⟨f - 1, by omega⟩
      obtain ⟨X, k1, k2⟩ := kr_count fan (D + 1) ds hb' (by omega)
      rw [Nat.add_sub_cancel] at k2
      obtain ⟨b, k3⟩ := kr_mod (fan - 1) (D + 1) ds
      obtain ⟨a, k4⟩ := pow_one_mod (fan - 1) (D + 1)
      rw [show fan - 1 + 1 = fan by omega] at k3 k4
      have hsl := slack (g := fan - 1) (t := t) (q := q + 1) (n := ds.length) (m := ds.count (D + 1)) (K := kr fan (D + 1) ds) (X := X) (a := a) (b := b) (Y := fan ^ D) (by omega) h2 (by omega) (by omega) k3 (by rw [show fan - 1 + 1 = fan by omega, ← k4, Nat.pow_succ, Nat.mul_comm]) (by rw [show fan - 1 + 1 = fan by omega]; exact k1) (by rw [show fan - 1 + 1 = fan by omega, Nat.mul_comm, ← Nat.pow_succ]; exact hk)
      rcases Nat.lt_or_ge (ds.count (D + 1)) t with hc | hc
      · have := hsl.2 hc
        obtain ⟨z1, z2⟩ := zip_maps s (ds.map fun d => min d D) (by rw [List.length_map]; omega)
        have ih := ihD (f + 1) t m s (s.zip (ds.map fun d => min d D)) (by omega) hl h2 ht hs hw (by rw [z1]) (fun d hd => by
          rw [z2] at hd
          obtain ⟨e, _, rfl⟩ := List.mem_map.1 hd
          omega) (by rw [z2, k2]; exact this)
        rw [costP_cst, z1, z2] at ih
        have := cst_min D s ds hw
        omega
      · have htk := desc_take t ds d2 hb' hc
        have hds : ds = List.replicate t (D + 1) ++ ds.drop t := by rw [← htk, List.take_append_drop]
        have hsl1 : kr fan (D + 1) ds + fan ≤ fan ^ (D + 1) + t := by
          have := hsl.1
          rw [show fan - 1 + 1 = fan by omega, Nat.mul_comm, ← Nat.pow_succ] at this
          exact this
        have hkd : kr fan (D + 1) ds = t + kr fan (D + 1) (ds.drop t) := by
          rw [hds, kr_append, kr_replicate, List.drop_left' (by simp)]
        have hlt : (s.take t).length = t := by rw [List.length_take]; omega
        have hcs : cst s ds = sumW (s.take t) * ((D + 1 : Nat) : Int) + cst (s.drop t) (ds.drop t) := by
          have e1 : cst s ds = cst (s.take t ++ s.drop t) (List.replicate t (D + 1) ++ ds.drop t) := by rw [List.take_append_drop, ← hds]
          rw [e1, cst_append _ _ _ _ (by rw [hlt]; simp)]
          have := cst_replicate (D + 1) (s.take t)
          rw [hlt] at this
          rw [this]
        obtain ⟨z1, z2⟩ := zip_maps (s.drop t) (ds.drop t) (by rw [List.length_drop, List.length_drop]; omega)
        rw [gCost, if_pos (by omega)]
        have hs' := hs.sublist (List.drop_sublist t s)
        have ih := ihq (D + 1) f fan (m + 1) (insR ((m : Int), sumW (s.take t)) (s.drop t)) ((((m : Int), sumW (s.take t)), D) :: (s.drop t).zip (ds.drop t)) (by omega) (by
            rw [insR_length, List.length_drop, hl, Nat.succ_mul]; omega) hf (Nat.le_refl _) (insR_sorted _ _ hs') (fun x hx => by
            rcases List.mem_cons.1 ((insR_perm _ _).mem_iff.1 hx) with rfl | hx
            · exact sumW_nonneg _ (fun y hy => hw y (List.mem_of_mem_take hy))
            · exact hw x (List.mem_of_mem_drop hx)) (by rw [List.map_cons, z1]; exact (insR_perm _ _).symm) (fun d hd => by
            rw [List.map_cons, z2] at hd
            rcases List.mem_cons.1 hd with rfl | hd
            · omega
            · exact hb' d (List.mem_of_mem_drop hd)) (by
            rw [List.map_cons, z2, kr_cons]
            simp only
            rw [show D + 1 - D = 1 by omega, Nat.pow_one]
            omega)
        rw [costP_cst, List.map_cons, List.map_cons, z1, z2, cst] at ih
        simp only at ih
        rw [hcs, show ((D + 1 : Nat) : Int) = (D : Int) + 1 from by omega, Int.mul_add, Int.mul_one] at d4
        omega
end Go.Proofs.Ytbgabijjnbmghaa.P
/- Plain law: what the reference's Check, up, Cost, Depth answer. -/
namespace Go.Proofs.Ytbgabijjnbmghaa.P
open Go.RowKit Go.Proofs.Ytbgabijjnbmghaa Go.Proofs.YtbgabijjnbmghaaW.PrintWords Go.Proofs.YtbgabijjnbmghaaW.PrintLast Go.Proofs.YtbgabijjnbmghaaW.PrintMore
set_option linter.unusedVariables false
set_option linter.unusedSimpArgs false

/-! ### the form alone -/
def ShapeFrom (n fan : Nat) : Nat → List S51 → Prop
  | _, [] => True
  | s, st :: r => formOk n fan s st ∧ (∀ x ∈ st.f0, 0 ≤ x ∧ x < st.f1) ∧ st.f0.Pairwise (· < ·) ∧ ShapeFrom n fan (s + 1) r
theorem planFrom_iff (n fan : Nat) : ∀ (l : List S51) (s : Nat) (xs : List Int), PlanFrom n fan s l xs ↔ ShapeFrom n fan s l ∧ (flat l).Nodup ∧ ∀ x ∈ flat l, x ∉ xs
  | [], s, xs => by simp [PlanFrom, ShapeFrom, flat]
  | st :: r, s, xs => by
    rw [PlanFrom, ShapeFrom, planFrom_iff n fan r (s + 1) (xs ++ st.f0), flat_cons, List.nodup_append]
    constructor
    · rintro ⟨h1, h2, h3, h4, h5, h6, h7⟩
      refine ⟨⟨h1, h2, h3, h5⟩, ⟨h3.imp (fun {a b} h => by omega), h6, fun a ha b hb e => ?_⟩, fun x hx => ?_⟩
      · subst e; exact h7 a hb (List.mem_append_right _ ha)
      · rcases List.mem_append.1 hx with hx | hx
        · exact h4 x hx
        · exact fun h => h7 x hx (List.mem_append_left _ h)
    · rintro ⟨⟨h1, h2, h3, h5⟩, ⟨h6, h7, h8⟩, h9⟩
      refine ⟨h1, h2, h3, fun x hx => h9 x (List.mem_append_left _ hx), h5, h7, fun x hx hc => ?_⟩
      rcases List.mem_append.1 hc with hc | hc
      · exact h9 x (List.mem_append_right _ hx) hc
      · exact h8 x hc x hx rfl
theorem shape_low (n fan : Nat) : ∀ (l : List S51) (s : Nat), ShapeFrom n fan s l → ∀ x ∈ flat l, 0 ≤ x ∧ x + 1 < (n : Int) + s + l.length
  | [], s, h, x, hx => by simp [flat] at hx
  | st :: r, s, h, x, hx => by
    rw [flat_cons] at hx
    rw [List.length_cons]
    rcases List.mem_append.1 hx with hx | hx
    · have h1 := h.2.1 x hx
      have h2 := h.1.1
      omega
    · have := shape_low n fan r (s + 1) h.2.2.2 x hx
      omega
theorem plan_iff_counts {n fan : Nat} {l : List S51} : Plan n fan l ↔ (1 ≤ l.length ∧ l.length ≤ n) ∧ ShapeFrom n fan 0 l ∧ ∀ j : Nat, j + 1 < n + l.length → (flat l).count (j : Int) = 1 := by
  constructor
  · intro h
    have h1 := (planFrom_iff n fan l 0 []).1 h.steps
    refine ⟨⟨h.some, h.few⟩, h1.1, fun j hj => ?_⟩
    rw [h1.2.1.count, if_pos (h.all j hj)]
  · rintro ⟨⟨h1, h2⟩, h3, h4⟩
    refine ⟨h1, h2, (planFrom_iff n fan l 0 []).2 ⟨h3, List.nodup_iff_count.2 (fun a => ?_), fun x _ => by simp⟩, fun j hj => ?_⟩
    · by_cases ha : a ∈ flat l
      · have h5 := shape_low n fan l 0 h3 a ha
        have h6 := h4 a.toNat (by omega)
        rw [show ((a.toNat : Nat) : Int) = a by omega] at h6
        omega
      · rw [List.count_eq_zero.2 ha]; omega
    · have := h4 j hj
      exact List.count_pos_iff.1 (by omega)
/-! ### the counts -/
def refRun (out : Int) : Option Int → List Int → List Int → Option (List Int)
  | _, [], t => Option.some t
  | p, x :: r, t => if 0 ≤ x ∧ x < out ∧ nextOk p x then refRun out (some x) r (t.set x.toNat (t.getD x.toNat 0 + 1)) else none
def refSteps (n fan : Nat) : Nat → List S51 → List Int → Option (List Int)
  | _, [], t => Option.some t
  | s, st :: r, t => if formOk n fan s st then (refRun st.f1 none st.f0 t).bind fun t' => refSteps n fan (s + 1) r t' else none
def Counts (t : List Int) (xs : List Int) : Prop := ∀ j : Nat, j < t.length → t.getD j 0 = (xs.count (j : Int) : Nat)
theorem counts_set {t xs : List Int} (h : Counts t xs) {x : Int} (h0 : 0 ≤ x) (hl : x < t.length) : Counts (t.set x.toNat (t.getD x.toNat 0 + 1)) (xs ++ [x]) := by
  intro j hj
  rw [List.length_set] at hj
  rw [getD_set (by omega), List.count_append, h x.toNat (by omega)]
  by_cases e : j = x.toNat
  · rw [if_pos e, e, show ((x.toNat : Nat) : Int) = x by omega]; simp
  · rw [if_neg e, h j hj, List.count_singleton, if_neg (by simp; omega)]; simp
theorem refRun_iff (out : Int) : ∀ (l : List Int) (p : Option Int) (t : List Int) (xs : List Int), Counts t xs → out ≤ t.length →
    (((∀ x ∈ l, 0 ≤ x ∧ x < out) ∧ l.Pairwise (· < ·) ∧ (∀ y, p = some y → ∀ x ∈ l, y < x)) → ∃ t', refRun out p l t = Option.some t' ∧ t'.length = t.length ∧ Counts t' (xs ++ l)) ∧ (¬ ((∀ x ∈ l, 0 ≤ x ∧ x < out) ∧ l.Pairwise (· < ·) ∧ (∀ y, p = some y → ∀ x ∈ l, y < x)) → refRun out p l t = none)
  | [], p, t, xs, ht, ho => ⟨fun _ => ⟨t, rfl, rfl, by simpa using ht⟩, fun h => absurd ⟨by simp, by simp, by simp⟩ h⟩
  | x :: r, p, t, xs, ht, ho => by
    rw [refRun]
    by_cases c : 0 ≤ x ∧ x < out ∧ nextOk p x
    · rw [if_pos c]
      obtain ⟨i1, i2⟩ := refRun_iff out r (some x) (t.set x.toNat (t.getD x.toNat 0 + 1)) (xs ++ [x]) (counts_set ht c.1 (by omega)) (by rw [List.length_set]; exact ho)
      constructor
      · rintro ⟨a1, a2, a3⟩
        have a2' := List.pairwise_cons.1 a2
        obtain ⟨t', g1, g2, g3⟩ := i1 ⟨fun y hy => a1 y (List.mem_cons_of_mem _ hy), a2'.2, fun z hz y hy => by cases hz; exact a2'.1 y hy⟩
        exact ⟨t', g1, by rw [g2, List.length_set], by rwa [List.append_assoc] at g3⟩
      · intro h
        refine i2 (fun h2 => h ⟨?_, ?_, ?_⟩)
        · intro y hy
          rcases List.mem_cons.1 hy with rfl | hy
          · exact ⟨c.1, c.2.1⟩
          · exact h2.1 y hy
        · exact List.Pairwise.cons (fun y hy => h2.2.2 x rfl y hy) h2.2.1
        · intro z hz y hy
          have hzx := c.2.2 z hz
          rcases List.mem_cons.1 hy with rfl | hy
          · exact hzx
          · have := h2.2.2 x rfl y hy; omega
    · rw [if_neg c]
      refine ⟨fun h => absurd ⟨(h.1 x (List.mem_cons_self ..)).1, (h.1 x (List.mem_cons_self ..)).2, fun y hy => h.2.2 y hy x (List.mem_cons_self ..)⟩ c, fun _ => rfl⟩
theorem refSteps_iff (n fan : Nat) : ∀ (l : List S51) (s : Nat) (t xs : List Int), Counts t xs → n + s + l.length ≤ t.length →
    (ShapeFrom n fan s l → ∃ t', refSteps n fan s l t = Option.some t' ∧ t'.length = t.length ∧ Counts t' (xs ++ flat l)) ∧ (¬ ShapeFrom n fan s l → refSteps n fan s l t = none)
  | [], s, t, xs, ht, hl => ⟨fun _ => ⟨t, rfl, rfl, by simpa [flat] using ht⟩, fun h => absurd trivial h⟩
  | st :: r, s, t, xs, ht, hl => by
    rw [List.length_cons] at hl
    rw [refSteps]
    by_cases hf : formOk n fan s st
    · rw [if_pos hf]
      have ho : st.f1 ≤ t.length := by have := hf.1; omega
      obtain ⟨r1, r2⟩ := refRun_iff st.f1 st.f0 none t xs ht ho
      by_cases hr : (∀ x ∈ st.f0, 0 ≤ x ∧ x < st.f1) ∧ st.f0.Pairwise (· < ·)
      · obtain ⟨t', g1, g2, g3⟩ := r1 ⟨hr.1, hr.2, fun y hy => by cases hy⟩
        rw [g1]
        obtain ⟨i1, i2⟩ := refSteps_iff n fan r (s + 1) t' (xs ++ st.f0) g3 (by rw [g2]; omega)
        constructor
        · intro h
          obtain ⟨t'', k1, k2, k3⟩ := i1 h.2.2.2
          exact ⟨t'', k1, by rw [k2, g2], by rw [flat_cons, ← List.append_assoc]; exact k3⟩
        · intro h; exact i2 (fun h2 => h ⟨hf, hr.1, hr.2, h2⟩)
      · rw [r2 (fun h => hr ⟨h.1, h.2.1⟩)]
        exact ⟨fun h => absurd ⟨h.2.1, h.2.2.1⟩ hr, fun _ => rfl⟩
    · rw [if_neg hf]
      exact ⟨fun h => absurd h.1 hf, fun _ => rfl⟩
/-! ### the walk's loops -/
theorem ref_l2 (steps : List S51) (n : Nat) (t : List Int) (hm : t.length = n + steps.length) (h1 : 1 ≤ t.length) (hb : t.length ≤ 1000000) : ∀ (d i : Nat), n + steps.length - 1 - i = d → i ≤ n + steps.length - 1 →
    ((∀ j : Nat, i ≤ j → j + 1 < n + steps.length → t.getD j 0 = 1) → Ev (fun k => millref10_Check.l2 k steps n t i) 0) ∧ (¬ (∀ j : Nat, i ≤ j → j + 1 < n + steps.length → t.getD j 0 = 1) → Ev (fun k => millref10_Check.l2 k steps n t i) 101)
  | 0, i, hd, hi => by
    have e2 : wrap64 ((n : Int) + (steps.length : Int)) = ((n + steps.length : Nat) : Int) := wA (by omega) (by omega)
    have e3 : wrap64 (((n + steps.length : Nat) : Int) - 1) = ((n + steps.length - 1 : Nat) : Int) := by rw [w64 _ (by omega) (by omega)]; omega
    have e1 : ¬ (i : Int) < ((n + steps.length - 1 : Nat) : Int) := by omega
    refine ⟨fun _ => Ev.step (f := fun _ => Option.some 0) (fun k => by rw [millref10_Check.l2, e2, e3, if_neg e1]) (Ev.now _), fun h => absurd (fun j h2 h3 => by omega) h⟩
  | d + 1, i, hd, hi => by
    have e2 : wrap64 ((n : Int) + (steps.length : Int)) = ((n + steps.length : Nat) : Int) := wA (by omega) (by omega)
    have e3 : wrap64 (((n + steps.length : Nat) : Int) - 1) = ((n + steps.length - 1 : Nat) : Int) := by rw [w64 _ (by omega) (by omega)]; omega
    have e1 : (i : Int) < ((n + steps.length - 1 : Nat) : Int) := by omega
    have e4 : (0 : Int) ≤ (i : Int) := by omega
    have e5 : (i : Int) < t.length := by omega
    obtain ⟨i1, i2⟩ := ref_l2 steps n t hm h1 hb d (i + 1) (by omega) (by omega)
    have e6 : wrap64 ((i : Int) + 1) = ((i + 1 : Nat) : Int) := wS (by omega)
    have head : ∀ k, millref10_Check.l2 (k + 1) steps n t i = if t.getD i 0 = 1 then millref10_Check.l2 k steps n t ((i + 1 : Nat) : Int) else Option.some 101 := fun k => by
      rw [millref10_Check.l2, e2, e3, if_pos e1, if_pos e4, if_pos e5, rd_nat, e6]
    by_cases c : t.getD i 0 = 1
    · constructor
      · intro h
        exact Ev.step (fun k => by rw [head, if_pos c]) (i1 (fun j h2 h3 => h j (by omega) h3))
      · intro h
        refine Ev.step (fun k => by rw [head, if_pos c]) (i2 (fun h2 => h (fun j h3 h4 => ?_)))
        by_cases e : j = i
        · rw [e]; exact c
        · exact h2 j (by omega) h4
    · exact ⟨fun h => absurd (h i (Nat.le_refl _) (by omega)) c, fun _ => Ev.step (f := fun _ => Option.some 101) (fun k => by rw [head, if_neg c]) (Ev.now _)⟩
theorem bump_bound {t : List Int} {q : Int} (hb : ∀ j, 0 ≤ t.getD j 0 ∧ t.getD j 0 ≤ q) (x : Nat) (j : Nat) : 0 ≤ (t.set x (t.getD x 0 + 1)).getD j 0 ∧ (t.set x (t.getD x 0 + 1)).getD j 0 ≤ q + 1 := by
  have h1 := hb j
  have h2 := hb x
  by_cases hx : x < t.length
  · rw [getD_set hx]
    by_cases e : j = x
    · rw [if_pos e]
      generalize t.getD x 0 = v at h2 ⊢; omega
    · rw [if_neg e]
      generalize t.getD j 0 = v at h1 ⊢; omega
  · rw [List.set_eq_of_length_le (by omega)]
    generalize t.getD j 0 = v at h1 ⊢; omega
theorem ref_head (k : Nat) (fan : Int) (steps : List S51) (n s : Nat) (t ins : List Int) (i : Nat) (hi : i < ins.length) (hns : n + s ≤ 1000000) :
    millref10_Check.l1 (k + 1) fan steps n t s ins i = if ins[i] < 0 then millref10_Check.j5 k fan steps n t s ins i true else millref10_Check.j5 k fan steps n t s ins i (decide (ins[i] ≥ ((n + s : Nat) : Int))) := by
  have e1 : (i : Int) < ins.length := by omega
  have e2 : (0 : Int) ≤ (i : Int) := by omega
  have e3 : wrap64 ((n : Int) + (s : Int)) = ((n + s : Nat) : Int) := wA (by omega) (by omega)
  rw [millref10_Check.l1, if_pos e1, if_pos e2, rd_getElem hi, e3]
theorem ref_j5_zero (k : Nat) (fan : Int) (steps : List S51) (n s : Nat) (t ins : List Int) (hi : 0 < ins.length) (c3 : (0 : Int) ≤ ins[0]) (c4 : ins[0] < (t.length : Int)) (hw : wrap64 (t.getD (ins[0]).toNat 0 + 1) = t.getD (ins[0]).toNat 0 + 1) :
    millref10_Check.j5 (k + 1) fan steps n t s ins ((0 : Nat) : Int) false = millref10_Check.l1 k fan steps n (t.set (ins[0]).toNat (t.getD (ins[0]).toNat 0 + 1)) s ins ((0 + 1 : Nat) : Int) := by
  have e1 : ((0 : Nat) : Int) < ins.length := by clear hw; omega
  have e2 : (0 : Int) ≤ ((0 : Nat) : Int) := by clear hw; omega
  have e7 : ¬ ((0 : Nat) : Int) > 0 := by clear hw; omega
  have hw2 : wrap64 (rd t ins[0] + 1) = t.getD (ins[0]).toNat 0 + 1 := hw
  rw [millref10_Check.j5, if_neg (by simp), if_neg e7, if_pos e2, if_pos e1, rd_getElem hi, if_pos c3, if_pos c4, hw2, wS (by clear hw hw2; omega)]
theorem ref_j5_succ (k : Nat) (fan : Int) (steps : List S51) (n s : Nat) (t ins : List Int) (i : Nat) (hi : i + 1 < ins.length) (hb : ins.length ≤ 64) (c3 : 0 ≤ ins[i + 1]) (c4 : ins[i + 1] < (t.length : Int)) (hw : wrap64 (t.getD (ins[i + 1]).toNat 0 + 1) = t.getD (ins[i + 1]).toNat 0 + 1) :
    millref10_Check.j5 (k + 1) fan steps n t s ins ((i + 1 : Nat) : Int) false = if ins[i] ≥ ins[i + 1] then some 101 else millref10_Check.l1 k fan steps n (t.set (ins[i + 1]).toNat (t.getD (ins[i + 1]).toNat 0 + 1)) s ins ((i + 1 + 1 : Nat) : Int) := by
  have e1 : ((i + 1 : Nat) : Int) < ins.length := by clear hw; omega
  have e2 : (0 : Int) ≤ ((i + 1 : Nat) : Int) := by clear hw; omega
  have e7 : ((i + 1 : Nat) : Int) > 0 := by clear hw; omega
  have e9 : (0 : Int) ≤ (i : Int) := by clear hw; omega
  have e10 : (i : Int) < (ins.length : Int) := by clear hw; omega
  have e8 : wrap64 (((i + 1 : Nat) : Int) - 1) = (i : Int) := by clear hw; rw [w64 _ (by omega) (by omega)]; omega
  have hw2 : wrap64 (rd t ins[i + 1] + 1) = t.getD (ins[i + 1]).toNat 0 + 1 := hw
  have e6 : wrap64 (((i + 1 : Nat) : Int) + 1) = ((i + 1 + 1 : Nat) : Int) := wS (by clear hw hw2 e8; omega)
  rw [millref10_Check.j5, if_neg (by simp), if_pos e7, e8, if_pos e9, if_pos e10, if_pos e2, if_pos e1, rd_getElem hi, rd_getElem (by clear hw hw2 e8 e6; omega), if_pos c3, if_pos c4, hw2, e6]
theorem ref_l1 (fan : Int) (steps : List S51) (n s : Nat) (t0 : Nat) (ins : List Int) (hl : ins.length ≤ 64) (hns : n + s ≤ 1000000) (hs : s ≤ 1000000) (B : Int) (hB : B ≤ 1000000000) (ends : List Int → Int) (ht0 : n + s ≤ t0)
    (cont : ∀ t', t'.length = t0 → (∀ j, 0 ≤ t'.getD j 0 ∧ t'.getD j 0 ≤ B + ins.length) → Ev (fun k => millref10_Check.l0 k fan steps n t' ((s + 1 : Nat) : Int)) (ends t')) : ∀ (d i : Nat) (t : List Int), ins.length - i = d → i ≤ ins.length → t.length = t0 → (∀ j, 0 ≤ t.getD j 0 ∧ t.getD j 0 ≤ B + i) →
    Ev (fun k => millref10_Check.l1 k fan steps n t s ins i) (match refRun ((n + s : Nat) : Int) (prevAt ins i) (ins.drop i) t with | Option.none => 101 | Option.some t' => ends t')
  | 0, i, t, hd, hi, ht, hb => by
    have e : i = ins.length := by omega
    subst e
    rw [List.drop_length, refRun]
    have e1 : ¬ (ins.length : Int) < ins.length := by omega
    have e2 : wrap64 ((s : Int) + 1) = ((s + 1 : Nat) : Int) := wS (by omega)
    exact Ev.step (fun k => by rw [millref10_Check.l1, if_neg e1, e2]) (cont t ht hb)
  | d + 1, i, t, hd, hi, ht, hb => by
    have hlt : i < ins.length := by omega
    have hpa : prevAt ins (i + 1) = some ins[i] := by simp [prevAt, hlt]
    rw [drop_cons hlt, refRun]
    have bad : Ev (fun k => millref10_Check.j5 k fan steps n t s ins i true) 101 := Ev.step (f := fun _ => Option.some 101) (fun k => by rw [millref10_Check.j5, if_pos rfl]) (Ev.now _)
    by_cases c1 : ins[i] < 0
    · rw [if_neg (fun h => absurd c1 (Int.not_lt.2 h.1))]
      exact Ev.step (fun k => by rw [ref_head k fan steps n s t ins i hlt hns, if_pos c1]) bad
    by_cases c2 : ins[i] ≥ ((n + s : Nat) : Int)
    · rw [if_neg (fun h => absurd h.2.1 (Int.not_lt.2 c2))]
      exact Ev.step (fun k => by rw [ref_head k fan steps n s t ins i hlt hns, if_neg c1, decide_eq_true c2]) bad
    refine Ev.step (f := fun k => millref10_Check.j5 k fan steps n t s ins i false) (fun k => by rw [ref_head k fan steps n s t ins i hlt hns, if_neg c1, decide_eq_false c2]) ?_
    have c3 : 0 ≤ ins[i] := Int.not_lt.1 c1
    have c2' : ins[i] < ((n + s : Nat) : Int) := Int.not_le.1 c2
    have c4 : ins[i] < (t.length : Int) := Int.lt_of_lt_of_le c2' (by rw [ht]; exact Int.ofNat_le.2 ht0)
    have hib : (i : Int) ≤ 64 := by clear c1 c2 c3 c2' c4; omega
    have hbe : B + ((i + 1 : Nat) : Int) = B + i + 1 := by clear c1 c2 c3 c2' c4; omega
    have hw : wrap64 (t.getD (ins[i]).toNat 0 + 1) = t.getD (ins[i]).toNat 0 + 1 := by
      have hbx := hb (ins[i]).toNat
      generalize t.getD (ins[i]).toNat 0 = v at hbx ⊢
      clear c1 c2 c3 c2' c4
      exact w64 _ (by omega) (by omega)
    have ih := ref_l1 fan steps n s t0 ins hl hns hs B hB ends ht0 cont d (i + 1) (t.set (ins[i]).toNat (t.getD (ins[i]).toNat 0 + 1)) (by clear hw c1 c2 c3 c2' c4; omega) hlt (by rw [List.length_set]; exact ht) (fun j => by
      rw [hbe]; exact bump_bound hb _ j)
    rw [hpa] at ih
    cases i with
    | zero =>
      rw [if_pos ⟨c3, c2', fun y h => by simp [prevAt] at h⟩]
      exact Ev.step (fun k => ref_j5_zero k fan steps n s t ins hlt c3 c4 hw) ih
    | succ i =>
      have hlt2 : i < ins.length := Nat.lt_of_succ_lt hlt
      have hpi : prevAt ins (i + 1) = some ins[i] := by simp [prevAt, hlt2]
      by_cases c5 : ins[i] ≥ ins[i + 1]
      · rw [if_neg (fun h => absurd (h.2.2 _ hpi) (Int.not_lt.2 c5))]
        exact Ev.step (f := fun _ => Option.some 101) (fun k => by rw [ref_j5_succ k fan steps n s t ins i hlt hl c3 c4 hw, if_pos c5]) (Ev.now _)
      · rw [if_pos ⟨c3, c2', fun y h => by rw [hpi] at h; cases h; exact Int.not_le.1 c5⟩]
        exact Ev.step (fun k => by rw [ref_j5_succ k fan steps n s t ins i hlt hl c3 c4 hw, if_neg c5]) ih
theorem refRun_bound (out : Int) : ∀ (l : List Int) (p : Option Int) (t t' : List Int) (q : Int), refRun out p l t = Option.some t' → (∀ j, 0 ≤ t.getD j 0 ∧ t.getD j 0 ≤ q) → t'.length = t.length ∧ ∀ j, 0 ≤ t'.getD j 0 ∧ t'.getD j 0 ≤ q + l.length
  | [], p, t, t', q, h, hb => by
    rw [refRun] at h; cases h; simpa using hb
  | x :: r, p, t, t', q, h, hb => by
    rw [refRun] at h
    split at h
    · obtain ⟨h1, h2⟩ := refRun_bound out r (some x) _ t' (q + 1) h (bump_bound hb _)
      refine ⟨by rw [h1, List.length_set], fun j => ?_⟩
      have := h2 j
      rw [List.length_cons]
      generalize t'.getD j 0 = v at this ⊢
      omega
    · cases h
theorem ref_j2 (k : Nat) (fan : Nat) (steps : List S51) (n s : Nat) (t : List Int) (hs : s < steps.length) (hns : n + s ≤ 1000000) :
    millref10_Check.l0 (k + 3) fan steps n t s = if formOk n fan s steps[s] then millref10_Check.l1 k fan steps n t s (steps[s]).f0 ((0 : Nat) : Int) else some 101 := by
  have e1 : (s : Int) < steps.length := by omega
  have e2 : (0 : Int) ≤ (s : Int) := by omega
  have e3 : wrap64 ((n : Int) + (s : Int)) = (n : Int) + s := by rw [wA (by omega) (by omega)]; omega
  rw [millref10_Check.l0, if_pos e1, if_pos e2, rdT_getElem hs, e3]
  clear e3
  have bad : millref10_Check.j2 (k + 2) fan steps n t s (steps[s]).f0 true = some 101 := by rw [millref10_Check.j2, if_pos rfl]
  by_cases c1 : (steps[s]).f1 = (n : Int) + s
  · rw [if_pos c1]
    by_cases c2 : ((steps[s]).f0.length : Int) = 0
    · rw [if_pos c2, bad, if_neg (fun h => by have := h.2.1; omega)]
    · rw [if_neg c2]
      by_cases c3 : ((steps[s]).f0.length : Int) > fan
      · rw [decide_eq_true c3, bad, if_neg (fun h => by have := h.2.2.1; omega)]
      · rw [decide_eq_false c3, millref10_Check.j2, if_neg (by simp)]
        by_cases c4 : ((steps[s]).f0.length : Int) = 1
        · rw [if_pos c4]
          by_cases c5 : (n : Int) > 1
          · rw [decide_eq_true c5, millref10_Check.j3, if_pos rfl, if_neg (fun h => by have := h.2.2.2; omega)]
          · rw [decide_eq_false c5, millref10_Check.j3, if_neg (by simp), if_pos ⟨c1, by omega, by omega, fun _ => by omega⟩]; rfl
        · rw [if_neg c4, millref10_Check.j3, if_neg (by simp), if_pos ⟨c1, by omega, by omega, fun h => by omega⟩]; rfl
  · rw [if_neg c1, bad, if_neg (fun h => c1 h.1)]
theorem Ev.step3 {α : Type} {g f : Nat → Option α} {r : α} (h : ∀ k, g (k + 3) = f k) (k : Ev f r) : Ev g r := by
  obtain ⟨K, hK⟩ := k
  refine ⟨K + 3, fun m hm => ?_⟩
  obtain ⟨m', rfl⟩ : ∃ m', m = m' + 3 := ⟨m - 3, by omega⟩
  rw [h]; exact hK m' (by omega)
open Classical in
/-- the answer at the end of the counts -/
noncomputable def refTail (n L : Nat) (t : List Int) : Int := if ∀ j : Nat, j + 1 < n + L → t.getD j 0 = 1 then 0 else 101
theorem refTail_pos {n L : Nat} {t : List Int} (h : ∀ j : Nat, j + 1 < n + L → t.getD j 0 = 1) : refTail n L t = 0 := by unfold refTail; exact if_pos h
theorem refTail_neg {n L : Nat} {t : List Int} (h : ¬ ∀ j : Nat, j + 1 < n + L → t.getD j 0 = 1) : refTail n L t = 101 := by unfold refTail; exact if_neg h
theorem ref_l0 (fan : Nat) (steps : List S51) (n : Nat) (hf : fan ≤ 64) (hn : n ≤ 65536) (hL : steps.length ≤ 65536) (h1 : 1 ≤ n + steps.length) : ∀ (d s : Nat) (t : List Int), steps.length - s = d → s ≤ steps.length → t.length = n + steps.length → (∀ j, 0 ≤ t.getD j 0 ∧ t.getD j 0 ≤ (s : Int) * 64) →
    Ev (fun k => millref10_Check.l0 k fan steps n t s) (match refSteps n fan s (steps.drop s) t with | Option.none => 101 | Option.some t' => refTail n steps.length t')
  | 0, s, t, hd, hi, ht, hb => by
    have e : s = steps.length := by omega
    subst e
    rw [List.drop_length, refSteps]
    have e1 : ¬ (steps.length : Int) < steps.length := by omega
    obtain ⟨i1, i2⟩ := ref_l2 steps n t ht (by omega) (by omega) _ 0 rfl (Nat.zero_le _)
    refine Ev.step (f := fun k => millref10_Check.l2 k steps n t ((0 : Nat) : Int)) (fun k => by rw [millref10_Check.l0, if_neg e1]; rfl) ?_
    show Ev _ (refTail n steps.length t)
    by_cases c : ∀ j : Nat, j + 1 < n + steps.length → t.getD j 0 = 1
    · rw [refTail_pos c]; exact i1 (fun j _ h => c j h)
    · rw [refTail_neg c]; exact i2 (fun h => c (fun j h2 => h j (Nat.zero_le _) h2))
  | d + 1, s, t, hd, hi, ht, hb => by
    have hlt : s < steps.length := by omega
    rw [drop_cons hlt, refSteps]
    by_cases hf2 : formOk n fan s steps[s]
    · rw [if_pos hf2]
      have f1 := hf2.1
      have f3 := hf2.2.2.1
      have cont := ref_l1 fan steps n s (n + steps.length) (steps[s]).f0 (by omega) (by omega) (by omega) ((s : Int) * 64) (by omega) (fun t' => match refSteps n fan (s + 1) (steps.drop (s + 1)) t' with | Option.none => 101 | Option.some t'' => refTail n steps.length t'') (by omega)
        (fun t' h2 h3 => ref_l0 fan steps n hf hn hL h1 d (s + 1) t' (by omega) hlt h2 (fun j => by
          have h4 := h3 j
          refine ⟨h4.1, Int.le_trans h4.2 ?_⟩
          clear h4
          omega)) (steps[s]).f0.length 0 t rfl (Nat.zero_le _) ht (fun j => by have := hb j; rw [show (s : Int) * 64 + ((0 : Nat) : Int) = (s : Int) * 64 by omega]; exact this)
      refine Ev.step3 (fun k => by rw [ref_j2 k fan steps n s t hlt (by omega), if_pos hf2]) ?_
      rw [List.drop_zero, show ((n + s : Nat) : Int) = (steps[s]).f1 by rw [f1]; omega] at cont
      have e : ∀ (o : Option (List Int)), (match o.bind fun t' => refSteps n fan (s + 1) (steps.drop (s + 1)) t' with | Option.none => (101 : Int) | Option.some t' => refTail n steps.length t') = (match o with | Option.none => 101 | Option.some t' => (match refSteps n fan (s + 1) (steps.drop (s + 1)) t' with | Option.none => 101 | Option.some t'' => refTail n steps.length t'')) := fun o => by cases o <;> rfl
      rw [e]
      exact cont
    · rw [if_neg hf2]
      exact Ev.step3 (f := fun _ => Option.some 101) (fun k => by rw [ref_j2 k fan steps n s t hlt (by omega), if_neg hf2]) (Ev.now _)
open Classical in
theorem refCheck_ev (l : List Int) (fan : Int) (steps : List S51) : Ev (fun k => millref10_Check.f k l fan steps) (checkV l fan steps) := by
  unfold checkV
  refine Ev.bind (ref_given_ev l fan) ?_
  by_cases hg : givenV l fan = 0
  · simp only [if_pos hg]
    obtain ⟨hf1, hf2, hn1, hn2, _⟩ := givenV_zero hg
    obtain ⟨F, rfl⟩ : ∃ F : Nat, fan = F := ⟨fan.toNat, by omega⟩
    rw [Int.toNat_natCast]
    have bad : Ev (fun k => millref10_Check.j0 k F steps l.length true) 101 := Ev.step (f := fun _ => Option.some 101) (fun k => by rw [millref10_Check.j0, if_pos rfl]) (Ev.now _)
    by_cases h0 : steps.length = 0
    · rw [if_neg (fun h => by have := h.some; omega)]
      have e0 : (steps.length : Int) = 0 := by omega
      simp only [if_pos e0]
      exact bad
    · have e0 : ¬ ((steps.length : Int) = 0) := by omega
      simp only [if_neg e0]
      by_cases h1 : steps.length > l.length
      · rw [if_neg (fun h => by have := h.few; omega), decide_eq_true (by omega)]
        exact bad
      · rw [decide_eq_false (by omega)]
        have hz : Counts (List.replicate (l.length + steps.length) 0) [] := fun j hj => by
          rw [List.getD_eq_getElem?_getD, List.getElem?_replicate]; split <;> simp
        obtain ⟨i1, i2⟩ := refSteps_iff l.length F steps 0 (List.replicate (l.length + steps.length) 0) [] hz (by simp)
        have hc := ref_l0 F steps l.length (by omega) hn2 (by omega) (by omega) steps.length 0 (List.replicate (l.length + steps.length) 0) rfl (Nat.zero_le _) (by simp) (fun j => by
          rw [List.getD_eq_getElem?_getD, List.getElem?_replicate]; split <;> simp)
        rw [List.drop_zero] at hc
        have hfin : (match refSteps l.length F 0 steps (List.replicate (l.length + steps.length) 0) with | Option.none => (101 : Int) | Option.some t' => refTail l.length steps.length t') = if Plan l.length F steps then 0 else 101 := by
          by_cases hs : ShapeFrom l.length F 0 steps
          · obtain ⟨t', g1, g2, g3⟩ := i1 hs
            rw [g1]
            rw [List.length_replicate] at g2
            show refTail l.length steps.length t' = _
            have hco : (∀ j : Nat, j + 1 < l.length + steps.length → t'.getD j 0 = 1) ↔ ∀ j : Nat, j + 1 < l.length + steps.length → (flat steps).count (j : Int) = 1 := by
              constructor
              · intro h j hj
                have h2 := h j hj
                rw [g3 j (by omega), List.nil_append] at h2
                omega
              · intro h j hj
                rw [g3 j (by omega), List.nil_append, h j hj]; rfl
            by_cases ha : ∀ j : Nat, j + 1 < l.length + steps.length → t'.getD j 0 = 1
            · rw [refTail_pos ha, if_pos (plan_iff_counts.2 ⟨⟨by omega, by omega⟩, hs, hco.1 ha⟩)]
            · rw [refTail_neg ha, if_neg (fun h => ha (hco.2 (plan_iff_counts.1 h).2.2))]
          · rw [i2 hs, if_neg (fun h => hs (plan_iff_counts.1 h).2.1)]
        rw [← hfin]
        refine Ev.step (fun k => ?_) hc
        have e1 : wrap64 ((l.length : Int) + (steps.length : Int)) = ((l.length + steps.length : Nat) : Int) := wA (by omega) (by omega)
        rw [millref10_Check.j0, if_neg (by simp), e1, if_pos (Int.natCast_nonneg _), Int.toNat_natCast, if_pos (by clear e1 hz i1 i2 hc hfin; omega)]; rfl
  · simp only [if_neg hg]; exact Ev.now _
end Go.Proofs.Ytbgabijjnbmghaa.P
/- Plain law: the reference's up, Cost, Depth answer as plan's do; the greedy plan's cost. -/
namespace Go.Proofs.Ytbgabijjnbmghaa.P
open Go.RowKit Go.Proofs.Ytbgabijjnbmghaa Go.Proofs.YtbgabijjnbmghaaW.PrintWords Go.Proofs.YtbgabijjnbmghaaW.PrintLast Go.Proofs.YtbgabijjnbmghaaW.PrintMore
set_option linter.unusedVariables false
set_option linter.unusedSimpArgs false

theorem up_l1 (n : Nat) (steps : List S51) (s : Nat) (hs : s < steps.length) (hl : (steps[s]).f0.length ≤ 64) (x : Int) (c : Nat) (r : Int) (h1 : n + s ≤ 1000000) (h2 : c ≤ 1000000)
    (yes : x ∈ (steps[s]).f0 → Ev (fun k => millref10_up.l0 k n steps ((n + s : Nat) : Int) ((c + 1 : Nat) : Int) ((s + 1 : Nat) : Int)) r)
    (no : x ∉ (steps[s]).f0 → Ev (fun k => millref10_up.l0 k n steps x c ((s + 1 : Nat) : Int)) r) : ∀ (d i : Nat), (steps[s]).f0.length - i = d → i ≤ (steps[s]).f0.length → x ∉ (steps[s]).f0.take i → Ev (fun k => millref10_up.l1 k n steps x c s i) r
  | 0, i, hd, hi, hx => by
    have e : i = (steps[s]).f0.length := by omega
    rw [e, List.take_length] at hx
    have e1 : (0 : Int) ≤ (s : Int) := by omega
    have e2 : (s : Int) < steps.length := by omega
    have e3 : ¬ (i : Int) < (steps[s]).f0.length := by omega
    refine Ev.step (fun k => ?_) (no hx)
    rw [millref10_up.l1, if_pos e1, if_pos e2, rdT_getElem hs, if_neg e3, wS (by omega)]
  | d + 1, i, hd, hi, hx => by
    have hlt : i < (steps[s]).f0.length := by omega
    have e1 : (0 : Int) ≤ (s : Int) := by omega
    have e2 : (s : Int) < steps.length := by omega
    have e3 : (i : Int) < (steps[s]).f0.length := by omega
    have e4 : (0 : Int) ≤ (i : Int) := by omega
    by_cases c1 : (steps[s]).f0[i] = x
    · refine Ev.step (fun k => ?_) (yes (by rw [← c1]; exact List.getElem_mem hlt))
      rw [millref10_up.l1, if_pos e1, if_pos e2, rdT_getElem hs, if_pos e3, if_pos e4, rd_getElem hlt, if_pos c1, wA (by omega) (by omega), wS (by omega), wS (by omega)]
    · refine Ev.step (fun k => ?_) (up_l1 n steps s hs hl x c r h1 h2 yes no d (i + 1) (by omega) (by omega) (fun h => ?_))
      · rw [millref10_up.l1, if_pos e1, if_pos e2, rdT_getElem hs, if_pos e3, if_pos e4, rd_getElem hlt, if_neg c1, wS (by omega)]
      · rw [take_succ_at hlt] at h
        rcases List.mem_append.1 h with h | h
        · exact hx h
        · exact c1 (List.mem_singleton.1 h).symm
theorem up_l0 (n : Nat) (steps : List S51) (hl : ∀ (s : Nat) (h : s < steps.length), (steps[s]).f0.length ≤ 64) (hn : n + steps.length ≤ 1000000) : ∀ (d s : Nat) (x : Int) (c : Nat), steps.length - s = d → s ≤ steps.length → c ≤ s → Ev (fun k => millref10_up.l0 k n steps x c s) ((c + upFrom n s (steps.drop s) x : Nat) : Int)
  | 0, s, x, c, hd, hi, hc => by
    have e1 : ¬ (s : Int) < steps.length := by omega
    rw [List.drop_of_length_le (by omega), upFrom]
    exact Ev.step (f := fun _ => Option.some (c : Int)) (fun k => by rw [millref10_up.l0, if_neg e1]) (Ev.now _)
  | d + 1, s, x, c, hd, hi, hc => by
    have hlt : s < steps.length := by omega
    have e1 : (s : Int) < steps.length := by omega
    rw [drop_cons hlt, upFrom]
    refine Ev.step (f := fun k => millref10_up.l1 k n steps x c s ((0 : Nat) : Int)) (fun k => by rw [millref10_up.l0, if_pos e1]; rfl) ?_
    refine up_l1 n steps s hlt (hl s hlt) x c _ (by omega) (by omega) (fun h => ?_) (fun h => ?_) _ 0 rfl (Nat.zero_le _) (by simp)
    · rw [if_pos h]
      have := up_l0 n steps hl hn d (s + 1) ((n + s : Nat) : Int) (c + 1) (by omega) (by omega) (by omega)
      rw [show c + (upFrom n (s + 1) (steps.drop (s + 1)) ((n + s : Nat) : Int) + 1) = c + 1 + upFrom n (s + 1) (steps.drop (s + 1)) ((n + s : Nat) : Int) by omega]
      exact this
    · rw [if_neg h]
      exact up_l0 n steps hl hn d (s + 1) x c (by omega) (by omega) (by omega)
theorem plan_lens {n fan : Nat} {steps : List S51} (hp : Plan n fan steps) (hf : fan ≤ 64) (s : Nat) (h : s < steps.length) : (steps[s]).f0.length ≤ 64 := by
  have := (plan_at hp h).1.2.2.1; omega
theorem up_ev {n fan : Nat} {steps : List S51} (hp : Plan n fan steps) (hf : fan ≤ 64) (hn : n ≤ 65536) (x : Int) : Ev (fun k => millref10_up.f k n steps x) (upFrom n 0 steps x : Nat) := by
  have hfew := hp.few
  have := up_l0 n steps (plan_lens hp hf) (by omega) steps.length 0 x 0 rfl (Nat.zero_le _) (Nat.le_refl _)
  rw [List.drop_zero, Nat.zero_add] at this
  exact this
def upCost (l : List Int) (steps : List S51) (i : Nat) : Int := sumAtUp l steps i
where sumAtUp (l : List Int) (steps : List S51) (i : Nat) : Int := ((nums i).map fun x => l.getD x.toNat 0 * (upFrom l.length 0 steps x : Int)).sum
theorem upCost_zero (l : List Int) (steps : List S51) : upCost l steps 0 = 0 := rfl
theorem upCost_succ (l : List Int) (steps : List S51) (i : Nat) : upCost l steps (i + 1) = upCost l steps i + l.getD i 0 * (upFrom l.length 0 steps (i : Int) : Int) := by
  unfold upCost upCost.sumAtUp
  rw [nums_succ, List.map_append, List.sum_append]
  simp
theorem upCost_all {l : List Int} {fan : Nat} {steps : List S51} (hp : Plan l.length fan steps) : upCost l steps l.length = costOf l steps :=
  flow_cost l.length fan steps 0 (nums l.length) l (flow_of_plan hp) rfl
theorem upCost_bound {l : List Int} {steps : List S51} (hw : ∀ x ∈ l, okW x) (hL : steps.length ≤ 65536) : ∀ (i : Nat), i ≤ l.length → 0 ≤ upCost l steps i ∧ upCost l steps i ≤ (i : Int) * 70368744177664
  | 0, _ => by rw [upCost_zero]; exact ⟨Int.le_refl _, by omega⟩
  | i + 1, h => by
    obtain ⟨h1, h2⟩ := upCost_bound hw hL i (by omega)
    rw [upCost_succ]
    have h3 : okW (l.getD i 0) := by
      rw [List.getD_eq_getElem?_getD, List.getElem?_eq_getElem (by omega)]; exact hw _ (List.getElem_mem _)
    have h4 := upFrom_le l.length steps 0 (i : Int)
    have h5 : 0 ≤ l.getD i 0 * (upFrom l.length 0 steps (i : Int) : Int) := Int.mul_nonneg h3.1 (by omega)
    have h6 : l.getD i 0 * (upFrom l.length 0 steps (i : Int) : Int) ≤ 1073741824 * 65536 := Int.mul_le_mul h3.2 (by omega) (by omega) (by omega)
    generalize l.getD i 0 * (upFrom l.length 0 steps (i : Int) : Int) = v at h5 h6
    clear h3
    omega
theorem cost_head (k : Nat) (l : List Int) (steps : List S51) (c c' : Int) (i u : Nat) (hi : i < l.length) (hb : i ≤ 1000000) (hu : millref10_up.f k l.length steps i = some (u : Int)) (hw : wrap64 (c + wrap64 ((u : Int) * l.getD i 0)) = c') :
    millref10_Cost.l0 (k + 1) l steps c i = millref10_Cost.l0 k l steps c' ((i + 1 : Nat) : Int) := by
  have e1 : (i : Int) < l.length := by clear hw; omega
  have e2 : (0 : Int) ≤ (i : Int) := by clear hw; omega
  rw [millref10_Cost.l0, if_pos e1, hu]
  simp only [Option.bind_some]
  rw [if_pos e2, rd_nat, hw, wS (by clear hw; omega)]
theorem refCost_l0 {l : List Int} {fan : Nat} {steps : List S51} (hp : Plan l.length fan steps) (hf : fan ≤ 64) (hn : l.length ≤ 65536) (hw : ∀ x ∈ l, okW x) : ∀ (d i : Nat), l.length - i = d → i ≤ l.length → Ev (fun k => millref10_Cost.l0 k l steps (upCost l steps i) i) (upCost l steps l.length, 0)
  | 0, i, hd, hi => by
    have e : i = l.length := by omega
    subst e
    have e1 : ¬ (l.length : Int) < l.length := by omega
    exact Ev.step (f := fun _ => Option.some (upCost l steps l.length, 0)) (fun k => by rw [millref10_Cost.l0, if_neg e1]) (Ev.now _)
  | d + 1, i, hd, hi => by
    have hfew := hp.few
    have ih := refCost_l0 hp hf hn hw d (i + 1) (by omega) (by omega)
    obtain ⟨K, hK⟩ := up_ev hp hf hn (i : Int)
    obtain ⟨K2, hK2⟩ := ih
    refine ⟨K + K2 + 1, fun m hm => ?_⟩
    obtain ⟨m, rfl⟩ : ∃ m', m = m' + 1 := ⟨m - 1, by omega⟩
    have hlt : i < l.length := by omega
    obtain ⟨b1, b2⟩ := upCost_bound (l := l) (steps := steps) hw (by omega) i (by omega)
    obtain ⟨b3, b4⟩ := upCost_bound (l := l) (steps := steps) hw (by omega) (i + 1) hlt
    have hs := upCost_succ l steps i
    rw [Int.mul_comm] at hs
    have hw2 : wrap64 (upCost l steps i + wrap64 ((upFrom l.length 0 steps (i : Int) : Int) * l.getD i 0)) = upCost l steps (i + 1) := by
      generalize (upFrom l.length 0 steps (i : Int) : Int) * l.getD i 0 = v at hs ⊢
      generalize upCost l steps (i + 1) = a at *
      generalize upCost l steps i = b at *
      clear hK hK2 hw
      have : wrap64 v = v := w64 _ (by omega) (by omega)
      rw [this]
      clear this
      rw [w64 _ (by omega) (by omega)]
      omega
    show millref10_Cost.l0 (m + 1) l steps (upCost l steps i) i = _
    rw [cost_head m l steps _ _ i _ hlt (by clear hw2; omega) (hK m (by clear hw2; omega)) hw2]
    exact hK2 m (by clear hw2; omega)
theorem refCost_ev (l : List Int) (fan : Int) (steps : List S51) : Ev (fun k => millref10_Cost.f k l fan steps) (if checkV l fan steps = 0 then (costOf l steps, 0) else (0, checkV l fan steps)) := by
  unfold millref10_Cost.f
  refine Ev.bind (refCheck_ev l fan steps) ?_
  by_cases h : checkV l fan steps = 0
  · simp only [if_pos h]
    obtain ⟨hg, hp⟩ := checkV_zero h
    obtain ⟨h1, h2, h3, h4, h5⟩ := givenV_zero hg
    have := refCost_l0 hp (by omega) h4 h5 l.length 0 rfl (Nat.zero_le _)
    rw [upCost_all hp, upCost_zero] at this
    exact this
  · simp only [if_neg h]; exact Ev.now _
/-! ### Depth -/
def upMax (n : Nat) (steps : List S51) (i : Nat) : Int := maxL ((nums i).map fun x => (upFrom n 0 steps x : Int))
theorem upMax_succ (n : Nat) (steps : List S51) (i : Nat) : upMax n steps (i + 1) = max (upMax n steps i) (upFrom n 0 steps (i : Int) : Int) := by
  unfold upMax
  rw [nums_succ, List.map_append, maxL_append, List.map_cons, List.map_nil, maxL_cons, show maxL [] = 0 from rfl]
  omega
theorem upMax_all {n fan : Nat} {steps : List S51} (hp : Plan n fan steps) : upMax n steps n = deepV n steps := by
  have := flow_depth n fan steps 0 (nums n) (List.replicate n 0) (flow_of_plan hp) (by simp) (by have := hp.few; have := hp.some; omega) (fun j => by rw [getD_zeros]; exact Int.le_refl _)
  unfold upMax deepV
  rw [Nat.add_zero] at this
  rw [← this]
  exact congrArg maxL (List.map_congr_left fun x _ => by rw [getD_zeros, Int.zero_add])
theorem refDepth_l0 {l : List Int} {fan : Nat} {steps : List S51} (hp : Plan l.length fan steps) (hf : fan ≤ 64) (hn : l.length ≤ 65536) : ∀ (d i : Nat), l.length - i = d → i ≤ l.length → Ev (fun k => millref10_Depth.l0 k l steps (upMax l.length steps i) i) (upMax l.length steps l.length, 0)
  | 0, i, hd, hi => by
    have e : i = l.length := by omega
    subst e
    have e1 : ¬ (l.length : Int) < l.length := by omega
    exact Ev.step (f := fun _ => Option.some (upMax l.length steps l.length, 0)) (fun k => by rw [millref10_Depth.l0, if_neg e1]) (Ev.now _)
  | d + 1, i, hd, hi => by
    have ih := refDepth_l0 hp hf hn d (i + 1) (by omega) (by omega)
    have e1 : (i : Int) < l.length := by omega
    have hb : i ≤ 4611686018427387904 := by omega
    rw [upMax_succ] at ih
    refine Ev.step (f := fun k => (millref10_up.f k l.length steps i).bind fun t188 => if t188 > upMax l.length steps i then millref10_Depth.l0 k l steps t188 ((i + 1 : Nat) : Int) else millref10_Depth.l0 k l steps (upMax l.length steps i) ((i + 1 : Nat) : Int)) (fun k => by rw [millref10_Depth.l0, if_pos e1, wS hb]) ?_
    refine Ev.bind (up_ev hp hf hn (i : Int)) ?_
    by_cases c : (upFrom l.length 0 steps (i : Int) : Int) > upMax l.length steps i
    · simp only [if_pos c]
      rwa [show max (upMax l.length steps i) (upFrom l.length 0 steps (i : Int) : Int) = (upFrom l.length 0 steps (i : Int) : Int) by omega] at ih
    · simp only [if_neg c]
      rwa [show max (upMax l.length steps i) (upFrom l.length 0 steps (i : Int) : Int) = upMax l.length steps i by omega] at ih
theorem refDepth_ev (l : List Int) (fan : Int) (steps : List S51) : Ev (fun k => millref10_Depth.f k l fan steps) (if checkV l fan steps = 0 then (deepV l.length steps, 0) else (0, checkV l fan steps)) := by
  unfold millref10_Depth.f
  refine Ev.bind (refCheck_ev l fan steps) ?_
  by_cases h : checkV l fan steps = 0
  · simp only [if_pos h]
    obtain ⟨hg, hp⟩ := checkV_zero h
    obtain ⟨h1, h2, h3, h4, h5⟩ := givenV_zero hg
    have := refDepth_l0 hp (by omega) h4 l.length 0 rfl (Nat.zero_le _)
    rw [upMax_all hp] at this
    exact this
  · simp only [if_neg h]; exact Ev.now _
/-! ### the greedy plan's cost -/
def accOf : List Int → List S51 → List Int
  | acc, [] => acc
  | acc, st :: r => accOf (acc ++ [sumAt acc st.f0]) r
theorem accOf_append : ∀ (a b : List S51) (acc : List Int), accOf acc (a ++ b) = accOf (accOf acc a) b
  | [], b, acc => rfl
  | st :: a, b, acc => by rw [List.cons_append, accOf, accOf, accOf_append a b]
theorem costOf_append : ∀ (a b : List S51) (acc : List Int), costOf acc (a ++ b) = costOf acc a + costOf (accOf acc a) b
  | [], b, acc => by simp [costOf, accOf]
  | st :: a, b, acc => by rw [List.cons_append, costOf, costOf, accOf, costOf_append a b]; omega
theorem greedy_cost (n fan : Nat) (l : List Int) : ∀ (f t : Nat) (s : List Rung) (st : List S51), (accOf l st).length = n + st.length → (∀ x ∈ s, 0 ≤ x.1 ∧ x.1 < ((n + st.length : Nat) : Int) ∧ (accOf l st).getD x.1.toNat 0 = x.2) →
    costOf l (greedy n fan f t s st) = costOf l st + gCost fan f t s (n + st.length)
  | 0, t, s, st, hl, hs => by rw [greedy, gCost, Int.add_zero]
  | f + 1, t, s, st, hl, hs => by
    rw [greedy, gCost]
    by_cases h : 1 < s.length
    · rw [if_pos h, if_pos h]
      have hv : sumAt (accOf l st) (sortI ((s.take t).map (·.1))) = sumW (s.take t) := by
        unfold sumAt sumW
        rw [sum_map_perm _ (sortI_perm _), List.map_map]
        exact congrArg List.sum (List.map_congr_left fun x hx => (hs x (List.mem_of_mem_take hx)).2.2)
      have ha : accOf l (nextT n t s st) = accOf l st ++ [sumW (s.take t)] := by
        show accOf l (st ++ _) = _
        rw [accOf_append, accOf, accOf, hv]
      have hc : costOf l (nextT n t s st) = costOf l st + sumW (s.take t) := by
        show costOf l (st ++ _) = _
        rw [costOf_append, costOf, costOf, hv, Int.add_zero]
      have ih := greedy_cost n fan l f fan (nextS n t s st) (nextT n t s st) (by rw [ha, List.length_append, hl]; simp; omega) (fun x hx => by
        rw [ha]
        rcases List.mem_cons.1 ((insR_perm _ _).mem_iff.1 hx) with rfl | hx
        · refine ⟨by simp only; omega, by simp only [List.length_append, List.length_singleton]; omega, ?_⟩
          rw [Int.toNat_natCast, ← hl, getD_append_len]
        · obtain ⟨h1, h2, h3⟩ := hs x (List.mem_of_mem_drop hx)
          refine ⟨h1, by rw [List.length_append, List.length_singleton]; omega, ?_⟩
          rw [getD_append_lt (by omega), h3])
      rw [ih, hc, List.length_append, List.length_singleton, Int.add_assoc]; rfl
    · rw [if_neg h, if_neg h, Int.add_zero]
theorem rungs_get_mem : ∀ (l : List Int) (i : Nat) (x : Rung), x ∈ rungs i l → ∃ j, j < l.length ∧ x = (((i + j : Nat) : Int), l.getD j 0)
  | [], i, x, h => by simp [rungs] at h
  | w :: l, i, x, h => by
    rcases List.mem_cons.1 h with rfl | h
    · exact ⟨0, by simp, rfl⟩
    · obtain ⟨j, h1, h2⟩ := rungs_get_mem l (i + 1) x h
      exact ⟨j + 1, by simpa using h1, by rw [h2, List.getD_cons_succ, show i + 1 + j = i + (j + 1) by omega]⟩
theorem gSteps_cost {l : List Int} {fan : Nat} (hn : l.length ≠ 1) : costOf l (gSteps l fan) = gCost fan l.length (2 + (l.length - 2) % (fan - 1)) (sortR (rungs 0 l)) l.length := by
  unfold gSteps
  rw [if_neg hn]
  have := greedy_cost l.length fan l l.length (2 + (l.length - 2) % (fan - 1)) (sortR (rungs 0 l)) [] rfl (fun x hx => by
    obtain ⟨j, h1, h2⟩ := rungs_get_mem l 0 x ((sortR_perm _).mem_iff.1 hx)
    rw [h2, Nat.zero_add]
    exact ⟨by simp only; omega, by simp only [List.length_nil]; omega, rfl⟩)
  rw [this, costOf, Int.zero_add]; rfl
theorem costP_nums (l : List Int) (u : Int → Nat) : ∀ (k : Nat), costP ((nums k).map fun x => ((x, l.getD x.toNat 0), u x)) = ((nums k).map fun x => l.getD x.toNat 0 * (u x : Int)).sum := fun k => by
  unfold costP; rw [List.map_map]; rfl
theorem rungs_nums : ∀ (l : List Int), rungs 0 l = (nums l.length).map fun x => (x, l.getD x.toNat 0) := fun l => by
  have h : ∀ (a b : List Int), rungs b.length a = (List.range' b.length a.length).map fun i : Nat => ((i : Int), (b ++ a).getD i 0) := by
    intro a
    induction a with
    | nil => intro b; rfl
    | cons w a ih =>
      intro b
      have := ih (b ++ [w])
      rw [List.length_append, List.length_singleton] at this
      have e : (b ++ w :: a).getD b.length 0 = w := by rw [List.getD_eq_getElem?_getD, List.getElem?_append_right (Nat.le_refl _), Nat.sub_self]; rfl
      rw [rungs, this, List.length_cons, List.range'_succ, List.map_cons, List.append_assoc, e]; rfl
  have := h l []
  rw [List.length_nil, List.nil_append] at this
  rw [this]
  unfold nums
  rw [List.map_map, List.range_eq_range']
  exact List.map_congr_left fun i _ => by simp
/-- no plan costs less -/
theorem best_cost {l : List Int} {fan : Nat} {steps : List S51} (hf : 2 ≤ fan) (hw : ∀ x ∈ l, 0 ≤ x) (hp : Plan l.length fan steps) : costOf l (gSteps l fan) ≤ costOf l steps := by
  have hfl := flow_of_plan hp
  have hcost := flow_cost l.length fan steps 0 (nums l.length) l hfl rfl
  by_cases h1 : l.length = 1
  · have e : gSteps l fan = [⟨[0], 1⟩] := by unfold gSteps; rw [if_pos h1]
    have hL : steps.length = 1 := by have := hp.some; have := hp.few; omega
    obtain ⟨st, rfl⟩ := List.length_eq_one_iff.1 hL
    obtain ⟨R, a1, a2, a3, a4, a5, a5b, a6⟩ := hfl
    have hlen := a1.length_eq
    rw [List.length_append, h1] at hlen
    have hR : R = [] := List.length_eq_zero_iff.1 (by simp [nums] at hlen; omega)
    rw [hR, List.append_nil, h1] at a1
    rw [e, costOf, costOf, costOf, costOf]
    have e2 : sumAt l st.f0 = sumAt l [0] := (sum_map_perm _ a1).symm
    rw [e2]
    exact Int.le_refl _
  · have hn : 2 ≤ l.length := by have := hp.some; have := hp.few; omega
    obtain ⟨t1, t2, t3, t4⟩ := take_more hf (show 1 ≤ l.length by omega)
    have htk : takeOf l.length fan = 2 + (l.length - 2) % (fan - 1) := by unfold takeOf; rw [if_neg h1]
    have hq : moreOf l.length fan ≤ moreOf l.length fan * (fan - 1) := Nat.le_mul_of_pos_right _ (by omega)
    rw [gSteps_cost h1, ← htk, ← hcost]
    have hk := flow_kraft l.length fan (by omega) steps 0 steps.length (nums l.length) hfl (Nat.le_refl _)
    have := opt hf (moreOf l.length fan) steps.length l.length (takeOf l.length fan) l.length (sortR (rungs 0 l)) ((nums l.length).map fun x => ((x, l.getD x.toNat 0), upFrom l.length 0 steps x)) (by omega) (by rw [sortR_length, rungs_length]; exact t1) (t4 hn) t3 (sortR_sorted _)
      (fun x hx => hw _ (rungs_mem l 0 x ((sortR_perm _).mem_iff.1 hx)))
      (by rw [List.map_map]; refine List.Perm.trans ?_ (sortR_perm _).symm; rw [rungs_nums]; exact List.Perm.refl _)
      (fun d hd => by
        rw [List.map_map] at hd
        obtain ⟨x, _, rfl⟩ := List.mem_map.1 hd
        exact upFrom_le _ _ _ _)
      (by
        have e : ((kr fan steps.length (((nums l.length).map fun x => (((x, l.getD x.toNat 0) : Rung), upFrom l.length 0 steps x)).map (·.2)) : Nat) : Int) = ((nums l.length).map fun x => ((fan ^ (steps.length - upFrom l.length 0 steps x) : Nat) : Int)).sum := by
          rw [List.map_map]
          unfold kr
          rw [List.map_map]
          generalize nums l.length = a
          induction a with
          | nil => rfl
          | cons x a ih => simp only [List.map_cons, List.sum_cons, Int.natCast_add, ih]; rfl
        have := hk
        rw [← e] at this
        exact Int.ofNat_le.1 this)
    rw [costP_nums] at this
    exact this
/-- no plan has fewer steps -/
theorem best_steps {l : List Int} {fan : Nat} {steps : List S51} (hf : 2 ≤ fan) (hp : Plan l.length fan steps) : (gSteps l fan).length ≤ steps.length := by
  have hs := hp.some
  have hfew := hp.few
  rw [gSteps_length hf (by omega)]
  have hfl := flow_of_plan hp
  have h1 := flow_taken l.length fan steps 0 _ hfl
  have h2 := flow_flat_le l.length fan steps 0 _ hfl
  have h3 : (nums l.length).length = l.length := by simp [nums]
  by_cases e : l.length = 1
  · unfold moreOf; rw [if_pos e]; omega
  · obtain ⟨t1, t2, t3, t4⟩ := take_more hf (show 1 ≤ l.length by omega)
    have t4 := t4 (by omega)
    generalize moreOf l.length fan = q at t1 ⊢
    refine Classical.byContradiction fun hc => ?_
    obtain ⟨L, hL⟩ : ∃ L, steps.length = L := ⟨_, rfl⟩
    rw [hL] at hc h1 h2
    obtain ⟨g, rfl⟩ : ∃ g, fan = g + 1 := ⟨fan - 1, by omega⟩
    have h5 : L * g ≤ q * g := Nat.mul_le_mul_right _ (by omega)
    rw [Nat.add_mul, Nat.one_mul, Nat.mul_comm] at h2
    rw [Nat.add_sub_cancel] at t1
    omega
end Go.Proofs.Ytbgabijjnbmghaa.P
/- Plain law: sorted and ground: two queues reckon the greedy cost. -/
namespace Go.Proofs.Ytbgabijjnbmghaa.P
open Go.RowKit Go.Proofs.Ytbgabijjnbmghaa Go.Proofs.YtbgabijjnbmghaaW.PrintWords Go.Proofs.YtbgabijjnbmghaaW.PrintLast Go.Proofs.YtbgabijjnbmghaaW.PrintMore
set_option linter.unusedVariables false
set_option linter.unusedSimpArgs false

abbrev Asc (l : List Int) : Prop := l.Pairwise (· ≤ ·)
/-! ### sorted -/
theorem at_mid (a b : List Int) (x : Int) : (a ++ x :: b).getD a.length 0 = x := by
  rw [List.getD_eq_getElem?_getD, List.getElem?_append_right (Nat.le_refl _), Nat.sub_self]; rfl
theorem swap_mid (a b : List Int) (y x : Int) : ((a ++ y :: x :: b).set (a.length + 1) y).set a.length x = a ++ x :: y :: b := by
  rw [List.set_append_right _ _ (by omega), show a.length + 1 - a.length = 1 by omega]
  show ((a ++ y :: y :: b).set a.length x) = _
  rw [List.set_append_right _ _ (Nat.le_refl _), Nat.sub_self]; rfl
theorem sorted_swap (k : Nat) (l a b : List Int) (y x : Int) (i : Nat) (hb : a.length ≤ 1000000) (h : y > x) :
    milllaw10_sorted.l1 (k + 1) l (a ++ y :: x :: b) i ((a.length + 1 : Nat) : Int) = milllaw10_sorted.l1 k l (a ++ x :: y :: b) i (a.length : Int) := by
  have e1 : ((a.length + 1 : Nat) : Int) > 0 := by omega
  have e2 : (0 : Int) ≤ (a.length : Int) := by omega
  have e3 : (a.length : Int) < ((a ++ y :: x :: b).length : Int) := by rw [List.length_append, List.length_cons, List.length_cons]; omega
  have e4 : (0 : Int) ≤ ((a.length + 1 : Nat) : Int) := by omega
  have e5 : ((a.length + 1 : Nat) : Int) < ((a ++ y :: x :: b).length : Int) := by rw [List.length_append, List.length_cons, List.length_cons]; omega
  have e6 : rd (a ++ y :: x :: b) (a.length : Int) = y := at_mid a (x :: b) y
  have e7 : rd (a ++ y :: x :: b) ((a.length + 1 : Nat) : Int) = x := by
    have := at_mid (a ++ [y]) b x
    rw [List.length_append, List.append_assoc] at this
    exact this
  have e8 : wrap64 (((a.length + 1 : Nat) : Int) - 1) = (a.length : Int) := by rw [w64 _ (by omega) (by omega)]; omega
  rw [milllaw10_sorted.l1, if_pos e1, e8, if_pos e2, if_pos e3, if_pos e4, if_pos e5, e6, e7, if_pos h, Int.toNat_natCast, Int.toNat_natCast, swap_mid]
theorem sorted_stop0 (k : Nat) (l c : List Int) (i : Nat) (hb : i ≤ 1000000) :
    milllaw10_sorted.l1 (k + 1) l c i ((0 : Nat) : Int) = milllaw10_sorted.l0 k l c ((i + 1 : Nat) : Int) := by
  have e1 : ¬ ((0 : Nat) : Int) > 0 := by omega
  rw [milllaw10_sorted.l1, if_neg e1, wS (by omega)]
theorem sorted_stop (k : Nat) (l a b : List Int) (y x : Int) (i : Nat) (hb : a.length ≤ 1000000) (hb2 : i ≤ 1000000) (h : ¬ y > x) :
    milllaw10_sorted.l1 (k + 1) l (a ++ y :: x :: b) i ((a.length + 1 : Nat) : Int) = milllaw10_sorted.l0 k l (a ++ y :: x :: b) ((i + 1 : Nat) : Int) := by
  have e1 : ((a.length + 1 : Nat) : Int) > 0 := by omega
  have e2 : (0 : Int) ≤ (a.length : Int) := by omega
  have e3 : (a.length : Int) < ((a ++ y :: x :: b).length : Int) := by rw [List.length_append, List.length_cons, List.length_cons]; omega
  have e4 : (0 : Int) ≤ ((a.length + 1 : Nat) : Int) := by omega
  have e5 : ((a.length + 1 : Nat) : Int) < ((a ++ y :: x :: b).length : Int) := by rw [List.length_append, List.length_cons, List.length_cons]; omega
  have e6 : rd (a ++ y :: x :: b) (a.length : Int) = y := at_mid a (x :: b) y
  have e7 : rd (a ++ y :: x :: b) ((a.length + 1 : Nat) : Int) = x := by
    have := at_mid (a ++ [y]) b x
    rw [List.length_append, List.append_assoc] at this
    exact this
  have e9 : wrap64 ((i : Int) + 1) = ((i + 1 : Nat) : Int) := wS (by omega)
  have e8 : wrap64 (((a.length + 1 : Nat) : Int) - 1) = (a.length : Int) := by clear e9; rw [w64 _ (by omega) (by omega)]; omega
  rw [milllaw10_sorted.l1, if_pos e1, e8, if_pos e2, if_pos e3, if_pos e4, if_pos e5, e6, e7, if_neg h, e9]
theorem sorted_l1 (l : List Int) (i : Nat) (hi : i ≤ 1000000) (x : Int) (P : List Int → Prop)
    (cont : ∀ c, Asc c → P c → ∃ r, Ev (fun k => milllaw10_sorted.l0 k l c ((i + 1 : Nat) : Int)) r ∧ Asc r ∧ r.Perm l) : ∀ (m : Nat) (a b : List Int), a.length = m → a.length ≤ 1000000 → Asc (a ++ b) → (∀ z ∈ b, x < z) → (∀ c, c.Perm (a ++ x :: b) → P c) → ∃ r, Ev (fun k => milllaw10_sorted.l1 k l (a ++ x :: b) i (a.length : Int)) r ∧ Asc r ∧ r.Perm l
  | 0, a, b, hm, hb, hs, hx, hP => by
    have : a = [] := List.length_eq_zero_iff.1 hm
    subst this
    obtain ⟨r, h1, h2⟩ := cont (x :: b) (List.Pairwise.cons (fun z hz => Int.le_of_lt (hx z hz)) (by simpa using hs)) (hP _ (List.Perm.refl _))
    exact ⟨r, Ev.step (fun k => sorted_stop0 k l (x :: b) i hi) h1, h2⟩
  | m + 1, a, b, hm, hb, hs, hx, hP => by
    obtain ⟨a', y, rfl⟩ : ∃ a' y, a = a' ++ [y] := ⟨a.dropLast, a.getLast (fun h => by rw [h] at hm; simp at hm), (List.dropLast_concat_getLast _).symm⟩
    rw [List.length_append, List.length_singleton] at hm hb
    have e : (a' ++ [y]) ++ x :: b = a' ++ y :: x :: b := by rw [List.append_assoc]; rfl
    rw [e, List.length_append, List.length_singleton]
    by_cases h : y > x
    · obtain ⟨r, h1, h2⟩ := sorted_l1 l i hi x P cont m a' (y :: b) (by omega) (by omega) (by rw [List.append_assoc] at hs; exact hs) (fun z hz => by
        rcases List.mem_cons.1 hz with rfl | hz
        · exact h
        · exact hx z hz) (fun c hc => hP c (hc.trans (by rw [e]; exact List.Perm.append_left _ (List.Perm.swap y x b))))
      exact ⟨r, Ev.step (fun k => sorted_swap k l a' b y x i (by omega) h) h1, h2⟩
    · obtain ⟨r, h1, h2⟩ := cont (a' ++ y :: x :: b) (by
        rw [Asc, List.pairwise_append] at hs ⊢
        rw [List.pairwise_append] at hs
        obtain ⟨⟨p1, p2, p3⟩, p4, p5⟩ := hs
        have hyx : y ≤ x := by omega
        refine ⟨p1, List.Pairwise.cons (fun z hz => ?_) (List.Pairwise.cons (fun z hz => Int.le_of_lt (hx z hz)) p4), fun u hu z hz => ?_⟩
        · rcases List.mem_cons.1 hz with rfl | hz
          · exact hyx
          · have := hx z hz; omega
        · have huy := p3 u hu y (by simp)
          rcases List.mem_cons.1 hz with rfl | hz
          · exact huy
          · rcases List.mem_cons.1 hz with rfl | hz
            · omega
            · have := hx z hz; omega) (hP _ (by rw [e]))
      exact ⟨r, Ev.step (fun k => sorted_stop k l a' b y x i (by omega) hi h) h1, h2⟩
theorem sorted_l0 (l : List Int) (hl : l.length ≤ 65536) : ∀ (d i : Nat) (c : List Int), l.length - i = d → i ≤ l.length → Asc c → c.Perm (l.take i) → ∃ r, Ev (fun k => milllaw10_sorted.l0 k l c i) r ∧ Asc r ∧ r.Perm l
  | 0, i, c, hd, hi, hs, hp => by
    have e1 : ¬ (i : Int) < l.length := by omega
    refine ⟨c, Ev.step (f := fun _ => some c) (fun k => by rw [milllaw10_sorted.l0, if_neg e1]) (Ev.now _), hs, ?_⟩
    rw [List.take_of_length_le (by omega)] at hp
    exact hp
  | d + 1, i, c, hd, hi, hs, hp => by
    have hlt : i < l.length := by omega
    have hcl : c.length = i := by rw [hp.length_eq, List.length_take]; omega
    obtain ⟨r, h1, h2⟩ := sorted_l1 l i (by omega) l[i] (fun c' => c'.Perm (l.take (i + 1))) (fun c' hs' hp' => sorted_l0 l hl d (i + 1) c' (by omega) (by omega) hs' hp') c.length c [] rfl (by omega) (by simpa using hs) (fun z hz => by simp at hz) (fun c' hc => by
      rw [take_succ_at hlt]
      exact hc.trans (hp.append_right _))
    refine ⟨r, Ev.step (fun k => ?_) h1, h2⟩
    have e1 : (i : Int) < l.length := by omega
    have e2 : (0 : Int) ≤ (i : Int) := by omega
    have e3 : c.length < 17592186044416 := by omega
    have e5 : (c ++ [l[i]]).length = c.length + 1 := by rw [List.length_append, List.length_singleton]
    have e4 : wrap64 (((c ++ [l[i]]).length : Int) - 1) = (c.length : Int) := by rw [e5, w64 _ (by omega) (by omega)]; omega
    rw [milllaw10_sorted.l0, if_pos e1, if_pos e2, if_pos e3, rd_getElem hlt]
    simp only [Option.bind_some, e4]
theorem sorted_ev (l : List Int) (hl : l.length ≤ 65536) : ∃ r, Ev (fun k => milllaw10_sorted.f k l) r ∧ Asc r ∧ r.Perm l :=
  sorted_l0 l hl l.length 0 [] rfl (Nat.zero_le _) List.Pairwise.nil (List.Perm.refl _)
/-! ### ground -/
theorem head_min {x y : Int} {u v v' : List Int} (hs : Asc (x :: u)) (hp : (x :: u).Perm v) (hv : v.Perm (y :: v')) (hy : ∀ z ∈ v, y ≤ z) : x = y ∧ u.Perm v' := by
  have hx : x ∈ v := hp.mem_iff.1 (List.mem_cons_self ..)
  have hy2 : y ∈ x :: u := hp.mem_iff.2 (hv.mem_iff.2 (List.mem_cons_self ..))
  have h1 := hy x hx
  have h2 : x ≤ y := by
    rcases List.mem_cons.1 hy2 with rfl | h
    · exact Int.le_refl _
    · exact (List.pairwise_cons.1 hs).1 y h
  have e : x = y := by omega
  subst e
  exact ⟨rfl, (hp.trans hv).cons_inv⟩
theorem ground_w (k : Nat) (W M : List Int) (fan n i j t q : Nat) (c s' : Int) (sm : Int) (hq : q < t) (hi : i < n) (hn : n = W.length) (hb : i ≤ 1000000) (hb2 : q ≤ 1000000) (h : M.length ≤ j ∨ (j < M.length ∧ W.getD i 0 ≤ M.getD j 0)) (hw : wrap64 (sm + W.getD i 0) = s') :
    milllaw10_ground.l1 (k + 1) W fan n M i j c t sm q = milllaw10_ground.l1 k W fan n M ((i + 1 : Nat) : Int) j c t s' ((q + 1 : Nat) : Int) := by
  have e1 : (q : Int) < (t : Int) := by clear hw h; omega
  have e2 : (i : Int) < (n : Int) := by clear hw h; omega
  have e3 : (0 : Int) ≤ (i : Int) := by clear hw h; omega
  have e4 : (i : Int) < (W.length : Int) := by clear hw h; omega
  have e6 : wrap64 ((i : Int) + 1) = ((i + 1 : Nat) : Int) := wS (by clear hw h; omega)
  have e7 : wrap64 ((q : Int) + 1) = ((q + 1 : Nat) : Int) := wS (by clear hw h e6; omega)
  rcases h with h | ⟨h, h2⟩
  · have e5 : (j : Int) ≥ (M.length : Int) := by clear hw e6 e7; omega
    rw [milllaw10_ground.l1, if_pos e1, if_pos e2, if_pos e5, if_pos e3, if_pos e4, rd_nat, hw, e6, e7]
  · have e5 : ¬ (j : Int) ≥ (M.length : Int) := by clear hw e6 e7 h2; omega
    have e8 : (0 : Int) ≤ (j : Int) := by clear hw e6 e7 h2; omega
    have e9 : (j : Int) < (M.length : Int) := by clear hw e6 e7 h2; omega
    rw [milllaw10_ground.l1, if_pos e1, if_pos e2, if_neg e5, if_pos e3, if_pos e4, if_pos e8, if_pos e9, rd_nat, rd_nat, if_pos h2, hw, e6, e7]
theorem ground_m (k : Nat) (W M : List Int) (fan n i j t q : Nat) (c s' : Int) (sm : Int) (hq : q < t) (hn : n = W.length) (hj : j < M.length) (hb : j ≤ 1000000) (hb2 : q ≤ 1000000) (h : n ≤ i ∨ (i < n ∧ ¬ W.getD i 0 ≤ M.getD j 0)) (hw : wrap64 (sm + M.getD j 0) = s') :
    milllaw10_ground.l1 (k + 1) W fan n M i j c t sm q = milllaw10_ground.l1 k W fan n M i ((j + 1 : Nat) : Int) c t s' ((q + 1 : Nat) : Int) := by
  have e1 : (q : Int) < (t : Int) := by clear hw h; omega
  have e3 : (0 : Int) ≤ (j : Int) := by clear hw h; omega
  have e4 : (j : Int) < (M.length : Int) := by clear hw h; omega
  have e6 : wrap64 ((j : Int) + 1) = ((j + 1 : Nat) : Int) := wS (by clear hw h; omega)
  have e7 : wrap64 ((q : Int) + 1) = ((q + 1 : Nat) : Int) := wS (by clear hw h e6; omega)
  rcases h with h | ⟨h, h2⟩
  · have e5 : ¬ (i : Int) < (n : Int) := by clear hw e6 e7; omega
    rw [milllaw10_ground.l1, if_pos e1, if_neg e5, if_pos e3, if_pos e4, rd_nat, hw, e6, e7]
  · have e5 : (i : Int) < (n : Int) := by clear hw e6 e7 h2; omega
    have e8 : (0 : Int) ≤ (i : Int) := by clear hw e6 e7 h2; omega
    have e9 : (i : Int) < (W.length : Int) := by clear hw e6 e7 h2; omega
    have e10 : ¬ (j : Int) ≥ (M.length : Int) := by clear hw e6 e7 h2; omega
    rw [milllaw10_ground.l1, if_pos e1, if_pos e5, if_neg e10, if_pos e8, if_pos e9, if_pos e3, if_pos e4, rd_nat, rd_nat, if_neg h2, hw, e6, e7]
theorem drop_at {l : List Int} {i : Nat} (h : i < l.length) : l.drop i = l.getD i 0 :: l.drop (i + 1) := by
  rw [drop_cons h, List.getD_eq_getElem?_getD, List.getElem?_eq_getElem h]; rfl
theorem asc_drop {l : List Int} (h : Asc l) (i : Nat) : Asc (l.drop i) := h.sublist (List.drop_sublist _ _)
/-- so many are taken off the two queues -/
theorem ground_l1 (W M : List Int) (fan n t : Nat) (c : Int) (hn : n = W.length) (hn2 : n ≤ 100000) (hM : M.length ≤ 100000) (ht : t ≤ 64) (r : Int) : ∀ (d q i j : Nat) (sm : Int) (u : List Int), t - q = d → q ≤ t → Asc u → Asc (W.drop i) → Asc (M.drop j) → u.Perm (W.drop i ++ M.drop j) → d ≤ u.length → (∀ x ∈ u, 0 ≤ x) → 0 ≤ sm → sm + u.sum ≤ 4611686018427387904 →
    (∀ i' j', i ≤ i' → j ≤ j' → (u.drop d).Perm (W.drop i' ++ M.drop j') → i' ≤ n → j' ≤ M.length → Ev (fun k => milllaw10_ground.l1 k W fan n M i' j' c t (sm + (u.take d).sum) t) r) → i ≤ n → j ≤ M.length →
    Ev (fun k => milllaw10_ground.l1 k W fan n M i j c t sm q) r
  | 0, q, i, j, sm, u, hd, hq, hu, hW, hMd, hp, hl, h0, hs0, hsb, cont, hi, hj => by
    have e : q = t := by omega
    subst e
    have := cont i j (Nat.le_refl _) (Nat.le_refl _) (by simpa using hp) hi hj
    simpa using this
  | d + 1, q, i, j, sm, [], hd, hq, hu, hW, hMd, hp, hl, h0, hs0, hsb, cont, hi, hj => by simp at hl
  | d + 1, q, i, j, sm, x :: u, hd, hq, hu, hW, hMd, hp, hl, h0, hs0, hsb, cont, hi, hj => by
    have hu' := (List.pairwise_cons.1 hu).2
    have hx0 := h0 x (List.mem_cons_self ..)
    have hu0 : ∀ y ∈ u, 0 ≤ y := fun y hy => h0 y (List.mem_cons_of_mem _ hy)
    have hsu := sum_nonneg u hu0
    rw [List.sum_cons] at hsb
    have hw : wrap64 (sm + x) = sm + x := w64 _ (by clear cont; omega) (by clear cont; omega)
    have hl' : d ≤ u.length := by simpa using hl
    have cont' : ∀ i1 j1, i ≤ i1 → j ≤ j1 → ∀ i' j', i1 ≤ i' → j1 ≤ j' → (u.drop d).Perm (W.drop i' ++ M.drop j') → i' ≤ n → j' ≤ M.length → Ev (fun k => milllaw10_ground.l1 k W fan n M i' j' c t (sm + x + (u.take d).sum) t) r := fun i1 j1 a1 a2 i' j' h1 h2 h3 h4 h5 => by
      have := cont i' j' (Nat.le_trans a1 h1) (Nat.le_trans a2 h2) h3 h4 h5
      rw [List.take_succ_cons, List.sum_cons, ← Int.add_assoc] at this
      exact this
    have hqt : q < t := by clear cont cont' hw; omega
    have goW : i < n → (M.length ≤ j ∨ (j < M.length ∧ W.getD i 0 ≤ M.getD j 0)) → Ev (fun k => milllaw10_ground.l1 k W fan n M i j c t sm q) r := fun hin h => by
      have ed : W.drop i = W.getD i 0 :: W.drop (i + 1) := drop_at (by rw [← hn]; exact hin)
      obtain ⟨e1, e2⟩ := head_min (y := W.getD i 0) (v' := W.drop (i + 1) ++ M.drop j) hu hp (by rw [ed]; exact List.Perm.refl _) (fun z hz => by
        rw [ed] at hz hW
        rcases List.mem_append.1 hz with hz | hz
        · rcases List.mem_cons.1 hz with rfl | hz
          · exact Int.le_refl _
          · exact (List.pairwise_cons.1 hW).1 z hz
        · rcases h with h | ⟨h, h2⟩
          · rw [List.drop_of_length_le h] at hz; simp at hz
          · rw [drop_at h] at hz hMd
            rcases List.mem_cons.1 hz with rfl | hz
            · exact h2
            · exact Int.le_trans h2 ((List.pairwise_cons.1 hMd).1 z hz))
      refine Ev.step (fun k => ground_w k W M fan n i j t q c (sm + x) sm hqt hin hn (by clear cont cont' hw h; omega) (by clear cont cont' hw h; omega) h (by rw [← e1]; exact hw)) ?_
      refine ground_l1 W M fan n t c hn hn2 hM ht r d (q + 1) (i + 1) j (sm + x) u (by clear cont cont' hw h; omega) hqt hu' ?_ hMd e2 hl' hu0 (by clear cont cont' hw h; omega) (by clear cont cont' hw h; omega) (cont' (i + 1) j (Nat.le_succ _) (Nat.le_refl _)) hin hj
      rw [ed] at hW; exact (List.pairwise_cons.1 hW).2
    have goM : j < M.length → (n ≤ i ∨ (i < n ∧ ¬ W.getD i 0 ≤ M.getD j 0)) → Ev (fun k => milllaw10_ground.l1 k W fan n M i j c t sm q) r := fun hjn h => by
      have ed : M.drop j = M.getD j 0 :: M.drop (j + 1) := drop_at hjn
      obtain ⟨e1, e2⟩ := head_min (y := M.getD j 0) (v' := W.drop i ++ M.drop (j + 1)) hu hp (by rw [ed]; exact List.perm_middle) (fun z hz => by
        rw [ed] at hz hMd
        rcases List.mem_append.1 hz with hz | hz
        · rcases h with h | ⟨h, h2⟩
          · rw [List.drop_of_length_le (by rw [← hn]; exact h)] at hz; simp at hz
          · rw [drop_at (by rw [← hn]; exact h)] at hz hW
            have h3 := Int.le_of_lt (Int.not_le.1 h2)
            rcases List.mem_cons.1 hz with rfl | hz
            · exact h3
            · exact Int.le_trans h3 ((List.pairwise_cons.1 hW).1 z hz)
        · rcases List.mem_cons.1 hz with rfl | hz
          · exact Int.le_refl _
          · exact (List.pairwise_cons.1 hMd).1 z hz)
      refine Ev.step (fun k => ground_m k W M fan n i j t q c (sm + x) sm hqt hn hjn (by clear cont cont' hw h; omega) (by clear cont cont' hw h; omega) h (by rw [← e1]; exact hw)) ?_
      refine ground_l1 W M fan n t c hn hn2 hM ht r d (q + 1) i (j + 1) (sm + x) u (by clear cont cont' hw h; omega) hqt hu' hW ?_ e2 hl' hu0 (by clear cont cont' hw h; omega) (by clear cont cont' hw h; omega) (cont' i (j + 1) (Nat.le_refl _) (Nat.le_succ _)) hi hjn
      rw [ed] at hMd; exact (List.pairwise_cons.1 hMd).2
    by_cases hin : i < n
    · by_cases hjn : j < M.length
      · by_cases hc : W.getD i 0 ≤ M.getD j 0
        · exact goW hin (.inr ⟨hjn, hc⟩)
        · exact goM hjn (.inr ⟨hin, hc⟩)
      · exact goW hin (.inl (Nat.not_lt.1 hjn))
    · by_cases hjn : j < M.length
      · exact goM hjn (.inl (Nat.not_lt.1 hin))
      · have := hp.length_eq
        rw [List.length_append, List.length_drop, List.length_drop, List.length_cons] at this
        clear cont cont' hw goW goM
        omega
theorem ground_test {n i j m : Nat} (hi : i ≤ n) (hj : j ≤ m) (hn : n ≤ 1000000) (hm : m ≤ 1000000) : wrap64 (wrap64 (wrap64 ((n : Int) - (i : Int)) + (m : Int)) - (j : Int)) = ((n - i + (m - j) : Nat) : Int) := by
  rw [w64 ((n : Int) - (i : Int)) (by omega) (by omega), w64 ((n : Int) - (i : Int) + (m : Int)) (by omega) (by omega), w64 _ (by omega) (by omega)]
  omega
theorem ground_end (W M : List Int) (fan n i j t : Nat) (c : Int) (hi : i ≤ n) (hj : j ≤ M.length) (hn : n ≤ 1000000) (hm : M.length ≤ 1000000) (h : n - i + (M.length - j) ≤ 1) : Ev (fun k => milllaw10_ground.l0 k W fan n M i j c t) c := by
  refine Ev.step (f := fun _ => some c) (fun k => ?_) (Ev.now _)
  have e : ¬ ((n - i + (M.length - j) : Nat) : Int) > 1 := by omega
  rw [milllaw10_ground.l0, ground_test hi hj hn hm, if_neg e]
theorem ground_go (W M : List Int) (fan n i j t : Nat) (c r : Int) (hi : i ≤ n) (hj : j ≤ M.length) (hn : n ≤ 1000000) (hm : M.length ≤ 1000000) (h : 1 < n - i + (M.length - j)) (cont : Ev (fun k => milllaw10_ground.l1 k W fan n M i j c t 0 ((0 : Nat) : Int)) r) : Ev (fun k => milllaw10_ground.l0 k W fan n M i j c t) r := by
  refine Ev.step (fun k => ?_) cont
  have e : ((n - i + (M.length - j) : Nat) : Int) > 1 := by omega
  rw [milllaw10_ground.l0, ground_test hi hj hn hm, if_pos e]
  rfl
theorem ground_back (W M : List Int) (fan n i j t : Nat) (c S r : Int) (hm : M.length ≤ 1000000) (hw : wrap64 (c + S) = c + S) (cont : Ev (fun k => milllaw10_ground.l0 k W fan n (M ++ [S]) i j (c + S) fan) r) : Ev (fun k => milllaw10_ground.l1 k W fan n M i j c t S t) r := by
  refine Ev.step (fun k => ?_) cont
  have e : ¬ (t : Int) < (t : Int) := by clear hw; omega
  have e2 : M.length < 17592186044416 := by clear hw; omega
  rw [milllaw10_ground.l1, if_neg e, if_pos e2, hw]
theorem sumW_le : ∀ (l : List Rung) (b : Int), (∀ x ∈ l, x.2 ≤ b) → sumW l ≤ l.length * b
  | [], b, h => by simp [sumW]
  | x :: l, b, h => by
    have h1 := h x (List.mem_cons_self ..)
    have h2 := sumW_le l b (fun y hy => h y (List.mem_cons_of_mem _ hy))
    rw [sumW_cons, List.length_cons, show (((l.length + 1 : Nat) : Int)) = (l.length : Int) + 1 from by omega, Int.add_mul]
    omega
theorem le_sumW : ∀ (l : List Rung) (b : Int), (∀ x ∈ l, b ≤ x.2) → l.length * b ≤ sumW l
  | [], b, h => by simp [sumW]
  | x :: l, b, h => by
    have h1 := h x (List.mem_cons_self ..)
    have h2 := le_sumW l b (fun y hy => h y (List.mem_cons_of_mem _ hy))
    rw [sumW_cons, List.length_cons, show (((l.length + 1 : Nat) : Int)) = (l.length : Int) + 1 from by omega, Int.add_mul]
    omega
/-- between what is taken and what stays -/
theorem parting {s : List Rung} (hs : Sorted s) {t : Nat} (h1 : 1 ≤ t) (h2 : t ≤ s.length) (h0 : ∀ x ∈ s, 0 ≤ x.2) : ∃ p : Int, 0 ≤ p ∧ (∀ x ∈ s.take t, x.2 ≤ p) ∧ (∀ x ∈ s.drop t, p ≤ x.2) ∧ p ≤ sumW (s.take t) := by
  obtain ⟨t, rfl⟩ : ∃ t', t = t' + 1 := ⟨t - 1, by omega⟩
  have hlt : t < s.length := by omega
  have e : s.take (t + 1) = s.take t ++ [s[t]] := by rw [List.take_add_one, List.getElem?_eq_getElem hlt]; rfl
  have hm : s[t] ∈ s := List.getElem_mem hlt
  have hp : (s.take (t + 1) ++ s.drop (t + 1)).Pairwise le := by rw [List.take_append_drop]; exact hs
  obtain ⟨p1, p2, p3⟩ := List.pairwise_append.1 hp
  rw [e, List.pairwise_append] at p1
  refine ⟨(s[t]).2, h0 _ hm, fun x hx => ?_, fun x hx => ?_, ?_⟩
  · rw [e] at hx
    rcases List.mem_append.1 hx with hx | hx
    · have := p1.2.2 x hx s[t] (by simp)
      unfold le at this; omega
    · rw [List.mem_singleton.1 hx]; exact Int.le_refl _
  · have := p3 s[t] (by rw [e]; exact List.mem_append_right _ (List.mem_cons_self ..)) x hx
    unfold le at this; omega
  · rw [e, sumW_append, sumW_cons]
    have h3 := sumW_nonneg (s.take t) (fun y hy => h0 y (List.mem_of_mem_take hy))
    have h4 : sumW ([] : List Rung) = 0 := rfl
    omega
theorem map_take_sum (s : List Rung) (t : Nat) : ((s.map (·.2)).take t).sum = sumW (s.take t) := by
  unfold sumW; rw [List.map_take]
theorem sorted_asc {s : List Rung} (h : Sorted s) : Asc (s.map (·.2)) :=
  List.Pairwise.map _ (fun a b (hab : le a b) => by unfold le at hab; omega) h
theorem ground_l0 (W : List Int) (fan n : Nat) (hW : Asc W) (hn : n = W.length) (hn2 : n ≤ 65536) (hf : 2 ≤ fan) (hf2 : fan ≤ 64) (T : Int) (hT : T ≤ 70368744177664) : ∀ (q f t : Nat) (s : List Rung) (M : List Int) (i j m : Nat) (c p : Int), q < f → s.length = t + q * (fan - 1) → 2 ≤ t → t ≤ fan → (t = fan ∨ M = []) → Sorted s → (s.map (·.2)).Perm (W.drop i ++ M.drop j) → Asc (M.drop j) → (∀ x ∈ s, 0 ≤ x.2) → sumW s = T → (∀ x ∈ M.drop j, x ≤ fan * p) → (∀ x ∈ s, p ≤ x.2) → 0 ≤ p → i ≤ n → j ≤ M.length → 0 ≤ c → c ≤ M.length * 70368744177664 → M.length + q ≤ 66000 →
    Ev (fun k => milllaw10_ground.l0 k W fan n M i j c t) (c + gCost fan f t s m) := by
  intro q
  induction q with
  | zero =>
    intro f t s M i j m c p hq hl h2 ht htf hs hp hM hw hsum hMp hsp hp0 hi hj hc0 hc hb
    obtain ⟨f, rfl⟩ : ∃ f', f = f' + 1 := ⟨f - 1, by omega⟩
    have hlen := hp.length_eq
    rw [List.length_map, List.length_append, List.length_drop, List.length_drop] at hlen
    have hs0 := sumW_nonneg (s.take t) (fun y hy => hw y (List.mem_of_mem_take hy))
    have hspl := sumW_split s t
    have hs1 := sumW_nonneg (s.drop t) (fun y hy => hw y (List.mem_of_mem_drop hy))
    have hone : (insR ((m : Int), sumW (s.take t)) (s.drop t)).length ≤ 1 := by rw [insR_length, List.length_drop]; omega
    rw [gCost, if_pos (by omega), gCost_one _ _ _ _ _ hone, Int.add_zero]
    refine ground_go W M fan n i j t c _ hi hj (by omega) (by omega) (by omega) ?_
    refine ground_l1 W M fan n t c hn (by omega) (by omega) (by omega) _ t 0 i j 0 (s.map (·.2)) rfl (Nat.zero_le _) (sorted_asc hs) (asc_drop hW i) hM hp (by rw [List.length_map]; omega) (fun x hx => by
      obtain ⟨y, hy, rfl⟩ := List.mem_map.1 hx; exact hw y hy) (Int.le_refl _) (by show 0 + sumW s ≤ _; omega) (fun i' j' hi1 hj1 hpp hi2 hj2 => ?_) hi hj
    rw [map_take_sum, Int.zero_add]
    refine ground_back W M fan n i' j' t c (sumW (s.take t)) _ (by omega) (w64 _ (by omega) (by omega)) ?_
    have hl2 := hpp.length_eq
    rw [List.length_drop, List.length_map, List.length_append, List.length_drop, List.length_drop] at hl2
    exact ground_end W _ fan n i' j' fan _ hi2 (by rw [List.length_append]; omega) (by omega) (by rw [List.length_append, List.length_singleton]; omega) (by rw [List.length_append, List.length_singleton]; omega)
  | succ q ih =>
    intro f t s M i j m c p hq hl h2 ht htf hs hp hM hw hsum hMp hsp hp0 hi hj hc0 hc hb
    obtain ⟨f, rfl⟩ : ∃ f', f = f' + 1 := ⟨f - 1, by omega⟩
    have hlen := hp.length_eq
    rw [List.length_map, List.length_append, List.length_drop, List.length_drop] at hlen
    have htl : (s.take t).length = t := by rw [List.length_take]; omega
    have hs0 := sumW_nonneg (s.take t) (fun y hy => hw y (List.mem_of_mem_take hy))
    have hspl := sumW_split s t
    have hs1 := sumW_nonneg (s.drop t) (fun y hy => hw y (List.mem_of_mem_drop hy))
    obtain ⟨p', g0, g1, g2, g3⟩ := parting hs (t := t) (by omega) (by omega) hw
    rw [gCost, if_pos (by omega), ← Int.add_assoc]
    refine ground_go W M fan n i j t c _ hi hj (by omega) (by omega) (by omega) ?_
    refine ground_l1 W M fan n t c hn (by omega) (by omega) (by omega) _ t 0 i j 0 (s.map (·.2)) rfl (Nat.zero_le _) (sorted_asc hs) (asc_drop hW i) hM hp (by rw [List.length_map]; omega) (fun x hx => by
      obtain ⟨y, hy, rfl⟩ := List.mem_map.1 hx; exact hw y hy) (Int.le_refl _) (by show 0 + sumW s ≤ _; omega) (fun i' j' hi1 hj1 hpp hi2 hj2 => ?_) hi hj
    rw [map_take_sum, Int.zero_add]
    refine ground_back W M fan n i' j' t c (sumW (s.take t)) _ (by omega) (w64 _ (by omega) (by omega)) ?_
    have edrop : (M ++ [sumW (s.take t)]).drop j' = M.drop j' ++ [sumW (s.take t)] := List.drop_append_of_le_length hj2
    have hsub : ∀ x ∈ M.drop j', x ∈ M.drop j := fun x hx => by
      have e : M.drop j' = (M.drop j).drop (j' - j) := by rw [List.drop_drop, show j + (j' - j) = j' by omega]
      rw [e] at hx; exact List.mem_of_mem_drop hx
    have hMS : ∀ x ∈ M.drop j', x ≤ sumW (s.take t) := fun x hx => by
      rcases htf with e | e
      · have h5 := le_sumW (s.take t) p (fun y hy => hsp y (List.mem_of_mem_take hy))
        rw [htl, e] at h5
        have := hMp x (hsub x hx)
        rw [e]; omega
      · rw [e] at hx; simp at hx
    have hSp : sumW (s.take t) ≤ fan * p' := by
      have h5 := sumW_le (s.take t) p' g1
      rw [htl] at h5
      have h6 : (t : Int) * p' ≤ (fan : Int) * p' := Int.mul_le_mul_of_nonneg_right (by omega) g0
      omega
    refine ih f fan (insR ((m : Int), sumW (s.take t)) (s.drop t)) (M ++ [sumW (s.take t)]) i' j' (m + 1) (c + sumW (s.take t)) p' (by omega) (by rw [insR_length, List.length_drop, hl, Nat.succ_mul]; omega) hf (Nat.le_refl _) (.inl rfl) (insR_sorted _ _ (hs.sublist (List.drop_sublist _ _))) ?_ ?_ ?_ ?_ ?_ ?_ g0 hi2 (by rw [List.length_append]; omega) (by omega) ?_ (by rw [List.length_append, List.length_singleton]; omega)
    · rw [edrop]
      refine ((insR_perm _ _).map (·.2)).trans ?_
      rw [List.map_cons, List.map_drop]
      refine (hpp.cons _).trans ?_
      rw [← List.append_assoc]
      exact (List.perm_append_singleton _ _).symm
    · rw [edrop, Asc, List.pairwise_append]
      refine ⟨?_, List.pairwise_singleton _ _, fun x hx y hy => by rw [List.mem_singleton.1 hy]; exact hMS x hx⟩
      have e : M.drop j' = (M.drop j).drop (j' - j) := by rw [List.drop_drop, show j + (j' - j) = j' by omega]
      rw [e]; exact asc_drop hM _
    · intro x hx
      rcases List.mem_cons.1 ((insR_perm _ _).mem_iff.1 hx) with rfl | hx
      · exact hs0
      · exact hw x (List.mem_of_mem_drop hx)
    · rw [sumW_insR]; simp only; omega
    · intro x hx
      rw [edrop] at hx
      rcases List.mem_append.1 hx with hx | hx
      · have := hMS x hx; omega
      · rw [List.mem_singleton.1 hx]; exact hSp
    · intro x hx
      rcases List.mem_cons.1 ((insR_perm _ _).mem_iff.1 hx) with rfl | hx
      · exact g3
      · exact g2 x hx
    · rw [List.length_append, List.length_singleton, show ((M.length + 1 : Nat) : Int) = (M.length : Int) + 1 from by omega, Int.add_mul]
      omega
theorem ground_ev {l r : List Int} {fan : Nat} (hf : 2 ≤ fan) (hf2 : fan ≤ 64) (hn1 : 1 ≤ l.length) (hn : l.length ≤ 65536) (hw : ∀ x ∈ l, okW x) (hr : Asc r) (hp : r.Perm l) : Ev (fun k => milllaw10_ground.f k r fan) (costOf l (gSteps l fan)) := by
  have hlen := hp.length_eq
  unfold milllaw10_ground.f
  by_cases h1 : r.length = 1
  · have e1 : (r.length : Int) = 1 := by omega
    have e2 : (0 : Int) < (r.length : Int) := by omega
    simp only [if_pos e1, if_pos e2]
    obtain ⟨x, rfl⟩ := List.length_eq_one_iff.1 h1
    have hl : l = [x] := List.perm_singleton.1 hp.symm
    subst hl
    have e : costOf [x] (gSteps [x] fan) = x := by
      unfold gSteps; rw [if_pos (show [x].length = 1 from rfl)]
      simp [costOf, sumAt]
    rw [e]
    exact Ev.now _
  · have e1 : ¬ (r.length : Int) = 1 := by omega
    have e2 : ¬ (wrap64 ((fan : Int) - 1) = 0) := by rw [w64 _ (by omega) (by omega)]; omega
    simp only [if_neg e1, if_neg e2]
    have e3 : wrap64 (2 + Int.tmod (wrap64 ((r.length : Int) - 2)) (wrap64 ((fan : Int) - 1))) = ((takeOf l.length fan : Nat) : Int) := by
      clear e2
      have a1 : wrap64 ((r.length : Int) - 2) = ((r.length - 2 : Nat) : Int) := by rw [w64 _ (by omega) (by omega)]; omega
      rw [a1]
      clear a1
      have a2 : wrap64 ((fan : Int) - 1) = ((fan - 1 : Nat) : Int) := by rw [w64 _ (by omega) (by omega)]; omega
      rw [a2]
      clear a2
      rw [Int.tmod_eq_emod_of_nonneg (Int.natCast_nonneg _), ← Int.natCast_emod, hlen]
      have a3 := Nat.mod_lt (l.length - 2) (show fan - 1 > 0 by omega)
      unfold takeOf
      rw [if_neg (by omega)]
      generalize (l.length - 2) % (fan - 1) = z at a3
      rw [w64 _ (by omega) (by omega)]; omega
    rw [e3]
    obtain ⟨t1, t2, t3, t4⟩ := take_more hf hn1
    have hq : moreOf l.length fan ≤ moreOf l.length fan * (fan - 1) := Nat.le_mul_of_pos_right _ (by omega)
    have htk : takeOf l.length fan = 2 + (l.length - 2) % (fan - 1) := by unfold takeOf; rw [if_neg (by omega)]
    rw [gSteps_cost (by omega), ← htk]
    have hsum : sumW (sortR (rungs 0 l)) ≤ 70368744177664 := by
      rw [sumW_perm (sortR_perm _), sumW_rungs]
      have := sum_bound l 1073741824 (fun x hx => (hw x hx).2)
      have h6 : (l.length : Int) * 1073741824 ≤ 65536 * 1073741824 := Int.mul_le_mul_of_nonneg_right (by omega) (by omega)
      omega
    have hmem : ∀ x ∈ sortR (rungs 0 l), 0 ≤ x.2 := fun x hx => (hw _ (rungs_mem l 0 x ((sortR_perm _).mem_iff.1 hx))).1
    have hmap : ((sortR (rungs 0 l)).map (·.2)).Perm l := by
      refine ((sortR_perm _).map _).trans ?_
      have : ∀ (a : List Int) (i : Nat), (rungs i a).map (·.2) = a := fun a => by
        induction a with
        | nil => intro i; rfl
        | cons w a ih => intro i; rw [rungs, List.map_cons, ih]
      rw [this]
    have := ground_l0 r fan r.length hr rfl (by omega) hf hf2 _ hsum (moreOf l.length fan) l.length (takeOf l.length fan) (sortR (rungs 0 l)) [] 0 0 l.length 0 0 (by omega) (by rw [sortR_length, rungs_length]; exact t1) (t4 (by omega)) t3 (.inr rfl) (sortR_sorted _) (by simpa using hmap.trans hp.symm) List.Pairwise.nil hmem rfl (fun x hx => by simp at hx) hmem (Int.le_refl _) (Nat.zero_le _) (Nat.le_refl _) (Int.le_refl _) (by simp) (by simp; omega)
    rw [Int.zero_add] at this
    exact Ev.congr (fun k => rfl) this
/-! ### never below the sum -/
theorem upFrom_pos (n : Nat) : ∀ (l : List S51) (s : Nat) (x : Int), x ∈ flat l → 1 ≤ upFrom n s l x
  | [], s, x, h => by simp [flat] at h
  | st :: r, s, x, h => by
    rw [upFrom]
    by_cases h1 : x ∈ st.f0
    · rw [if_pos h1]; omega
    · rw [if_neg h1]
      rw [flat_cons] at h
      rcases List.mem_append.1 h with h | h
      · exact absurd h h1
      · exact upFrom_pos n r (s + 1) x h
theorem cost_ge_sum {l : List Int} {fan : Nat} {steps : List S51} (hw : ∀ x ∈ l, 0 ≤ x) (hp : Plan l.length fan steps) : l.sum ≤ costOf l steps := by
  have hs := hp.some
  rw [← flow_cost l.length fan steps 0 (nums l.length) l (flow_of_plan hp) rfl]
  have e : l.sum = ((nums l.length).map fun x => l.getD x.toNat 0).sum := by
    have := sumAt_nums l l.length (Nat.le_refl _)
    rw [List.take_length] at this
    exact this.symm
  rw [e]
  have hall : ∀ x ∈ nums l.length, l.getD x.toNat 0 ≤ l.getD x.toNat 0 * (upFrom l.length 0 steps x : Int) := fun x hx => by
    have h1 := nums_mem.1 hx
    have h2 := hp.all x.toNat (by omega)
    rw [show ((x.toNat : Nat) : Int) = x by omega] at h2
    have h3 := upFrom_pos l.length steps 0 x h2
    have h4 : 0 ≤ l.getD x.toNat 0 := by
      rw [List.getD_eq_getElem?_getD, List.getElem?_eq_getElem (by omega)]; exact hw _ (List.getElem_mem _)
    have h5 : l.getD x.toNat 0 * 1 ≤ l.getD x.toNat 0 * (upFrom l.length 0 steps x : Int) := Int.mul_le_mul_of_nonneg_left (by omega) h4
    rw [Int.mul_one] at h5
    exact h5
  generalize nums l.length = a at hall
  induction a with
  | nil => exact Int.le_refl _
  | cons x a ih =>
    have h1 := hall x (List.mem_cons_self ..)
    have h2 := ih (fun y hy => hall y (List.mem_cons_of_mem _ hy))
    rw [List.map_cons, List.sum_cons, List.map_cons, List.sum_cons]
    omega
theorem cost_one {l : List Int} {fan : Nat} {steps : List S51} (hp : Plan l.length fan steps) (h1 : steps.length = 1) : costOf l steps = l.sum := by
  obtain ⟨st, rfl⟩ := List.length_eq_one_iff.1 h1
  obtain ⟨R, a1, a2, a3, a4, a5, a5b, a6⟩ := flow_of_plan hp
  rw [Flow] at a6
  have hR : R = [] := by injection a6
  rw [hR, List.append_nil] at a1
  rw [costOf, costOf, Int.add_zero]
  have e2 : sumAt l st.f0 = sumAt l (nums l.length) := (sum_map_perm _ a1).symm
  rw [e2, sumAt_nums l _ (Nat.le_refl _), List.take_length]
theorem planFrom_wider {n fan fan2 : Nat} (h : fan ≤ fan2) : ∀ (l : List S51) (s : Nat) (xs : List Int), PlanFrom n fan s l xs → PlanFrom n fan2 s l xs
  | [], _, _, _ => trivial
  | st :: r, s, xs, ⟨⟨f1, f2, f3, f4⟩, h2, h3, h4, h5⟩ => ⟨⟨f1, f2, by omega, f4⟩, h2, h3, h4, planFrom_wider h r (s + 1) _ h5⟩
theorem plan_wider {n fan fan2 : Nat} (h : fan ≤ fan2) {l : List S51} (hp : Plan n fan l) : Plan n fan2 l := ⟨hp.some, hp.few, planFrom_wider h l 0 [] hp.steps, hp.all⟩
end Go.Proofs.Ytbgabijjnbmghaa.P
/- Plain law: the reference's Make answers the greedy steps. -/
namespace Go.Proofs.Ytbgabijjnbmghaa.P
open Go.RowKit Go.Proofs.Ytbgabijjnbmghaa Go.Proofs.YtbgabijjnbmghaaW.PrintWords Go.Proofs.YtbgabijjnbmghaaW.PrintLast Go.Proofs.YtbgabijjnbmghaaW.PrintMore
set_option linter.unusedVariables false
set_option linter.unusedSimpArgs false

theorem asc_unique : ∀ (a b : List Int), Asc a → Asc b → a.Perm b → a = b
  | [], b, ha, hb, hp => (List.nil_perm.1 hp).symm
  | x :: a, [], ha, hb, hp => absurd (List.perm_nil.1 hp) (by simp)
  | x :: a, y :: b, ha, hb, hp => by
    obtain ⟨e1, e2⟩ := head_min (v' := b) ha hp (List.Perm.refl _) (fun z hz => by
      rcases List.mem_cons.1 hz with rfl | hz
      · exact Int.le_refl _
      · exact (List.pairwise_cons.1 hb).1 z hz)
    rw [e1, asc_unique a b (List.pairwise_cons.1 ha).2 (List.pairwise_cons.1 hb).2 e2]
/-! ### put -/
theorem put_swap (k : Nat) (a b : List Int) (y x : Int) (hb : a.length ≤ 1000000) (h : y > x) :
    millref10_put.l0 (k + 1) (a ++ y :: x :: b) ((a.length + 1 : Nat) : Int) = millref10_put.l0 k (a ++ x :: y :: b) (a.length : Int) := by
  have e1 : ((a.length + 1 : Nat) : Int) > 0 := by omega
  have e2 : (0 : Int) ≤ (a.length : Int) := by omega
  have e3 : (a.length : Int) < ((a ++ y :: x :: b).length : Int) := by rw [List.length_append, List.length_cons, List.length_cons]; omega
  have e4 : (0 : Int) ≤ ((a.length + 1 : Nat) : Int) := by omega
  have e5 : ((a.length + 1 : Nat) : Int) < ((a ++ y :: x :: b).length : Int) := by rw [List.length_append, List.length_cons, List.length_cons]; omega
  have e6 : rd (a ++ y :: x :: b) (a.length : Int) = y := at_mid a (x :: b) y
  have e7 : rd (a ++ y :: x :: b) ((a.length + 1 : Nat) : Int) = x := by
    have := at_mid (a ++ [y]) b x
    rw [List.length_append, List.append_assoc] at this
    exact this
  have e8 : wrap64 (((a.length + 1 : Nat) : Int) - 1) = (a.length : Int) := by rw [w64 _ (by omega) (by omega)]; omega
  rw [millref10_put.l0, if_pos e1, e8, if_pos e2, if_pos e3, if_pos e4, if_pos e5, e6, e7, if_pos h, Int.toNat_natCast, Int.toNat_natCast, swap_mid]
theorem put_stop (k : Nat) (a b : List Int) (y x : Int) (hb : a.length ≤ 1000000) (h : ¬ y > x) :
    millref10_put.l0 (k + 1) (a ++ y :: x :: b) ((a.length + 1 : Nat) : Int) = some (a ++ y :: x :: b) := by
  have e1 : ((a.length + 1 : Nat) : Int) > 0 := by omega
  have e2 : (0 : Int) ≤ (a.length : Int) := by omega
  have e3 : (a.length : Int) < ((a ++ y :: x :: b).length : Int) := by rw [List.length_append, List.length_cons, List.length_cons]; omega
  have e4 : (0 : Int) ≤ ((a.length + 1 : Nat) : Int) := by omega
  have e5 : ((a.length + 1 : Nat) : Int) < ((a ++ y :: x :: b).length : Int) := by rw [List.length_append, List.length_cons, List.length_cons]; omega
  have e6 : rd (a ++ y :: x :: b) (a.length : Int) = y := at_mid a (x :: b) y
  have e7 : rd (a ++ y :: x :: b) ((a.length + 1 : Nat) : Int) = x := by
    have := at_mid (a ++ [y]) b x
    rw [List.length_append, List.append_assoc] at this
    exact this
  have e8 : wrap64 (((a.length + 1 : Nat) : Int) - 1) = (a.length : Int) := by rw [w64 _ (by omega) (by omega)]; omega
  rw [millref10_put.l0, if_pos e1, e8, if_pos e2, if_pos e3, if_pos e4, if_pos e5, e6, e7, if_neg h]
theorem put_l0 (x : Int) : ∀ (m : Nat) (a b : List Int), a.length = m → a.length ≤ 1000000 → Asc (a ++ b) → (∀ z ∈ b, x < z) → ∃ r, Ev (fun k => millref10_put.l0 k (a ++ x :: b) (a.length : Int)) r ∧ Asc r ∧ r.Perm (a ++ x :: b)
  | 0, a, b, hm, hb, hs, hx => by
    have : a = [] := List.length_eq_zero_iff.1 hm
    subst this
    have e1 : ¬ ((0 : Nat) : Int) > 0 := by omega
    exact ⟨x :: b, Ev.step (f := fun _ => some (x :: b)) (fun k => by show millref10_put.l0 (k + 1) (x :: b) ((0 : Nat) : Int) = _; rw [millref10_put.l0, if_neg e1]) (Ev.now _), List.Pairwise.cons (fun z hz => Int.le_of_lt (hx z hz)) (by simpa using hs), List.Perm.refl _⟩
  | m + 1, a, b, hm, hb, hs, hx => by
    obtain ⟨a', y, rfl⟩ : ∃ a' y, a = a' ++ [y] := ⟨a.dropLast, a.getLast (fun h => by rw [h] at hm; simp at hm), (List.dropLast_concat_getLast _).symm⟩
    rw [List.length_append, List.length_singleton] at hm hb
    have e : (a' ++ [y]) ++ x :: b = a' ++ y :: x :: b := by rw [List.append_assoc]; rfl
    rw [e, List.length_append, List.length_singleton]
    by_cases h : y > x
    · obtain ⟨r, h1, h2, h3⟩ := put_l0 x m a' (y :: b) (by omega) (by omega) (by rw [List.append_assoc] at hs; exact hs) (fun z hz => by
        rcases List.mem_cons.1 hz with rfl | hz
        · exact h
        · exact hx z hz)
      exact ⟨r, Ev.step (fun k => put_swap k a' b y x (by omega) h) h1, h2, h3.trans (List.Perm.append_left _ (List.Perm.swap y x b))⟩
    · refine ⟨a' ++ y :: x :: b, Ev.step (f := fun _ => some (a' ++ y :: x :: b)) (fun k => put_stop k a' b y x (by omega) h) (Ev.now _), ?_, List.Perm.refl _⟩
      rw [Asc, List.pairwise_append] at hs ⊢
      rw [List.pairwise_append] at hs
      obtain ⟨⟨p1, p2, p3⟩, p4, p5⟩ := hs
      have hyx : y ≤ x := by omega
      refine ⟨p1, List.Pairwise.cons (fun z hz => ?_) (List.Pairwise.cons (fun z hz => Int.le_of_lt (hx z hz)) p4), fun u hu z hz => ?_⟩
      · rcases List.mem_cons.1 hz with rfl | hz
        · exact hyx
        · have := hx z hz; omega
      · have huy := p3 u hu y (by simp)
        rcases List.mem_cons.1 hz with rfl | hz
        · exact huy
        · rcases List.mem_cons.1 hz with rfl | hz
          · omega
          · have := hx z hz; omega
theorem put_ev (l : List Int) (x : Int) (hl : l.length ≤ 1000000) (hs : Asc l) : ∃ r, Ev (fun k => millref10_put.f k l x) r ∧ Asc r ∧ r.Perm (l ++ [x]) := by
  obtain ⟨r, h1, h2, h3⟩ := put_l0 x l.length l [] rfl hl (by simpa using hs) (fun z hz => by simp at hz)
  refine ⟨r, Ev.congr (fun k => ?_) h1, h2, h3⟩
  have e1 : l.length < 17592186044416 := by omega
  have e2 : (l ++ [x]).length = l.length + 1 := by rw [List.length_append, List.length_singleton]
  have e3 : wrap64 (((l ++ [x]).length : Int) - 1) = (l.length : Int) := by rw [e2, w64 _ (by omega) (by omega)]; omega
  unfold millref10_put.f
  rw [if_pos e1]
  simp only [Option.bind_some, e3]
/-! ### lightest -/
/-- the best among the first i -/
def BestAt (all : List Int) (i : Nat) (b : Int) : Prop :=
  (b = -1 ∧ ∀ j, j < i → all.getD j 0 < 0) ∨ ∃ B : Nat, b = B ∧ B < i ∧ 0 ≤ all.getD B 0 ∧ ∀ j, j < i → 0 ≤ all.getD j 0 → all.getD B 0 ≤ all.getD j 0 ∧ (all.getD B 0 = all.getD j 0 → B ≤ j)
theorem bestAt_skip {all : List Int} {i : Nat} {b : Int} (h : BestAt all i b) (hn : all.getD i 0 < 0) : BestAt all (i + 1) b := by
  rcases h with ⟨h1, h2⟩ | ⟨B, h1, h2, h3, h4⟩
  · refine .inl ⟨h1, fun j hj => ?_⟩
    by_cases e : j = i
    · rw [e]; exact hn
    · exact h2 j (by omega)
  · refine .inr ⟨B, h1, by omega, h3, fun j hj h0 => ?_⟩
    by_cases e : j = i
    · rw [e] at h0; exact absurd hn (Int.not_lt.2 h0)
    · exact h4 j (by omega) h0
theorem bestAt_keep {all : List Int} {i B : Nat} (h : BestAt all i (B : Int)) (hn : ¬ all.getD i 0 < all.getD B 0) : BestAt all (i + 1) (B : Int) := by
  rcases h with ⟨h1, h2⟩ | ⟨B', h1, h2, h3, h4⟩
  · omega
  · have : B = B' := by omega
    subst this
    refine .inr ⟨B, rfl, by omega, h3, fun j hj h0 => ?_⟩
    by_cases e : j = i
    · rw [e]; exact ⟨Int.not_lt.1 hn, fun _ => Nat.le_of_lt h2⟩
    · exact h4 j (by omega) h0
theorem bestAt_new {all : List Int} {i : Nat} {b : Int} (h : BestAt all i b) (h0 : 0 ≤ all.getD i 0) (hn : b = -1 ∨ all.getD i 0 < all.getD b.toNat 0) : BestAt all (i + 1) (i : Int) := by
  refine .inr ⟨i, rfl, by omega, h0, fun j hj hj0 => ?_⟩
  by_cases e : j = i
  · rw [e]; exact ⟨Int.le_refl _, fun _ => Nat.le_refl _⟩
  · rcases h with ⟨h1, h2⟩ | ⟨B, h1, h2, h3, h4⟩
    · exact absurd (h2 j (by omega)) (Int.not_lt.2 hj0)
    · rcases hn with hn | hn
      · omega
      · subst h1
        rw [Int.toNat_natCast] at hn
        have := (h4 j (by omega) hj0).1
        have h5 := Int.lt_of_lt_of_le hn this
        exact ⟨Int.le_of_lt h5, fun h6 => absurd h6 (Int.ne_of_lt h5)⟩
theorem light_l0 (all : List Int) (hl : all.length ≤ 1000000) : ∀ (d i : Nat) (b : Int), all.length - i = d → i ≤ all.length → BestAt all i b → ∃ r, Ev (fun k => millref10_lightest.l0 k all b i) r ∧ BestAt all all.length r
  | 0, i, b, hd, hi, hb => by
    have e : i = all.length := by omega
    subst e
    have e1 : ¬ (all.length : Int) < all.length := by omega
    exact ⟨b, Ev.step (f := fun _ => some b) (fun k => by rw [millref10_lightest.l0, if_neg e1]) (Ev.now _), hb⟩
  | d + 1, i, b, hd, hi, hb => by
    have hlt : i < all.length := by omega
    have e1 : (i : Int) < all.length := by omega
    have e2 : (0 : Int) ≤ (i : Int) := by omega
    have e3 : wrap64 ((i : Int) + 1) = ((i + 1 : Nat) : Int) := wS (by omega)
    have next : ∀ b', BestAt all (i + 1) b' → (∀ k, millref10_lightest.l0 (k + 1) all b i = millref10_lightest.l0 k all b' ((i + 1 : Nat) : Int)) → ∃ r, Ev (fun k => millref10_lightest.l0 k all b i) r ∧ BestAt all all.length r := fun b' h1 h2 => by
      obtain ⟨r, h3, h4⟩ := light_l0 all hl d (i + 1) b' (by clear e3; omega) hlt h1
      exact ⟨r, Ev.step h2 h3, h4⟩
    by_cases c1 : all.getD i 0 ≥ 0
    · by_cases c2 : b < 0
      · have hb1 : b = -1 := by
          rcases hb with ⟨h, _⟩ | ⟨B, h, _⟩
          · exact h
          · clear e3; omega
        exact next i (bestAt_new hb c1 (.inl hb1)) (fun k => by rw [millref10_lightest.l0, if_pos e1, if_pos e2, rd_nat, if_pos c1, if_pos c2, e3])
      · obtain ⟨B, rfl⟩ : ∃ B : Nat, b = B := ⟨b.toNat, by clear e3; omega⟩
        have hB : B < i := by
          rcases hb with ⟨h, _⟩ | ⟨B', h, h2, _⟩
          · clear e3; omega
          · clear e3; omega
        have e4 : (0 : Int) ≤ (B : Int) := Int.natCast_nonneg _
        have e5 : (B : Int) < (all.length : Int) := by clear e3; omega
        by_cases c3 : all.getD i 0 < all.getD B 0
        · exact next i (bestAt_new hb c1 (.inr (by rw [Int.toNat_natCast]; exact c3))) (fun k => by rw [millref10_lightest.l0, if_pos e1, if_pos e2, rd_nat, if_pos c1, if_neg c2, if_pos e4, if_pos e5, rd_nat, if_pos c3, e3])
        · exact next B (bestAt_keep hb c3) (fun k => by rw [millref10_lightest.l0, if_pos e1, if_pos e2, rd_nat, if_pos c1, if_neg c2, if_pos e4, if_pos e5, rd_nat, if_neg c3, e3])
    · exact next b (bestAt_skip hb (Int.not_le.1 c1)) (fun k => by rw [millref10_lightest.l0, if_pos e1, if_pos e2, rd_nat, if_neg c1, e3])
/-- the list holds what is left -/
structure Rep (all : List Int) (s : List Rung) : Prop where
  there : ∀ x ∈ s, 0 ≤ x.1 ∧ x.1 < (all.length : Int) ∧ all.getD x.1.toNat 0 = x.2 ∧ 0 ≤ x.2
  only : ∀ j : Nat, j < all.length → 0 ≤ all.getD j 0 → ((j : Int), all.getD j 0) ∈ s
theorem light_ev {all : List Int} (hl : all.length ≤ 1000000) {x : Rung} {s : List Rung} (hs : Sorted (x :: s)) (h : Rep all (x :: s)) : Ev (fun k => millref10_lightest.f k all) x.1 := by
  obtain ⟨r, h1, h2⟩ := light_l0 all hl all.length 0 (-1) rfl (Nat.zero_le _) (.inl ⟨rfl, fun j hj => by omega⟩)
  have hx := h.there x (List.mem_cons_self ..)
  have e : r = x.1 := by
    rcases h2 with ⟨h3, h4⟩ | ⟨B, h3, h4, h5, h6⟩
    · have := h4 x.1.toNat (by omega)
      rw [hx.2.2.1] at this
      omega
    · have h7 := h6 x.1.toNat (by omega) (by rw [hx.2.2.1]; exact hx.2.2.2)
      rw [hx.2.2.1] at h7
      have h8 : le x ((B : Int), all.getD B 0) := by
        rcases List.mem_cons.1 (h.only B h4 h5) with h9 | h9
        · rw [h9]; exact le_refl _
        · exact (List.pairwise_cons.1 hs).1 _ h9
      unfold le at h8
      simp only at h8
      have h9 := h7.2
      have h10 := h7.1
      generalize all.getD B 0 = v at h8 h9 h10
      rcases Int.lt_or_eq_of_le h10 with h11 | h11
      · omega
      · have := h9 h11
        omega
  rw [← e]
  exact Ev.congr (fun k => rfl) h1
theorem rep_take {all : List Int} {x : Rung} {s : List Rung} (h : Rep all (x :: s)) (hn : ∀ y ∈ s, y.1 ≠ x.1) : Rep (all.set x.1.toNat (-1)) s := by
  have hx := h.there x (List.mem_cons_self ..)
  refine ⟨fun y hy => ?_, fun j hj h0 => ?_⟩
  · have h1 := h.there y (List.mem_cons_of_mem _ hy)
    have h2 := hn y hy
    rw [List.length_set, getD_set (by omega), if_neg (by omega)]
    exact h1
  · rw [List.length_set] at hj
    rw [getD_set (by omega)] at h0 ⊢
    by_cases e : j = x.1.toNat
    · rw [if_pos e] at h0; omega
    · rw [if_neg e] at h0 ⊢
      rcases List.mem_cons.1 (h.only j hj h0) with h1 | h1
      · exact absurd (congrArg Prod.fst h1) (by simp only; omega)
      · exact h1
theorem rep_new {all : List Int} {s : List Rung} {v : Int} (h : Rep all s) (h0 : 0 ≤ v) : Rep (all ++ [v]) (insR ((all.length : Int), v) s) := by
  refine ⟨fun y hy => ?_, fun j hj hj0 => ?_⟩
  · rw [List.length_append, List.length_singleton]
    rcases List.mem_cons.1 ((insR_perm _ _).mem_iff.1 hy) with rfl | hy
    · refine ⟨Int.natCast_nonneg _, by simp only; omega, ?_, h0⟩
      rw [Int.toNat_natCast, getD_append_len]
    · obtain ⟨h1, h2, h3, h4⟩ := h.there y hy
      exact ⟨h1, by omega, by rw [getD_append_lt (by omega)]; exact h3, h4⟩
  · refine (insR_perm _ _).mem_iff.2 ?_
    rw [List.length_append, List.length_singleton] at hj
    by_cases e : j = all.length
    · subst e
      rw [getD_append_len]
      exact List.mem_cons_self ..
    · rw [getD_append_lt (by omega)] at hj0 ⊢
      exact List.mem_cons_of_mem _ (h.only j (by omega) hj0)
end Go.Proofs.Ytbgabijjnbmghaa.P
/- Plain law: the reference's Make answers the greedy steps (the loops). -/
namespace Go.Proofs.Ytbgabijjnbmghaa.P
open Go.RowKit Go.Proofs.Ytbgabijjnbmghaa Go.Proofs.YtbgabijjnbmghaaW.PrintWords Go.Proofs.YtbgabijjnbmghaaW.PrintLast Go.Proofs.YtbgabijjnbmghaaW.PrintMore
set_option linter.unusedVariables false
set_option linter.unusedSimpArgs false

theorem refMake_step (k : Nat) (fan n : Int) (all : List Int) (st : List S51) (left t : Int) (ins ins' : List Int) (sm sm' : Int) (q T : Nat) (x : Int) (hT : t = T) (hq : q < T) (hb : q ≤ 1000000) (h1 : millref10_lightest.f k all = some x) (h2 : 0 ≤ x) (h3 : x < (all.length : Int)) (h4 : millref10_put.f k ins x = some ins') (hw : wrap64 (sm + rd all x) = sm') :
    millref10_Make.l1 (k + 1) fan n all st left t ins sm q = millref10_Make.l1 k fan n (all.set x.toNat (-1)) st left t ins' sm' ((q + 1 : Nat) : Int) := by
  have e1 : (q : Int) < t := by clear hw; omega
  rw [millref10_Make.l1, if_pos e1, h1]
  simp only [Option.bind_some]
  rw [if_pos h2, if_pos h3, h4]
  simp only [Option.bind_some]
  rw [hw, wS (by clear hw; omega)]
theorem refMake_l1 (fan n : Int) (st : List S51) (left : Int) (t : Nat) (ht : t ≤ 64) (r : List S51 × Int) (N : Nat) (hN : N ≤ 1000000) : ∀ (d q : Nat) (s : List Rung) (all ins : List Int) (sm : Int), t - q = d → q ≤ t → d ≤ s.length → all.length = N → Rep all s → Sorted s → (s.map (·.1)).Nodup → Asc ins → ins.length = q → 0 ≤ sm → sm + sumW s ≤ 4611686018427387904 →
    (∀ all' ins', all'.length = N → Rep all' (s.drop d) → Asc ins' → ins'.Perm (ins ++ (s.take d).map (·.1)) → Ev (fun k => millref10_Make.l1 k fan n all' st left t ins' (sm + sumW (s.take d)) t) r) →
    Ev (fun k => millref10_Make.l1 k fan n all st left t ins sm q) r
  | 0, q, s, all, ins, sm, hd, hq, hl, hN2, hR, hs, hnd, ha, hil, h0, hb, cont => by
    have e : q = t := by omega
    subst e
    have := cont all ins hN2 (by simpa using hR) ha (by simp)
    have e0 : sumW (s.take 0) = 0 := by simp [sumW]
    rw [e0, Int.add_zero] at this
    exact this
  | d + 1, q, [], all, ins, sm, hd, hq, hl, hN2, hR, hs, hnd, ha, hil, h0, hb, cont => by simp at hl
  | d + 1, q, x :: s, all, ins, sm, hd, hq, hl, hN2, hR, hs, hnd, ha, hil, h0, hb, cont => by
    have hx := hR.there x (List.mem_cons_self ..)
    have hnd' := List.nodup_cons.1 hnd
    have hne : ∀ y ∈ s, y.1 ≠ x.1 := fun y hy e => hnd'.1 (List.mem_map.2 ⟨y, hy, e⟩)
    have hs0 : 0 ≤ sumW s := sumW_nonneg s (fun y hy => (hR.there y (List.mem_cons_of_mem _ hy)).2.2.2)
    rw [sumW_cons] at hb
    obtain ⟨K1, hK1⟩ := light_ev (by omega) hs hR
    obtain ⟨ins', ⟨K2, hK2⟩, p2, p3⟩ := put_ev ins x.1 (by omega) ha
    have hw : wrap64 (sm + rd all x.1) = sm + x.2 := by
      show wrap64 (sm + all.getD x.1.toNat 0) = _
      rw [hx.2.2.1]
      exact w64 _ (by omega) (by omega)
    have ih := refMake_l1 fan n st left t ht r N hN d (q + 1) s (all.set x.1.toNat (-1)) ins' (sm + x.2) (by clear hw; omega) (by clear hw; omega) (by simpa using hl) (by rw [List.length_set]; exact hN2) (rep_take hR hne) (List.pairwise_cons.1 hs).2 hnd'.2 p2 (by rw [p3.length_eq, List.length_append, hil]; rfl) (by clear hw; omega) (by clear hw; omega) (fun all' ins'' c1 c2 c3 c4 => by
      have := cont all' ins'' c1 c2 c3 (c4.trans (by
        rw [List.take_succ_cons, List.map_cons]
        refine (p3.append_right _).trans ?_
        rw [List.append_assoc]; exact List.Perm.refl _))
      rw [List.take_succ_cons, sumW_cons, ← Int.add_assoc] at this
      exact this)
    obtain ⟨K3, hK3⟩ := ih
    refine ⟨K1 + K2 + K3 + 1, fun m hm => ?_⟩
    obtain ⟨m, rfl⟩ : ∃ m', m = m' + 1 := ⟨m - 1, by clear hw; omega⟩
    show millref10_Make.l1 (m + 1) fan n all st left t ins sm q = some r
    rw [refMake_step m fan n all st left t ins ins' sm (sm + x.2) q t x.1 rfl (by clear hw; omega) (by clear hw; omega) (hK1 m (by clear hw; omega)) hx.1 hx.2.1 (hK2 m (by clear hw; omega)) hw]
    exact hK3 m (by clear hw; omega)
theorem refMake_end (fan n : Int) (all : List Int) (st : List S51) (left t : Int) (h : ¬ left > 1) : Ev (fun k => millref10_Make.l0 k fan n all st left t) (st, 0) :=
  Ev.step (f := fun _ => some (st, 0)) (fun k => by rw [millref10_Make.l0, if_neg h]) (Ev.now _)
theorem greedy_one (n fan f t : Nat) (s : List Rung) (st : List S51) (h : s.length ≤ 1) : greedy n fan f t s st = st := by
  cases f with
  | zero => rfl
  | succ f => rw [greedy, if_neg (by omega)]
theorem refMake_back (fan : Int) (n : Nat) (all : List Int) (st : List S51) (left t left' : Nat) (ins : List Int) (sm : Int) (h1 : st.length ≤ 1000000) (h2 : all.length ≤ 1000000) (h3 : n ≤ 1000000) (h4 : t ≤ left) (h5 : left ≤ 1000000) (h6 : left' = left - t + 1) (r : List S51 × Int)
    (cont : Ev (fun k => millref10_Make.l0 k fan n (all ++ [sm]) (st ++ [⟨ins, ((n + st.length : Nat) : Int)⟩]) left' fan) r) : Ev (fun k => millref10_Make.l1 k fan n all st left t ins sm t) r := by
  refine Ev.step (fun k => ?_) cont
  have e1 : ¬ (t : Int) < (t : Int) := by omega
  have e2 : st.length < 4398046511104 := by omega
  have e3 : all.length < 17592186044416 := by omega
  have e5 : wrap64 (wrap64 ((left : Int) - (t : Int)) + 1) = (left' : Int) := by
    rw [w64 ((left : Int) - (t : Int)) (by omega) (by omega), w64 _ (by omega) (by omega)]; omega
  rw [millref10_Make.l1, if_neg e1, if_pos e2, if_pos e3, e5, wA (by clear e5; omega) (by clear e5; omega)]
theorem refMake_l0 (fan n : Nat) (hf : 2 ≤ fan) (hf2 : fan ≤ 64) (hn : n ≤ 65536) : ∀ (q f t : Nat) (s : List Rung) (st : List S51) (all : List Int), q < f → s.length = t + q * (fan - 1) → 2 ≤ t → t ≤ fan → s.length ≤ 65536 → Rep all s → Sorted s → (s.map (·.1)).Nodup → all.length = n + st.length → st.length + q ≤ 66000 → sumW s ≤ 4611686018427387904 →
    Ev (fun k => millref10_Make.l0 k fan n all st s.length t) (greedy n fan f t s st, 0) := by
  intro q
  induction q with
  | zero =>
    intro f t s st all hq hl h2 ht hl2 hR hs hnd hal hst hb
    obtain ⟨f, rfl⟩ : ∃ f', f = f' + 1 := ⟨f - 1, by omega⟩
    have e1 : (s.length : Int) > 1 := by omega
    have hone : (nextS n t s st).length = 1 := by rw [insR_length, List.length_drop]; omega
    rw [greedy, if_pos (by omega), greedy_one _ _ _ _ _ _ (Nat.le_of_eq hone)]
    refine Ev.step (f := fun k => millref10_Make.l1 k fan n all st s.length t [] 0 ((0 : Nat) : Int)) (fun k => by rw [millref10_Make.l0, if_pos e1]; rfl) ?_
    refine refMake_l1 fan n st s.length t (by omega) _ all.length (by omega) t 0 s all [] 0 rfl (Nat.zero_le _) (by omega) rfl hR hs hnd List.Pairwise.nil rfl (Int.le_refl _) (by omega) (fun all' ins' c1 c2 c3 c4 => ?_)
    have e2 : ins' = sortI ((s.take t).map (·.1)) := asc_unique _ _ c3 (sortI_sorted _) (c4.trans (by rw [List.nil_append]; exact (sortI_perm _).symm))
    rw [e2, Int.zero_add]
    exact refMake_back fan n all' st s.length t 1 _ _ (by omega) (by omega) (by omega) (by omega) (by omega) (by omega) _ (refMake_end _ _ _ _ _ _ (by omega))
  | succ q ih =>
    intro f t s st all hq hl h2 ht hl2 hR hs hnd hal hst hb
    obtain ⟨f, rfl⟩ : ∃ f', f = f' + 1 := ⟨f - 1, by omega⟩
    have e1 : (s.length : Int) > 1 := by omega
    have hlen : (nextS n t s st).length = fan + q * (fan - 1) := by rw [insR_length, List.length_drop, hl, Nat.succ_mul]; omega
    have hlen2 : (nextS n t s st).length = s.length - t + 1 := by rw [insR_length, List.length_drop]
    rw [greedy, if_pos (by omega)]
    refine Ev.step (f := fun k => millref10_Make.l1 k fan n all st s.length t [] 0 ((0 : Nat) : Int)) (fun k => by rw [millref10_Make.l0, if_pos e1]; rfl) ?_
    refine refMake_l1 fan n st s.length t (by omega) _ all.length (by omega) t 0 s all [] 0 rfl (Nat.zero_le _) (by omega) rfl hR hs hnd List.Pairwise.nil rfl (Int.le_refl _) (by omega) (fun all' ins' c1 c2 c3 c4 => ?_)
    have e2 : ins' = sortI ((s.take t).map (·.1)) := asc_unique _ _ c3 (sortI_sorted _) (c4.trans (by rw [List.nil_append]; exact (sortI_perm _).symm))
    rw [e2, Int.zero_add]
    have hs0 := sumW_nonneg (s.take t) (fun y hy => (hR.there y (List.mem_of_mem_take hy)).2.2.2)
    have hspl := sumW_split s t
    have hrep := rep_new (v := sumW (s.take t)) c2 hs0
    rw [c1, hal] at hrep
    refine refMake_back fan n all' st s.length t (nextS n t s st).length _ _ (by omega) (by omega) (by omega) (by omega) (by omega) hlen2 _ ?_
    refine ih f fan (nextS n t s st) (nextT n t s st) (all' ++ [sumW (s.take t)]) (by omega) hlen hf (Nat.le_refl _) (by omega) hrep (insR_sorted _ _ (hs.sublist (List.drop_sublist _ _))) ?_ (by rw [List.length_append, List.length_append, List.length_singleton, List.length_singleton]; omega) (by rw [List.length_append, List.length_singleton]; omega) ?_
    · refine (((insR_perm _ _).map (·.1)).nodup_iff).2 ?_
      rw [List.map_cons, List.nodup_cons]
      refine ⟨fun hm => ?_, ?_⟩
      · obtain ⟨y, hy, e⟩ := List.mem_map.1 hm
        have := (c2.there y hy).2.1
        simp only at e
        omega
      · rw [List.map_drop]; exact hnd.sublist (List.drop_sublist _ _)
    · rw [sumW_insR]; simp only; omega
theorem refMake_ev {l : List Int} {fan : Int} (hg : givenV l fan = 0) : Ev (fun k => millref10_Make.f k l fan) (gSteps l fan.toNat, 0) := by
  unfold millref10_Make.f
  refine Ev.bind (ref_given_ev l fan) ?_
  rw [hg]
  simp only [if_true]
  obtain ⟨g1, g2, g3, g4, g5⟩ := givenV_zero hg
  obtain ⟨F, rfl⟩ : ∃ F : Nat, fan = F := ⟨fan.toNat, by omega⟩
  rw [Int.toNat_natCast]
  by_cases h1 : l.length = 1
  · have e1 : (l.length : Int) = 1 := by omega
    simp only [if_pos e1]
    have e : gSteps l F = [⟨[0], 1⟩] := by unfold gSteps; rw [if_pos h1]
    rw [e]
    exact Ev.now _
  · have e1 : ¬ (l.length : Int) = 1 := by omega
    have e2 : ([] : List Int).length + l.length < 17592186044416 := by rw [List.length_nil]; omega
    have e3 : ¬ (wrap64 ((F : Int) - 1) = 0) := by rw [w64 _ (by omega) (by omega)]; omega
    simp only [if_neg e1, if_pos e2, if_neg e3]
    have e4 : wrap64 (2 + Int.tmod (wrap64 ((l.length : Int) - 2)) (wrap64 ((F : Int) - 1))) = ((takeOf l.length F : Nat) : Int) := by
      clear e3
      have a1 : wrap64 ((l.length : Int) - 2) = ((l.length - 2 : Nat) : Int) := by rw [w64 _ (by omega) (by omega)]; omega
      rw [a1]
      clear a1
      have a2 : wrap64 ((F : Int) - 1) = ((F - 1 : Nat) : Int) := by rw [w64 _ (by omega) (by omega)]; omega
      rw [a2]
      clear a2
      rw [Int.tmod_eq_emod_of_nonneg (Int.natCast_nonneg _), ← Int.natCast_emod]
      have a3 := Nat.mod_lt (l.length - 2) (show F - 1 > 0 by omega)
      unfold takeOf
      rw [if_neg h1]
      generalize (l.length - 2) % (F - 1) = z at a3
      rw [w64 _ (by omega) (by omega)]; omega
    rw [e4]
    clear e3 e4
    obtain ⟨t1, t2, t3, t4⟩ := take_more (n := l.length) (fan := F) (by omega) g3
    have hq : moreOf l.length F ≤ moreOf l.length F * (F - 1) := Nat.le_mul_of_pos_right _ (by omega)
    have htk : takeOf l.length F = 2 + (l.length - 2) % (F - 1) := by unfold takeOf; rw [if_neg h1]
    have hlen : (sortR (rungs 0 l)).length = l.length := by rw [sortR_length, rungs_length]
    have hinv := invA_start l F 0
    have hnd : ((sortR (rungs 0 l)).map (·.1)).Nodup := (List.nodup_append.1 (hinv.perm.nodup_iff.2 (nums_nodup _))).2.1
    have hsum : sumW (sortR (rungs 0 l)) ≤ 4611686018427387904 := by
      rw [sumW_perm (sortR_perm _), sumW_rungs]
      have := given_sum hg
      omega
    have hrep : Rep l (sortR (rungs 0 l)) := by
      refine ⟨fun x hx => ?_, fun j hj h0 => ?_⟩
      · obtain ⟨j, h1, h2⟩ := rungs_get_mem l 0 x ((sortR_perm _).mem_iff.1 hx)
        rw [h2, Nat.zero_add, Int.toNat_natCast]
        exact ⟨Int.natCast_nonneg _, by simp only; omega, rfl, given_nonneg g5 j⟩
      · refine (sortR_perm _).mem_iff.2 ?_
        rw [rungs_nums]
        exact List.mem_map.2 ⟨(j : Int), nums_mem.2 ⟨Int.natCast_nonneg _, by omega⟩, by rw [Int.toNat_natCast]⟩
    have := refMake_l0 F l.length (by omega) (by omega) g4 (moreOf l.length F) l.length (takeOf l.length F) (sortR (rungs 0 l)) [] l (by omega) (by rw [hlen]; exact t1) (t4 (by omega)) t3 (by omega) hrep (sortR_sorted _) hnd rfl (by rw [List.length_nil]; omega) hsum
    rw [hlen] at this
    have e : gSteps l F = greedy l.length F l.length (takeOf l.length F) (sortR (rungs 0 l)) [] := by
      unfold gSteps; rw [if_neg h1, htk]
    rw [e]
    exact this
theorem refMake_bad {l : List Int} {fan : Int} (hg : givenV l fan ≠ 0) : Ev (fun k => millref10_Make.f k l fan) ([], givenV l fan) := by
  unfold millref10_Make.f
  refine Ev.bind (ref_given_ev l fan) ?_
  simp only [if_neg hg]
  exact Ev.now _
end Go.Proofs.Ytbgabijjnbmghaa.P
/- The walk of PlanMakes: printed by wip/Plan/myprint.py, turned by wip/Plan/mkmakes.py to roomyF and keptF. -/
namespace Go.Proofs.Ytbgabijjnbmghaa.P
open Go.RowKit Go.Proofs.YtbgabijjnbmghaaW.PrintWords Go.Proofs.YtbgabijjnbmghaaW.PrintLast Go.Proofs.YtbgabijjnbmghaaW.PrintMore
attribute [local go_sem] max2_int min2_int max_two min_two max_three min_three max_four min_four   -- for this text's walks alone
set_option linter.unusedVariables false
set_option linter.unusedSimpArgs false

/-! ### milllaw10_PlanMakes: function 4 -/
/-- what is read of a row is read of its beginning -/
theorem C_prefix {W : World} {A : Option Addr} {F l : List Int} (h : Kd.C (Kd.int .i64) W A F.length F) (e : F.take l.length = l) (hl : l.length ≤ F.length) : Kd.C (Kd.int .i64) W A l.length l := by
  have h1 := (Kd.reads_of_C (d := (0 : Int)) (h1 := fun _ => rfl) h).take_ l.length hl
  rw [e] at h1
  exact Kd.C_of_reads (h1 := fun _ => rfl) h1
def milllaw10_PlanMakes.f (k : Nat) (l0 : List Int) (a1 : Int) : Option (Bool) := if (l0.length : Int) > 2048 then (some true) else ((milllaw10_roomyF.f k l0).bind fun t157 => if t157.take l0.length = l0 then ((plan_Make.f k l0 a1).bind fun bt160 => ((millref10_Make.f k l0 a1).bind fun bt164 => ((milllaw10_sameSteps.f k bt160.1 bt164.1).bind fun t168 => ((milllaw10_keptF.f k l0 t157 l0).bind fun t169 => (if t168 = true then (if t169 = true then ((milllaw10_num.f bt160.2).bind fun t170 => (some (t170 == bt164.2))) else (some false)) else (some false)))))) else none)
theorem milllaw10_PlanMakes.mono : ∀ a0 a1 k, LeO (milllaw10_PlanMakes.f k a0 a1) (milllaw10_PlanMakes.f (k + 1) a0 a1) := by
  intro a0 a1 k
  unfold milllaw10_PlanMakes.f
  repeat' first
      | (with_reducible exact milllaw10_keptF.mono _ _ _ _)
      | (with_reducible exact milllaw10_roomyF.mono _ _)
      | (with_reducible exact milllaw10_sameSteps.mono _ _ _)
      | (with_reducible exact millref10_Make.mono _ _ _)
      | (with_reducible exact plan_Make.mono _ _ _)
      | (with_reducible exact LeO.refl _)
      | (with_reducible exact LeO.none _)
      | (with_reducible refine LeO.ite ?_ ?_)
      | (with_reducible refine LeO.bind ?_ (fun _ => ?_))
      | exact milllaw10_keptF.mono _ _ _ _
      | exact milllaw10_roomyF.mono _ _
      | exact milllaw10_sameSteps.mono _ _ _
      | exact millref10_Make.mono _ _ _
      | exact plan_Make.mono _ _ _
      | exact LeO.none _
      | refine LeO.ite ?_ ?_
      | refine LeO.bind ?_ (fun _ => ?_)
set_option maxHeartbeats 8000000 in
set_option maxRecDepth 100000 in
theorem milllaw10_PlanMakes.calls (k : Nat) (A0 : Option Addr) (c0 : Nat) (l0 : List Int) (a1 : Int) (r : Bool) (w : World) (hr0 : Kd.C (Kd.int .i64) w A0 l0.length l0) (hc0 : l0.length ≤ c0) (h : milllaw10_PlanMakes.f k l0 a1 = some r) :
    Calls Try.prog 4 #[.slice A0 l0.length c0, .int .i64 a1] w fun e w' => e = .returned (.bool r) ∧ Below w.heap.size w w' := by
  have HR0 := Aside0.mk hr0
  have HC0 := Aside0.mk hc0
  clear hr0 hc0
  have HB := Aside0.mk (Below.refl w.heap.size w)
  have H : (if (l0.length : Int) > 2048 then (some true) else ((milllaw10_roomyF.f k l0).bind fun t157 => if t157.take l0.length = l0 then ((plan_Make.f k l0 a1).bind fun bt160 => ((millref10_Make.f k l0 a1).bind fun bt164 => ((milllaw10_sameSteps.f k bt160.1 bt164.1).bind fun t168 => ((milllaw10_keptF.f k l0 t157 l0).bind fun t169 => (if t168 = true then (if t169 = true then ((milllaw10_num.f bt160.2).bind fun t170 => (some (t170 == bt164.2))) else (some false)) else (some false)))))) else none)) = some r := h
  clear h
  by_cases c3 : (l0.length : Int) > 2048
  · rw [if_pos c3] at H
    have c3b0 : decide (2048 < (l0.length : Int)) = true := decide_eq_true c3
    have c3b1 : decide (2048 < l0.length) = true := decide_eq_true (by omega)
    clear c3
    obtain rfl := Option.some.inj H
    go_enter Try.func4, Try.ntmps4
    go_wp2
    go_ret
    exact ⟨by first | rfl | (simp [errW_none, errW_some] <;> rfl) | (simp [*, errW_none, errW_some] <;> rfl), by repeat (first | (with_reducible first | exact HB.out | apply below_alloc | apply pw_below_drewN | apply below_drew1) | exact HB.out)⟩
  · rw [if_neg c3] at H
    have c3b0 : decide (2048 < (l0.length : Int)) = false := decide_eq_false c3
    have c3b1 : decide (2048 < l0.length) = false := decide_eq_false (by omega)
    clear c3
    replace H := Option.bind_eq_some_iff.mp H
    obtain ⟨t157, A40, H⟩ := H
    replace H : (if t157.take l0.length = l0 then ((plan_Make.f k l0 a1).bind fun bt160 => ((millref10_Make.f k l0 a1).bind fun bt164 => ((milllaw10_sameSteps.f k bt160.1 bt164.1).bind fun t168 => ((milllaw10_keptF.f k l0 t157 l0).bind fun t169 => (if t168 = true then (if t169 = true then ((milllaw10_num.f bt160.2).bind fun t170 => (some (t170 == bt164.2))) else (some false)) else (some false)))))) else none) = some r := H
    have A4 := Aside0.mk A40
    clear A40
    by_cases hg4 : t157.take l0.length = l0
    case neg => rw [if_neg hg4] at H; exact absurd H (by simp)
    rw [if_pos hg4] at H
    have HG4 := Aside0.mk hg4
    clear hg4
    replace H := Option.bind_eq_some_iff.mp H
    obtain ⟨⟨t160, t163⟩, A50, H⟩ := H
    replace H : ((millref10_Make.f k l0 a1).bind fun bt164 => ((milllaw10_sameSteps.f k t160 bt164.1).bind fun t168 => ((milllaw10_keptF.f k l0 t157 l0).bind fun t169 => (if t168 = true then (if t169 = true then ((milllaw10_num.f t163).bind fun t170 => (some (t170 == bt164.2))) else (some false)) else (some false))))) = some r := H
    have A5 := Aside0.mk A50
    clear A50
    replace H := Option.bind_eq_some_iff.mp H
    obtain ⟨⟨t164, t167⟩, A60, H⟩ := H
    replace H : ((milllaw10_sameSteps.f k t160 t164).bind fun t168 => ((milllaw10_keptF.f k l0 t157 l0).bind fun t169 => (if t168 = true then (if t169 = true then ((milllaw10_num.f t163).bind fun t170 => (some (t170 == t167))) else (some false)) else (some false)))) = some r := H
    have A6 := Aside0.mk A60
    clear A60
    replace H := Option.bind_eq_some_iff.mp H
    obtain ⟨t168, A70, H⟩ := H
    replace H : ((milllaw10_keptF.f k l0 t157 l0).bind fun t169 => (if t168 = true then (if t169 = true then ((milllaw10_num.f t163).bind fun t170 => (some (t170 == t167))) else (some false)) else (some false))) = some r := H
    have A7 := Aside0.mk A70
    clear A70
    replace H := Option.bind_eq_some_iff.mp H
    obtain ⟨t169, A80, H⟩ := H
    replace H : (if t168 = true then (if t169 = true then ((milllaw10_num.f t163).bind fun t170 => (some (t170 == t167))) else (some false)) else (some false)) = some r := H
    have A8 := Aside0.mk A80
    clear A80
    by_cases c9 : t168 = true
    · subst c9
      have H1 : (if t169 = true then ((milllaw10_num.f t163).bind fun t170 => (some (t170 == t167))) else (some false)) = some r := by rw [if_pos rfl] at H; exact H
      clear H
      have H := H1
      clear H1
      by_cases c10 : t169 = true
      · subst c10
        have H1 : ((milllaw10_num.f t163).bind fun t170 => (some (t170 == t167))) = some r := by rw [if_pos rfl] at H; exact H
        clear H
        have H := H1
        clear H1
        replace H := Option.bind_eq_some_iff.mp H
        obtain ⟨t170, A110, H⟩ := H
        replace H : (some (t170 == t167)) = some r := H
        have A11 := Aside0.mk A110
        clear A110
        obtain rfl := Option.some.inj H
        go_enter Try.func4, Try.ntmps4
        go_wp2_with (first | ((with_reducible refine gate_callee (f := 11) rfl ?_); refine goesL_ (some 16) rfl rfl Try.func11 (by kernel_rfl) rfl #[.slice A0 l0.length c0] rfl (by (try simp only [List.map_toArray, List.map_cons, List.map_nil]); first | done | rfl | (simp only [List.length_drop, List.length_take]; rfl)) ?_; (with_reducible refine (milllaw10_roomyF.calls k _ _ l0 t157 _ ?side1 ?side2 A4.out).mono ?_); (case side1 => repeat (first | exact HR0.out | (with_reducible refine Kd.C_alloc ?_ _) | (with_reducible refine Kd.C_drewN ?_ _) | (with_reducible refine Kd.C_drew ?_))); (case side2 => exact HC0.out); rintro e w12 ⟨Ao13, co13, rfl, hle_, hcap_, hrd_, hb⟩; refine ⟨_, rfl, ?_⟩; have HF159 := Aside0.mk hrd_; have HL159 := Aside0.mk hle_; have HC159 := Aside0.mk hcap_; clear hrd_ hle_ hcap_; have n1_ := Aside0.mk (below_step (by repeat (first | (with_reducible first | exact HB.out | apply below_alloc | apply pw_below_drewN | apply below_drew1) | exact HB.out)) hb); clear HB; have HB := n1_; clear n1_; (try clear hb); (try clear hb2); (try clear hk); (try clear hi); (try clear ho0)) | ((with_reducible refine gate_callee (f := 24) rfl ?_); refine goesL_ (some 20) rfl rfl Try.func24 (by kernel_rfl) rfl #[.slice Ao13 l0.length co13, .int .i64 a1] rfl (by (try simp only [List.map_toArray, List.map_cons, List.map_nil]); first | done | rfl | (simp only [List.length_drop, List.length_take]; rfl)) ?_; (with_reducible refine (plan_Make.calls k _ _ l0 a1 t160 t163 _ ?side1 ?side2 A5.out).mono ?_); (case side1 => repeat (first | exact C_prefix HF159.out HG4.out HL159.out | (with_reducible refine Kd.C_alloc ?_ _) | (with_reducible refine Kd.C_drewN ?_ _) | (with_reducible refine Kd.C_drew ?_))); (case side2 => exact Nat.le_trans HL159.out HC159.out); rintro e w14 ⟨v161, rfl, ho0, hb⟩; refine ⟨_, rfl, ?_⟩; have n0_ := Aside0.mk (Kd.C_below HF159.out hb); have n1_ := Aside0.mk (Kd.N_lower ho0 (below_size (by repeat (first | (with_reducible first | exact HB.out | apply below_alloc | apply pw_below_drewN | apply below_drew1) | exact HB.out)))); have n2_ := Aside0.mk (below_step (by repeat (first | (with_reducible first | exact HB.out | apply below_alloc | apply pw_below_drewN | apply below_drew1) | exact HB.out)) hb); clear HF159; clear HB; have HF159 := n0_; have HO162 := n1_; have HB := n2_; clear n0_ n1_ n2_; (try clear hb); (try clear hb2); (try clear hk); (try clear hi); (try clear ho0)) | ((with_reducible refine gate_callee (f := 25) rfl ?_); refine goesL_ (some 26) rfl rfl Try.func25 (by kernel_rfl) rfl #[.slice A0 l0.length c0, .int .i64 a1] rfl (by (try simp only [List.map_toArray, List.map_cons, List.map_nil]); first | done | rfl | (simp only [List.length_drop, List.length_take]; rfl)) ?_; (with_reducible refine (millref10_Make.calls k _ _ l0 a1 t164 t167 _ ?side1 ?side2 A6.out).mono ?_); (case side1 => repeat (first | exact (Kd.C_below HR0.out HB.out) | (with_reducible refine Kd.C_alloc ?_ _) | (with_reducible refine Kd.C_drewN ?_ _) | (with_reducible refine Kd.C_drew ?_))); (case side2 => exact HC0.out); rintro e w15 ⟨v165, rfl, ho0, hb⟩; refine ⟨_, rfl, ?_⟩; have n0_ := Aside0.mk (Kd.C_below HF159.out hb); have n1_ := Aside0.mk (Kd.N_elder' (by (with_reducible repeat (first | apply Kd.N_alloc | apply Kd.N_drewN | apply Kd.N_drew)); exact HO162.out) (Kd.N_base ho0) hb); have n2_ := Aside0.mk (Kd.N_lower (Kd.N_mono (ok' := fun k_ => some k_ ≠ (v161 : Value).ownBlock) ho0 (fun k_ hk_ => (Kd.fresh' (Kd.N_lt (by (with_reducible repeat (first | apply Kd.N_alloc | apply Kd.N_drewN | apply Kd.N_drew)); exact HO162.out)) k_ hk_))) (below_size (by repeat (first | (with_reducible first | exact HB.out | apply below_alloc | apply pw_below_drewN | apply below_drew1) | exact HB.out)))); have n3_ := Aside0.mk (below_step (by repeat (first | (with_reducible first | exact HB.out | apply below_alloc | apply pw_below_drewN | apply below_drew1) | exact HB.out)) hb); clear HF159; clear HO162; clear HB; have HF159 := n0_; have HO162 := n1_; have HO166 := n2_; have HB := n3_; clear n0_ n1_ n2_ n3_; (try clear hb); (try clear hb2); (try clear hk); (try clear hi); (try clear ho0); obtain ⟨Ao16, co16, eo16⟩ := Kd.N_slice HO162.out; subst eo16; obtain ⟨Ao17, co17, eo17⟩ := Kd.N_slice HO166.out; subst eo17) | ((with_reducible refine gate_callee (f := 17) rfl ?_); refine goesL_ (some 31) rfl rfl Try.func17 (by kernel_rfl) rfl #[.slice Ao16 t160.length co16, .slice Ao17 t164.length co17] rfl (by (try simp only [List.map_toArray, List.map_cons, List.map_nil]); first | done | rfl | (simp only [List.length_drop, List.length_take]; rfl)) ?_; (with_reducible refine (milllaw10_sameSteps.calls k _ _ t160 _ _ t164 true _ ?side1 ?side2 ?side3 ?side4 A7.out).mono ?_); (case side1 => repeat (first | exact (Kd.N_reads' HO162.out).2.2 | (with_reducible refine Kd.C_alloc ?_ _) | (with_reducible refine Kd.C_drewN ?_ _) | (with_reducible refine Kd.C_drew ?_))); (case side2 => exact (Kd.N_reads' HO162.out).2.1); (case side3 => repeat (first | exact (Kd.N_reads' HO166.out).2.2 | (with_reducible refine Kd.C_alloc ?_ _) | (with_reducible refine Kd.C_drewN ?_ _) | (with_reducible refine Kd.C_drew ?_))); (case side4 => exact (Kd.N_reads' HO166.out).2.1); rintro e w' ⟨rfl, ⟨nd, rfl⟩⟩; refine ⟨_, rfl, ?_⟩) | ((with_reducible refine gate_callee (f := 18) rfl ?_); refine goesL_ (some 34) rfl rfl Try.func18 (by kernel_rfl) rfl #[.slice Ao13 l0.length co13, .slice A0 l0.length c0] rfl (by (try simp only [List.map_toArray, List.map_cons, List.map_nil]); first | done | rfl | (simp only [List.length_drop, List.length_take]; rfl)) ?_; (with_reducible refine (milllaw10_keptF.calls k _ _ l0 _ _ l0 true _ ?side1 ?side2 t157 ?sideF HC159.out ?side3 ?side4 A8.out).mono ?_); (case sideF => repeat (first | exact HF159.out | (with_reducible refine Kd.C_alloc ?_ _) | (with_reducible refine Kd.C_drewN ?_ _) | (with_reducible refine Kd.C_drew ?_))); (case side1 => repeat (first | exact C_prefix HF159.out HG4.out HL159.out | (with_reducible refine Kd.C_alloc ?_ _) | (with_reducible refine Kd.C_drewN ?_ _) | (with_reducible refine Kd.C_drew ?_))); (case side2 => exact Nat.le_trans HL159.out HC159.out); (case side3 => repeat (first | exact (Kd.C_below HR0.out (by repeat (first | (with_reducible first | exact HB.out | apply below_alloc | apply pw_below_drewN | apply below_drew1) | exact HB.out))) | (with_reducible refine Kd.C_alloc ?_ _) | (with_reducible refine Kd.C_drewN ?_ _) | (with_reducible refine Kd.C_drew ?_))); (case side4 => exact HC0.out); rintro e w' ⟨rfl, ⟨nd, rfl⟩⟩; refine ⟨_, rfl, ?_⟩) | (go_at_call 23; (with_reducible refine (milllaw10_num.calls t163 t170 _ A11.out).mono ?_); rintro e w' ⟨rfl, ⟨nd, rfl⟩⟩))
        go_ret
        exact ⟨by first | rfl | (simp [errW_none, errW_some] <;> rfl) | (simp [*, errW_none, errW_some] <;> rfl), by repeat (first | (with_reducible first | exact HB.out | apply below_alloc | apply pw_below_drewN | apply below_drew1) | exact HB.out)⟩
      · replace c10 := Bool.eq_false_iff.mpr c10
        subst c10
        have H1 : (some false) = some r := by rw [if_neg (show ¬ (false = true) by decide)] at H; exact H
        clear H
        have H := H1
        clear H1
        obtain rfl := Option.some.inj H
        go_enter Try.func4, Try.ntmps4
        go_wp2_with (first | ((with_reducible refine gate_callee (f := 11) rfl ?_); refine goesL_ (some 16) rfl rfl Try.func11 (by kernel_rfl) rfl #[.slice A0 l0.length c0] rfl (by (try simp only [List.map_toArray, List.map_cons, List.map_nil]); first | done | rfl | (simp only [List.length_drop, List.length_take]; rfl)) ?_; (with_reducible refine (milllaw10_roomyF.calls k _ _ l0 t157 _ ?side1 ?side2 A4.out).mono ?_); (case side1 => repeat (first | exact HR0.out | (with_reducible refine Kd.C_alloc ?_ _) | (with_reducible refine Kd.C_drewN ?_ _) | (with_reducible refine Kd.C_drew ?_))); (case side2 => exact HC0.out); rintro e w18 ⟨Ao19, co19, rfl, hle_, hcap_, hrd_, hb⟩; refine ⟨_, rfl, ?_⟩; have HF159 := Aside0.mk hrd_; have HL159 := Aside0.mk hle_; have HC159 := Aside0.mk hcap_; clear hrd_ hle_ hcap_; have n1_ := Aside0.mk (below_step (by repeat (first | (with_reducible first | exact HB.out | apply below_alloc | apply pw_below_drewN | apply below_drew1) | exact HB.out)) hb); clear HB; have HB := n1_; clear n1_; (try clear hb); (try clear hb2); (try clear hk); (try clear hi); (try clear ho0)) | ((with_reducible refine gate_callee (f := 24) rfl ?_); refine goesL_ (some 20) rfl rfl Try.func24 (by kernel_rfl) rfl #[.slice Ao19 l0.length co19, .int .i64 a1] rfl (by (try simp only [List.map_toArray, List.map_cons, List.map_nil]); first | done | rfl | (simp only [List.length_drop, List.length_take]; rfl)) ?_; (with_reducible refine (plan_Make.calls k _ _ l0 a1 t160 t163 _ ?side1 ?side2 A5.out).mono ?_); (case side1 => repeat (first | exact C_prefix HF159.out HG4.out HL159.out | (with_reducible refine Kd.C_alloc ?_ _) | (with_reducible refine Kd.C_drewN ?_ _) | (with_reducible refine Kd.C_drew ?_))); (case side2 => exact Nat.le_trans HL159.out HC159.out); rintro e w20 ⟨v161, rfl, ho0, hb⟩; refine ⟨_, rfl, ?_⟩; have n0_ := Aside0.mk (Kd.C_below HF159.out hb); have n1_ := Aside0.mk (Kd.N_lower ho0 (below_size (by repeat (first | (with_reducible first | exact HB.out | apply below_alloc | apply pw_below_drewN | apply below_drew1) | exact HB.out)))); have n2_ := Aside0.mk (below_step (by repeat (first | (with_reducible first | exact HB.out | apply below_alloc | apply pw_below_drewN | apply below_drew1) | exact HB.out)) hb); clear HF159; clear HB; have HF159 := n0_; have HO162 := n1_; have HB := n2_; clear n0_ n1_ n2_; (try clear hb); (try clear hb2); (try clear hk); (try clear hi); (try clear ho0)) | ((with_reducible refine gate_callee (f := 25) rfl ?_); refine goesL_ (some 26) rfl rfl Try.func25 (by kernel_rfl) rfl #[.slice A0 l0.length c0, .int .i64 a1] rfl (by (try simp only [List.map_toArray, List.map_cons, List.map_nil]); first | done | rfl | (simp only [List.length_drop, List.length_take]; rfl)) ?_; (with_reducible refine (millref10_Make.calls k _ _ l0 a1 t164 t167 _ ?side1 ?side2 A6.out).mono ?_); (case side1 => repeat (first | exact (Kd.C_below HR0.out HB.out) | (with_reducible refine Kd.C_alloc ?_ _) | (with_reducible refine Kd.C_drewN ?_ _) | (with_reducible refine Kd.C_drew ?_))); (case side2 => exact HC0.out); rintro e w21 ⟨v165, rfl, ho0, hb⟩; refine ⟨_, rfl, ?_⟩; have n0_ := Aside0.mk (Kd.C_below HF159.out hb); have n1_ := Aside0.mk (Kd.N_elder' (by (with_reducible repeat (first | apply Kd.N_alloc | apply Kd.N_drewN | apply Kd.N_drew)); exact HO162.out) (Kd.N_base ho0) hb); have n2_ := Aside0.mk (Kd.N_lower (Kd.N_mono (ok' := fun k_ => some k_ ≠ (v161 : Value).ownBlock) ho0 (fun k_ hk_ => (Kd.fresh' (Kd.N_lt (by (with_reducible repeat (first | apply Kd.N_alloc | apply Kd.N_drewN | apply Kd.N_drew)); exact HO162.out)) k_ hk_))) (below_size (by repeat (first | (with_reducible first | exact HB.out | apply below_alloc | apply pw_below_drewN | apply below_drew1) | exact HB.out)))); have n3_ := Aside0.mk (below_step (by repeat (first | (with_reducible first | exact HB.out | apply below_alloc | apply pw_below_drewN | apply below_drew1) | exact HB.out)) hb); clear HF159; clear HO162; clear HB; have HF159 := n0_; have HO162 := n1_; have HO166 := n2_; have HB := n3_; clear n0_ n1_ n2_ n3_; (try clear hb); (try clear hb2); (try clear hk); (try clear hi); (try clear ho0); obtain ⟨Ao22, co22, eo22⟩ := Kd.N_slice HO162.out; subst eo22; obtain ⟨Ao23, co23, eo23⟩ := Kd.N_slice HO166.out; subst eo23) | ((with_reducible refine gate_callee (f := 17) rfl ?_); refine goesL_ (some 31) rfl rfl Try.func17 (by kernel_rfl) rfl #[.slice Ao22 t160.length co22, .slice Ao23 t164.length co23] rfl (by (try simp only [List.map_toArray, List.map_cons, List.map_nil]); first | done | rfl | (simp only [List.length_drop, List.length_take]; rfl)) ?_; (with_reducible refine (milllaw10_sameSteps.calls k _ _ t160 _ _ t164 true _ ?side1 ?side2 ?side3 ?side4 A7.out).mono ?_); (case side1 => repeat (first | exact (Kd.N_reads' HO162.out).2.2 | (with_reducible refine Kd.C_alloc ?_ _) | (with_reducible refine Kd.C_drewN ?_ _) | (with_reducible refine Kd.C_drew ?_))); (case side2 => exact (Kd.N_reads' HO162.out).2.1); (case side3 => repeat (first | exact (Kd.N_reads' HO166.out).2.2 | (with_reducible refine Kd.C_alloc ?_ _) | (with_reducible refine Kd.C_drewN ?_ _) | (with_reducible refine Kd.C_drew ?_))); (case side4 => exact (Kd.N_reads' HO166.out).2.1); rintro e w' ⟨rfl, ⟨nd, rfl⟩⟩; refine ⟨_, rfl, ?_⟩) | ((with_reducible refine gate_callee (f := 18) rfl ?_); refine goesL_ (some 34) rfl rfl Try.func18 (by kernel_rfl) rfl #[.slice Ao19 l0.length co19, .slice A0 l0.length c0] rfl (by (try simp only [List.map_toArray, List.map_cons, List.map_nil]); first | done | rfl | (simp only [List.length_drop, List.length_take]; rfl)) ?_; (with_reducible refine (milllaw10_keptF.calls k _ _ l0 _ _ l0 false _ ?side1 ?side2 t157 ?sideF HC159.out ?side3 ?side4 A8.out).mono ?_); (case sideF => repeat (first | exact HF159.out | (with_reducible refine Kd.C_alloc ?_ _) | (with_reducible refine Kd.C_drewN ?_ _) | (with_reducible refine Kd.C_drew ?_))); (case side1 => repeat (first | exact C_prefix HF159.out HG4.out HL159.out | (with_reducible refine Kd.C_alloc ?_ _) | (with_reducible refine Kd.C_drewN ?_ _) | (with_reducible refine Kd.C_drew ?_))); (case side2 => exact Nat.le_trans HL159.out HC159.out); (case side3 => repeat (first | exact (Kd.C_below HR0.out (by repeat (first | (with_reducible first | exact HB.out | apply below_alloc | apply pw_below_drewN | apply below_drew1) | exact HB.out))) | (with_reducible refine Kd.C_alloc ?_ _) | (with_reducible refine Kd.C_drewN ?_ _) | (with_reducible refine Kd.C_drew ?_))); (case side4 => exact HC0.out); rintro e w' ⟨rfl, ⟨nd, rfl⟩⟩; refine ⟨_, rfl, ?_⟩))
        go_ret
        exact ⟨by first | rfl | (simp [errW_none, errW_some] <;> rfl) | (simp [*, errW_none, errW_some] <;> rfl), by repeat (first | (with_reducible first | exact HB.out | apply below_alloc | apply pw_below_drewN | apply below_drew1) | exact HB.out)⟩
    · replace c9 := Bool.eq_false_iff.mpr c9
      subst c9
      have H1 : (some false) = some r := by rw [if_neg (show ¬ (false = true) by decide)] at H; exact H
      clear H
      have H := H1
      clear H1
      obtain rfl := Option.some.inj H
      go_enter Try.func4, Try.ntmps4
      go_wp2_with (first | ((with_reducible refine gate_callee (f := 11) rfl ?_); refine goesL_ (some 16) rfl rfl Try.func11 (by kernel_rfl) rfl #[.slice A0 l0.length c0] rfl (by (try simp only [List.map_toArray, List.map_cons, List.map_nil]); first | done | rfl | (simp only [List.length_drop, List.length_take]; rfl)) ?_; (with_reducible refine (milllaw10_roomyF.calls k _ _ l0 t157 _ ?side1 ?side2 A4.out).mono ?_); (case side1 => repeat (first | exact HR0.out | (with_reducible refine Kd.C_alloc ?_ _) | (with_reducible refine Kd.C_drewN ?_ _) | (with_reducible refine Kd.C_drew ?_))); (case side2 => exact HC0.out); rintro e w24 ⟨Ao25, co25, rfl, hle_, hcap_, hrd_, hb⟩; refine ⟨_, rfl, ?_⟩; have HF159 := Aside0.mk hrd_; have HL159 := Aside0.mk hle_; have HC159 := Aside0.mk hcap_; clear hrd_ hle_ hcap_; have n1_ := Aside0.mk (below_step (by repeat (first | (with_reducible first | exact HB.out | apply below_alloc | apply pw_below_drewN | apply below_drew1) | exact HB.out)) hb); clear HB; have HB := n1_; clear n1_; (try clear hb); (try clear hb2); (try clear hk); (try clear hi); (try clear ho0)) | ((with_reducible refine gate_callee (f := 24) rfl ?_); refine goesL_ (some 20) rfl rfl Try.func24 (by kernel_rfl) rfl #[.slice Ao25 l0.length co25, .int .i64 a1] rfl (by (try simp only [List.map_toArray, List.map_cons, List.map_nil]); first | done | rfl | (simp only [List.length_drop, List.length_take]; rfl)) ?_; (with_reducible refine (plan_Make.calls k _ _ l0 a1 t160 t163 _ ?side1 ?side2 A5.out).mono ?_); (case side1 => repeat (first | exact C_prefix HF159.out HG4.out HL159.out | (with_reducible refine Kd.C_alloc ?_ _) | (with_reducible refine Kd.C_drewN ?_ _) | (with_reducible refine Kd.C_drew ?_))); (case side2 => exact Nat.le_trans HL159.out HC159.out); rintro e w26 ⟨v161, rfl, ho0, hb⟩; refine ⟨_, rfl, ?_⟩; have n0_ := Aside0.mk (Kd.C_below HF159.out hb); have n1_ := Aside0.mk (Kd.N_lower ho0 (below_size (by repeat (first | (with_reducible first | exact HB.out | apply below_alloc | apply pw_below_drewN | apply below_drew1) | exact HB.out)))); have n2_ := Aside0.mk (below_step (by repeat (first | (with_reducible first | exact HB.out | apply below_alloc | apply pw_below_drewN | apply below_drew1) | exact HB.out)) hb); clear HF159; clear HB; have HF159 := n0_; have HO162 := n1_; have HB := n2_; clear n0_ n1_ n2_; (try clear hb); (try clear hb2); (try clear hk); (try clear hi); (try clear ho0)) | ((with_reducible refine gate_callee (f := 25) rfl ?_); refine goesL_ (some 26) rfl rfl Try.func25 (by kernel_rfl) rfl #[.slice A0 l0.length c0, .int .i64 a1] rfl (by (try simp only [List.map_toArray, List.map_cons, List.map_nil]); first | done | rfl | (simp only [List.length_drop, List.length_take]; rfl)) ?_; (with_reducible refine (millref10_Make.calls k _ _ l0 a1 t164 t167 _ ?side1 ?side2 A6.out).mono ?_); (case side1 => repeat (first | exact (Kd.C_below HR0.out HB.out) | (with_reducible refine Kd.C_alloc ?_ _) | (with_reducible refine Kd.C_drewN ?_ _) | (with_reducible refine Kd.C_drew ?_))); (case side2 => exact HC0.out); rintro e w27 ⟨v165, rfl, ho0, hb⟩; refine ⟨_, rfl, ?_⟩; have n0_ := Aside0.mk (Kd.C_below HF159.out hb); have n1_ := Aside0.mk (Kd.N_elder' (by (with_reducible repeat (first | apply Kd.N_alloc | apply Kd.N_drewN | apply Kd.N_drew)); exact HO162.out) (Kd.N_base ho0) hb); have n2_ := Aside0.mk (Kd.N_lower (Kd.N_mono (ok' := fun k_ => some k_ ≠ (v161 : Value).ownBlock) ho0 (fun k_ hk_ => (Kd.fresh' (Kd.N_lt (by (with_reducible repeat (first | apply Kd.N_alloc | apply Kd.N_drewN | apply Kd.N_drew)); exact HO162.out)) k_ hk_))) (below_size (by repeat (first | (with_reducible first | exact HB.out | apply below_alloc | apply pw_below_drewN | apply below_drew1) | exact HB.out)))); have n3_ := Aside0.mk (below_step (by repeat (first | (with_reducible first | exact HB.out | apply below_alloc | apply pw_below_drewN | apply below_drew1) | exact HB.out)) hb); clear HF159; clear HO162; clear HB; have HF159 := n0_; have HO162 := n1_; have HO166 := n2_; have HB := n3_; clear n0_ n1_ n2_ n3_; (try clear hb); (try clear hb2); (try clear hk); (try clear hi); (try clear ho0); obtain ⟨Ao28, co28, eo28⟩ := Kd.N_slice HO162.out; subst eo28; obtain ⟨Ao29, co29, eo29⟩ := Kd.N_slice HO166.out; subst eo29) | ((with_reducible refine gate_callee (f := 17) rfl ?_); refine goesL_ (some 31) rfl rfl Try.func17 (by kernel_rfl) rfl #[.slice Ao28 t160.length co28, .slice Ao29 t164.length co29] rfl (by (try simp only [List.map_toArray, List.map_cons, List.map_nil]); first | done | rfl | (simp only [List.length_drop, List.length_take]; rfl)) ?_; (with_reducible refine (milllaw10_sameSteps.calls k _ _ t160 _ _ t164 false _ ?side1 ?side2 ?side3 ?side4 A7.out).mono ?_); (case side1 => repeat (first | exact (Kd.N_reads' HO162.out).2.2 | (with_reducible refine Kd.C_alloc ?_ _) | (with_reducible refine Kd.C_drewN ?_ _) | (with_reducible refine Kd.C_drew ?_))); (case side2 => exact (Kd.N_reads' HO162.out).2.1); (case side3 => repeat (first | exact (Kd.N_reads' HO166.out).2.2 | (with_reducible refine Kd.C_alloc ?_ _) | (with_reducible refine Kd.C_drewN ?_ _) | (with_reducible refine Kd.C_drew ?_))); (case side4 => exact (Kd.N_reads' HO166.out).2.1); rintro e w' ⟨rfl, ⟨nd, rfl⟩⟩; refine ⟨_, rfl, ?_⟩) | ((with_reducible refine gate_callee (f := 18) rfl ?_); refine goesL_ (some 34) rfl rfl Try.func18 (by kernel_rfl) rfl #[.slice Ao25 l0.length co25, .slice A0 l0.length c0] rfl (by (try simp only [List.map_toArray, List.map_cons, List.map_nil]); first | done | rfl | (simp only [List.length_drop, List.length_take]; rfl)) ?_; (with_reducible refine (milllaw10_keptF.calls k _ _ l0 _ _ l0 t169 _ ?side1 ?side2 t157 ?sideF HC159.out ?side3 ?side4 A8.out).mono ?_); (case sideF => repeat (first | exact HF159.out | (with_reducible refine Kd.C_alloc ?_ _) | (with_reducible refine Kd.C_drewN ?_ _) | (with_reducible refine Kd.C_drew ?_))); (case side1 => repeat (first | exact C_prefix HF159.out HG4.out HL159.out | (with_reducible refine Kd.C_alloc ?_ _) | (with_reducible refine Kd.C_drewN ?_ _) | (with_reducible refine Kd.C_drew ?_))); (case side2 => exact Nat.le_trans HL159.out HC159.out); (case side3 => repeat (first | exact (Kd.C_below HR0.out (by repeat (first | (with_reducible first | exact HB.out | apply below_alloc | apply pw_below_drewN | apply below_drew1) | exact HB.out))) | (with_reducible refine Kd.C_alloc ?_ _) | (with_reducible refine Kd.C_drewN ?_ _) | (with_reducible refine Kd.C_drew ?_))); (case side4 => exact HC0.out); rintro e w' ⟨rfl, ⟨nd, rfl⟩⟩; refine ⟨_, rfl, ?_⟩))
      go_ret
      exact ⟨by first | rfl | (simp [errW_none, errW_some] <;> rfl) | (simp [*, errW_none, errW_some] <;> rfl), by repeat (first | (with_reducible first | exact HB.out | apply below_alloc | apply pw_below_drewN | apply below_drew1) | exact HB.out)⟩

/-- THE ONE PURE STATEMENT of milllaw10_PlanMakes: yours. -/
def milllaw10_PlanMakes.Pure : Prop := ∀ (l0 : List Int) (a1 : Int), l0.length ≤ maxLen → l0.length * 8 ≤ 140737488351232 → (∀ x ∈ l0, (Lit.int .i64 x).wf = true) → (Lit.int .i64 a1).wf = true → ∃ k, milllaw10_PlanMakes.f k l0 a1 = some true
theorem milllaw10_PlanMakes.walk (P : milllaw10_PlanMakes.Pure) (a0 : Option Addr) (len0 cap0 : Nat) (z0 : List Int) (a1 : Int) (w : World) (w0 : (a0 = none ∧ len0 = 0 ∧ cap0 = 0 ∧ z0 = []) ∨ ∃ x, a0 = some x ∧ len0 ≤ cap0 ∧ cap0 ≤ maxLen ∧ z0.length = cap0 ∧ (∀ i, i < z0.length → w.cell? (x.add i) = some (.int .i64 (z0.getD i 0))) ∧ ∀ n ∈ z0, (Lit.int .i64 n).wf = true) (y0 : len0 * 8 ≤ 140737488351232) (w1 : (Lit.int .i64 a1).wf = true) :
    Calls Try.prog 4 #[.slice a0 len0 cap0, .int .i64 a1] w fun e w' => e = .returned (.bool true) ∧ Below w.heap.size w w' := by
  obtain ⟨l0, rfl, hr0, hm0, hw0, hc0⟩ := ReadsInt.ofRowC w0
  obtain ⟨k, h⟩ := P l0 a1 hm0 y0 hw0 w1
  refine (milllaw10_PlanMakes.calls k _ _ l0 a1 true w (Kd.C_of_reads (d := (0 : Int)) (h1 := fun _ => rfl) hr0) hc0 h).mono ?_
  rintro e w' ⟨rfl, hd⟩
  exact ⟨rfl, hd⟩

end Go.Proofs.Ytbgabijjnbmghaa.P
/- Plain law: PlanMakes answers true. -/
namespace Go.Proofs.Ytbgabijjnbmghaa.P
open Go.RowKit Go.Proofs.Ytbgabijjnbmghaa Go.Proofs.YtbgabijjnbmghaaW.PrintWords Go.Proofs.YtbgabijjnbmghaaW.PrintLast Go.Proofs.YtbgabijjnbmghaaW.PrintMore
set_option linter.unusedVariables false
set_option linter.unusedSimpArgs false

theorem sameInts_l0 (l : List Int) (hl : l.length ≤ 1000000) : ∀ (d i : Nat), l.length - i = d → i ≤ l.length → Ev (fun k => milllaw10_sameInts.l0 k l l i) true
  | 0, i, hd, hi => by
    have e1 : ¬ (i : Int) < l.length := by omega
    exact Ev.step (f := fun _ => some true) (fun k => by rw [milllaw10_sameInts.l0, if_neg e1]) (Ev.now _)
  | d + 1, i, hd, hi => by
    have e1 : (i : Int) < l.length := by omega
    have e2 : (0 : Int) ≤ (i : Int) := by omega
    exact Ev.step (fun k => by rw [milllaw10_sameInts.l0, if_pos e1, if_pos e2, if_pos e1, if_pos rfl, wS (by omega)]) (sameInts_l0 l hl d (i + 1) (by omega) (by omega))
theorem sameInts_ev (l : List Int) (hl : l.length ≤ 1000000) : Ev (fun k => milllaw10_sameInts.f k l l) true :=
  Ev.congr (fun k => by unfold milllaw10_sameInts.f; rw [if_pos rfl]; rfl) (sameInts_l0 l hl l.length 0 rfl (Nat.zero_le _))
theorem sameSteps_l0 (l : List S51) (hl : l.length ≤ 1000000) (hi : ∀ (s : Nat) (h : s < l.length), (l[s]).f0.length ≤ 1000000) : ∀ (d i : Nat), l.length - i = d → i ≤ l.length → Ev (fun k => milllaw10_sameSteps.l0 k l l i) true
  | 0, i, hd, hi2 => by
    have e1 : ¬ (i : Int) < l.length := by omega
    exact Ev.step (f := fun _ => some true) (fun k => by rw [milllaw10_sameSteps.l0, if_neg e1]) (Ev.now _)
  | d + 1, i, hd, hi2 => by
    have hlt : i < l.length := by omega
    have e1 : (i : Int) < l.length := by omega
    have e2 : (0 : Int) ≤ (i : Int) := by omega
    have hb : i ≤ 4611686018427387904 := by omega
    refine Ev.step (f := fun k => (milllaw10_sameInts.f k (l[i]).f0 (l[i]).f0).bind fun t => if t = true then milllaw10_sameSteps.l0 k l l ((i + 1 : Nat) : Int) else some false) (fun k => ?_) ?_
    · rw [milllaw10_sameSteps.l0, if_pos e1, if_pos e2, if_pos e1, rdT_getElem hlt, wS hb]; simp only [if_true]
    · refine Ev.bind (sameInts_ev _ (hi i hlt)) ?_
      simp only [if_true]
      exact sameSteps_l0 l hl hi d (i + 1) (by omega) (by omega)
theorem sameSteps_ev (l : List S51) (hl : l.length ≤ 1000000) (hi : ∀ (s : Nat) (h : s < l.length), (l[s]).f0.length ≤ 1000000) : Ev (fun k => milllaw10_sameSteps.f k l l) true :=
  Ev.congr (fun k => by unfold milllaw10_sameSteps.f; rw [if_pos rfl]; rfl) (sameSteps_l0 l hl hi l.length 0 rfl (Nat.zero_le _))
/-! ### roomy, kept -/
def marks : List Int := [1000, 1001, 1002, 1003]
theorem roomy_l1 (l : List Int) (hl : l.length ≤ 1000000) : Ev (fun k => milllaw10_roomyF.l1 k l (l ++ List.replicate 4 0) 0) (l ++ marks) := by
  have hset : ∀ (a : List Int) (b : List Int) (i : Nat) (v : Int), (l ++ b).set (l.length + i) v = l ++ b.set i v := fun a b i v => by
    rw [List.set_append_right _ _ (by omega), Nat.add_sub_cancel_left]
  have step : ∀ (b : List Int) (i : Nat) (v : Int), b.length = 4 → i < 4 → wrap64 (1000 + (i : Int)) = v → ∀ k, milllaw10_roomyF.l1 (k + 1) l (l ++ b) i = milllaw10_roomyF.l1 k l (l ++ b.set i v) ((i + 1 : Nat) : Int) := fun b i v hb hi hv k => by
    have e1 : (i : Int) < 4 := by clear hv; omega
    have e3 : (0 : Int) ≤ ((l.length + i : Nat) : Int) := Int.natCast_nonneg _
    have e4 : ((l.length + i : Nat) : Int) < ((l ++ b).length : Int) := by rw [List.length_append]; clear hv; omega
    rw [milllaw10_roomyF.l1, if_pos e1, wA (by clear hv; omega) (by clear hv; omega), if_pos e3, if_pos e4, Int.toNat_natCast, hset [] , hv, wS (by clear hv; omega)]
  refine Ev.step (step _ 0 1000 rfl (by omega) (by rw [w64 _ (by omega) (by omega)]; rfl)) (Ev.step (step _ 1 1001 rfl (by omega) (by rw [w64 _ (by omega) (by omega)]; rfl)) (Ev.step (step _ 2 1002 rfl (by omega) (by rw [w64 _ (by omega) (by omega)]; rfl)) (Ev.step (step _ 3 1003 rfl (by omega) (by rw [w64 _ (by omega) (by omega)]; rfl)) ?_)))
  refine Ev.step (f := fun _ => some (l ++ marks)) (fun k => ?_) (Ev.now _)
  have e1 : ¬ ((3 + 1 : Nat) : Int) < 4 := by omega
  have e2 : (0 : Int) ≤ (l.length : Int) := Int.natCast_nonneg _
  have e3 : (l.length : Int) ≤ ((l ++ marks).length : Int) := by rw [List.length_append]; omega
  show milllaw10_roomyF.l1 (k + 1) l (l ++ marks) ((3 + 1 : Nat) : Int) = _
  rw [milllaw10_roomyF.l1, if_neg e1, if_pos e2, if_pos e3]
theorem roomy_l0 (l : List Int) (hl : l.length ≤ 1000000) : ∀ (d i : Nat), l.length - i = d → i ≤ l.length → Ev (fun k => milllaw10_roomyF.l0 k l (l.take i ++ List.replicate (l.length - i + 4) 0) i) (l ++ marks)
  | 0, i, hd, hi => by
    have e : i = l.length := by omega
    subst e
    have e1 : ¬ (l.length : Int) < l.length := by omega
    rw [List.take_length, Nat.sub_self, Nat.zero_add]
    exact Ev.step (fun k => by rw [milllaw10_roomyF.l0, if_neg e1]) (roomy_l1 l hl)
  | d + 1, i, hd, hi => by
    have hlt : i < l.length := by omega
    have e1 : (i : Int) < l.length := by omega
    have e2 : (0 : Int) ≤ (i : Int) := by omega
    have hlen : (l.take i ++ List.replicate (l.length - i + 4) (0 : Int)).length = l.length + 4 := by rw [List.length_append, List.length_take, List.length_replicate]; omega
    have e3 : (i : Int) < ((l.take i ++ List.replicate (l.length - i + 4) (0 : Int)).length : Int) := by rw [hlen]; omega
    have e4 : (l.take i ++ List.replicate (l.length - i + 4) (0 : Int)).set i l[i] = l.take (i + 1) ++ List.replicate (l.length - (i + 1) + 4) 0 := by
      have h1 : (l.take i).length = i := by rw [List.length_take]; omega
      rw [List.set_append_right _ _ (by omega), h1, Nat.sub_self, show l.length - i + 4 = (l.length - (i + 1) + 4) + 1 from by omega, List.replicate_succ, List.set_cons_zero, take_succ_at hlt, List.append_assoc]; rfl
    refine Ev.step (fun k => ?_) (roomy_l0 l hl d (i + 1) (by omega) (by omega))
    rw [milllaw10_roomyF.l0, if_pos e1, if_pos e2, if_pos e3, rd_getElem hlt, Int.toNat_natCast, e4, wS (by omega)]
theorem roomyF_ev (l : List Int) (hl : l.length ≤ 65536) : Ev (fun k => milllaw10_roomyF.f k l) (l ++ marks) := by
  have e1 : wrap64 ((l.length : Int) + 4) = ((l.length + 4 : Nat) : Int) := by rw [w64 _ (by omega) (by omega)]; omega
  have e2 : (0 : Int) ≤ ((l.length + 4 : Nat) : Int) := Int.natCast_nonneg _
  have e3 : l.length + 4 ≤ 35184372088832 := by omega
  refine Ev.congr (fun k => ?_) (roomy_l0 l (by omega) l.length 0 rfl (Nat.zero_le _))
  unfold milllaw10_roomyF.f
  rw [e1, if_pos e2, Int.toNat_natCast, if_pos e3]; rfl
theorem keptF_ev (l : List Int) (hl : l.length ≤ 65536) : Ev (fun k => milllaw10_keptF.f k l (l ++ marks) l) true := by
  unfold milllaw10_keptF.f
  have hb : l.length ≤ 4611686018427387903 := by omega
  have e2 : (0 : Int) ≤ ((l.length + 4 : Nat) : Int) := Int.natCast_nonneg _
  have e3 : ((l.length + 4 : Nat) : Int) ≤ ((l ++ marks).length : Int) := by rw [List.length_append]; exact Int.le_refl _
  have e1 : wrap64 ((l.length : Int) + 4) = ((l.length + 4 : Nat) : Int) := wA (b := 4) hb (by decide)
  have e4 : (l ++ marks).take (l.length + 4) = l ++ marks := List.take_of_length_le (by rw [List.length_append]; exact Nat.le_refl _)
  refine Ev.bind (sameInts_ev l (by omega)) ?_
  simp only [e1, if_pos e2, if_pos e3, Int.toNat_natCast, e4]
  have step : ∀ (i : Nat) (v : Int), i < 4 → marks.getD i 0 = v → wrap64 (1000 + (i : Int)) = v → ∀ k, milllaw10_keptF.l0 (k + 1) l.length true (l ++ marks) i = milllaw10_keptF.l0 k l.length true (l ++ marks) ((i + 1 : Nat) : Int) := fun i v hi hm hv k => by
    have a1 : (i : Int) < 4 := by clear hv e1; omega
    have a3 : (0 : Int) ≤ ((l.length + i : Nat) : Int) := Int.natCast_nonneg _
    have a4 : ((l.length + i : Nat) : Int) < ((l ++ marks).length : Int) := by rw [List.length_append]; show _ < ((l.length + 4 : Nat) : Int); clear hv e1; omega
    have a5 : rd (l ++ marks) ((l.length + i : Nat) : Int) = v := by
      rw [rd_nat, List.getD_eq_getElem?_getD, List.getElem?_append_right (Nat.le_add_right _ _), Nat.add_sub_cancel_left, ← List.getD_eq_getElem?_getD, hm]
    rw [milllaw10_keptF.l0, if_pos a1, wA hb (by clear hv e1; omega), if_pos a3, if_pos a4, a5, hv, if_pos rfl, wS (by clear hv e1; omega)]
  refine Ev.step (step 0 1000 (by omega) rfl (by rw [w64 _ (by omega) (by omega)]; rfl)) (Ev.step (step 1 1001 (by omega) rfl (by rw [w64 _ (by omega) (by omega)]; rfl)) (Ev.step (step 2 1002 (by omega) rfl (by rw [w64 _ (by omega) (by omega)]; rfl)) (Ev.step (step 3 1003 (by omega) rfl (by rw [w64 _ (by omega) (by omega)]; rfl)) ?_)))
  have a1 : ¬ ((3 + 1 : Nat) : Int) < 4 := by omega
  exact Ev.step (f := fun _ => some true) (fun k => by rw [milllaw10_keptF.l0, if_neg a1]) (Ev.now _)
end Go.Proofs.Ytbgabijjnbmghaa.P
namespace Go.Proofs.Ytbgabijjnbmghaa.Pure
open Go.RowKit Go.Proofs.Ytbgabijjnbmghaa Go.Proofs.Ytbgabijjnbmghaa.P Go.Proofs.YtbgabijjnbmghaaW.PrintWords Go.Proofs.YtbgabijjnbmghaaW.PrintLast
set_option linter.unusedVariables false
set_option linter.unusedSimpArgs false

theorem makes_ev (l : List Int) (fan : Int) : Ev (fun k => milllaw10_PlanMakes.f k l fan) true := by
  unfold milllaw10_PlanMakes.f
  by_cases c1 : (l.length : Int) > 2048
  · simp only [if_pos c1]; exact Ev.now _
  simp only [if_neg c1]
  have hl : l.length ≤ 65536 := by omega
  refine Ev.bind (roomyF_ev l hl) ?_
  have hg4 : (l ++ marks).take l.length = l := List.take_left' rfl
  simp only [if_pos hg4]
  by_cases hg : givenV l fan = 0
  · obtain ⟨g1, g2, g3, g4, g5⟩ := givenV_zero hg
    have hplan := gSteps_plan (l := l) (fan := fan.toNat) (by omega) g3
    have hfew := hplan.few
    refine Ev.bind (make_ev hg) (Ev.bind (refMake_ev hg) (Ev.bind (sameSteps_ev (gSteps l fan.toNat) (by omega) (fun s h => by have := plan_lens hplan (by omega) s h; omega)) (Ev.bind (keptF_ev l hl) ?_)))
    exact Ev.congr (f := fun _ => some true) (fun k => by simp [milllaw10_num.f]) (Ev.now _)
  · refine Ev.bind (make_ev_bad hg) (Ev.bind (refMake_bad hg) (Ev.bind (sameSteps_ev [] (by simp) (fun s h => by simp at h)) (Ev.bind (keptF_ev l hl) ?_)))
    exact Ev.congr (f := fun _ => some true) (fun k => by simp [milllaw10_num.f]) (Ev.now _)
theorem PlanMakes : milllaw10_PlanMakes.Pure := fun l0 a1 _ _ _ _ => (makes_ev l0 a1).rounds

end Go.Proofs.Ytbgabijjnbmghaa.Pure
-- Written by my own program wip/Plan/myprint.py over the kit's print.py (hooks: functions given by hand). Not trusted: Lean checks it.
namespace Go.Proofs.Ytbgabijjnbmghaa.planMakes
open Go.ChangeShapes Go.WideShapes Go.ChangeAt Go.RowKit
open Go.ChangeMaps (open_string shut_string)
set_option linter.unusedVariables false
theorem own : ownKnob Try.prog.godebug = none := by kernel_rfl
theorem laidOut : laidOutB Try.prog = true := by kernel_rfl
def IsRow (k : IntKind) (w : World) (a : Option Addr) (len cap : Nat) (zs : List Int) : Prop :=
  (a = none ∧ len = 0 ∧ cap = 0 ∧ zs = []) ∨
  ∃ x, a = some x ∧ len ≤ cap ∧ cap ≤ maxLen ∧ zs.length = cap ∧ (∀ i, i < zs.length → w.cell? (x.add i) = some (.int k (zs.getD i 0))) ∧ ∀ n ∈ zs, (Lit.int k n).wf = true
set_option maxRecDepth 100000 in
theorem lifted (os : Os) (started : os.Started) (H : Type) (enc : TypeId × Value → H) :
    ReturnsInHanded {} Try.checked os 4 .any (Rows.planMakesSpec.pre6 enc Try.prog Try.f4 Rows.planMakesRow.domain false) (Rows.planMakesSpec.post enc Try.prog Try.f4 false true false false) := by
  refine returnsInHanded_of_change_sized (C := Try.checked) own started (by kernel_rfl) Try.func4
    (ChangeSpec.witness6 (enc := enc) (C := Try.checked) false ⟨#[], #[.slice none 0 0, .int .i64 0], []⟩ 8 (by kernel_rfl) (by kernel_rfl) (by kernel_rfl) (by kernel_rfl)) ?_
  intro W base args ds gs before hval0 hW hcnd hsz0 _
  have hsz : (DataW.weightsEach Try.prog (Try.f4.params.toList ++ Rows.planMakesSpec.plain.varTypes Try.prog) (ds ++ gs)).all (· ≤ reachBytes) = true := hsz0
  have hval : ∀ (j : Nat) t v, Try.f4.params[j]? = some t → args[j]? = some v → Value.okWide Try.prog W .any base t v := hval0
  have hW' := hW
  obtain ⟨p, q, hA0, hV, rfl, hfz, hnd⟩ := hW
  have hA : DataW.TrodAll enc Try.prog W 0 (fun _ => true) true Try.f4.params.toList args.toList ds p := hA0
  rw [Try.params4] at hA hval hsz
  obtain ⟨v0, vs0, d0, ds0, p0, q0, hargs, rfl, rfl, h0, r0⟩ := trodAll_cons hA
  obtain ⟨v1, vs1, d1, ds1, p1, q1, rfl, rfl, rfl, h1, r1⟩ := trodAll_cons r0
  obtain ⟨rfl, rfl, rfl⟩ := trodAll_nil r1
  obtain rfl : args = #[v0, v1] := by cases args; simp_all
  obtain ⟨rfl, rfl⟩ := trodVars_none hV
  obtain ⟨a0, len0, cap0, rfl⟩ := okWide_slice Try.underlying22 (hval 0 22 v0 rfl rfl)
  have k0 := h0
  have lt0 : ∀ x ∈ p0, x.block < W.heap.size := by obtain ⟨m, hm⟩ := k0; exact DataW.trod_lt m _ _ _ hm
  obtain ⟨z0, w0⟩ : ∃ zs, IsRow .i64 W a0 len0 cap0 zs := by
    obtain ⟨fuel, hf⟩ := h0
    rcases open_ints Try.underlying22 Try.underlying3 (by kernel_rfl) hf with ⟨hcs, _⟩ | ⟨x, l, c, zs, hcs, _, hl, hm, hz, _, hcell, hwz⟩
    · simp [Value.cells] at hcs
      obtain ⟨rfl, rfl, rfl⟩ := hcs
      exact ⟨[], .inl ⟨rfl, rfl, rfl, rfl⟩⟩
    · simp [Value.cells] at hcs
      obtain ⟨rfl, rfl, rfl⟩ := hcs
      exact ⟨zs, .inr ⟨_, rfl, hl, hm, by simpa using hz, hcell, hwz⟩⟩
  have y0 : len0 * 8 ≤ 140737488351232 := Go.Proofs.YtbgabijjnbmghaaW.PrintWords.sized_ints hsz (j := 0) (t := 22) rfl rfl Try.underlying22 Try.underlying3 (by kernel_rfl) (by kernel_rfl) h0
  obtain ⟨a1, rfl, rfl, rfl, w1⟩ := open_int Try.underlying3 (hval 1 3 v1 rfl rfl) h1
  clear hA0 hval0 hsz0 hsz
  refine (P.milllaw10_PlanMakes.walk Pure.PlanMakes a0 len0 cap0 z0 a1 W w0 y0 w1).mono fun e W' ⟨he, bel⟩ => ?_
  subst he
  exact ⟨_, rfl, _, _, _, [], _, [], hW', trodAll_mk1 (shut_bool Try.underlying4 _), (trodAll_cons_mk (Below.trod laidOut (by kernel_rfl) (of_decide_eq_true (by kernel_rfl)) k0 bel lt0) (trodAll_cons_mk (shut_int Try.underlying3 w1) trodAll_mk0)), rfl, bel.frame _, fun h => by cases h⟩
theorem over : Rows.planMakesRow.holds Try.pinned (OpenSpec.ofChange Rows.planMakesSpec) :=
  OpenClaim.holds_of_wide 4 Try.f4 rfl rfl rfl rfl rfl rfl rfl ⟨rfl, rfl, rfl, rfl, rfl⟩ rfl rfl rfl rfl rfl (by kernel_rfl) Try.func4 (by kernel_rfl)
    (of_decide_eq_true (by kernel_rfl)) (by unfold Func.isWrapper; first | (rw [if_pos (by decide +kernel)]; kernel_rfl) | (rw [if_neg (by decide +kernel)]; exact ⟨rfl, rfl⟩))
    (fun os started H enc _ => lifted os started H enc)
theorem proved : Rows.PlanMakesSaid := over
#print axioms proved
end Go.Proofs.Ytbgabijjnbmghaa.planMakes
namespace Go.Proofs.Ytbgabijjnbmghaa
/-- The row, under a short name, for the claim. -/
theorem planMakes_holds : Rows.PlanMakesSaid := planMakes.proved
end Go.Proofs.Ytbgabijjnbmghaa
