/- Plain law: a binary heap over rungs (number, key): what its moves do; its pops come in order. From my texts of the Plan seat. -/
import Derived.Test.YtjjfaiociajikaaWKept
namespace Go.Proofs.Ytjjfaiociajikaa
open Go.RowKit Go.Proofs.YtjjfaiociajikaaW.PrintWords
set_option linter.unusedVariables false
set_option linter.unusedSimpArgs false
/-- a rung: its run, its weight -/
abbrev Rung := Int × Int
def lessB (x y : Rung) : Bool := decide (x.2 < y.2) || (decide (x.2 = y.2) && decide (x.1 < y.1))
def at_ (l : List Rung) (i : Nat) : Rung := l.getD i (0, 0)
def swapAt (l : List Rung) (i j : Nat) : List Rung := (l.set i (at_ l j)).set j (at_ l i)

theorem at_of_lt {l : List Rung} {i : Nat} (h : i < l.length) : l[i]? = some (at_ l i) := by
  unfold at_; rw [List.getElem?_eq_getElem h, List.getD_eq_getElem?_getD, List.getElem?_eq_getElem h]; rfl
theorem swapAt_length (l : List Rung) (i j : Nat) : (swapAt l i j).length = l.length := by simp [swapAt]
theorem swapAt_get {l : List Rung} {i j : Nat} (hi : i < l.length) (hj : j < l.length) (m : Nat) : (swapAt l i j)[m]? = if m = j then some (at_ l i) else if m = i then some (at_ l j) else l[m]? := by
  unfold swapAt
  by_cases h1 : m = j
  · subst h1; rw [if_pos rfl, List.getElem?_set]; simp [hj]
  · rw [if_neg h1, List.getElem?_set_ne (by omega)]
    by_cases h2 : m = i
    · subst h2; rw [if_pos rfl, List.getElem?_set]; simp [hi]
    · rw [if_neg h2, List.getElem?_set_ne (by omega)]

def downL (n : Nat) : Nat → List Rung → Nat → List Rung
  | 0, l, _ => l
  | f + 1, l, i =>
    if 2 * i + 1 < n then
      if 2 * i + 2 < n ∧ lessB (at_ l (2 * i + 2)) (at_ l (2 * i + 1)) = true then
        if lessB (at_ l (2 * i + 2)) (at_ l i) = true then downL n f (swapAt l i (2 * i + 2)) (2 * i + 2) else l
      else if lessB (at_ l (2 * i + 1)) (at_ l i) = true then downL n f (swapAt l i (2 * i + 1)) (2 * i + 1) else l
    else l
theorem downL_stop {n : Nat} (f : Nat) (l : List Rung) {i : Nat} (h : ¬ 2 * i + 1 < n) : downL n f l i = l := by
  cases f with
  | zero => rfl
  | succ f => rw [downL, if_neg h]
theorem downL_two_go {n f : Nat} {l : List Rung} {i : Nat} (h : 2 * i + 2 < n) (h2 : lessB (at_ l (2 * i + 2)) (at_ l (2 * i + 1)) = true) (h3 : lessB (at_ l (2 * i + 2)) (at_ l i) = true) : downL n (f + 1) l i = downL n f (swapAt l i (2 * i + 2)) (2 * i + 2) := by
  rw [downL, if_pos (by omega), if_pos ⟨h, h2⟩, if_pos h3]
theorem downL_two_stay {n f : Nat} {l : List Rung} {i : Nat} (h : 2 * i + 2 < n) (h2 : lessB (at_ l (2 * i + 2)) (at_ l (2 * i + 1)) = true) (h3 : lessB (at_ l (2 * i + 2)) (at_ l i) = false) : downL n (f + 1) l i = l := by
  rw [downL, if_pos (by omega), if_pos ⟨h, h2⟩, if_neg (by simp [h3])]
theorem downL_one_go {n f : Nat} {l : List Rung} {i : Nat} (h : 2 * i + 1 < n) (h2 : 2 * i + 2 < n → lessB (at_ l (2 * i + 2)) (at_ l (2 * i + 1)) = false) (h3 : lessB (at_ l (2 * i + 1)) (at_ l i) = true) : downL n (f + 1) l i = downL n f (swapAt l i (2 * i + 1)) (2 * i + 1) := by
  rw [downL, if_pos h, if_neg (fun hc => by simp [h2 hc.1] at hc), if_pos h3]
theorem downL_one_stay {n f : Nat} {l : List Rung} {i : Nat} (h : 2 * i + 1 < n) (h2 : 2 * i + 2 < n → lessB (at_ l (2 * i + 2)) (at_ l (2 * i + 1)) = false) (h3 : lessB (at_ l (2 * i + 1)) (at_ l i) = false) : downL n (f + 1) l i = l := by
  rw [downL, if_pos h, if_neg (fun hc => by simp [h2 hc.1] at hc), if_neg (by simp [h3])]
def upL : Nat → List Rung → Nat → List Rung
  | 0, l, _ => l
  | f + 1, l, j => if j = 0 then l else if lessB (at_ l j) (at_ l ((j - 1) / 2)) = true then upL f (swapAt l ((j - 1) / 2) j) ((j - 1) / 2) else l
theorem upL_stop (f : Nat) (l : List Rung) : upL f l 0 = l := by
  cases f with
  | zero => rfl
  | succ f => rw [upL, if_pos rfl]
theorem upL_go {f : Nat} {l : List Rung} {j : Nat} (h : ¬ j = 0) (h2 : lessB (at_ l j) (at_ l ((j - 1) / 2)) = true) : upL (f + 1) l j = upL f (swapAt l ((j - 1) / 2) j) ((j - 1) / 2) := by
  rw [upL, if_neg h, if_pos h2]
theorem upL_stay {f : Nat} {l : List Rung} {j : Nat} (h : ¬ j = 0) (h2 : lessB (at_ l j) (at_ l ((j - 1) / 2)) = false) : upL (f + 1) l j = l := by
  rw [upL, if_neg h, if_neg (by simp [h2])]
/-- Init's rounds: i - 1, .., 0 -/
theorem downL_length (n : Nat) : ∀ (f : Nat) (l : List Rung) (i : Nat), (downL n f l i).length = l.length
  | 0, l, i => rfl
  | f + 1, l, i => by
    unfold downL
    split
    · split
      · split
        · rw [downL_length n f, swapAt_length]
        · rfl
      · split
        · rw [downL_length n f, swapAt_length]
        · rfl
    · rfl
theorem upL_length : ∀ (f : Nat) (l : List Rung) (i : Nat), (upL f l i).length = l.length
  | 0, l, i => rfl
  | f + 1, l, i => by
    unfold upL
    split
    · rfl
    · split
      · rw [upL_length f, swapAt_length]
      · rfl
def popL (l : List Rung) : List Rung := downL (l.length - 1) (l.length - 1) (swapAt l 0 (l.length - 1)) 0
theorem popL_length (l : List Rung) : (popL l).length = l.length := by rw [popL, downL_length, swapAt_length]

/-- the order of rungs -/
def le (x y : Rung) : Prop := x.2 < y.2 ∨ (x.2 = y.2 ∧ x.1 ≤ y.1)
instance (x y : Rung) : Decidable (le x y) := by unfold le; infer_instance
theorem lessB_iff (x y : Rung) : lessB x y = true ↔ ¬ le y x := by
  unfold lessB le
  simp only [Bool.or_eq_true, Bool.and_eq_true, decide_eq_true_eq]
  omega
theorem lessB_false (x y : Rung) : lessB x y = false ↔ le y x := by
  have := lessB_iff x y
  cases h : lessB x y <;> simp [h] at this ⊢ <;> exact this
theorem le_refl (x : Rung) : le x x := by unfold le; omega
theorem le_total (x y : Rung) : le x y ∨ le y x := by unfold le; omega
theorem le_trans {x y z : Rung} (h : le x y) (k : le y z) : le x z := by unfold le at *; omega
theorem le_antisymm {x y : Rung} (h : le x y) (k : le y x) : x = y := by
  unfold le at *
  exact Prod.ext (by omega) (by omega)
theorem le_of_lessB {x y : Rung} (h : lessB x y = true) : le x y := by
  rcases le_total x y with k | k
  · exact k
  · exact absurd k ((lessB_iff x y).1 h)

/-! ### swaps -/
theorem at_swap {l : List Rung} {i j : Nat} (hi : i < l.length) (hj : j < l.length) (m : Nat) : at_ (swapAt l i j) m = if m = j then at_ l i else if m = i then at_ l j else at_ l m := by
  have h := swapAt_get hi hj m
  unfold at_ at *
  rw [List.getD_eq_getElem?_getD, h]
  split
  · rfl
  · split
    · rfl
    · rw [List.getD_eq_getElem?_getD]
theorem swapAt_perm {l : List Rung} {i j : Nat} (hi : i < l.length) (hj : j < l.length) : (swapAt l i j).Perm l := by
  have e1 : at_ l j = l[j] := by have := at_of_lt hj; rw [List.getElem?_eq_getElem hj] at this; exact (Option.some.inj this).symm
  have e2 : at_ l i = l[i] := by have := at_of_lt hi; rw [List.getElem?_eq_getElem hi] at this; exact (Option.some.inj this).symm
  unfold swapAt
  rw [e1, e2]
  exact List.set_set_perm hi hj

/-! ### down -/
/-- parents from s on come ahead of their children, below n -/
def HeapFrom (n s : Nat) (l : List Rung) : Prop := ∀ j, 0 < j → j < n → s ≤ (j - 1) / 2 → le (at_ l ((j - 1) / 2)) (at_ l j)
/-- .. but for i and its children, which stand behind i's parent -/
structure Hole (n s i : Nat) (l : List Rung) : Prop where
  rest : ∀ j, 0 < j → j < n → s ≤ (j - 1) / 2 → (j - 1) / 2 ≠ i → le (at_ l ((j - 1) / 2)) (at_ l j)
  over : 0 < i → s ≤ (i - 1) / 2 → ∀ j, 0 < j → j < n → (j - 1) / 2 = i → le (at_ l ((i - 1) / 2)) (at_ l j)
theorem hole_done {n s i : Nat} {l : List Rung} (h : Hole n s i l) (hc : ∀ j, 0 < j → j < n → (j - 1) / 2 = i → le (at_ l i) (at_ l j)) : HeapFrom n s l := by
  intro j h0 hj hs
  by_cases e : (j - 1) / 2 = i
  · have := hc j h0 hj e; rwa [← e] at this
  · exact h.rest j h0 hj hs e
theorem hole_next {n s i c : Nat} {l : List Rung} (h : Hole n s i l) (hn : n ≤ l.length) (hs : s ≤ i) (hcn : c < n) (hc0 : 0 < c) (hci : (c - 1) / 2 = i) (hmin : ∀ j, 0 < j → j < n → (j - 1) / 2 = i → le (at_ l c) (at_ l j)) (hlt : lessB (at_ l c) (at_ l i) = true) : Hole n s c (swapAt l i c) := by
  have hil : i < l.length := by omega
  have hcl : c < l.length := by omega
  have hic : i ≠ c := by omega
  refine ⟨?_, ?_⟩
  · intro j h0 hj hsj hne
    rw [at_swap hil hcl, at_swap hil hcl]
    rw [if_neg hne]
    by_cases e : (j - 1) / 2 = i
    · rw [if_pos e]
      by_cases ej : j = c
      · subst ej; rw [if_pos rfl]; exact le_of_lessB hlt
      · rw [if_neg ej, if_neg (by omega)]; exact hmin j h0 hj e
    · rw [if_neg e]
      by_cases ej : j = c
      · subst ej; omega
      · rw [if_neg ej]
        by_cases ei : j = i
        · subst ei
          rw [if_pos rfl]
          exact h.over h0 hsj c hc0 hcn hci
        · rw [if_neg ei]; exact h.rest j h0 hj hsj e
  · intro _ _ j h0 hj hjc
    rw [at_swap hil hcl, at_swap hil hcl]
    rw [if_neg (by omega), if_pos hci, if_neg (by omega), if_neg (by omega)]
    have := h.rest j h0 hj (by omega) (by omega)
    rwa [hjc] at this
theorem kids {i j : Nat} (h0 : 0 < j) (h : (j - 1) / 2 = i) : j = 2 * i + 1 ∨ j = 2 * i + 2 := by omega
theorem down_heap (n s : Nat) : ∀ (f : Nat) (l : List Rung) (i : Nat), n - i ≤ f → n ≤ l.length → s ≤ i → Hole n s i l → HeapFrom n s (downL n f l i)
  | 0, l, i, hf, hn, hs, h => hole_done h (fun j h0 hj e => by omega)
  | f + 1, l, i, hf, hn, hs, h => by
    unfold downL
    split
    · rename_i c1
      split
      · rename_i c2
        have hmin : ∀ j, 0 < j → j < n → (j - 1) / 2 = i → le (at_ l (2 * i + 2)) (at_ l j) := fun j h0 hj e => by
          rcases kids h0 e with rfl | rfl
          · exact le_of_lessB c2.2
          · exact le_refl _
        split
        · rename_i c3
          exact down_heap n s f _ _ (by omega) (by rw [swapAt_length]; exact hn) (by omega) (hole_next h hn hs c2.1 (by omega) (by omega) hmin c3)
        · rename_i c3
          have c3' : le (at_ l i) (at_ l (2 * i + 2)) := (lessB_false _ _).1 (by simpa using c3)
          exact hole_done h (fun j h0 hj e => le_trans c3' (hmin j h0 hj e))
      · rename_i c2
        have hmin : ∀ j, 0 < j → j < n → (j - 1) / 2 = i → le (at_ l (2 * i + 1)) (at_ l j) := fun j h0 hj e => by
          rcases kids h0 e with rfl | rfl
          · exact le_refl _
          · refine (lessB_false _ _).1 ?_
            cases hb : lessB (at_ l (2 * i + 2)) (at_ l (2 * i + 1)) with
            | false => rfl
            | true => exact absurd ⟨hj, hb⟩ c2
        split
        · rename_i c3
          exact down_heap n s f _ _ (by omega) (by rw [swapAt_length]; exact hn) (by omega) (hole_next h hn hs c1 (by omega) (by omega) hmin c3)
        · rename_i c3
          have c3' : le (at_ l i) (at_ l (2 * i + 1)) := (lessB_false _ _).1 (by simpa using c3)
          exact hole_done h (fun j h0 hj e => le_trans c3' (hmin j h0 hj e))
    · rename_i c1
      exact hole_done h (fun j h0 hj e => by rcases kids h0 e with rfl | rfl <;> omega)
theorem down_perm (n : Nat) : ∀ (f : Nat) (l : List Rung) (i : Nat), n ≤ l.length → (downL n f l i).Perm l
  | 0, l, i, hn => List.Perm.refl _
  | f + 1, l, i, hn => by
    unfold downL
    split
    · split
      · split
        · exact (down_perm n f _ _ (by rw [swapAt_length]; exact hn)).trans (swapAt_perm (by omega) (by omega))
        · exact List.Perm.refl _
      · split
        · exact (down_perm n f _ _ (by rw [swapAt_length]; exact hn)).trans (swapAt_perm (by omega) (by omega))
        · exact List.Perm.refl _
    · exact List.Perm.refl _
theorem down_far (n : Nat) : ∀ (f : Nat) (l : List Rung) (i m : Nat), n ≤ l.length → n ≤ m → at_ (downL n f l i) m = at_ l m
  | 0, l, i, m, hn, hm => rfl
  | f + 1, l, i, m, hn, hm => by
    unfold downL
    split
    · split
      · split
        · rw [down_far n f _ _ m (by rw [swapAt_length]; exact hn) hm, at_swap (by omega) (by omega), if_neg (by omega), if_neg (by omega)]
        · rfl
      · split
        · rw [down_far n f _ _ m (by rw [swapAt_length]; exact hn) hm, at_swap (by omega) (by omega), if_neg (by omega), if_neg (by omega)]
        · rfl
    · rfl

/-! ### up -/
structure Rise (n j : Nat) (l : List Rung) : Prop where
  rest : ∀ m, 0 < m → m < n → m ≠ j → le (at_ l ((m - 1) / 2)) (at_ l m)
  over : 0 < j → ∀ m, 0 < m → m < n → (m - 1) / 2 = j → le (at_ l ((j - 1) / 2)) (at_ l m)
theorem up_heap (n : Nat) : ∀ (f : Nat) (l : List Rung) (j : Nat), j ≤ f → n ≤ l.length → j < n → Rise n j l → HeapFrom n 0 (upL f l j)
  | 0, l, j, hf, hn, hj, h => fun m h0 hm _ => h.rest m h0 hm (by omega)
  | f + 1, l, j, hf, hn, hj, h => by
    unfold upL
    split
    · rename_i c1; exact fun m h0 hm _ => h.rest m h0 hm (by omega)
    · rename_i c1
      split
      · rename_i c2
        refine up_heap n f _ _ (by omega) (by rw [swapAt_length]; exact hn) (by omega) ?_
        have h1 : (j - 1) / 2 < l.length := by omega
        have h2 : j < l.length := by omega
        have hle := le_of_lessB c2
        refine ⟨?_, ?_⟩
        · intro m h0 hm hne
          rw [at_swap h1 h2, at_swap h1 h2]
          by_cases e1 : m = j
          · subst e1
            rw [if_neg (by omega), if_pos rfl, if_pos rfl]; exact hle
          · rw [if_neg e1, if_neg hne]
            by_cases e2 : (m - 1) / 2 = j
            · rw [if_pos e2]; exact h.over (by omega) m h0 hm e2
            · rw [if_neg e2]
              by_cases e3 : (m - 1) / 2 = (j - 1) / 2
              · rw [if_pos e3]
                have := h.rest m h0 hm e1
                rw [e3] at this
                exact le_trans hle this
              · rw [if_neg e3]; exact h.rest m h0 hm e1
        · intro hp0 m h0 hm e
          rw [at_swap h1 h2, at_swap h1 h2]
          rw [if_neg (by omega), if_neg (by omega)]
          have hp := h.rest ((j - 1) / 2) hp0 (by omega) (by omega)
          by_cases e1 : m = j
          · subst e1; rw [if_pos rfl]; exact hp
          · rw [if_neg e1, if_neg (by omega)]
            have := h.rest m h0 hm e1
            rw [e] at this
            exact le_trans hp this
      · rename_i c2
        intro m h0 hm _
        by_cases e : m = j
        · subst e; exact (lessB_false _ _).1 (by simpa using c2)
        · exact h.rest m h0 hm e
theorem up_perm : ∀ (f : Nat) (l : List Rung) (j : Nat), j < l.length → (upL f l j).Perm l
  | 0, l, j, hj => List.Perm.refl _
  | f + 1, l, j, hj => by
    unfold upL
    split
    · exact List.Perm.refl _
    · split
      · exact (up_perm f _ _ (by rw [swapAt_length]; omega)).trans (swapAt_perm (by omega) hj)
      · exact List.Perm.refl _

/-! ### the whole heap -/
def IsHeap (l : List Rung) : Prop := HeapFrom l.length 0 l
theorem heap_min {l : List Rung} (h : IsHeap l) : ∀ (j : Nat), j < l.length → le (at_ l 0) (at_ l j) := by
  intro j
  induction j using Nat.strongRecOn with
  | _ j ih =>
    intro hj
    by_cases e : j = 0
    · subst e; exact le_refl _
    · exact le_trans (ih ((j - 1) / 2) (by omega) (by omega)) (h j (by omega) hj (Nat.zero_le _))
theorem popL_last {l : List Rung} (h : l.length ≠ 0) : at_ (popL l) (l.length - 1) = at_ l 0 := by
  unfold popL
  rw [down_far _ _ _ _ _ (by rw [swapAt_length]; omega) (Nat.le_refl _), at_swap (by omega) (by omega), if_pos rfl]
theorem at_take {l : List Rung} {m j : Nat} (h : j < m) : at_ (l.take m) j = at_ l j := by
  unfold at_
  rw [List.getD_eq_getElem?_getD, List.getD_eq_getElem?_getD, List.getElem?_take_of_lt h]
theorem popL_heap {l : List Rung} (h : IsHeap l) (hl : l.length ≠ 0) : IsHeap ((popL l).take (l.length - 1)) := by
  have hp : HeapFrom (l.length - 1) 0 (popL l) := by
    refine down_heap (l.length - 1) 0 (l.length - 1) _ 0 (by omega) (by rw [swapAt_length]; omega) (Nat.le_refl _) ⟨?_, fun h0 => by omega⟩
    intro j h0 hj _ hne
    rw [at_swap (by omega) (by omega), at_swap (by omega) (by omega), if_neg (by omega), if_neg (by omega), if_neg (by omega), if_neg (by omega)]
    exact h j h0 (by omega) (Nat.zero_le _)
  intro j h0 hj _
  rw [List.length_take, popL_length] at hj
  rw [at_take (by omega), at_take (by omega)]
  exact hp j h0 (by omega) (Nat.zero_le _)
theorem popL_perm {l : List Rung} (hl : l.length ≠ 0) : (at_ l 0 :: (popL l).take (l.length - 1)).Perm l := by
  have h1 : (popL l).Perm l := (down_perm _ _ _ _ (by rw [swapAt_length]; omega)).trans (swapAt_perm (by omega) (by omega))
  have hlen := popL_length l
  have h2 : popL l = (popL l).take (l.length - 1) ++ [at_ l 0] := by
    have e := List.take_append_drop (l.length - 1) (popL l)
    have hd : (popL l).drop (l.length - 1) = [at_ l 0] := by
      rw [← popL_last hl]
      have hlt : l.length - 1 < (popL l).length := by omega
      rw [List.drop_eq_getElem_cons hlt, List.drop_of_length_le (by omega)]
      have := at_of_lt hlt
      rw [List.getElem?_eq_getElem hlt] at this
      rw [Option.some.inj this]
    rw [hd] at e
    exact e.symm
  rw [h2] at h1
  exact (List.perm_append_comm (l₁ := [at_ l 0]) (l₂ := (popL l).take (l.length - 1))).trans h1
theorem push_heap {l : List Rung} (h : IsHeap l) (x : Rung) : IsHeap (upL l.length (l ++ [x]) l.length) := by
  unfold IsHeap
  rw [upL_length]
  refine up_heap (l ++ [x]).length l.length _ l.length (Nat.le_refl _) (Nat.le_refl _) (by simp) ⟨?_, ?_⟩
  · intro m h0 hm hne
    have hm' : m < l.length := by simp at hm; omega
    have e : ∀ k, k < l.length → at_ (l ++ [x]) k = at_ l k := fun k hk => by
      unfold at_; rw [List.getD_eq_getElem?_getD, List.getD_eq_getElem?_getD, List.getElem?_append_left hk]
    rw [e _ hm', e _ (by omega)]
    exact h m h0 hm' (Nat.zero_le _)
  · intro h0 m hm0 hm e
    simp at hm; omega
theorem push_perm (l : List Rung) (x : Rung) : (upL l.length (l ++ [x]) l.length).Perm (x :: l) :=
  (up_perm _ _ _ (by simp)).trans List.perm_append_comm
end Go.Proofs.Ytjjfaiociajikaa
