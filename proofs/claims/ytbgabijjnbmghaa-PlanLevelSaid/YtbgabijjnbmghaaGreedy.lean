/- Plain law: plan.Make's steps are those of the greedy rule on a sorted list of rungs. -/
import Derived.Test.YtbgabijjnbmghaaOrd
import Derived.Test.YtbgabijjnbmghaaMakeA
namespace Go.Proofs.Ytbgabijjnbmghaa.P
open Go.RowKit Go.Proofs.Ytbgabijjnbmghaa
set_option linter.unusedVariables false

abbrev Sorted (s : List Rung) : Prop := s.Pairwise le
def insR (x : Rung) : List Rung → List Rung
  | [] => [x]
  | y :: l => if le x y then x :: y :: l else y :: insR x l
def sortR : List Rung → List Rung
  | [] => []
  | x :: l => insR x (sortR l)
def sumW (l : List Rung) : Int := (l.map (·.2)).sum
def greedy (n fan : Nat) : Nat → Nat → List Rung → List S51 → List S51
  | 0, _, _, st => st
  | f + 1, t, s, st =>
    if 1 < s.length then greedy n fan f fan (insR (((n + st.length : Nat) : Int), sumW (s.take t)) (s.drop t)) (st ++ [⟨sortI ((s.take t).map (·.1)), ((n + st.length : Nat) : Int)⟩])
    else st

theorem insR_perm (x : Rung) : ∀ (l : List Rung), (insR x l).Perm (x :: l)
  | [] => List.Perm.refl _
  | y :: l => by
    unfold insR
    split
    · exact List.Perm.refl _
    · exact ((insR_perm x l).cons y).trans (List.Perm.swap x y l)
theorem insR_length (x : Rung) (l : List Rung) : (insR x l).length = l.length + 1 := by rw [(insR_perm x l).length_eq]; rfl
theorem insR_sorted (x : Rung) : ∀ (l : List Rung), Sorted l → Sorted (insR x l)
  | [], h => List.pairwise_singleton _ _
  | y :: l, h => by
    unfold insR
    rw [Sorted, List.pairwise_cons] at h
    split
    · rename_i hxy
      refine List.Pairwise.cons ?_ (List.Pairwise.cons h.1 h.2)
      intro z hz
      rcases List.mem_cons.1 hz with rfl | hz
      · exact hxy
      · exact le_trans hxy (h.1 z hz)
    · rename_i hxy
      refine List.Pairwise.cons ?_ (insR_sorted x l h.2)
      intro z hz
      rcases List.mem_cons.1 ((insR_perm x l).mem_iff.1 hz) with rfl | hz
      · exact (le_total _ _).resolve_left hxy
      · exact h.1 z hz
theorem sortR_perm : ∀ (l : List Rung), (sortR l).Perm l
  | [] => List.Perm.refl _
  | x :: l => (insR_perm x _).trans ((sortR_perm l).cons x)
theorem sortR_sorted : ∀ (l : List Rung), Sorted (sortR l)
  | [] => List.Pairwise.nil
  | x :: l => insR_sorted x _ (sortR_sorted l)
theorem sortR_length (l : List Rung) : (sortR l).length = l.length := (sortR_perm l).length_eq
theorem sum_perm {a b : List Int} (h : a.Perm b) : a.sum = b.sum := by
  induction h with
  | nil => rfl
  | cons x _ ih => simp [ih]
  | swap x y l => simp; omega
  | trans _ _ ih1 ih2 => exact ih1.trans ih2
theorem sumW_perm {a b : List Rung} (h : a.Perm b) : sumW a = sumW b := sum_perm (h.map _)
theorem sumW_cons (x : Rung) (l : List Rung) : sumW (x :: l) = x.2 + sumW l := by simp [sumW]
theorem sumW_append (a b : List Rung) : sumW (a ++ b) = sumW a + sumW b := by simp [sumW]
theorem sumW_insR (x : Rung) (l : List Rung) : sumW (insR x l) = x.2 + sumW l := by rw [sumW_perm (insR_perm x l), sumW_cons]
theorem sumW_split (l : List Rung) (t : Nat) : sumW (l.take t) + sumW (l.drop t) = sumW l := by rw [← sumW_append, List.take_append_drop]
theorem sumW_nonneg : ∀ (l : List Rung), (∀ x ∈ l, 0 ≤ x.2) → 0 ≤ sumW l
  | [], h => by simp [sumW]
  | x :: l, h => by
    rw [sumW_cons]
    have h1 := h x (List.mem_cons_self ..)
    have h2 := sumW_nonneg l (fun y hy => h y (List.mem_cons_of_mem _ hy))
    omega
theorem wrap64_in (x : Int) (h : 0 ≤ x) (h2 : x ≤ 4611686018427387904) : wrap64 x = x := by unfold wrap64; omega

/-- the first of a sorted list is the heap's head -/
theorem head_eq {h s : List Rung} {x : Rung} (hh : IsHeap h) (hp : h.Perm (x :: s)) (hs : Sorted (x :: s)) : at_ h 0 = x := by
  have hl : 0 < h.length := by rw [hp.length_eq]; simp
  have h1 : at_ h 0 ∈ h := List.mem_of_getElem? (at_of_lt hl)
  have h2 : x ∈ h := hp.mem_iff.2 (List.mem_cons_self ..)
  obtain ⟨j, hj, rfl⟩ := List.getElem_of_mem h2
  have e : at_ h j = h[j] := by have := at_of_lt hj; rw [List.getElem?_eq_getElem hj] at this; exact (Option.some.inj this).symm
  have h3 := heap_min hh j hj
  rw [e] at h3
  refine le_antisymm h3 ?_
  rcases List.mem_cons.1 (hp.mem_iff.1 h1) with h4 | h4
  · rw [← h4]; exact le_refl _
  · exact (List.pairwise_cons.1 hs).1 _ h4
theorem popMany_spec : ∀ (t : Nat) (h s : List Rung) (ins : List Int) (sm : Int), IsHeap h → h.Perm s → Sorted s → t ≤ s.length → (∀ x ∈ s, 0 ≤ x.2) → 0 ≤ sm → sm + sumW s ≤ 4611686018427387904 →
    ∃ h', popMany t h ins sm = (h', ins ++ (s.take t).map (·.1), sm + sumW (s.take t)) ∧ IsHeap h' ∧ h'.Perm (s.drop t)
  | 0, h, s, ins, sm, hh, hp, hs, ht, hw, h0, hb => ⟨h, by simp [popMany, sumW], hh, by simpa using hp⟩
  | t + 1, h, [], ins, sm, hh, hp, hs, ht, hw, h0, hb => by simp at ht
  | t + 1, h, x :: s, ins, sm, hh, hp, hs, ht, hw, h0, hb => by
    have hl : h.length ≠ 0 := by rw [hp.length_eq]; simp
    have hx := head_eq hh hp hs
    have hlast := popL_last hl
    rw [hx] at hlast
    have hp' := popL_perm hl
    rw [hx] at hp'
    have hp2 : ((popL h).take (h.length - 1)).Perm s := (hp'.trans hp).cons_inv
    have hs' := List.pairwise_cons.1 hs
    have hx0 := hw x (List.mem_cons_self ..)
    have hs0 := sumW_nonneg s (fun y hy => hw y (List.mem_cons_of_mem _ hy))
    rw [sumW_cons] at hb
    obtain ⟨h', e, r1, r2⟩ := popMany_spec t ((popL h).take (h.length - 1)) s (ins ++ [x.1]) (sm + x.2) (popL_heap hh hl) hp2 hs'.2 (by simpa using ht) (fun y hy => hw y (List.mem_cons_of_mem _ hy)) (by omega) (by omega)
    refine ⟨h', ?_, r1, by simpa using r2⟩
    rw [popMany, hlast, wrap64_in _ (by omega) (by omega), e]
    simp [sumW_cons, Int.add_assoc]
/-- what holds of the numbers of runs and steps at a round's head, as in the walk -/
theorem runL_greedy (n fan : Nat) (hf : 2 ≤ fan) : ∀ (f t : Nat) (h s : List Rung) (st : List S51), IsHeap h → h.Perm s → Sorted s → (1 < s.length → 2 ≤ t ∧ ∃ q, s.length = t + q * (fan - 1)) → (∀ x ∈ s, 0 ≤ x.2) → sumW s ≤ 4611686018427387904 →
    runL n fan f t h st = greedy n fan f t s st
  | 0, t, h, s, st, hh, hp, hs, ht, hw, hb => rfl
  | f + 1, t, h, s, st, hh, hp, hs, ht, hw, hb => by
    have hlen := hp.length_eq
    rw [runL, greedy, hlen]
    split
    · rename_i h1
      obtain ⟨h2, q, hq⟩ := ht h1
      have htl : t ≤ s.length := by omega
      obtain ⟨h', e, r1, r2⟩ := popMany_spec t h s [] 0 hh hp hs htl hw (Int.le_refl _) (by omega)
      have hsH : stepH n t h st = pushL h' (((n + st.length : Nat) : Int), sumW (s.take t)) := by unfold stepH; rw [e]; simp
      have hsS : stepS n t h st = st ++ [⟨sortI ((s.take t).map (·.1)), ((n + st.length : Nat) : Int)⟩] := by unfold stepS; rw [e]; simp
      rw [hsH, hsS]
      have hW := sumW_split s t
      have hl2 : (insR (((n + st.length : Nat) : Int), sumW (s.take t)) (s.drop t)).length = s.length - t + 1 := by rw [insR_length, List.length_drop]
      refine runL_greedy n fan hf f fan _ _ _ (push_heap r1 _) ((push_perm h' _).trans ((r2.cons _).trans (insR_perm _ _).symm)) (insR_sorted _ _ (hs.sublist (List.drop_sublist _ _))) ?_ ?_ ?_
      · intro hgt
        rw [hl2] at hgt ⊢
        cases q with
        | zero => omega
        | succ q => exact ⟨hf, q, by rw [Nat.succ_mul] at hq; omega⟩
      · intro x hx
        rcases List.mem_cons.1 ((insR_perm _ _).mem_iff.1 hx) with rfl | hx
        · exact sumW_nonneg _ (fun y hy => hw y (List.mem_of_mem_take hy))
        · exact hw x (List.mem_of_mem_drop hx)
      · rw [sumW_insR]; simp only; omega
    · rfl
/-- what the document says of Make: greedy -/
def gSteps (l : List Int) (fan : Nat) : List S51 :=
  if l.length = 1 then [⟨[0], 1⟩] else greedy l.length fan l.length (2 + (l.length - 2) % (fan - 1)) (sortR (rungs 0 l)) []
theorem rungs_mem : ∀ (l : List Int) (i : Nat) (x : Rung), x ∈ rungs i l → x.2 ∈ l
  | [], i, x, h => by simp [rungs] at h
  | w :: l, i, x, h => by
    rcases List.mem_cons.1 h with rfl | h
    · exact List.mem_cons_self ..
    · exact List.mem_cons_of_mem _ (rungs_mem l (i + 1) x h)
theorem sumW_rungs : ∀ (l : List Int) (i : Nat), sumW (rungs i l) = l.sum
  | [], i => by simp [rungs, sumW]
  | w :: l, i => by rw [rungs, sumW_cons, sumW_rungs l (i + 1)]; simp
theorem sum_bound : ∀ (l : List Int) (b : Int), (∀ x ∈ l, x ≤ b) → l.sum ≤ l.length * b
  | [], b, h => by simp
  | x :: l, b, h => by
    have h1 := h x (List.mem_cons_self ..)
    have h2 := sum_bound l b (fun y hy => h y (List.mem_cons_of_mem _ hy))
    simp only [List.sum_cons, List.length_cons]
    rw [show (((l.length + 1 : Nat) : Int)) = (l.length : Int) + 1 from by omega, Int.add_mul]
    omega
theorem makeSteps_greedy {l : List Int} {fan : Nat} (hf : 2 ≤ fan) (hf2 : fan ≤ 64) (hn : 1 ≤ l.length) (hn2 : l.length ≤ 65536) (hw : ∀ x ∈ l, 0 ≤ x ∧ x ≤ 1073741824) : makeSteps l fan = gSteps l fan := by
  unfold makeSteps gSteps
  split
  · rfl
  · have hlen := rungs_length 0 l
    have hh := init_isHeap (rungs 0 l)
    have hp := init_perm l.length (l.length / 2) (rungs 0 l) hlen
    rw [hlen] at hh
    have hpr := sortR_perm (rungs 0 l)
    refine runL_greedy l.length fan hf _ _ _ _ [] hh (hp.trans hpr.symm) (sortR_sorted _) ?_ ?_ ?_
    · intro _
      rw [sortR_length, hlen]
      have h1 := Nat.div_add_mod (l.length - 2) (fan - 1)
      exact ⟨by omega, (l.length - 2) / (fan - 1), by rw [Nat.mul_comm]; omega⟩
    · intro x hx
      exact (hw _ (rungs_mem l 0 x (hpr.mem_iff.1 hx))).1
    · rw [sumW_perm hpr, sumW_rungs]
      have := sum_bound l 1073741824 (fun x hx => (hw x hx).2)
      have h3 : (l.length : Int) * 1073741824 ≤ 65536 * 1073741824 := Int.mul_le_mul_of_nonneg_right (by omega) (by omega)
      omega
end Go.Proofs.Ytbgabijjnbmghaa.P
