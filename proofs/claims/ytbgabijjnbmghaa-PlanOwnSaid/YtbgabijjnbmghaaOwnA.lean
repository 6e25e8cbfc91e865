/- milllaw10.PlanOwn: an answer of one's own as its blocks; several that lie one behind the other share nothing; a row that is turned round. -/
import Derived.Test.YtbgabijjnbmghaaApartA
import Derived.Deep.Slices
namespace Go.Proofs.Ytbgabijjnbmghaa.P
open Go.RowKit Go.Proofs.YtbgabijjnbmghaaW.PrintWords Go.Proofs.YtbgabijjnbmghaaW.PrintLast Go.Proofs.YtbgabijjnbmghaaW.PrintMore
set_option linter.unusedVariables false
set_option linter.unusedSimpArgs false

theorem seg_two {inner : List Value} {s : Nat} {u v : Value} (h : (inner.drop (s * 2)).take 2 = [u, v]) : inner[s * 2]? = some u ∧ inner[s * 2 + 1]? = some v := by
  have h0 : ((inner.drop (s * 2)).take 2)[0]? = some u := by rw [h]; rfl
  have h1 : ((inner.drop (s * 2)).take 2)[1]? = some v := by rw [h]; rfl
  rw [List.getElem?_take_of_lt (by omega), List.getElem?_drop] at h0 h1
  exact ⟨h0, h1⟩
theorem seg_one {inner : List Value} {s : Nat} {u : Value} (h : (inner.drop (s * 1)).take 1 = [u]) : inner[s]? = some u := by
  have h0 : ((inner.drop (s * 1)).take 1)[0]? = some u := by rw [h]; rfl
  rw [List.getElem?_take_of_lt (by omega), List.getElem?_drop, Nat.mul_one] at h0
  exact h0
theorem cur_of_take {cur : Array Value} {inner : List Value} {N j : Nat} {u : Value} (h : cur.toList.take N = inner) (hj : inner[j]? = some u) : cur[j]? = some u := by
  rw [← h] at hj
  have hl := (List.getElem?_eq_some_iff.1 hj).1
  rw [List.length_take] at hl
  rw [List.getElem?_take_of_lt (by omega), Array.getElem?_toList] at hj
  exact hj
theorem ints_of_R {w : World} {base : Nat} {ok : Nat → Prop} {v : Value} {xs : List Int} (h : (Kd.int .i64).R 3 w base ok v xs) (hp : 0 < xs.length) : ∃ b K, v = .slice (some ⟨b, 0, none⟩) xs.length K ∧ ok b ∧ base ≤ b ∧ xs.length ≤ K ∧ K ≤ maxLen ∧ ∃ cells, w.heap[b]? = some (.cells cells 3 (0, 0)) ∧ cells.size = K * 1 ∧ ∀ j, j < xs.length * 1 → cells[j]? = some (.int .i64 (xs.getD j 0)) := by
  obtain ⟨h0, inner, ho, hr⟩ := h
  rcases ho.2 with ⟨_, hz⟩ | ⟨g, cap, cur, rfl, hbg, hh, hnc, hcm, hcs, ht⟩
  · omega
  · refine ⟨g, cap, rfl, h0 g rfl, hbg, hnc, hcm, cur, hh, hcs, fun j hj => ?_⟩
    have hj' : j < xs.length := by omega
    have hx : xs[j]? = some xs[j] := List.getElem?_eq_getElem hj'
    have hM : (inner.drop (j * 1)).take 1 = [Value.int .i64 xs[j]] := hr.2 j _ hx
    rw [List.getD_eq_getElem?_getD, hx]
    exact cur_of_take ht (seg_one hM)
theorem ans_of_S {w : World} {base lo hi : Nat} {v : Value} {xs : List S51} (h : Kd.S k51 51 w base (fun k => lo ≤ k ∧ k < hi) v xs) (hp : 0 < xs.length) (hl : xs.length ≤ 1000) (hin : ∀ x ∈ xs, 1 ≤ x.f0.length ∧ x.f0.length ≤ 1000) :
    ∃ a : Ans, a.L = xs.length ∧ v = .slice (some ⟨a.g, 0, none⟩) a.L a.cap ∧ PicA w a (fun s => (xs.getD s z51).f1) (fun s k => (xs.getD s z51).f0.getD k 0) ∧ FitA a lo hi ∧ ∀ t, t < a.L → a.g ≠ a.hb t := by
  obtain ⟨f, h0, inner, ho, hr⟩ := h
  rw [List.length_zipIdx] at ho
  rcases ho.2 with ⟨_, hz⟩ | ⟨g, cap, cur, rfl, hbg, hh, hnc, hcm, hcs, ht⟩
  · omega
  have key : ∀ s, s < xs.length → ∃ q : Nat × Nat, cur[s * 2]? = some (.slice (some ⟨q.1, 0, none⟩) (xs.getD s z51).f0.length q.2) ∧ cur[s * 2 + 1]? = some (.int .i64 (xs.getD s z51).f1) ∧ f q.1 = s ∧ (lo ≤ q.1 ∧ q.1 < hi) ∧ g ≠ q.1 ∧ (xs.getD s z51).f0.length ≤ q.2 ∧ q.2 ≤ maxLen ∧
      ∃ cells, w.heap[q.1]? = some (.cells cells 3 (0, 0)) ∧ cells.size = q.2 * 1 ∧ ∀ j, j < (xs.getD s z51).f0.length * 1 → cells[j]? = some (.int .i64 ((xs.getD s z51).f0.getD j 0)) := by
    intro s hs
    have hx : xs[s]? = some xs[s] := List.getElem?_eq_getElem hs
    have hM := hr.2 s (xs[s], s) (Kd.zip_at hx)
    have hM2 : k51.M w base (fun k => ((lo ≤ k ∧ k < hi) ∧ some k ≠ (Value.slice (some ⟨g, 0, none⟩) xs.length cap).ownBlock) ∧ f k = s) xs[s] ((inner.drop (s * 2)).take 2) := hM
    obtain ⟨v0, hc, hR⟩ := k51_openM hM2
    obtain ⟨c1, c2⟩ := seg_two hc
    obtain ⟨b, K, rfl, hok, _, hK, hKm, hcells⟩ := ints_of_R hR (by have := (hin _ (List.getElem_mem hs)).1; omega)
    have e : xs.getD s z51 = xs[s] := by rw [List.getD_eq_getElem?_getD, hx]; rfl
    rw [e]
    exact ⟨(b, K), cur_of_take ht c1, cur_of_take ht c2, hok.2, hok.1.1, fun he => hok.1.2 (congrArg some (show b = g from he.symm)), hK, hKm, hcells⟩
  obtain ⟨q, hq⟩ := Go.Deep.choose_lt key
  refine ⟨⟨g, cap, xs.length, fun s => (q s).1, fun s => (xs.getD s z51).f0.length, fun s => (q s).2⟩, rfl, rfl, ⟨⟨cur, hh, hcs, fun j hj => ?_⟩, fun s hs => (hq s hs).2.2.2.2.2.2.2⟩, ?_, fun t ht2 => (hq t ht2).2.2.2.2.1⟩
  · have hj : j < xs.length * 2 := hj
    have hs : j / 2 < xs.length := by omega
    unfold Ans.cell
    by_cases e : j % 2 = 0
    · rw [if_pos e]
      have := (hq _ hs).1
      rw [show j / 2 * 2 = j by omega] at this
      exact this
    · rw [if_neg e]
      have := (hq _ hs).2.1
      rw [show j / 2 * 2 + 1 = j by omega] at this
      exact this
  · have hmem : ∀ s, s < xs.length → 1 ≤ (xs.getD s z51).f0.length ∧ (xs.getD s z51).f0.length ≤ 1000 := fun s hs => by
      rw [List.getD_eq_getElem?_getD, List.getElem?_eq_getElem hs]; exact hin _ (List.getElem_mem hs)
    have hg := h0 g rfl
    refine ⟨hnc, hcm, hl, hp, fun s hs => (hq s hs).2.2.2.2.2.1, fun s hs => (hq s hs).2.2.2.2.2.2.1, fun s hs => (hmem s hs).2, hg, fun s hs => (hq s hs).2.2.2.1, fun s t hs ht2 he => ?_⟩
    have h1 := (hq s hs).2.2.1
    have h2 := (hq t ht2).2.2.1
    have he2 : (q s).1 = (q t).1 := he
    rw [← h1, ← h2, he2]
/-- answers that lie one behind the other -/
theorem sep_of {A : Nat → Ans} {Lo Hi : Nat → Nat} {n lo hi : Nat} (hf : ∀ i, i < n → FitA (A i) (Lo i) (Hi i)) (hg : ∀ i t, i < n → t < (A i).L → (A i).g ≠ (A i).hb t) (hord : ∀ i j, i < j → j < n → Hi i ≤ Lo j) (hlo : ∀ i, i < n → lo ≤ Lo i) (hhi : ∀ i, i < n → Hi i ≤ hi) : Sep A n lo hi := by
  have hne : ∀ i j x y, i < n → j < n → i ≠ j → Lo i ≤ x → x < Hi i → Lo j ≤ y → y < Hi j → x ≠ y := fun i j x y h1 h2 h3 h4 h5 h6 h7 => by
    rcases Nat.lt_or_gt_of_ne h3 with h | h
    · have := hord i j h h2; omega
    · have := hord j i h h1; omega
  refine ⟨fun i hi2 => ?_, fun i j h1 h2 he => ?_, fun i j s t h1 h2 h3 h4 he => ?_, fun i j t h1 h2 h3 => ?_⟩
  · have h := hf i hi2
    have h1 := hlo i hi2
    have h2 := hhi i hi2
    exact ⟨h.room, h.capm, h.few, h.some_, h.mK, h.Km, h.short, ⟨Nat.le_trans h1 h.g_in.1, Nat.lt_of_lt_of_le h.g_in.2 h2⟩, fun s hs => ⟨Nat.le_trans h1 (h.hb_in s hs).1, Nat.lt_of_lt_of_le (h.hb_in s hs).2 h2⟩, h.inj⟩
  · rcases Nat.decEq i j with hn | hn
    · exact absurd he (hne i j _ _ h1 h2 hn (hf i h1).g_in.1 (hf i h1).g_in.2 (hf j h2).g_in.1 (hf j h2).g_in.2)
    · exact hn
  · rcases Nat.decEq i j with hn | hn
    · exact absurd he (hne i j _ _ h1 h2 hn ((hf i h1).hb_in s h3).1 ((hf i h1).hb_in s h3).2 ((hf j h2).hb_in t h4).1 ((hf j h2).hb_in t h4).2)
    · subst hn; exact ⟨rfl, (hf i h1).inj s t h3 h4 he⟩
  · rcases Nat.decEq i j with hn | hn
    · exact hne i j _ _ h1 h2 hn (hf i h1).g_in.1 (hf i h1).g_in.2 ((hf j h2).hb_in t h3).1 ((hf j h2).hb_in t h3).2
    · subst hn; exact hg i t h1 h3
theorem ord_of {Lo Hi : Nat → Nat} {n : Nat} (h1 : ∀ i, i < n → Lo i ≤ Hi i) (h2 : ∀ i, i + 1 < n → Hi i ≤ Lo (i + 1)) : ∀ i j, i < j → j < n → Hi i ≤ Lo j := by
  intro i j hij hj
  induction j with
  | zero => omega
  | succ j ih =>
    by_cases e : i = j
    · subst e; exact h2 i hj
    · have := ih (by omega) (by omega)
      have := h1 j (by omega)
      have := h2 j hj
      omega

/-! ### a row that is turned round -/
def revk (L : List Int) (k : Nat) : List Int := (List.range L.length).map fun j => if j < k ∨ L.length - k ≤ j then L.getD (L.length - 1 - j) 0 else L.getD j 0
theorem revk_length (L : List Int) (k : Nat) : (revk L k).length = L.length := by simp [revk]
theorem revk_getD (L : List Int) (k j : Nat) (h : j < L.length) : (revk L k).getD j 0 = if j < k ∨ L.length - k ≤ j then L.getD (L.length - 1 - j) 0 else L.getD j 0 := by
  unfold revk
  rw [List.getD_eq_getElem?_getD, List.getElem?_map, List.getElem?_range h]; rfl
theorem revk_zero (L : List Int) : revk L 0 = L := by
  apply List.ext_getElem?
  intro j
  by_cases h : j < L.length
  · unfold revk
    rw [List.getElem?_map, List.getElem?_range h, List.getElem?_eq_getElem h]
    show some (if j < 0 ∨ L.length - 0 ≤ j then _ else _) = _
    rw [if_neg (by omega), List.getD_eq_getElem?_getD, List.getElem?_eq_getElem h]; rfl
  · rw [List.getElem?_eq_none (by rw [revk_length]; omega), List.getElem?_eq_none (by omega)]
theorem revk_half (L : List Int) {k : Nat} (h1 : L.length ≤ 2 * k + 1) (h2 : 2 * k ≤ L.length) : revk L k = L.reverse := by
  apply List.ext_getElem?
  intro j
  by_cases h : j < L.length
  · unfold revk
    rw [List.getElem?_map, List.getElem?_range h, List.getElem?_reverse h]
    show some (if j < k ∨ L.length - k ≤ j then _ else _) = _
    have hj : L.length - 1 - j < L.length := by omega
    rw [List.getElem?_eq_getElem hj]
    congr 1
    by_cases hc : j < k ∨ L.length - k ≤ j
    · rw [if_pos hc, List.getD_eq_getElem?_getD, List.getElem?_eq_getElem hj]; rfl
    · rw [if_neg hc]
      have : j = L.length - 1 - j := by omega
      rw [List.getD_eq_getElem?_getD, List.getElem?_eq_getElem h]
      show L[j] = _
      congr 1
  · rw [List.getElem?_eq_none (by rw [revk_length]; omega), List.getElem?_eq_none (by rw [List.length_reverse]; omega)]
def RowW (w : World) (g : Nat) (L : List Int) : Prop := ∃ cells, w.heap[g]? = some (.cells cells 3 (0, 0)) ∧ ∀ j, j < L.length → cells[j]? = some (.int .i64 (L.getD j 0))
theorem RowW.cell {w : World} {g : Nat} {L : List Int} (h : RowW w g L) {j : Nat} (hj : j < L.length) : w.cell? ⟨g, j, none⟩ = some (.int .i64 (L.getD j 0)) := by
  obtain ⟨cells, h1, h2⟩ := h
  rw [blk_cell h1, h2 j hj]
theorem RowW.free {w : World} {g : Nat} {L : List Int} (h : RowW w g L) (j : Nat) : w.frozen? ⟨g, j, none⟩ = false := by
  obtain ⟨cells, h1, h2⟩ := h
  exact blk_frozen h1 j
theorem RowW.reads {w : World} {g : Nat} {L : List Int} (h : RowW w g L) (hl : L.length ≤ 1000) : Kd.C (Kd.int .i64) w (some ⟨g, 0, none⟩) L.length L := by
  refine Kd.C_of_reads (d := (0 : Int)) (h1 := fun _ => rfl) ⟨rfl, by omega, fun _ => ⟨_, rfl, fun j hj => ?_⟩⟩
  have : (⟨g, 0, none⟩ : Addr).add j = ⟨g, j, none⟩ := by unfold Addr.add; split <;> simp_all
  rw [this]; exact h.cell hj
theorem RowW.drewN {w : World} {g : Nat} {L : List Int} (h : RowW w g L) (n : Nat) : RowW (w.drewN n) g L := h
theorem RowW.kept {w w1 : World} {g : Nat} {L : List Int} {S : Nat → Prop} (h : RowW w g L) (hk : Kept w w1 S) (hg : ¬ S g) : RowW w1 g L := by
  obtain ⟨cells, h1, h2⟩ := h
  exact ⟨cells, blk_kept h1 hk hg, h2⟩
theorem RowW.turn {w : World} {g : Nat} {L : List Int} {k : Nat} (h : RowW w g (revk L k)) (hk : 2 * k + 1 < L.length) : RowW ((w.setCell ⟨g, k, none⟩ (.int .i64 ((revk L k).getD (L.length - 1 - k) 0))).setCell ⟨g, L.length - 1 - k, none⟩ (.int .i64 ((revk L k).getD k 0))) g (revk L (k + 1)) := by
  obtain ⟨cells, h1, h2⟩ := h
  rw [revk_length] at h2
  refine ⟨_, blk_set (blk_set h1 k _) (L.length - 1 - k) _, fun j hj => ?_⟩
  rw [revk_length] at hj
  rw [revk_getD L (k + 1) j hj]
  have hs : cells.size ≥ L.length := by
    have := (Array.getElem?_eq_some_iff.1 (h2 (L.length - 1) (by omega))).1
    omega
  rw [Array.getElem?_setIfInBounds, Array.getElem?_setIfInBounds, Array.size_setIfInBounds]
  by_cases e1 : L.length - 1 - k = j
  · rw [if_pos e1, if_pos (by omega), if_pos (by omega), revk_getD L k k (by omega), if_neg (by omega), show L.length - 1 - j = k by omega]
  · rw [if_neg e1]
    by_cases e2 : k = j
    · rw [if_pos e2, if_pos (by omega), if_pos (by omega), revk_getD L k _ (by omega), if_neg (by omega), e2]
    · rw [if_neg e2, h2 j hj, revk_getD L k j hj]
      by_cases e3 : j < k ∨ L.length - k ≤ j
      · rw [if_pos e3, if_pos (by omega)]
      · rw [if_neg e3, if_neg (by omega)]
end Go.Proofs.Ytbgabijjnbmghaa.P
