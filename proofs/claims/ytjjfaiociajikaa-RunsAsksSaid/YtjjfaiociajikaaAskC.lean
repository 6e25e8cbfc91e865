/- runs.Heap[int]: words for the walks of Push and Pop. -/
import Derived.Test.YtjjfaiociajikaaAskB
import Derived.Laws.Slices
import Derived.Deep.AppendLies
import Derived.Deep.DeepCutAuto
namespace Go.Proofs.Ytjjfaiociajikaa.Ask
open Go.RowKit Go.Proofs.YtjjfaiociajikaaW.PrintWords
set_option linter.unusedVariables false
set_option linter.unusedSimpArgs false

theorem info55 : (Try.prog.info? 55).map (fun i => (i.zero, i.size, i.bytes)) = some (some (.agg #[.int .i64 0, .int .u64 0]), 2, 16) := by kernel_rfl
/-- how many binary digits a number has -/
def dig : Nat → Nat
  | 0 => 0
  | n + 1 => dig ((n + 1) / 2) + 1
decreasing_by omega
theorem dig_pos {n : Nat} (h : 0 < n) : dig n = dig (n / 2) + 1 := by
  obtain ⟨m, rfl⟩ : ∃ m, n = m + 1 := ⟨n - 1, by omega⟩
  rw [dig]
theorem dig_le : ∀ (m n : Nat), m ≤ n → dig m ≤ dig n
  | 0, n, _ => by rw [dig]; exact Nat.zero_le _
  | m + 1, n, h => by
    rw [dig_pos (Nat.succ_pos m), dig_pos (show 0 < n by omega)]
    exact Nat.succ_le_succ (dig_le ((m + 1) / 2) (n / 2) (by omega))
termination_by m => m
decreasing_by omega
theorem dig_self : ∀ (n : Nat), dig n ≤ n
  | 0 => by rw [dig]; exact Nat.le_refl _
  | n + 1 => by
    rw [dig_pos (show 0 < n + 1 by omega)]
    have := dig_self ((n + 1) / 2)
    omega
termination_by n => n
decreasing_by omega
/-- up one rung -/
theorem dig_up {j u : Nat} (h : 0 < j) (hu : u = (j - 1) / 2) : dig (j + 1) = dig (u + 1) + 1 := by
  rw [dig_pos (Nat.succ_pos j), show (j + 1) / 2 = u + 1 by omega]
theorem dig_down1 (i : Nat) : dig (2 * i + 1 + 1) = dig (i + 1) + 1 := by
  rw [dig_pos (by omega), show (2 * i + 1 + 1) / 2 = i + 1 by omega]
theorem dig_down2 (i : Nat) : dig (2 * i + 2 + 1) = dig (i + 1) + 1 := by
  rw [dig_pos (by omega), show (2 * i + 2 + 1) / 2 = i + 1 by omega]
/-- an entry's cells, one behind the other -/
structure Row (l : List Rung) (xs : List Value) : Prop where
  len : xs.length = l.length * 2
  at_ : ∀ i x, l[i]? = some x → xs[i * 2]? = some (.int .i64 x.2) ∧ xs[i * 2 + 1]? = some (.int .u64 x.1)
theorem Row.snoc {l : List Rung} {xs : List Value} (h : Row l xs) (x : Rung) : Row (l ++ [x]) (xs ++ [.int .i64 x.2, .int .u64 x.1]) := by
  refine ⟨by simp [h.len]; omega, fun i y hi => ?_⟩
  have hl := h.len
  by_cases e : i < l.length
  · rw [List.getElem?_append_left e] at hi
    rw [List.getElem?_append_left (by omega), List.getElem?_append_left (by omega)]
    exact h.at_ i y hi
  · have hlt := (List.getElem?_eq_some_iff.1 hi).1
    have e2 : i = l.length := by simp at hlt; omega
    subst e2
    simp at hi
    subst hi
    rw [List.getElem?_append_right (by omega), List.getElem?_append_right (by omega), hl, show l.length * 2 - l.length * 2 = 0 by omega, show l.length * 2 + 1 - l.length * 2 = 1 by omega]
    exact ⟨rfl, rfl⟩
theorem lad_of_own {w : World} {base : Nat} {v : Value} {l : List Rung} {xs : List Value} {n : Nat} (h : w.ownsRow base 55 2 v n xs) (hn : n = l.length) (hr : Row l xs) (h0 : 0 < l.length) : ∃ g cap, v = .slice (some ⟨g, 0, none⟩) l.length cap ∧ base ≤ g ∧ cap ≤ maxLen ∧ Lad w g cap l := by
  subst hn
  rcases h.2 with ⟨_, hz⟩ | ⟨g, cap, cur, rfl, hb, hh, hc, hm, hs, ht⟩
  · omega
  · refine ⟨g, cap, rfl, hb, hm, cur, hh, hs, hc, fun i x hx => ?_⟩
    obtain ⟨h1, h2⟩ := hr.at_ i x hx
    have key : ∀ j u, xs[j]? = some u → cur[j]? = some u := fun j u hj => by
      rw [← ht] at hj
      have hl := (List.getElem?_eq_some_iff.1 hj).1
      rw [List.length_take] at hl
      rw [List.getElem?_take_of_lt (by omega), Array.getElem?_toList] at hj
      exact hj
    exact ⟨key _ _ h1, key _ _ h2⟩
theorem own_of_lad {w : World} {base g cap : Nat} {l : List Rung} (h : Lad w g cap l) (hb : base ≤ g) (hm : cap ≤ maxLen) : ∃ xs, w.ownsRow base 55 2 (.slice (some ⟨g, 0, none⟩) l.length cap) l.length xs ∧ Row l xs := by
  obtain ⟨cs, hh, hs, hl, hc⟩ := h
  have hlen : (cs.toList.take (l.length * 2)).length = l.length * 2 := by have e : cs.toList.length = cs.size := Array.length_toList; rw [List.length_take, e, hs]; omega
  refine ⟨cs.toList.take (l.length * 2), ⟨hlen, .inr ⟨g, cap, cs, rfl, hb, hh, hl, hm, hs, rfl⟩⟩, hlen, fun i x hx => ?_⟩
  have hi := (List.getElem?_eq_some_iff.1 hx).1
  obtain ⟨h1, h2⟩ := hc i x hx
  rw [List.getElem?_take_of_lt (by omega), List.getElem?_take_of_lt (by omega), Array.getElem?_toList, Array.getElem?_toList]
  exact ⟨h1, h2⟩
/-- the heap with its list -/
def Hp (w : World) (A P base : Nat) (q : Int) (l : List Rung) : Prop := ∃ v xs, Top w A P v q ∧ w.ownsRow base 55 2 v l.length xs ∧ Row l xs
/-- asked at most so often since -/
def Asked (w : World) (A : Nat) (t : Int) (d : Nat) : Prop := ∃ t', Cnt w A t' ∧ t ≤ t' ∧ t' ≤ t + d
section
variable {w w' : World} {A P base g n m c k : Nat} {v v' : Value} {q q' t : Int} {l : List Rung} {xs : List Value}
theorem own_top_ne (h : w.ownsRow base 55 2 v n xs) (ht : Top w A P v' q) (hk : v.ownBlock = some k) : k ≠ P := by
  rintro rfl
  obtain ⟨c, hc⟩ := own_typed h k hk
  unfold Top at ht
  rw [ht] at hc
  injection hc with hc
  injection hc with _ hc
  cases hc
theorem own_cnt_ne (h : w.ownsRow base 55 2 v n xs) (ht : Cnt w A t) (hk : v.ownBlock = some k) : k ≠ A := by
  rintro rfl
  obtain ⟨c, hc⟩ := own_typed h k hk
  unfold Cnt at ht
  rw [ht] at hc
  injection hc with hc
  injection hc with _ hc
  cases hc
theorem own_kept1 {o : Obj} (h : w.ownsRow base 55 2 v n xs) : ((w.drew).alloc o).ownsRow base 55 2 v n xs := h.alloc o
theorem cells2_new (w : World) (a b : Value) {n t : Nat} (hn : w.heap.size = n) : ∀ j u, [a, b][j]? = some u → (w.alloc (.cells #[a, b] t)).cell? ((⟨n, 0, none⟩ : Addr).add j) = some u := by
  subst hn
  exact World.news_of_block (cs := #[a, b]) (t := t) (fr := (0, 0)) (Go.heap_alloc_new w (.cells #[a, b] t))
theorem top_ne_lad (ht : Top w A P v q) (hl : Lad w g n l) : P ≠ g := by
  rintro rfl
  obtain ⟨cs, h2, _⟩ := hl
  unfold Top at ht
  rw [ht] at h2
  injection h2 with h2
  injection h2 with _ h2
  cases h2
theorem Top.set2 (h : Top w A P v q) (q' : Int) : Top (w.setCell ⟨P, 2, none⟩ (.int .u64 q')) A P v q' := by
  have := blk_set h 2 (.int .u64 q')
  unfold Top; rw [this]; rfl
theorem Top.len {B : Option Addr} (h : Top w A P (.slice B n c) q) (e : m = n) : Top w A P (.slice B m c) q := by subst e; exact h
theorem Top.set1 (h : Top w A P v q) (v' : Value) : Top (w.setCell ⟨P, 1, none⟩ v') A P v' q := by
  have := blk_set h 1 v'
  unfold Top; rw [this]; rfl
theorem Lad.put (h : Lad w g n l) (i : Nat) (x : Rung) : Lad ((w.setCell ⟨g, i * 2, none⟩ (.int .i64 x.2)).setCell ⟨g, i * 2 + 1, none⟩ (.int .u64 x.1)) g n (l.set i x) := by
  obtain ⟨cs, hb, hs, hl, hc⟩ := h
  refine ⟨_, blk_set (blk_set hb _ _) _ _, by simpa using hs, by simpa using hl, ?_⟩
  intro j y hj
  by_cases e : j = i
  · subst e
    have hlt : j < l.length := by have := (List.getElem?_eq_some_iff.1 hj).1; simpa using this
    rw [List.getElem?_set] at hj
    simp [hlt] at hj
    subst hj
    refine ⟨?_, ?_⟩
    · rw [Array.getElem?_setIfInBounds_ne (by omega), Array.getElem?_setIfInBounds_self_of_lt (by omega)]
    · rw [Array.getElem?_setIfInBounds_self_of_lt (by simp; omega)]
  · rw [List.getElem?_set_ne (by omega)] at hj
    obtain ⟨h1, h2⟩ := hc j y hj
    refine ⟨?_, ?_⟩
    · rw [Array.getElem?_setIfInBounds_ne (by omega), Array.getElem?_setIfInBounds_ne (by omega)]; exact h1
    · rw [Array.getElem?_setIfInBounds_ne (by omega), Array.getElem?_setIfInBounds_ne (by omega)]; exact h2
theorem Lad.drew_ (h : Lad w g n l) : Lad w.drew g n l := h
theorem Lad.swap (h : Lad w g n l) (i j : Nat) : Lad ((((w.setCell ⟨g, i * 2, none⟩ (.int .i64 (at_ l j).2)).setCell ⟨g, i * 2 + 1, none⟩ (.int .u64 (at_ l j).1)).setCell ⟨g, j * 2, none⟩ (.int .i64 (at_ l i).2)).setCell ⟨g, j * 2 + 1, none⟩ (.int .u64 (at_ l i).1)) g n (swapAt l i j) :=
  (h.put i (at_ l j)).put j (at_ l i)
end
theorem ahead_hp (A base P g n m : Nat) (l : List Rung) (q t : Int) (ai aj : Int) (i j : Nat) (w : World) (ei : ai = i) (ej : aj = j) (hm : l.length = m) (hc : Cnt w A t) (hbA : base ≤ A) (ht0 : 0 ≤ t) (ht1 : t ≤ 1000000000) (ht : Top w A P (.slice (some ⟨g, 0, none⟩) m n) q) (hl : Lad w g n l) (hi : i < l.length) (hj : j < l.length) (b : Bool) (hb : lessB (at_ l i) (at_ l j) = b) :
    Calls Try.prog 20 #[.pointer (some ⟨P, 0, none⟩), .int .i64 ai, .int .i64 aj] w fun e w' => e = .returned (.bool b) ∧ Cnt w' A (t + 1) ∧ Kept w w' (fun k => k = A) ∧ Below base w w' := by
  subst ei ej hm hb
  exact ahead_any A base P g n l q t i j w hc hbA ht0 ht1 ht hl hi hj
theorem swapAt_comm (l : List Rung) {i j : Nat} (h : i ≠ j) : swapAt l i j = swapAt l j i := by
  unfold swapAt
  exact List.set_comm _ _ h
theorem kept4 (g : Nat) (w : World) (a b c d : Nat) (u v x y : Value) : Kept w (((((w.setCell ⟨g, a, none⟩ u).setCell ⟨g, b, none⟩ v).setCell ⟨g, c, none⟩ x).setCell ⟨g, d, none⟩ y).drew) (fun k => k = g) :=
  ((((((Kept.refl w (fun k => k = g)).setCell (.inl rfl) _).setCell (.inl rfl) _).setCell (.inl rfl) _).setCell (.inl rfl) _).drew)
/-- behind the append: one more entry lies at the end -/
def Pushed (w wx : World) (A P base : Nat) (v : Value) (q t : Int) (l : List Rung) (x : Rung) : Prop :=
  ∃ g1 cap1, Top wx A P (.slice (some ⟨g1, 0, none⟩) (l.length + 1) cap1) q ∧ base ≤ g1 ∧ cap1 ≤ maxLen ∧ Lad wx g1 cap1 (l ++ [x]) ∧ Kept w wx (fun k => k = P ∨ k = A ∨ v.ownBlock = some k) ∧ Below base w wx ∧ ((g1 = P ∨ g1 = A ∨ v.ownBlock = some g1) ∨ w.heap.size ≤ g1) ∧ Cnt wx A t
theorem pushed_mk {w w1 : World} {A P base g1 cap1 : Nat} {v : Value} {q t key : Int} {l : List Rung} {xs : List Value} (ht : Top w A P v q) (hc : Cnt w A t) (ho : w.ownsRow base 55 2 v l.length xs) (hr : Row l xs) (hbP : base ≤ P)
    (ho1 : w1.ownsRow base 55 2 (.slice (some ⟨g1, 0, none⟩) (l.length + 1) cap1) (l.length + 1) (xs ++ [.int .i64 key, .int .u64 q]))
    (hg : (w.drew.alloc (.cells #[.int .i64 key, .int .u64 q] 55)).grownBy w1 v.ownBlock) (hat : v.ownBlock = some g1 ∨ g1 = w.heap.size + 1) :
    Pushed w (w1.setCell ⟨P, 1, none⟩ (.slice (some ⟨g1, 0, none⟩) (l.length + 1) cap1)) A P base v q t l (q, key) := by
  have hP : P < w.heap.size := blk_lt ht
  have hA : A < w.heap.size := blk_lt hc
  have hPA : P ≠ A := ht.ne_cnt hc
  have h1 : w1.heap[P]? = some (.cells #[askF A, v, .int .u64 q] 53 (0, 0)) := (hg.block P (by simp; omega) (fun e => own_top_ne ho ht e.symm rfl)).trans ((heap_alloc_old _ _ (by simp; omega)).trans ht)
  have h2 : w1.heap[A]? = some (.cells #[.int .i64 t] 3 (0, 0)) := (hg.block A (by simp; omega) (fun e => own_cnt_ne ho hc e.symm rfl)).trans ((heap_alloc_old _ _ (by simp; omega)).trans hc)
  obtain ⟨g, cap, e, hb, hm, hl⟩ := lad_of_own ho1 (l := l ++ [(q, key)]) (by simp) (hr.snoc (q, key)) (by simp)
  injection e with e _ e2
  injection e with e
  injection e with e
  subst e e2
  have hgP : P ≠ g1 := top_ne_lad (show Top w1 A P v q from h1) hl
  have hk0 : Kept w w1 (fun k => k = P ∨ k = A ∨ v.ownBlock = some k) := Kept.of_grown hg (((Kept.refl w _).drew).alloc _) (fun k hk => .inl (.inr (.inr hk)))
  have hB0 : Below base w w1 := by
    have h3 : Below base w (w.drew.alloc (.cells #[.int .i64 key, .int .u64 q] 55)) := (Below.refl base w).drew.alloc (by simp; omega) _
    exact h3.grown hg (by simp; omega) (own_base ho)
  refine ⟨g1, cap1, ?_, hb, hm, ?_, hk0.setCell (.inl (.inl rfl)) _, hB0.setCell hbP _, by rcases hat with h | h; exact .inl (.inr (.inr h)); exact .inr (by omega), ?_⟩
  · exact (show Top w1 A P v q from h1).set1 _
  · exact hl.kept (S := fun k => k = P) ((Kept.refl w1 (fun k => k = P)).setCell (.inl rfl) _) (fun e => hgP e.symm)
  · exact (show Cnt w1 A t from h2).kept (S := fun k => k = P) ((Kept.refl w1 (fun k => k = P)).setCell (.inl rfl) _) (fun e => hPA e.symm)
end Go.Proofs.Ytjjfaiociajikaa.Ask
