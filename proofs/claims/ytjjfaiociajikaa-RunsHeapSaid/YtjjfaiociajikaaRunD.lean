/- runs.Heap[Thing]: the walk of Pop. -/
import Derived.Test.YtjjfaiociajikaaRunC
import Derived.Laws.Slices
namespace Go.Proofs.Ytjjfaiociajikaa
open Go.RowKit Go.Proofs.YtjjfaiociajikaaW.PrintWords
set_option linter.unusedVariables false
set_option linter.unusedSimpArgs false

/-! ### the list -/
theorem swapAt_take {l : List Rung} {n i j : Nat} (hi : i < n) (hj : j < n) : swapAt (l.take n) i j = (swapAt l i j).take n := by
  unfold swapAt
  rw [at_take hj, at_take hi, List.take_set, List.take_set]
theorem downL_take (n : Nat) : ∀ (f : Nat) (l : List Rung) (i : Nat), i < n → downL n f (l.take n) i = (downL n f l i).take n
  | 0, l, i, hi => rfl
  | f + 1, l, i, hi => by
    by_cases c1 : 2 * i + 1 < n
    · have e1 : at_ (l.take n) (2 * i + 1) = at_ l (2 * i + 1) := at_take c1
      have e0 : at_ (l.take n) i = at_ l i := at_take hi
      by_cases c2 : 2 * i + 2 < n ∧ lessB (at_ l (2 * i + 2)) (at_ l (2 * i + 1)) = true
      · have e2 : at_ (l.take n) (2 * i + 2) = at_ l (2 * i + 2) := at_take c2.1
        cases c3 : lessB (at_ l (2 * i + 2)) (at_ l i) with
        | true => rw [downL_two_go c2.1 (by rw [e2, e1]; exact c2.2) (by rw [e2, e0]; exact c3), downL_two_go c2.1 c2.2 c3, swapAt_take hi c2.1, downL_take n f _ _ c2.1]
        | false => rw [downL_two_stay c2.1 (by rw [e2, e1]; exact c2.2) (by rw [e2, e0]; exact c3), downL_two_stay c2.1 c2.2 c3]
      · have h2 : 2 * i + 2 < n → lessB (at_ l (2 * i + 2)) (at_ l (2 * i + 1)) = false := fun h => by
          cases hb : lessB (at_ l (2 * i + 2)) (at_ l (2 * i + 1)) with
          | true => exact absurd ⟨h, hb⟩ c2
          | false => rfl
        have h2' : 2 * i + 2 < n → lessB (at_ (l.take n) (2 * i + 2)) (at_ (l.take n) (2 * i + 1)) = false := fun h => by rw [at_take h, e1]; exact h2 h
        cases c3 : lessB (at_ l (2 * i + 1)) (at_ l i) with
        | true => rw [downL_one_go c1 h2' (by rw [e1, e0]; exact c3), downL_one_go c1 h2 c3, swapAt_take hi c1, downL_take n f _ _ c1]
        | false => rw [downL_one_stay c1 h2' (by rw [e1, e0]; exact c3), downL_one_stay c1 h2 c3]
    · rw [downL_stop _ _ c1, downL_stop _ _ c1]
/-- what Pop leaves, as the code makes it -/
theorem pop_code {l : List Rung} {n : Nat} (hl : l.length = n + 1) : (popL l).take n = downL n n ((l.set 0 (at_ l n)).take n) 0 := by
  have e : popL l = downL n n (swapAt l 0 n) 0 := by unfold popL; rw [hl, Nat.add_sub_cancel]
  rw [e]
  have e2 : (swapAt l 0 n).take n = (l.set 0 (at_ l n)).take n := by
    unfold swapAt
    rw [List.take_set, List.set_eq_of_length_le (by rw [List.length_take]; omega)]
  by_cases h : n = 0
  · subst h; simp [downL]
  · rw [← e2, downL_take n n _ 0 (by omega)]
theorem Lad.take_ {W : Int → Int} {w : World} {g n : Nat} {l : List Rung} (h : Lad W w g n l) (m : Nat) : Lad W w g n (l.take m) := by
  obtain ⟨cs, hb, hs, hl, hc⟩ := h
  refine ⟨cs, hb, hs, by rw [List.length_take]; omega, fun i x hx => hc i x ?_⟩
  rw [List.getElem?_take] at hx
  split at hx
  · exact hx
  · cases hx
theorem Lad.past {W : Int → Int} {w : World} {g n o : Nat} {l : List Rung} (h : Lad W w g n l) (ho : l.length * 3 ≤ o) (u : Value) : Lad W (w.setCell ⟨g, o, none⟩ u) g n l := by
  obtain ⟨cs, hb, hs, hl, hc⟩ := h
  refine ⟨_, blk_set hb _ _, by simpa using hs, hl, fun i x hx => ?_⟩
  have hi := (List.getElem?_eq_some_iff.1 hx).1
  obtain ⟨h1, h2, h3⟩ := hc i x hx
  rw [Array.getElem?_setIfInBounds_ne (by omega), Array.getElem?_setIfInBounds_ne (by omega), Array.getElem?_setIfInBounds_ne (by omega)]
  exact ⟨h1, h2, h3⟩
theorem below_alloc_new {w w1 : World} {o : Obj} (hb : Below (w.alloc o).heap.size (w.alloc o) w1) : w1.heap[w.heap.size]? = some o := (hb.block _ (by simp)).trans (Go.heap_alloc_new w o)
theorem Pop_none (P : Nat) (A : Option Addr) (c : Nat) (q : Int) (w : World) (ht : Top w P (.slice A 0 c) q) :
    Calls Try.prog 10 #[.pointer (some ⟨P, 0, none⟩)] w fun e w' => e = .returned (.tuple #[.agg #[.int .i64 0, .int .i64 0], .bool false]) ∧ Below w.heap.size w w' := by
  have HT := Aside0.mk ht
  have hP : P < w.heap.size := blk_lt ht
  clear ht
  go_enter Try.func10, Try.ntmps10
  go_wp2_with fail
  refine (Peek_none P A c q _ (HT.out.below (below_alloc (Below.refl _ _) _))).mono ?_
  rintro e w1 ⟨rfl, hb⟩
  have HB := Aside0.mk (below_step (below_alloc (Below.refl w.heap.size w) _) hb)
  have hr := (below_alloc_new hb)
  have hr0 : w1.cell? ⟨w.heap.size, 0, none⟩ = some (.int .i64 0) := by rw [blk_cell hr]; rfl
  have hr1 : w1.cell? ⟨w.heap.size, 1, none⟩ = some (.int .i64 0) := by rw [blk_cell hr]; rfl
  have hrf := blk_frozen hr
  have hrl := blk_lt hr
  have HRB := Aside0.mk hr
  clear hb hr
  go_wp2_with fail
  have z2 : ∀ o, (((w1.setCell ⟨w.heap.size, 0, none⟩ (.int .i64 0)).setCell ⟨w.heap.size, 1, none⟩ (.int .i64 0)).alloc o).heap[w.heap.size]? = some (.cells #[.int .i64 0, .int .i64 0] 28 (0, 0)) := fun o => (heap_alloc_old _ o (by simpa using hrl)).trans (blk_set (blk_set HRB.out 0 _) 1 _)
  have z0 := fun o => (blk_cell (z2 o) 0)
  have z1 := fun o => (blk_cell (z2 o) 1)
  clear z2
  exact bodyPost_ret (v := .tuple #[.agg #[.int .i64 0, .int .i64 0], .bool false]) (by simp [results, Try.results10, go_sem, z0, z1]) rfl ⟨rfl, ((HB.out.setCell (Nat.le_refl _) _).setCell (Nat.le_refl _) _).alloc (Nat.le_of_lt (by simpa using hrl)) _⟩
/-- in Pop: the last entry has gone to the first place -/
structure First (W : Int → Int) (w wx : World) (P base g c m : Nat) (q : Int) (l : List Rung) (x0 : Rung) (rb xb : Nat) : Prop where
  top : Top wx P (.slice (some ⟨g, 0, none⟩) m c) q
  lad : Lad W wx g c l
  res : wx.heap[rb]? = some (.cells #[.int .i64 0, .int .i64 0] 28 (0, 0))
  val : wx.heap[xb]? = some (.cells #[.int .i64 x0.2, .int .i64 (W x0.1)] 28 (0, 0))
  kept : Kept w wx (fun k => k = P ∨ k = g)
  below : Below base w wx
  low : base ≤ w.heap.size
theorem kept_set1 (w : World) (P o : Nat) (u : Value) : Kept w (w.setCell ⟨P, o, none⟩ u) (fun k => k = P) := (Kept.refl w (fun k => k = P)).setCell (.inl rfl) _
theorem first_mk {W : Int → Int} {w w2 : World} {P base g c m rb xb : Nat} {q : Int} {l : List Rung} {x0 y : Rung} (ht : Top w2 P (.slice (some ⟨g, 0, none⟩) (m + 1) c) q) (hl : Lad W w2 g c l) (hr : w2.heap[rb]? = some (.cells #[.int .i64 0, .int .i64 0] 28 (0, 0)))
    (hx : w2.heap[xb]? = some (.cells #[.int .i64 x0.2, .int .i64 (W x0.1)] 28 (0, 0))) (hP : P ≠ g) (hrg : rb ≠ g) (hxg : xb ≠ g) (hk : Kept w w2 (fun k => k = P ∨ k = g)) (hB : Below base w w2) (hg : base ≤ g) (hlow : base ≤ w.heap.size) :
    First W w ((((w2.setCell ⟨g, 0, none⟩ (.int .i64 y.2)).setCell ⟨g, 1, none⟩ (.int .i64 (W y.1))).setCell ⟨g, 2, none⟩ (.int .u64 y.1)).drew) P base g c (m + 1) q (l.set 0 y) x0 rb xb := by
  have hK : Kept w2 ((((w2.setCell ⟨g, 0, none⟩ (.int .i64 y.2)).setCell ⟨g, 1, none⟩ (.int .i64 (W y.1))).setCell ⟨g, 2, none⟩ (.int .u64 y.1)).drew) (fun k => k = g) := ((((Kept.refl w2 (fun k => k = g)).setCell (.inl rfl) _).setCell (.inl rfl) _).setCell (.inl rfl) _).drew
  have h1 := hl.put 0 y
  rw [Nat.zero_mul] at h1
  exact ⟨ht.kept hK hP, h1.drew_, blk_kept hr hK hrg, blk_kept hx hK hxg, hk.then_ hK (fun k h => .inl (.inr h)), below_drew1 (((hB.setCell hg _).setCell hg _).setCell hg _), hlow⟩
theorem First.below_ {W : Int → Int} {w wx wy : World} {P base g c m rb xb : Nat} {q : Int} {l : List Rung} {x0 : Rung} (h : First W w wx P base g c m q l x0 rb xb) (hb : Below wx.heap.size wx wy) : First W w wy P base g c m q l x0 rb xb :=
  ⟨h.top.below hb, h.lad.below hb, (hb.block _ (blk_lt h.res)).trans h.res, (hb.block _ (blk_lt h.val)).trans h.val, h.kept.below hb, h.below.trans (hb.mono (Nat.le_trans h.low h.kept.1)), h.low⟩
theorem First.swap_ {W : Int → Int} {w wx : World} {P base g c m rb xb : Nat} {q : Int} {l : List Rung} {x0 : Rung} (h : First W w wx P base g c m q l x0 rb xb) (i j : Nat) (hP : P ≠ g) (hrg : rb ≠ g) (hxg : xb ≠ g) (hg : base ≤ g) :
    First W w (((((((wx.setCell ⟨g, i * 3, none⟩ (.int .i64 (at_ l j).2)).setCell ⟨g, i * 3 + 1, none⟩ (.int .i64 (W (at_ l j).1))).setCell ⟨g, i * 3 + 2, none⟩ (.int .u64 (at_ l j).1)).setCell ⟨g, j * 3, none⟩ (.int .i64 (at_ l i).2)).setCell ⟨g, j * 3 + 1, none⟩ (.int .i64 (W (at_ l i).1))).setCell ⟨g, j * 3 + 2, none⟩ (.int .u64 (at_ l i).1)).drew) P base g c m q (swapAt l i j) x0 rb xb := by
  have hK := kept6 g wx (i * 3) (i * 3 + 1) (i * 3 + 2) (j * 3) (j * 3 + 1) (j * 3 + 2) (.int .i64 (at_ l j).2) (.int .i64 (W (at_ l j).1)) (.int .u64 (at_ l j).1) (.int .i64 (at_ l i).2) (.int .i64 (W (at_ l i).1)) (.int .u64 (at_ l i).1)
  exact ⟨h.top.kept hK hP, (h.lad.swap i j).drew_, blk_kept h.res hK hrg, blk_kept h.val hK hxg, h.kept.then_ hK (fun k hk => .inl (.inr hk)), below_drew1 ((((((h.below.setCell hg _).setCell hg _).setCell hg _).setCell hg _).setCell hg _).setCell hg _), h.low⟩
theorem loop_mk {W : Int → Int} {w wx : World} {P base g c m rb xb : Nat} {q : Int} {l : List Rung} {x0 : Rung} (ht : Top wx P (.slice (some ⟨g, 0, none⟩) (m + 1) c) q) (hl : Lad W wx g c (l.set 0 (at_ l m))) (hr : wx.heap[rb]? = some (.cells #[.int .i64 0, .int .i64 0] 28 (0, 0)))
    (hx : wx.heap[xb]? = some (.cells #[.int .i64 x0.2, .int .i64 (W x0.1)] 28 (0, 0))) (hk : Kept w wx (fun k => k = P ∨ k = g)) (hB : Below base w wx) (hP : P ≠ g) (hrg : rb ≠ g) (hxg : xb ≠ g) (hrP : rb ≠ P) (hxP : xb ≠ P) (hg : base ≤ g) (hbP : base ≤ P) (hlen : l.length = m + 1) (hPw : P ≤ w.heap.size) :
    First W w ((((wx.setCell ⟨g, m * 3, none⟩ (.int .i64 0)).setCell ⟨g, m * 3 + 1, none⟩ (.int .i64 0)).setCell ⟨g, m * 3 + 2, none⟩ (.int .u64 0)).setCell ⟨P, 1, none⟩ (.slice (some ⟨g, 0, none⟩) m c)) P base g c m q ((l.set 0 (at_ l m)).take m) x0 rb xb := by
  have hK : Kept wx (((wx.setCell ⟨g, m * 3, none⟩ (.int .i64 0)).setCell ⟨g, m * 3 + 1, none⟩ (.int .i64 0)).setCell ⟨g, m * 3 + 2, none⟩ (.int .u64 0)) (fun k => k = g) := (((Kept.refl wx (fun k => k = g)).setCell (.inl rfl) _).setCell (.inl rfl) _).setCell (.inl rfl) _
  have hK2 := kept_set1 (((wx.setCell ⟨g, m * 3, none⟩ (.int .i64 0)).setCell ⟨g, m * 3 + 1, none⟩ (.int .i64 0)).setCell ⟨g, m * 3 + 2, none⟩ (.int .u64 0)) P 1 (.slice (some ⟨g, 0, none⟩) m c)
  have hlm : ((l.set 0 (at_ l m)).take m).length = m := by rw [List.length_take, List.length_set, hlen]; omega
  have h1 := ((((hl.take_ m).past (o := m * 3) (by omega) (.int .i64 0)).past (o := m * 3 + 1) (by omega) (.int .i64 0)).past (o := m * 3 + 2) (by omega) (.int .u64 0))
  exact ⟨(ht.kept hK hP).set1 _, h1.kept hK2 (fun e => hP e.symm), blk_kept (blk_kept hr hK hrg) hK2 hrP, blk_kept (blk_kept hx hK hxg) hK2 hxP, (hk.then_ hK (fun k h => .inl (.inr h))).then_ hK2 (fun k h => .inl (.inl h)), (((hB.setCell hg _).setCell hg _).setCell hg _).setCell hbP _, Nat.le_trans hbP hPw⟩
theorem pop_end {W : Int → Int} {w wx : World} {P base g c m xb : Nat} {q : Int} {l l' r : List Rung} {x0 : Rung} {a : Act} (h : First W w wx P base g c m q l' x0 w.heap.size xb) (hlen : l'.length = m) (hrP : w.heap.size ≠ P) (hrg : w.heap.size ≠ g) (hd : l' = r) (hcode : (popL l).take m = r) (hc : c ≤ maxLen) (hg : base ≤ g) (ex : at_ l 0 = x0)
    (h2 : a.tmps[2]? = some (.pointer (some ⟨w.heap.size, 0, none⟩))) (h3 : a.tmps[3]? = some (.bool true)) (h4 : a.defers = []) :
    bodyPost Try.prog Try.f10 (fun e w' => e = .returned (.tuple #[.agg #[.int .i64 (at_ l 0).2, .int .i64 (W (at_ l 0).1)], .bool true]) ∧ Hp W w' P base q ((popL l).take m) ∧ Kept w w' (fun k => k = P ∨ k = g) ∧ Below base w w') .ret a ((wx.setCell ⟨w.heap.size, 0, none⟩ (.int .i64 x0.2)).setCell ⟨w.heap.size, 1, none⟩ (.int .i64 (W x0.1))) := by
  subst ex
  have z := blk_set (blk_set h.res 0 (.int .i64 (at_ l 0).2)) 1 (.int .i64 (W (at_ l 0).1))
  have z0 := blk_cell z 0
  have z1 := blk_cell z 1
  have hK : Kept wx ((wx.setCell ⟨w.heap.size, 0, none⟩ (.int .i64 (at_ l 0).2)).setCell ⟨w.heap.size, 1, none⟩ (.int .i64 (W (at_ l 0).1))) (fun k => k = w.heap.size) := ((Kept.refl wx (fun k => k = w.heap.size)).setCell (.inl rfl) _).setCell (.inl rfl) _
  clear z
  refine bodyPost_ret (v := .tuple #[.agg #[.int .i64 (at_ l 0).2, .int .i64 (W (at_ l 0).1)], .bool true]) (by simp [results, Try.results10, go_sem, z0, z1, h2, h3]) h4 ⟨rfl, ?_, h.kept.then_ hK (fun k hk => .inr (by omega)), (h.below.setCell h.low _).setCell h.low _⟩
  subst hd hlen
  rw [hcode]
  obtain ⟨xs, ho, hr⟩ := own_of_lad (h.lad.kept hK (fun e => hrg e.symm)) hg hc
  exact ⟨_, xs, h.top.kept hK (fun e => hrP e.symm), ho, hr⟩
set_option maxRecDepth 100000 in
set_option maxHeartbeats 4000000 in
theorem Pop_some (W : Int → Int) (P base g c n : Nat) (l : List Rung) (q : Int) (w : World) (ht : Top w P (.slice (some ⟨g, 0, none⟩) (n + 1) c) q) (hl : Lad W w g c l) (hlen : l.length = n + 1) (hn : n ≤ 100000) (hc : c ≤ maxLen) (hbP : base ≤ P) (hbg : base ≤ g) :
    Calls Try.prog 10 #[.pointer (some ⟨P, 0, none⟩)] w fun e w' => e = .returned (.tuple #[.agg #[.int .i64 (at_ l 0).2, .int .i64 (W (at_ l 0).1)], .bool true]) ∧ Hp W w' P base q ((popL l).take n) ∧ Kept w w' (fun k => k = P ∨ k = g) ∧ Below base w w' := by
  have HT := Aside0.mk ht
  have HL := Aside0.mk hl
  have HLEN := Aside0.mk hlen
  have hgP : P ≠ g := top_ne_lad ht hl
  have hP : P < w.heap.size := blk_lt ht
  have hg : g < w.heap.size := by obtain ⟨cs, h1, _⟩ := hl; exact blk_lt h1
  have HBP := Aside0.mk hbP
  have HBG := Aside0.mk hbg
  have HC := Aside0.mk hc
  clear ht hl hlen hbP hbg hc
  go_enter Try.func10, Try.ntmps10
  go_wp2_with fail
  refine (Peek_some W P g c l q _ ((HT.out.below (below_alloc (Below.refl _ _) _)).len HLEN.out) (HL.out.below (below_alloc (Below.refl _ _) _)) (by have := HLEN.out; omega)).mono ?_
  rintro e w1 ⟨rfl, hb⟩
  generalize hx0 : at_ l 0 = x0
  have HX0 := Aside0.mk hx0
  clear hx0
  have HB := Aside0.mk (below_step (below_alloc (Below.refl w.heap.size w) _) hb)
  have hr := (below_alloc_new hb)
  have HRB := Aside0.mk hr
  have hrl := blk_lt hr
  have HT1 := Aside0.mk (HT.out.below HB.out)
  have HL1 := Aside0.mk (HL.out.below HB.out)
  have HX := Aside0.mk (Go.heap_alloc_new w1 (.cells #[.int .i64 x0.2, .int .i64 (W x0.1)] 28))
  have HT2 := Aside0.mk (HT1.out.kept (w' := w1.alloc (.cells #[.int .i64 x0.2, .int .i64 (W x0.1)] 28)) ((Kept.refl w1 (fun _ => False)).alloc _) (fun h => h))
  have HL2 := Aside0.mk (HL1.out.kept (w' := w1.alloc (.cells #[.int .i64 x0.2, .int .i64 (W x0.1)] 28)) ((Kept.refl w1 (fun _ => False)).alloc _) (fun h => h))
  have HR2 := Aside0.mk ((heap_alloc_old w1 (.cells #[.int .i64 x0.2, .int .i64 (W x0.1)] 28) hrl).trans hr)
  have HB2 := Aside0.mk (below_alloc HB.out (.cells #[.int .i64 x0.2, .int .i64 (W x0.1)] 28))
  have HLT := Aside0.mk (show w.heap.size < w1.heap.size from hrl)
  have p0 := HT2.out.c1
  have HRG := Aside0.mk (show w.heap.size ≠ g by omega)
  have HXG := Aside0.mk (show w1.heap.size ≠ g by omega)
  have HRP := Aside0.mk (show w.heap.size ≠ P by omega)
  have HXP := Aside0.mk (show w1.heap.size ≠ P by omega)
  have HK2 := Aside0.mk ((Kept.of_below HB.out (fun k => k = P ∨ k = g)).alloc (.cells #[.int .i64 x0.2, .int .i64 (W x0.1)] 28))
  have HB2b := Aside0.mk (HB2.out.mono (show base ≤ w.heap.size by have := HBP.out; omega))
  clear hb hr hrl HT1 HL1
  go_upto_region 5 with fail
  clear HB HRB
  generalize w1.heap.size = xb at *
  generalize hw2 : w1.alloc (.cells #[.int .i64 x0.2, .int .i64 (W x0.1)] 28) = w2 at *
  clear hw2
  go_cut [] (fun wx => Aside0 (First W w wx P base g c (n + 1) q (l.set 0 (at_ l n)) x0 w.heap.size xb))
  case first =>
    have a0 := HL2.out.key (i := n) (by have := HLEN.out; omega)
    have a1 := HL2.out.who (i := n) (by have := HLEN.out; omega)
    have a2 := HL2.out.num (i := n) (by have := HLEN.out; omega)
    have b0 := HL2.out.key (i := 0) (by have := HLEN.out; omega)
    have b1 := HL2.out.who (i := 0) (by have := HLEN.out; omega)
    have b2 := HL2.out.num (i := 0) (by have := HLEN.out; omega)
    rw [Nat.zero_mul] at b0 b1 b2
    have f0 := HL2.out.free 0
    have f1 := HL2.out.free 1
    have f2 := HL2.out.free 2
    have q1 : n < n + 1 := Nat.lt_succ_self n
    go_region
    all_goals (go_wp2_with fail; go_meet; exact ⟨first_mk HT2.out HL2.out HR2.out HX.out hgP HRG.out HXG.out HK2.out HB2b.out HBG.out (by have := HBP.out; omega)⟩)
  case rest =>
    obtain ⟨hcut⟩ := hcut
    obtain ⟨ht, hl, hr, hx, hk, hB, _⟩ := hcut
    have p1 := ht.c1
    have pf := ht.free 1
    have hl3 : n < n + 1 := Nat.lt_succ_self n
    have z0 : (wc.cell? ⟨g, n * 3, none⟩).isSome = true := by have := hl.key (i := n) (by rw [List.length_set]; have := HLEN.out; omega); rw [this]; rfl
    have e0 := hl.key (i := n) (by rw [List.length_set]; have := HLEN.out; omega)
    have e1 := hl.who (i := n) (by rw [List.length_set]; have := HLEN.out; omega)
    have e2 := hl.num (i := n) (by rw [List.length_set]; have := HLEN.out; omega)
    have f0 := hl.free (n * 3)
    have f1 := hl.free (n * 3 + 1)
    have f2 := hl.free (n * 3 + 2)
    have hroom : n + 1 ≤ c := by obtain ⟨cs, _, _, h2, _⟩ := hl; rw [List.length_set, HLEN.out] at h2; exact h2
    have hnc : (n : Int) ≤ (c : Int) := by omega
    clear z0 p0
    go_wp2_with fail
    have hg0 : P ≠ g := hgP
    have HF := Aside0.mk (loop_mk ht hl hr hx hk hB hgP HRG.out HXG.out HRP.out HXP.out HBG.out HBP.out HLEN.out (Nat.le_of_lt hP))
    have HCODE := Aside0.mk (pop_code HLEN.out)
    have HCM := HC
    clear ht hl hr hx hk hB p1 pf e0 e1 e2 f0 f1 f2
    go_loopw [7] (fun v7 w9 => ∃ (i f : Nat) (l' : List Rung), v7 = .int .i64 i ∧ i ≤ n ∧ n - i ≤ f ∧ Aside0 (l'.length = n) ∧ Aside0 (downL n f l' i = downL n n ((l.set 0 (at_ l n)).take n) 0) ∧ Aside0 (First W w w9 P base g c n q l' x0 w.heap.size xb)) (fun v7 _ => n - (intOf v7).toNat)
    case atStart => exact ⟨0, n, _, rfl, Nat.zero_le _, by omega, ⟨by rw [List.length_take, List.length_set, HLEN.out]; omega⟩, ⟨rfl⟩, HF⟩
    case round =>
      clear HF hroom hnc hl3
      obtain ⟨i, f, l', rfl, hin, hnf, HLEN2, HDN, HF0⟩ := hrel
      obtain ⟨d, hd⟩ : ∃ d, d = 2 * i + 1 := ⟨_, rfl⟩
      have hdd : 2 * (i : Int) + 1 = (d : Int) := by omega
      have hd1 : d ≤ 2 * i + 1 := by omega
      have hd2 : 2 * i + 1 ≤ d := by omega
      clear hd
      have hp1 := HF0.out.top.c1
      by_cases c1 : d < n
      · have c1b : decide (n ≤ d) = false := decide_eq_false (by omega)
        obtain ⟨f, rfl⟩ : ∃ f', f = f' + 1 := ⟨f - 1, by omega⟩
        by_cases c2 : d + 1 < n
        · have c2b : decide ((d : Int) + 1 < (n : Int)) = true := decide_eq_true (by omega)
          cases hb2 : lessB (at_ l' (d + 1)) (at_ l' d) with
          | true =>
            have HB2 := Aside0.mk hb2
            clear hb2
            go_wp2_with fail
            refine (ahead_hp W P g c n l' q ((d : Int) + 1) (d : Int) (d + 1) d _ (by omega) rfl HLEN2.out HF0.out.top HF0.out.lad (by rw [HLEN2.out]; exact c2) (by rw [HLEN2.out]; exact c1) true HB2.out).mono ?_
            rintro e w3 ⟨rfl, hb⟩
            have HG3 := Aside0.mk (HF0.out.below_ hb)
            clear hb HF0
            cases hb3 : lessB (at_ l' (d + 1)) (at_ l' i) with
            | true =>
              have HB3 := Aside0.mk hb3
              clear hb3
              go_wp2_with fail
              refine (ahead_hp W P g c n l' q ((d : Int) + 1) (i : Int) (d + 1) i _ (by omega) rfl HLEN2.out HG3.out.top HG3.out.lad (by rw [HLEN2.out]; exact c2) (by rw [HLEN2.out]; omega) true HB3.out).mono ?_
              rintro e w4 ⟨rfl, hb⟩
              have HG4 := Aside0.mk (HG3.out.below_ hb)
              clear hb HG3
              have t1 := HG4.out.top.c1
              have a0 := HG4.out.lad.key (i := i) (by rw [HLEN2.out]; omega)
              have a1 := HG4.out.lad.who (i := i) (by rw [HLEN2.out]; omega)
              have a2 := HG4.out.lad.num (i := i) (by rw [HLEN2.out]; omega)
              have b0 := HG4.out.lad.key (i := d + 1) (by rw [HLEN2.out]; exact c2)
              have b1 := HG4.out.lad.who (i := d + 1) (by rw [HLEN2.out]; exact c2)
              have b2 := HG4.out.lad.num (i := d + 1) (by rw [HLEN2.out]; exact c2)
              have f0 := HG4.out.lad.free (i * 3)
              have f1 := HG4.out.lad.free (i * 3 + 1)
              have f2 := HG4.out.lad.free (i * 3 + 2)
              have f3 := HG4.out.lad.free ((d + 1) * 3)
              have f4 := HG4.out.lad.free ((d + 1) * 3 + 1)
              have f5 := HG4.out.lad.free ((d + 1) * 3 + 2)
              have q1 : i < n := by omega
              have q2 : d + 1 < n := c2
              go_wp2_with fail
              go_region
              all_goals
                go_wp2_with fail
                go_roundw
                case rel => exact ⟨d + 1, f, swapAt l' i (d + 1), by go_num, by omega, by omega, ⟨by rw [swapAt_length]; exact HLEN2.out⟩, ⟨by rw [← HDN.out, downL_two_go (n := n) (i := i) (by omega) (by rw [show 2 * i + 2 = d + 1 by omega, show 2 * i + 1 = d by omega]; exact HB2.out) (by rw [show 2 * i + 2 = d + 1 by omega]; exact HB3.out), show 2 * i + 2 = d + 1 by omega]⟩, ⟨HG4.out.swap_ i (d + 1) hgP HRG.out HXG.out HBG.out⟩⟩
                case measure => simp [intOf]; omega
            | false =>
              have HB3 := Aside0.mk hb3
              clear hb3
              go_wp2_with fail
              refine (ahead_hp W P g c n l' q ((d : Int) + 1) (i : Int) (d + 1) i _ (by omega) rfl HLEN2.out HG3.out.top HG3.out.lad (by rw [HLEN2.out]; exact c2) (by rw [HLEN2.out]; omega) false HB3.out).mono ?_
              rintro e w4 ⟨rfl, hb⟩
              have HG4 := Aside0.mk (HG3.out.below_ hb)
              clear hb HG3
              have z0 := HG4.out.res
              have z1 := blk_cell z0 0
              have z2 := blk_cell z0 1
              have zf0 := blk_frozen z0 0
              have zf1 := blk_frozen z0 1
              have x0c := blk_cell HG4.out.val 0
              have x1c := blk_cell HG4.out.val 1
              clear z0
              go_wp2_with fail
              exact pop_end HG4.out HLEN2.out HRP.out HRG.out (by rw [← HDN.out, downL_two_stay (n := n) (i := i) (by omega) (by rw [show 2 * i + 2 = d + 1 by omega, show 2 * i + 1 = d by omega]; exact HB2.out) (by rw [show 2 * i + 2 = d + 1 by omega]; exact HB3.out)]) HCODE.out HCM.out HBG.out HX0.out rfl rfl rfl
          | false =>
            have HB2 := Aside0.mk hb2
            clear hb2
            go_wp2_with fail
            refine (ahead_hp W P g c n l' q ((d : Int) + 1) (d : Int) (d + 1) d _ (by omega) rfl HLEN2.out HF0.out.top HF0.out.lad (by rw [HLEN2.out]; exact c2) (by rw [HLEN2.out]; exact c1) false HB2.out).mono ?_
            rintro e w3 ⟨rfl, hb⟩
            have HG3 := Aside0.mk (HF0.out.below_ hb)
            clear hb HF0
            cases hb3 : lessB (at_ l' (d)) (at_ l' i) with
            | true =>
              have HB3 := Aside0.mk hb3
              clear hb3
              go_wp2_with fail
              refine (ahead_hp W P g c n l' q ((d : Int)) (i : Int) (d) i _ (by omega) rfl HLEN2.out HG3.out.top HG3.out.lad (by rw [HLEN2.out]; exact c1) (by rw [HLEN2.out]; omega) true HB3.out).mono ?_
              rintro e w4 ⟨rfl, hb⟩
              have HG4 := Aside0.mk (HG3.out.below_ hb)
              clear hb HG3
              have t1 := HG4.out.top.c1
              have a0 := HG4.out.lad.key (i := i) (by rw [HLEN2.out]; omega)
              have a1 := HG4.out.lad.who (i := i) (by rw [HLEN2.out]; omega)
              have a2 := HG4.out.lad.num (i := i) (by rw [HLEN2.out]; omega)
              have b0 := HG4.out.lad.key (i := d) (by rw [HLEN2.out]; exact c1)
              have b1 := HG4.out.lad.who (i := d) (by rw [HLEN2.out]; exact c1)
              have b2 := HG4.out.lad.num (i := d) (by rw [HLEN2.out]; exact c1)
              have f0 := HG4.out.lad.free (i * 3)
              have f1 := HG4.out.lad.free (i * 3 + 1)
              have f2 := HG4.out.lad.free (i * 3 + 2)
              have f3 := HG4.out.lad.free ((d) * 3)
              have f4 := HG4.out.lad.free ((d) * 3 + 1)
              have f5 := HG4.out.lad.free ((d) * 3 + 2)
              have q1 : i < n := by omega
              have q2 : d < n := c1
              go_wp2_with fail
              go_region
              all_goals
                go_wp2_with fail
                go_roundw
                case rel => exact ⟨d, f, swapAt l' i (d), by go_num, by omega, by omega, ⟨by rw [swapAt_length]; exact HLEN2.out⟩, ⟨by rw [← HDN.out, downL_one_go (n := n) (i := i) (by omega) (fun _ => by rw [show 2 * i + 2 = d + 1 by omega, show 2 * i + 1 = d by omega]; exact HB2.out) (by rw [show 2 * i + 1 = d by omega]; exact HB3.out), show 2 * i + 1 = d by omega]⟩, ⟨HG4.out.swap_ i (d) hgP HRG.out HXG.out HBG.out⟩⟩
                case measure => simp [intOf]; omega
            | false =>
              have HB3 := Aside0.mk hb3
              clear hb3
              go_wp2_with fail
              refine (ahead_hp W P g c n l' q ((d : Int)) (i : Int) (d) i _ (by omega) rfl HLEN2.out HG3.out.top HG3.out.lad (by rw [HLEN2.out]; exact c1) (by rw [HLEN2.out]; omega) false HB3.out).mono ?_
              rintro e w4 ⟨rfl, hb⟩
              have HG4 := Aside0.mk (HG3.out.below_ hb)
              clear hb HG3
              have z0 := HG4.out.res
              have z1 := blk_cell z0 0
              have z2 := blk_cell z0 1
              have zf0 := blk_frozen z0 0
              have zf1 := blk_frozen z0 1
              have x0c := blk_cell HG4.out.val 0
              have x1c := blk_cell HG4.out.val 1
              clear z0
              go_wp2_with fail
              exact pop_end HG4.out HLEN2.out HRP.out HRG.out (by rw [← HDN.out, downL_one_stay (n := n) (i := i) (by omega) (fun _ => by rw [show 2 * i + 2 = d + 1 by omega, show 2 * i + 1 = d by omega]; exact HB2.out) (by rw [show 2 * i + 1 = d by omega]; exact HB3.out)]) HCODE.out HCM.out HBG.out HX0.out rfl rfl rfl
        · have c2b : decide ((d : Int) + 1 < (n : Int)) = false := decide_eq_false (by omega)
          cases hb3 : lessB (at_ l' (d)) (at_ l' i) with
          | true =>
            have HB3 := Aside0.mk hb3
            clear hb3
            go_wp2_with fail
            refine (ahead_hp W P g c n l' q ((d : Int)) (i : Int) (d) i _ (by omega) rfl HLEN2.out HF0.out.top HF0.out.lad (by rw [HLEN2.out]; exact c1) (by rw [HLEN2.out]; omega) true HB3.out).mono ?_
            rintro e w4 ⟨rfl, hb⟩
            have HG4 := Aside0.mk (HF0.out.below_ hb)
            clear hb HF0
            have t1 := HG4.out.top.c1
            have a0 := HG4.out.lad.key (i := i) (by rw [HLEN2.out]; omega)
            have a1 := HG4.out.lad.who (i := i) (by rw [HLEN2.out]; omega)
            have a2 := HG4.out.lad.num (i := i) (by rw [HLEN2.out]; omega)
            have b0 := HG4.out.lad.key (i := d) (by rw [HLEN2.out]; exact c1)
            have b1 := HG4.out.lad.who (i := d) (by rw [HLEN2.out]; exact c1)
            have b2 := HG4.out.lad.num (i := d) (by rw [HLEN2.out]; exact c1)
            have f0 := HG4.out.lad.free (i * 3)
            have f1 := HG4.out.lad.free (i * 3 + 1)
            have f2 := HG4.out.lad.free (i * 3 + 2)
            have f3 := HG4.out.lad.free ((d) * 3)
            have f4 := HG4.out.lad.free ((d) * 3 + 1)
            have f5 := HG4.out.lad.free ((d) * 3 + 2)
            have q1 : i < n := by omega
            have q2 : d < n := c1
            go_wp2_with fail
            go_region
            all_goals
              go_wp2_with fail
              go_roundw
              case rel => exact ⟨d, f, swapAt l' i (d), by go_num, by omega, by omega, ⟨by rw [swapAt_length]; exact HLEN2.out⟩, ⟨by rw [← HDN.out, downL_one_go (n := n) (i := i) (by omega) (fun h => absurd h (by omega)) (by rw [show 2 * i + 1 = d by omega]; exact HB3.out), show 2 * i + 1 = d by omega]⟩, ⟨HG4.out.swap_ i (d) hgP HRG.out HXG.out HBG.out⟩⟩
              case measure => simp [intOf]; omega
          | false =>
            have HB3 := Aside0.mk hb3
            clear hb3
            go_wp2_with fail
            refine (ahead_hp W P g c n l' q ((d : Int)) (i : Int) (d) i _ (by omega) rfl HLEN2.out HF0.out.top HF0.out.lad (by rw [HLEN2.out]; exact c1) (by rw [HLEN2.out]; omega) false HB3.out).mono ?_
            rintro e w4 ⟨rfl, hb⟩
            have HG4 := Aside0.mk (HF0.out.below_ hb)
            clear hb HF0
            have z0 := HG4.out.res
            have z1 := blk_cell z0 0
            have z2 := blk_cell z0 1
            have zf0 := blk_frozen z0 0
            have zf1 := blk_frozen z0 1
            have x0c := blk_cell HG4.out.val 0
            have x1c := blk_cell HG4.out.val 1
            clear z0
            go_wp2_with fail
            exact pop_end HG4.out HLEN2.out HRP.out HRG.out (by rw [← HDN.out, downL_one_stay (n := n) (i := i) (by omega) (fun h => absurd h (by omega)) (by rw [show 2 * i + 1 = d by omega]; exact HB3.out)]) HCODE.out HCM.out HBG.out HX0.out rfl rfl rfl
      · have c1b : decide (n ≤ d) = true := decide_eq_true (by omega)
        have z0 := HF0.out.res
        have z1 := blk_cell z0 0
        have z2 := blk_cell z0 1
        have zf0 := blk_frozen z0 0
        have zf1 := blk_frozen z0 1
        have x0c := blk_cell HF0.out.val 0
        have x1c := blk_cell HF0.out.val 1
        clear z0
        go_wp2_with fail
        exact pop_end HF0.out HLEN2.out HRP.out HRG.out (by rw [← HDN.out, downL_stop _ _ (show ¬ 2 * i + 1 < n by omega)]) HCODE.out HCM.out HBG.out HX0.out rfl rfl rfl
end Go.Proofs.Ytjjfaiociajikaa
