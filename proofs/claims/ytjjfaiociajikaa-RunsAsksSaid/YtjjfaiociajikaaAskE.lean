/- runs.Heap[int]: the walk of Pop. -/
import Derived.Test.YtjjfaiociajikaaAskC
namespace Go.Proofs.Ytjjfaiociajikaa.Ask
open Go.RowKit Go.Proofs.YtjjfaiociajikaaW.PrintWords
set_option linter.unusedVariables false
set_option linter.unusedSimpArgs false

/-! ### the list -/
theorem swapAt_take {l : List Rung} {n i j : Nat} (hi : i < n) (hj : j < n) : swapAt (l.take n) i j = (swapAt l i j).take n := by
  unfold swapAt
  rw [at_take hj, at_take hi, List.take_set, List.take_set]
theorem downL_take (n : Nat) : ∀ (f : Nat) (l : List Rung) (i : Nat), i < n → downL n f (l.take n) i = (downL n f l i).take n
  | 0, l, i, hi => rfl
  | f + 1, l, i, hi => by
    by_cases c1 : 2 * i + 1 < n
    · have e1 : at_ (l.take n) (2 * i + 1) = at_ l (2 * i + 1) := at_take c1
      have e0 : at_ (l.take n) i = at_ l i := at_take hi
      by_cases c2 : 2 * i + 2 < n ∧ lessB (at_ l (2 * i + 2)) (at_ l (2 * i + 1)) = true
      · have e2 : at_ (l.take n) (2 * i + 2) = at_ l (2 * i + 2) := at_take c2.1
        cases c3 : lessB (at_ l (2 * i + 2)) (at_ l i) with
        | true => rw [downL_two_go c2.1 (by rw [e2, e1]; exact c2.2) (by rw [e2, e0]; exact c3), downL_two_go c2.1 c2.2 c3, swapAt_take hi c2.1, downL_take n f _ _ c2.1]
        | false => rw [downL_two_stay c2.1 (by rw [e2, e1]; exact c2.2) (by rw [e2, e0]; exact c3), downL_two_stay c2.1 c2.2 c3]
      · have h2 : 2 * i + 2 < n → lessB (at_ l (2 * i + 2)) (at_ l (2 * i + 1)) = false := fun h => by
          cases hb : lessB (at_ l (2 * i + 2)) (at_ l (2 * i + 1)) with
          | true => exact absurd ⟨h, hb⟩ c2
          | false => rfl
        have h2' : 2 * i + 2 < n → lessB (at_ (l.take n) (2 * i + 2)) (at_ (l.take n) (2 * i + 1)) = false := fun h => by rw [at_take h, e1]; exact h2 h
        cases c3 : lessB (at_ l (2 * i + 1)) (at_ l i) with
        | true => rw [downL_one_go c1 h2' (by rw [e1, e0]; exact c3), downL_one_go c1 h2 c3, swapAt_take hi c1, downL_take n f _ _ c1]
        | false => rw [downL_one_stay c1 h2' (by rw [e1, e0]; exact c3), downL_one_stay c1 h2 c3]
    · rw [downL_stop _ _ c1, downL_stop _ _ c1]
/-- what Pop leaves, as the code makes it -/
theorem pop_code {l : List Rung} {n : Nat} (hl : l.length = n + 1) : (popL l).take n = downL n n ((l.set 0 (at_ l n)).take n) 0 := by
  have e : popL l = downL n n (swapAt l 0 n) 0 := by unfold popL; rw [hl, Nat.add_sub_cancel]
  rw [e]
  have e2 : (swapAt l 0 n).take n = (l.set 0 (at_ l n)).take n := by
    unfold swapAt
    rw [List.take_set, List.set_eq_of_length_le (by rw [List.length_take]; omega)]
  by_cases h : n = 0
  · subst h; simp [downL]
  · rw [← e2, downL_take n n _ 0 (by omega)]
theorem dig_one : dig (0 + 1) = 1 := by rw [dig_pos (by omega)]; simp [dig]
theorem Lad.take_ {w : World} {g n : Nat} {l : List Rung} (h : Lad w g n l) (m : Nat) : Lad w g n (l.take m) := by
  obtain ⟨cs, hb, hs, hl, hc⟩ := h
  refine ⟨cs, hb, hs, by rw [List.length_take]; omega, fun i x hx => hc i x ?_⟩
  rw [List.getElem?_take] at hx
  split at hx
  · exact hx
  · cases hx
theorem Lad.past {w : World} {g n o : Nat} {l : List Rung} (h : Lad w g n l) (ho : l.length * 2 ≤ o) (u : Value) : Lad (w.setCell ⟨g, o, none⟩ u) g n l := by
  obtain ⟨cs, hb, hs, hl, hc⟩ := h
  refine ⟨_, blk_set hb _ _, by simpa using hs, hl, fun i x hx => ?_⟩
  have hi := (List.getElem?_eq_some_iff.1 hx).1
  obtain ⟨h1, h2⟩ := hc i x hx
  rw [Array.getElem?_setIfInBounds_ne (by omega), Array.getElem?_setIfInBounds_ne (by omega)]
  exact ⟨h1, h2⟩
theorem Pop_none (A0 P : Nat) (A : Option Addr) (c : Nat) (q : Int) (w : World) (ht : Top w A0 P (.slice A 0 c) q) :
    Calls Try.prog 17 #[.pointer (some ⟨P, 0, none⟩)] w fun e w' => e = .returned (.tuple #[.int .i64 0, .bool false]) ∧ w = w' := by
  have HT := Aside0.mk ht
  clear ht
  go_enter Try.func17, Try.ntmps17
  go_wp2_with fail
  refine (Peek_none A0 P A c q _ HT.out).mono ?_
  rintro e w1 ⟨rfl, rfl⟩
  go_wp2_with fail
  go_ret2
  exact ⟨rfl, rfl⟩
/-- in Pop -/
structure First (w wx : World) (A P base g c m : Nat) (q s : Int) (l : List Rung) : Prop where
  top : Top wx A P (.slice (some ⟨g, 0, none⟩) m c) q
  lad : Lad wx g c l
  cnt : Cnt wx A s
  kept : Kept w wx (fun k => k = P ∨ k = A ∨ k = g)
  below : Below base w wx
theorem first_mk {w : World} {A P base g c m : Nat} {q t : Int} {l : List Rung} {y : Rung} (ht : Top w A P (.slice (some ⟨g, 0, none⟩) (m + 1) c) q) (hl : Lad w g c l) (hc : Cnt w A t) (hP : P ≠ g) (hgA : g ≠ A) (hg : base ≤ g) :
    First w (((w.setCell ⟨g, 0, none⟩ (.int .i64 y.2)).setCell ⟨g, 1, none⟩ (.int .u64 y.1)).drew) A P base g c (m + 1) q t (l.set 0 y) := by
  have hK : Kept w (((w.setCell ⟨g, 0, none⟩ (.int .i64 y.2)).setCell ⟨g, 1, none⟩ (.int .u64 y.1)).drew) (fun k => k = g) := (((Kept.refl w (fun k => k = g)).setCell (.inl rfl) _).setCell (.inl rfl) _).drew
  have h1 := hl.put 0 y
  rw [Nat.zero_mul] at h1
  exact ⟨ht.kept hK hP, h1.drew_, hc.kept hK (fun e => hgA e.symm), (Kept.refl w _).then_ hK (fun k h => .inl (.inr (.inr h))), below_drew1 (((Below.refl base w).setCell hg _).setCell hg _)⟩
theorem kept_set1 (w : World) (P o : Nat) (u : Value) : Kept w (w.setCell ⟨P, o, none⟩ u) (fun k => k = P) := (Kept.refl w (fun k => k = P)).setCell (.inl rfl) _
theorem First.ask {w wx wy : World} {A P base g c m : Nat} {q s s' : Int} {l : List Rung} (h : First w wx A P base g c m q s l) (hc : Cnt wy A s') (hk : Kept wx wy (fun k => k = A)) (hb : Below base wx wy) (hPA : P ≠ A) (hgA : g ≠ A) : First w wy A P base g c m q s' l :=
  ⟨h.top.kept hk hPA, h.lad.kept hk hgA, hc, h.kept.then_ hk (fun k hk => .inl (.inr (.inl hk))), h.below.trans hb⟩
theorem First.swap_ {w wx : World} {A P base g c m : Nat} {q s : Int} {l : List Rung} (h : First w wx A P base g c m q s l) (i j : Nat) (hP : P ≠ g) (hgA : g ≠ A) (hg : base ≤ g) :
    First w (((((wx.setCell ⟨g, i * 2, none⟩ (.int .i64 (at_ l j).2)).setCell ⟨g, i * 2 + 1, none⟩ (.int .u64 (at_ l j).1)).setCell ⟨g, j * 2, none⟩ (.int .i64 (at_ l i).2)).setCell ⟨g, j * 2 + 1, none⟩ (.int .u64 (at_ l i).1)).drew) A P base g c m q s (swapAt l i j) := by
  have hK := kept4 g wx (i * 2) (i * 2 + 1) (j * 2) (j * 2 + 1) (.int .i64 (at_ l j).2) (.int .u64 (at_ l j).1) (.int .i64 (at_ l i).2) (.int .u64 (at_ l i).1)
  exact ⟨h.top.kept hK hP, (h.lad.swap i j).drew_, h.cnt.kept hK (fun e => hgA e.symm), h.kept.then_ hK (fun k hk => .inl (.inr (.inr hk))), below_drew1 ((((h.below.setCell hg _).setCell hg _).setCell hg _).setCell hg _)⟩
theorem loop_mk {w wx : World} {A P base g c m : Nat} {q s : Int} {l : List Rung} (h : First w wx A P base g c (m + 1) q s (l.set 0 (at_ l m))) (hP : P ≠ g) (hPA : P ≠ A) (hgA : g ≠ A) (hg : base ≤ g) (hbP : base ≤ P) (hlen : l.length = m + 1) :
    First w (((wx.setCell ⟨g, m * 2, none⟩ (.int .i64 0)).setCell ⟨g, m * 2 + 1, none⟩ (.int .u64 0)).setCell ⟨P, 1, none⟩ (.slice (some ⟨g, 0, none⟩) m c)) A P base g c m q s ((l.set 0 (at_ l m)).take m) := by
  have hK : Kept wx ((wx.setCell ⟨g, m * 2, none⟩ (.int .i64 0)).setCell ⟨g, m * 2 + 1, none⟩ (.int .u64 0)) (fun k => k = g) := ((Kept.refl wx (fun k => k = g)).setCell (.inl rfl) _).setCell (.inl rfl) _
  have hK2 := kept_set1 ((wx.setCell ⟨g, m * 2, none⟩ (.int .i64 0)).setCell ⟨g, m * 2 + 1, none⟩ (.int .u64 0)) P 1 (.slice (some ⟨g, 0, none⟩) m c)
  have hlm : ((l.set 0 (at_ l m)).take m).length = m := by rw [List.length_take, List.length_set, hlen]; omega
  have h1 := (((h.lad.take_ m).past (o := m * 2) (by omega) (.int .i64 0)).past (o := m * 2 + 1) (by omega) (.int .u64 0))
  exact ⟨(h.top.kept hK hP).set1 _, h1.kept hK2 (fun e => hP e.symm), (h.cnt.kept hK (fun e => hgA e.symm)).kept hK2 (fun e => hPA e.symm), (h.kept.then_ hK (fun k h => .inl (.inr (.inr h)))).then_ hK2 (fun k h => .inl (.inl h)), ((h.below.setCell hg _).setCell hg _).setCell hbP _⟩
theorem pop_end {w wx : World} {A P base g c m i : Nat} {q t s s0 : Int} {l l' r : List Rung} (h : First w wx A P base g c m q s l') (hlen : l'.length = m) (hd : l' = r) (hcode : (popL l).take m = r) (hc : c ≤ maxLen) (hg : base ≤ g) (hs : t ≤ s0 ∧ s0 + 2 ≤ t + 2 * dig (i + 1)) (hs1 : s0 ≤ s) (hs2 : s ≤ s0 + 2) (hi : i ≤ m) :
    Hp wx A P base q ((popL l).take m) ∧ Asked wx A t (2 * dig (m + 1)) ∧ Kept w wx (fun k => k = P ∨ k = A ∨ k = g) ∧ Below base w wx := by
  subst hd hlen
  rw [hcode]
  obtain ⟨xs, ho, hr⟩ := own_of_lad h.lad hg hc
  have hd := dig_le (i + 1) (l'.length + 1) (by omega)
  exact ⟨⟨_, xs, h.top, ho, hr⟩, ⟨s, h.cnt, by omega, by omega⟩, h.kept, h.below⟩
set_option maxRecDepth 100000 in
set_option maxHeartbeats 4000000 in
theorem Pop_some (A P base g c n : Nat) (l : List Rung) (q t : Int) (w : World) (ht : Top w A P (.slice (some ⟨g, 0, none⟩) (n + 1) c) q) (hl : Lad w g c l) (hcn : Cnt w A t) (hbA : base ≤ A) (ht0 : 0 ≤ t) (ht1 : t ≤ 100000000) (hlen : l.length = n + 1) (hn : n ≤ 100000) (hc : c ≤ maxLen) (hbP : base ≤ P) (hbg : base ≤ g) :
    Calls Try.prog 17 #[.pointer (some ⟨P, 0, none⟩)] w fun e w' => e = .returned (.tuple #[.int .i64 (at_ l 0).2, .bool true]) ∧ Hp w' A P base q ((popL l).take n) ∧ Asked w' A t (2 * dig (n + 1)) ∧ Kept w w' (fun k => k = P ∨ k = A ∨ k = g) ∧ Below base w w' := by
  have HT := Aside0.mk ht
  have HL := Aside0.mk hl
  have HCN := Aside0.mk hcn
  have HBA := Aside0.mk hbA
  have HT0 := Aside0.mk ht0
  have HT1 := Aside0.mk ht1
  have HLEN := Aside0.mk hlen
  have hgP : P ≠ g := top_ne_lad ht hl
  have HPA := Aside0.mk (ht.ne_cnt hcn)
  have HGA := Aside0.mk (hl.ne_cnt hcn)
  have HGP := Aside0.mk hgP
  have HBP := Aside0.mk hbP
  have HBG := Aside0.mk hbg
  have HC := Aside0.mk hc
  clear ht hl hlen hbP hbg hc hcn hbA ht0 ht1
  go_enter Try.func17, Try.ntmps17
  go_wp2_with fail
  refine (Peek_some A P g c (n + 1) l q _ HT.out HLEN.out HL.out (by have := HLEN.out; omega)).mono ?_
  rintro e w1 ⟨rfl, rfl⟩
  have p0 := HT.out.c1
  go_upto_region 5 with fail
  go_cut [] (fun wx => Aside0 (First w wx A P base g c (n + 1) q t (l.set 0 (at_ l n))))
  case first =>
    have a0 := HL.out.key (i := n) (by have := HLEN.out; omega)
    have a2 := HL.out.num (i := n) (by have := HLEN.out; omega)
    have b0 := HL.out.key (i := 0) (by have := HLEN.out; omega)
    have b2 := HL.out.num (i := 0) (by have := HLEN.out; omega)
    rw [Nat.zero_mul] at b0 b2
    have f0 := HL.out.free 0
    have f1 := HL.out.free 1
    have q1 : n < n + 1 := Nat.lt_succ_self n
    go_region
    all_goals (go_wp2_with fail; go_meet; exact ⟨first_mk HT.out HL.out HCN.out HGP.out HGA.out HBG.out⟩)
  case rest =>
    obtain ⟨hcut⟩ := hcut
    have HF1 := Aside0.mk hcut
    clear hcut
    have p1 := HF1.out.top.c1
    have pf := HF1.out.top.free 1
    have hl3 : n < n + 1 := Nat.lt_succ_self n
    have e0 := HF1.out.lad.key (i := n) (by rw [List.length_set]; have := HLEN.out; omega)
    have e2 := HF1.out.lad.num (i := n) (by rw [List.length_set]; have := HLEN.out; omega)
    have f0 := HF1.out.lad.free (n * 2)
    have f1 := HF1.out.lad.free (n * 2 + 1)
    have hroom : n + 1 ≤ c := by obtain ⟨cs, _, _, h2, _⟩ := HF1.out.lad; rw [List.length_set, HLEN.out] at h2; exact h2
    have hnc : (n : Int) ≤ (c : Int) := by omega
    clear p0
    go_wp2_with fail
    have hg0 : P ≠ g := HGP.out
    have HF := Aside0.mk (loop_mk HF1.out HGP.out HPA.out HGA.out HBG.out HBP.out HLEN.out)
    have HCODE := Aside0.mk (pop_code HLEN.out)
    have HDN1 := Aside0.mk (dig_self (n + 1))
    clear HF1 p1 pf e0 e2 f0 f1
    go_loopw [7] (fun v7 w9 => ∃ (i f : Nat) (l' : List Rung) (s : Int), v7 = .int .i64 i ∧ i ≤ n ∧ n - i ≤ f ∧ Aside0 (l'.length = n) ∧ Aside0 (downL n f l' i = downL n n ((l.set 0 (at_ l n)).take n) 0) ∧ Aside0 (First w w9 A P base g c n q s l') ∧ Aside0 (t ≤ s ∧ s + 2 ≤ t + 2 * dig (i + 1))) (fun v7 _ => n - (intOf v7).toNat)
    case atStart => exact ⟨0, n, _, t, rfl, Nat.zero_le _, by omega, ⟨by rw [List.length_take, List.length_set, HLEN.out]; omega⟩, ⟨rfl⟩, HF, ⟨Int.le_refl _, by rw [dig_one]; omega⟩⟩
    case round =>
      clear HF hroom hnc hl3
      obtain ⟨i, f, l', s, rfl, hin, hnf, HLEN2, HDN, HF0, HS⟩ := hrel
      have HTS := Aside0.mk (show 0 ≤ s ∧ s ≤ 500000000 by have := HS.out; have := HT0.out; have := HT1.out; have := HDN1.out; have := dig_le (i + 1) (n + 1) (by omega); omega)
      obtain ⟨d, hd⟩ : ∃ d, d = 2 * i + 1 := ⟨_, rfl⟩
      have hdd : 2 * (i : Int) + 1 = (d : Int) := by omega
      have hd1 : d ≤ 2 * i + 1 := by omega
      have hd2 : 2 * i + 1 ≤ d := by omega
      clear hd
      have hp1 := HF0.out.top.c1
      by_cases c1 : d < n
      · have c1b : decide (n ≤ d) = false := decide_eq_false (by omega)
        obtain ⟨f, rfl⟩ : ∃ f', f = f' + 1 := ⟨f - 1, by omega⟩
        by_cases c2 : d + 1 < n
        · have c2b : decide ((d : Int) + 1 < (n : Int)) = true := decide_eq_true (by omega)
          cases hb2 : lessB (at_ l' (d + 1)) (at_ l' d) with
          | true =>
            have HB2 := Aside0.mk hb2
            clear hb2
            go_wp2_with fail
            refine (ahead_hp A base P g c n l' q (s) ((d : Int) + 1) ((d : Int)) (d + 1) d _ (by omega) rfl HLEN2.out HF0.out.cnt HBA.out (by have := HTS.out; omega) (by have := HTS.out; omega) HF0.out.top HF0.out.lad (by rw [HLEN2.out]; exact c2) (by rw [HLEN2.out]; exact c1) true HB2.out).mono ?_
            rintro e w3 ⟨rfl, hc, hk, hb⟩
            have HG3 := Aside0.mk (HF0.out.ask hc hk hb HPA.out HGA.out)
            clear hc hk hb HF0
            cases hb3 : lessB (at_ l' (d + 1)) (at_ l' i) with
            | true =>
              have HB3 := Aside0.mk hb3
              clear hb3
              go_wp2_with fail
              refine (ahead_hp A base P g c n l' q (s + 1) ((d : Int) + 1) ((i : Int)) (d + 1) i _ (by omega) rfl HLEN2.out HG3.out.cnt HBA.out (by have := HTS.out; omega) (by have := HTS.out; omega) HG3.out.top HG3.out.lad (by rw [HLEN2.out]; exact c2) (by rw [HLEN2.out]; omega) true HB3.out).mono ?_
              rintro e w4 ⟨rfl, hc, hk, hb⟩
              have HG4 := Aside0.mk (HG3.out.ask hc hk hb HPA.out HGA.out)
              clear hc hk hb HG3
              have t1 := HG4.out.top.c1
              have a0 := HG4.out.lad.key (i := i) (by rw [HLEN2.out]; omega)
              have a2 := HG4.out.lad.num (i := i) (by rw [HLEN2.out]; omega)
              have b0 := HG4.out.lad.key (i := d + 1) (by rw [HLEN2.out]; exact c2)
              have b2 := HG4.out.lad.num (i := d + 1) (by rw [HLEN2.out]; exact c2)
              have f0 := HG4.out.lad.free (i * 2)
              have f1 := HG4.out.lad.free (i * 2 + 1)
              have f3 := HG4.out.lad.free ((d + 1) * 2)
              have f4 := HG4.out.lad.free ((d + 1) * 2 + 1)
              have q1 : i < n := by omega
              have q2 : d + 1 < n := c2
              go_wp2_with fail
              go_region
              all_goals
                go_wp2_with fail
                go_roundw
                case rel => exact ⟨d + 1, f, swapAt l' i (d + 1), _, by go_num, by omega, by omega, ⟨by rw [swapAt_length]; exact HLEN2.out⟩, ⟨by rw [← HDN.out, downL_two_go (n := n) (i := i) (by omega) (by rw [show 2 * i + 2 = d + 1 by omega, show 2 * i + 1 = d by omega]; exact HB2.out) (by rw [show 2 * i + 2 = d + 1 by omega]; exact HB3.out), show 2 * i + 2 = d + 1 by omega]⟩, ⟨HG4.out.swap_ i (d + 1) HGP.out HGA.out HBG.out⟩, ⟨by have := HS.out; omega, by have := HS.out; have := dig_down2 i; rw [show d + 1 + 1 = 2 * i + 2 + 1 by omega]; omega⟩⟩
                case measure => simp [intOf]; omega
            | false =>
              have HB3 := Aside0.mk hb3
              clear hb3
              go_wp2_with fail
              refine (ahead_hp A base P g c n l' q (s + 1) ((d : Int) + 1) ((i : Int)) (d + 1) i _ (by omega) rfl HLEN2.out HG3.out.cnt HBA.out (by have := HTS.out; omega) (by have := HTS.out; omega) HG3.out.top HG3.out.lad (by rw [HLEN2.out]; exact c2) (by rw [HLEN2.out]; omega) false HB3.out).mono ?_
              rintro e w4 ⟨rfl, hc, hk, hb⟩
              have HG4 := Aside0.mk (HG3.out.ask hc hk hb HPA.out HGA.out)
              clear hc hk hb HG3
              go_wp2_with fail
              go_ret2
              exact ⟨rfl, pop_end HG4.out HLEN2.out (by rw [← HDN.out, downL_two_stay (n := n) (i := i) (by omega) (by rw [show 2 * i + 2 = d + 1 by omega, show 2 * i + 1 = d by omega]; exact HB2.out) (by rw [show 2 * i + 2 = d + 1 by omega]; exact HB3.out)]) HCODE.out HC.out HBG.out HS.out (by omega) (by omega) (show i ≤ n by omega)⟩
          | false =>
            have HB2 := Aside0.mk hb2
            clear hb2
            go_wp2_with fail
            refine (ahead_hp A base P g c n l' q (s) ((d : Int) + 1) ((d : Int)) (d + 1) d _ (by omega) rfl HLEN2.out HF0.out.cnt HBA.out (by have := HTS.out; omega) (by have := HTS.out; omega) HF0.out.top HF0.out.lad (by rw [HLEN2.out]; exact c2) (by rw [HLEN2.out]; exact c1) false HB2.out).mono ?_
            rintro e w3 ⟨rfl, hc, hk, hb⟩
            have HG3 := Aside0.mk (HF0.out.ask hc hk hb HPA.out HGA.out)
            clear hc hk hb HF0
            cases hb3 : lessB (at_ l' (d)) (at_ l' i) with
            | true =>
              have HB3 := Aside0.mk hb3
              clear hb3
              go_wp2_with fail
              refine (ahead_hp A base P g c n l' q (s + 1) ((d : Int)) ((i : Int)) (d) i _ (by omega) rfl HLEN2.out HG3.out.cnt HBA.out (by have := HTS.out; omega) (by have := HTS.out; omega) HG3.out.top HG3.out.lad (by rw [HLEN2.out]; exact c1) (by rw [HLEN2.out]; omega) true HB3.out).mono ?_
              rintro e w4 ⟨rfl, hc, hk, hb⟩
              have HG4 := Aside0.mk (HG3.out.ask hc hk hb HPA.out HGA.out)
              clear hc hk hb HG3
              have t1 := HG4.out.top.c1
              have a0 := HG4.out.lad.key (i := i) (by rw [HLEN2.out]; omega)
              have a2 := HG4.out.lad.num (i := i) (by rw [HLEN2.out]; omega)
              have b0 := HG4.out.lad.key (i := d) (by rw [HLEN2.out]; exact c1)
              have b2 := HG4.out.lad.num (i := d) (by rw [HLEN2.out]; exact c1)
              have f0 := HG4.out.lad.free (i * 2)
              have f1 := HG4.out.lad.free (i * 2 + 1)
              have f3 := HG4.out.lad.free ((d) * 2)
              have f4 := HG4.out.lad.free ((d) * 2 + 1)
              have q1 : i < n := by omega
              have q2 : d < n := c1
              go_wp2_with fail
              go_region
              all_goals
                go_wp2_with fail
                go_roundw
                case rel => exact ⟨d, f, swapAt l' i (d), _, by go_num, by omega, by omega, ⟨by rw [swapAt_length]; exact HLEN2.out⟩, ⟨by rw [← HDN.out, downL_one_go (n := n) (i := i) (by omega) (fun _ => by rw [show 2 * i + 2 = d + 1 by omega, show 2 * i + 1 = d by omega]; exact HB2.out) (by rw [show 2 * i + 1 = d by omega]; exact HB3.out), show 2 * i + 1 = d by omega]⟩, ⟨HG4.out.swap_ i (d) HGP.out HGA.out HBG.out⟩, ⟨by have := HS.out; omega, by have := HS.out; have := dig_down1 i; rw [show d + 1 = 2 * i + 1 + 1 by omega]; omega⟩⟩
                case measure => simp [intOf]; omega
            | false =>
              have HB3 := Aside0.mk hb3
              clear hb3
              go_wp2_with fail
              refine (ahead_hp A base P g c n l' q (s + 1) ((d : Int)) ((i : Int)) (d) i _ (by omega) rfl HLEN2.out HG3.out.cnt HBA.out (by have := HTS.out; omega) (by have := HTS.out; omega) HG3.out.top HG3.out.lad (by rw [HLEN2.out]; exact c1) (by rw [HLEN2.out]; omega) false HB3.out).mono ?_
              rintro e w4 ⟨rfl, hc, hk, hb⟩
              have HG4 := Aside0.mk (HG3.out.ask hc hk hb HPA.out HGA.out)
              clear hc hk hb HG3
              go_wp2_with fail
              go_ret2
              exact ⟨rfl, pop_end HG4.out HLEN2.out (by rw [← HDN.out, downL_one_stay (n := n) (i := i) (by omega) (fun _ => by rw [show 2 * i + 2 = d + 1 by omega, show 2 * i + 1 = d by omega]; exact HB2.out) (by rw [show 2 * i + 1 = d by omega]; exact HB3.out)]) HCODE.out HC.out HBG.out HS.out (by omega) (by omega) (show i ≤ n by omega)⟩
        · have c2b : decide ((d : Int) + 1 < (n : Int)) = false := decide_eq_false (by omega)
          cases hb3 : lessB (at_ l' (d)) (at_ l' i) with
          | true =>
            have HB3 := Aside0.mk hb3
            clear hb3
            go_wp2_with fail
            refine (ahead_hp A base P g c n l' q (s) ((d : Int)) ((i : Int)) (d) i _ (by omega) rfl HLEN2.out HF0.out.cnt HBA.out (by have := HTS.out; omega) (by have := HTS.out; omega) HF0.out.top HF0.out.lad (by rw [HLEN2.out]; exact c1) (by rw [HLEN2.out]; omega) true HB3.out).mono ?_
            rintro e w4 ⟨rfl, hc, hk, hb⟩
            have HG4 := Aside0.mk (HF0.out.ask hc hk hb HPA.out HGA.out)
            clear hc hk hb HF0
            have t1 := HG4.out.top.c1
            have a0 := HG4.out.lad.key (i := i) (by rw [HLEN2.out]; omega)
            have a2 := HG4.out.lad.num (i := i) (by rw [HLEN2.out]; omega)
            have b0 := HG4.out.lad.key (i := d) (by rw [HLEN2.out]; exact c1)
            have b2 := HG4.out.lad.num (i := d) (by rw [HLEN2.out]; exact c1)
            have f0 := HG4.out.lad.free (i * 2)
            have f1 := HG4.out.lad.free (i * 2 + 1)
            have f3 := HG4.out.lad.free ((d) * 2)
            have f4 := HG4.out.lad.free ((d) * 2 + 1)
            have q1 : i < n := by omega
            have q2 : d < n := c1
            go_wp2_with fail
            go_region
            all_goals
              go_wp2_with fail
              go_roundw
              case rel => exact ⟨d, f, swapAt l' i (d), _, by go_num, by omega, by omega, ⟨by rw [swapAt_length]; exact HLEN2.out⟩, ⟨by rw [← HDN.out, downL_one_go (n := n) (i := i) (by omega) (fun h => absurd h (by omega)) (by rw [show 2 * i + 1 = d by omega]; exact HB3.out), show 2 * i + 1 = d by omega]⟩, ⟨HG4.out.swap_ i (d) HGP.out HGA.out HBG.out⟩, ⟨by have := HS.out; omega, by have := HS.out; have := dig_down1 i; rw [show d + 1 = 2 * i + 1 + 1 by omega]; omega⟩⟩
              case measure => simp [intOf]; omega
          | false =>
            have HB3 := Aside0.mk hb3
            clear hb3
            go_wp2_with fail
            refine (ahead_hp A base P g c n l' q (s) ((d : Int)) ((i : Int)) (d) i _ (by omega) rfl HLEN2.out HF0.out.cnt HBA.out (by have := HTS.out; omega) (by have := HTS.out; omega) HF0.out.top HF0.out.lad (by rw [HLEN2.out]; exact c1) (by rw [HLEN2.out]; omega) false HB3.out).mono ?_
            rintro e w4 ⟨rfl, hc, hk, hb⟩
            have HG4 := Aside0.mk (HF0.out.ask hc hk hb HPA.out HGA.out)
            clear hc hk hb HF0
            go_wp2_with fail
            go_ret2
            exact ⟨rfl, pop_end HG4.out HLEN2.out (by rw [← HDN.out, downL_one_stay (n := n) (i := i) (by omega) (fun h => absurd h (by omega)) (by rw [show 2 * i + 1 = d by omega]; exact HB3.out)]) HCODE.out HC.out HBG.out HS.out (by omega) (by omega) (show i ≤ n by omega)⟩
      · have c1b : decide (n ≤ d) = true := decide_eq_true (by omega)
        go_wp2_with fail
        go_ret2
        exact ⟨rfl, pop_end HF0.out HLEN2.out (by rw [← HDN.out, downL_stop _ _ (show ¬ 2 * i + 1 < n by omega)]) HCODE.out HC.out HBG.out HS.out (by omega) (by omega) (show i ≤ n by omega)⟩
end Go.Proofs.Ytjjfaiociajikaa.Ask
