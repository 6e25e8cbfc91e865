/- Plain law: PlanLevel answers true. -/
import Derived.Test.YtbgabijjnbmghaaP26
import Derived.Test.YtbgabijjnbmghaaSpecF
namespace Go.Proofs.Ytbgabijjnbmghaa.Pure
open Go.RowKit Go.Proofs.Ytbgabijjnbmghaa Go.Proofs.Ytbgabijjnbmghaa.P Go.Proofs.YtbgabijjnbmghaaW.PrintWords Go.Proofs.YtbgabijjnbmghaaW.PrintLast
set_option linter.unusedVariables false
set_option linter.unusedSimpArgs false

def pw (fan : Nat) (w : Int) (d : Nat) : Int := ((fan ^ d : Nat) : Int) * w
theorem pw_succ (fan : Nat) (w : Int) (d : Nat) : pw fan w (d + 1) = (fan : Int) * pw fan w d := by
  unfold pw; rw [Nat.pow_succ, Int.natCast_mul, Int.mul_comm ((fan ^ d : Nat) : Int) (fan : Int), Int.mul_assoc]
theorem pw_pos {fan : Nat} {w : Int} (hf : 1 ≤ fan) (hw : 1 ≤ w) (d : Nat) : 1 ≤ pw fan w d := by
  unfold pw
  have : 0 < fan ^ d := Nat.pow_pos hf
  have h2 : (1 : Int) ≤ ((fan ^ d : Nat) : Int) := by omega
  calc (1 : Int) = 1 * 1 := rfl
    _ ≤ ((fan ^ d : Nat) : Int) * w := Int.mul_le_mul h2 hw (by decide) (by omega)
theorem pw_mono {fan : Nat} {w : Int} (hf : 1 ≤ fan) (hw : 1 ≤ w) (d : Nat) : pw fan w d ≤ pw fan w (d + 1) := by
  rw [pw_succ]
  have h := pw_pos hf hw d
  calc pw fan w d = 1 * pw fan w d := (Int.one_mul _).symm
    _ ≤ (fan : Int) * pw fan w d := Int.mul_le_mul_of_nonneg_right (by omega) (by omega)
def Lev (fan : Nat) (w : Int) (d : Nat) (v : Int) : Prop := v ≤ pw fan w d ∧ (0 < d → pw fan w (d - 1) < v) ∧ 0 < v
theorem maxL_le : ∀ (l : List Int) (m : Int), 0 ≤ m → (∀ x ∈ l, x ≤ m) → maxL l ≤ m
  | [], m, h, _ => h
  | x :: l, m, h, hl => by
    have h1 := hl x (List.mem_cons_self ..)
    have h2 := maxL_le l m h (fun y hy => hl y (List.mem_cons_of_mem _ hy))
    rw [maxL_cons]; omega
theorem le_maxL : ∀ (l : List Int) (x : Int), x ∈ l → x ≤ maxL l
  | y :: l, x, h => by
    rw [maxL_cons]
    rcases List.mem_cons.1 h with rfl | h
    · omega
    · have := le_maxL l x h; omega
theorem deepOf_append : ∀ (a b : List S51) (acc : List Int), deepOf acc (a ++ b) = deepOf (deepOf acc a) b
  | [], b, acc => rfl
  | st :: a, b, acc => by rw [List.cons_append, deepOf, deepOf, deepOf_append a b]
theorem deepOf_length : ∀ (st : List S51) (acc : List Int), (deepOf acc st).length = acc.length + st.length
  | [], acc => rfl
  | x :: st, acc => by rw [deepOf, deepOf_length st, List.length_append, List.length_singleton, List.length_cons]; omega
theorem sumW_le : ∀ (l : List Rung) (b : Int), (∀ x ∈ l, x.2 ≤ b) → sumW l ≤ l.length * b
  | [], b, h => by simp [sumW]
  | x :: l, b, h => by
    have h1 := h x (List.mem_cons_self ..)
    have h2 := sumW_le l b (fun y hy => h y (List.mem_cons_of_mem _ hy))
    rw [sumW_cons, List.length_cons, show (((l.length + 1 : Nat) : Int)) = (l.length : Int) + 1 from by omega, Int.add_mul]
    omega
theorem sumW_eq : ∀ (l : List Rung) (b : Int), (∀ x ∈ l, x.2 = b) → sumW l = l.length * b
  | [], b, h => by simp [sumW]
  | x :: l, b, h => by
    have h1 := h x (List.mem_cons_self ..)
    have h2 := sumW_eq l b (fun y hy => h y (List.mem_cons_of_mem _ hy))
    rw [sumW_cons, List.length_cons, show (((l.length + 1 : Nat) : Int)) = (l.length : Int) + 1 from by omega, Int.add_mul]
    omega
theorem sumW_two {l : List Rung} (h : ∀ x ∈ l, 0 < x.2) {a b : Rung} (ha : a ∈ l) (hb : b ∈ l) (hne : a.1 ≠ b.1) : a.2 + b.2 ≤ sumW l := by
  obtain ⟨l1, l2, rfl⟩ := List.append_of_mem ha
  have hb2 : b ∈ l1 ++ l2 := by
    rcases List.mem_append.1 hb with h1 | h1
    · exact List.mem_append_left _ h1
    · rcases List.mem_cons.1 h1 with rfl | h1
      · exact absurd rfl hne
      · exact List.mem_append_right _ h1
  obtain ⟨m1, m2, e⟩ := List.append_of_mem hb2
  have e2 : sumW (l1 ++ a :: l2) = a.2 + sumW (l1 ++ l2) := by rw [sumW_append, sumW_cons, sumW_append]; omega
  have e3 : sumW (l1 ++ l2) = b.2 + sumW (m1 ++ m2) := by rw [e, sumW_append, sumW_cons, sumW_append]; omega
  have h4 : 0 ≤ sumW (m1 ++ m2) := sumW_nonneg _ (fun x hx => by
    have h5 : x ∈ l1 ++ l2 := by
      rw [e]
      rcases List.mem_append.1 hx with h1 | h1
      · exact List.mem_append_left _ h1
      · exact List.mem_append_right _ (List.mem_cons_of_mem _ h1)
    have h6 : x ∈ l1 ++ a :: l2 := by
      rcases List.mem_append.1 h5 with h1 | h1
      · exact List.mem_append_left _ h1
      · exact List.mem_append_right _ (List.mem_cons_of_mem _ h1)
    have := h x h6
    omega)
  omega
abbrev dp (n : Nat) (st : List S51) : List Int := deepOf (List.replicate n 0) st
abbrev dl (n : Nat) (st : List S51) (x : Rung) : Nat := ((dp n st).getD x.1.toNat 0).toNat
structure InvL (n fan t0 : Nat) (w : Int) (s : List Rung) (st : List S51) : Prop where
  a : InvA n fan t0 s st
  sorted : Sorted s
  sum : sumW s = n * w
  lev : ∃ (h : Nat) (z : Int), ∀ x ∈ s, (dl n st x = h ∨ dl n st x = h + 1) ∧ (dp n st).getD x.1.toNat 0 = (dl n st x : Nat) ∧ Lev fan w (dl n st x) x.2 ∧ (x.1 ≠ z → x.2 = pw fan w (dl n st x)) ∧ (st = [] → dl n st x = h ∧ x.2 = pw fan w (dl n st x))
theorem lev_lt {fan : Nat} {w : Int} (hf : 1 ≤ fan) (hw : 1 ≤ w) {d : Nat} {u v : Int} (h1 : Lev fan w d u) (h2 : Lev fan w (d + 1) v) : u < v := by
  have := h2.2.1 (by omega)
  rw [Nat.add_sub_cancel] at this
  have := h1.1
  omega
/-- how the step's answer is put together -/
theorem invL_next {n fan t0 : Nat} {w : Int} (hf : 2 ≤ fan) (t q : Nat) (s : List Rung) (st : List S51) (H : InvL n fan t0 w s st) (ha : InvA n fan t0 (nextS n t s st) (nextT n t s st)) (h z : Int) (H' : Nat) (e : Nat)
    (htl : 2 ≤ (s.take t).length)
    (deep : ∀ x ∈ s.take t, (dp n st).getD x.1.toNat 0 + 1 ≤ (e : Int)) (deep1 : ∃ x ∈ s.take t, (dp n st).getD x.1.toNat 0 + 1 = (e : Int))
    (hnew : (e = H' ∨ e = H' + 1) ∧ Lev fan w e (sumW (s.take t)) ∧ (((n + st.length : Nat) : Int) ≠ z → sumW (s.take t) = pw fan w e))
    (hold : ∀ x ∈ s.drop t, (dl n st x = H' ∨ dl n st x = H' + 1) ∧ (x.1 ≠ z → x.2 = pw fan w (dl n st x))) :
    InvL n fan t0 w (nextS n t s st) (nextT n t s st) := by
  have hlen : (dp n st).length = n + st.length := by rw [deepOf_length, List.length_replicate]
  have hd : dp n (nextT n t s st) = dp n st ++ [deepAt (dp n st) (sortI ((s.take t).map (·.1)))] := by
    show deepOf _ (st ++ _) = _
    rw [deepOf_append]; rfl
  have hv : deepAt (dp n st) (sortI ((s.take t).map (·.1))) = (e : Int) := by
    unfold deepAt
    rw [maxL_perm ((sortI_perm _).map _), List.map_map]
    refine Int.le_antisymm (maxL_le _ _ (by omega) (fun y hy => ?_)) ?_
    · obtain ⟨x, hx, rfl⟩ := List.mem_map.1 hy
      exact deep x hx
    · obtain ⟨x, hx, hxe⟩ := deep1
      exact le_maxL _ _ (List.mem_map.2 ⟨x, hx, hxe⟩)
  have hrange : ∀ x ∈ s, x.1.toNat < (dp n st).length := fun x hx => by
    have := nums_mem.1 (H.a.perm.mem_iff.1 (List.mem_append_right _ (List.mem_map.2 ⟨x, hx, rfl⟩)))
    omega
  obtain ⟨h0, z0, hlev⟩ := H.lev
  refine ⟨ha, insR_sorted _ _ (H.sorted.sublist (List.drop_sublist _ _)), ?_, H', z, ?_⟩
  · rw [sumW_insR]
    have := sumW_split s t
    have := H.sum
    simp only; omega
  · intro x hx
    rcases List.mem_cons.1 ((insR_perm _ _).mem_iff.1 hx) with rfl | hx
    · have e1 : (dp n (nextT n t s st)).getD (((n + st.length : Nat) : Int)).toNat 0 = (e : Int) := by
        rw [hd, Int.toNat_natCast, ← hlen, getD_append_len, hv]
      have e2 : dl n (nextT n t s st) (((n + st.length : Nat) : Int), sumW (s.take t)) = e := by
        show ((dp n (nextT n t s st)).getD (((n + st.length : Nat) : Int)).toNat 0).toNat = e
        rw [e1]; rfl
      rw [e2]
      exact ⟨hnew.1, e1, hnew.2.1, hnew.2.2, fun h => by simp at h⟩
    · have hxs := List.mem_of_mem_drop hx
      have e1 : (dp n (nextT n t s st)).getD x.1.toNat 0 = (dp n st).getD x.1.toNat 0 := by rw [hd, getD_append_lt (hrange x hxs)]
      have e2 : dl n (nextT n t s st) x = dl n st x := by
        show ((dp n (nextT n t s st)).getD x.1.toNat 0).toNat = _
        rw [e1]
      obtain ⟨l1, l2, l3, l4, l5⟩ := hlev x hxs
      obtain ⟨o1, o2⟩ := hold x hx
      rw [e2, e1]
      exact ⟨o1, l2, l3, o2, fun h => by simp at h⟩
theorem invL_A {n fan t0 : Nat} {w : Int} (hf : 2 ≤ fan) (hw : 1 ≤ w) (t q : Nat) (s : List Rung) (st : List S51) (H : InvL n fan t0 w s st) (hl : s.length = t + q * (fan - 1)) (h2 : 2 ≤ t) (hfa : t ≤ fan) (ht : (t = t0 ∧ st = []) ∨ (t = fan ∧ st ≠ []))
    (h : Nat) (z : Int) (hlev : ∀ x ∈ s, (dl n st x = h ∨ dl n st x = h + 1) ∧ (dp n st).getD x.1.toNat 0 = (dl n st x : Nat) ∧ Lev fan w (dl n st x) x.2 ∧ (x.1 ≠ z → x.2 = pw fan w (dl n st x)) ∧ (st = [] → x.2 = pw fan w (dl n st x)))
    (hT : ∀ x ∈ s.take t, dl n st x = h) : InvL n fan t0 w (nextS n t s st) (nextT n t s st) := by
  have hTs : ∀ x ∈ s.take t, x ∈ s := fun x hx => List.mem_of_mem_take hx
  have htl : (s.take t).length = t := by rw [List.length_take]; omega
  have hnd : (s.map (·.1)).Nodup := (List.nodup_append.1 (H.a.perm.nodup_iff.2 (nums_nodup _))).2.1
  have hndT : ((s.take t).map (·.1)).Nodup := by rw [List.map_take]; exact hnd.sublist (List.take_sublist _ _)
  have hpos : ∀ x ∈ s.take t, 0 < x.2 := fun x hx => (hlev x (hTs x hx)).2.2.1.2.2
  obtain ⟨a, b, rest, e⟩ : ∃ a b rest, s.take t = a :: b :: rest := by
    match hm : s.take t, htl with
    | a :: b :: rest, _ => exact ⟨a, b, rest, rfl⟩
    | [a], h => simp at h; omega
    | [], h => simp at h; omega
  have hab : a.1 ≠ b.1 := by
    rw [e] at hndT
    simp at hndT
    exact hndT.1.1
  have hma : a ∈ s.take t := by rw [e]; simp
  have hmb : b ∈ s.take t := by rw [e]; simp
  have htwo := sumW_two hpos hma hmb hab
  have hpa := hpos a hma
  have hpb := hpos b hmb
  have hup : sumW (s.take t) ≤ pw fan w (h + 1) := by
    have h1 := sumW_le (s.take t) (pw fan w h) (fun x hx => by have := (hlev x (hTs x hx)).2.2.1.1; rwa [hT x hx] at this)
    rw [htl] at h1
    rw [pw_succ]
    have h3 : (t : Int) * pw fan w h ≤ (fan : Int) * pw fan w h := Int.mul_le_mul_of_nonneg_right (by omega) (by have := pw_pos (fan := fan) (by omega) hw h; omega)
    omega
  have hlo : pw fan w h < sumW (s.take t) := by
    by_cases hz : a.1 = z
    · have := (hlev b (hTs b hmb)).2.2.2.1 (fun hb => hab (hz.trans hb.symm))
      rw [hT b hmb] at this
      omega
    · have := (hlev a (hTs a hma)).2.2.2.1 hz
      rw [hT a hma] at this
      omega
  have hR : ∀ x ∈ s.drop t, x ∈ s := fun x hx => List.mem_of_mem_drop hx
  have hLev : Lev fan w (h + 1) (sumW (s.take t)) := ⟨hup, fun _ => hlo, by omega⟩
  have hdeep : ∀ x ∈ s.take t, (dp n st).getD x.1.toNat 0 + 1 = ((h + 1 : Nat) : Int) := fun x hx => by
    rw [(hlev x (hTs x hx)).2.1, hT x hx]; rfl
  have hdisj : ∀ x ∈ s.take t, ∀ y ∈ s.drop t, x.1 ≠ y.1 := fun x hx y hy => by
    have h1 : (s.map (·.1)) = (s.take t).map (·.1) ++ (s.drop t).map (·.1) := by rw [← List.map_append, List.take_append_drop]
    rw [h1, List.nodup_append] at hnd
    exact hnd.2.2 x.1 (List.mem_map.2 ⟨x, hx, rfl⟩) y.1 (List.mem_map.2 ⟨y, hy, rfl⟩)
  by_cases hall : t = fan ∧ ∀ x ∈ s.take t, x.2 = pw fan w h
  · refine invL_next hf t q s st H (invA_step hf t q s st H.a hl h2 hfa ht) 0 z h (h + 1) (by omega) (fun x hx => by rw [hdeep x hx]; exact Int.le_refl _) ⟨a, hma, hdeep a hma⟩ ⟨.inr rfl, hLev, fun _ => ?_⟩ (fun x hx => ⟨(hlev x (hR x hx)).1, (hlev x (hR x hx)).2.2.2.1⟩)
    rw [sumW_eq _ _ hall.2, htl, hall.1, pw_succ]
  · refine invL_next hf t q s st H (invA_step hf t q s st H.a hl h2 hfa ht) 0 ((n + st.length : Nat) : Int) h (h + 1) (by omega) (fun x hx => by rw [hdeep x hx]; exact Int.le_refl _) ⟨a, hma, hdeep a hma⟩ ⟨.inr rfl, hLev, fun h => absurd rfl h⟩ (fun x hx => ⟨(hlev x (hR x hx)).1, fun _ => ?_⟩)
    have hl := hlev x (hR x hx)
    rcases ht with ⟨_, he⟩ | ⟨hfan, hne⟩
    · exact hl.2.2.2.2 he
    · refine hl.2.2.2.1 (fun hz => hall ⟨hfan, fun y hy => ?_⟩)
      have := (hlev y (hTs y hy)).2.2.2.1 (fun hy2 => hdisj y hy x hx (hy2.trans hz.symm))
      rwa [hT y hy] at this
theorem invL_B {n fan t0 : Nat} {w : Int} (hf : 2 ≤ fan) (hw : 1 ≤ w) (t q : Nat) (s : List Rung) (st : List S51) (H : InvL n fan t0 w s st) (hl : s.length = t + q * (fan - 1)) (h2 : 2 ≤ t) (hfa : t ≤ fan) (ht : (t = t0 ∧ st = []) ∨ (t = fan ∧ st ≠ []))
    (h : Nat) (z : Int) (hlev : ∀ x ∈ s, (dl n st x = h ∨ dl n st x = h + 1) ∧ (dp n st).getD x.1.toNat 0 = (dl n st x : Nat) ∧ Lev fan w (dl n st x) x.2 ∧ (x.1 ≠ z → x.2 = pw fan w (dl n st x)) ∧ (st = [] → dl n st x = h ∧ x.2 = pw fan w (dl n st x)))
    (y0 y1 : Rung) (m0 : y0 ∈ s.take t) (m1 : y1 ∈ s.take t) (d0 : dl n st y0 = h) (d1 : dl n st y1 = h + 1) : InvL n fan t0 w (nextS n t s st) (nextT n t s st) := by
  have hTs : ∀ x ∈ s.take t, x ∈ s := fun x hx => List.mem_of_mem_take hx
  have htl : (s.take t).length = t := by rw [List.length_take]; omega
  have hpos : ∀ x ∈ s.take t, 0 < x.2 := fun x hx => (hlev x (hTs x hx)).2.2.1.2.2
  have hne : st ≠ [] := fun e => by have := ((hlev y1 (hTs y1 m1)).2.2.2.2 e).1; omega
  have hfan : t = fan := by rcases ht with ⟨_, e⟩ | ⟨e, _⟩; exact absurd e hne; exact e
  have hR : ∀ x ∈ s.drop t, x ∈ s := fun x hx => List.mem_of_mem_drop hx
  have hle : ∀ x ∈ s.take t, ∀ y ∈ s.drop t, x.2 ≤ y.2 := fun x hx y hy => by
    have h3 : (s.take t ++ s.drop t).Pairwise le := by rw [List.take_append_drop]; exact H.sorted
    have := (List.pairwise_append.1 h3).2.2 x hx y hy
    unfold le at this; omega
  have hRl : ∀ x ∈ s.drop t, dl n st x = h + 1 := fun x hx => by
    rcases (hlev x (hR x hx)).1 with e | e
    · have h3 := (hlev x (hR x hx)).2.2.1
      have h4 := (hlev y1 (hTs y1 m1)).2.2.1
      rw [e] at h3
      rw [d1] at h4
      have := lev_lt (by omega) hw h3 h4
      have := hle y1 m1 x hx
      omega
    · exact e
  have hpm := pw_mono (fan := fan) (by omega) hw h
  have hup : sumW (s.take t) ≤ pw fan w (h + 2) := by
    have h1 := sumW_le (s.take t) (pw fan w (h + 1)) (fun x hx => by
      have h3 := (hlev x (hTs x hx)).2.2.1.1
      rcases (hlev x (hTs x hx)).1 with e | e
      · rw [e] at h3; omega
      · rw [e] at h3; exact h3)
    rw [htl, hfan] at h1
    rw [hfan, pw_succ fan w (h + 1)]
    exact h1
  have hne01 : y0.1 ≠ y1.1 := fun e => by
    have : dl n st y0 = dl n st y1 := by unfold dl; rw [e]
    omega
  have h0pos := hpos y0 m0
  have hlo : pw fan w (h + 1) < sumW (s.take t) := by
    by_cases hy : ∃ y ∈ s.take t, dl n st y = h + 1 ∧ y.1 ≠ z
    · obtain ⟨y, my, dy, hyz⟩ := hy
      have h3 := (hlev y (hTs y my)).2.2.2.1 hyz
      rw [dy] at h3
      have := sumW_two hpos m0 my (fun e => by
        have : dl n st y0 = dl n st y := by unfold dl; rw [e]
        omega)
      omega
    · have hy1z : y1.1 = z := Classical.byContradiction fun h3 => hy ⟨y1, m1, d1, h3⟩
      obtain ⟨l1, l2, e⟩ := List.append_of_mem m1
      have hnd : (s.map (·.1)).Nodup := (List.nodup_append.1 (H.a.perm.nodup_iff.2 (nums_nodup _))).2.1
      have hndT : ((s.take t).map (·.1)).Nodup := by rw [List.map_take]; exact hnd.sublist (List.take_sublist _ _)
      have hp : ((s.take t).map (·.1)).Perm ((y1 :: (l1 ++ l2)).map (·.1)) := by rw [e]; exact List.perm_middle.map _
      have hn1 : y1.1 ∉ (l1 ++ l2).map (·.1) := by
        have := hp.nodup_iff.1 hndT
        rw [List.map_cons, List.nodup_cons] at this
        exact this.1
      have hrest : ∀ x ∈ l1 ++ l2, x.2 = pw fan w h := fun x hx => by
        have hxT : x ∈ s.take t := by
          rw [e]
          rcases List.mem_append.1 hx with h3 | h3
          · exact List.mem_append_left _ h3
          · exact List.mem_append_right _ (List.mem_cons_of_mem _ h3)
        have hxz : x.1 ≠ z := fun h3 => hn1 (List.mem_map.2 ⟨x, hx, h3.trans hy1z.symm⟩)
        have h4 := (hlev x (hTs x hxT)).2.2.2.1 hxz
        rcases (hlev x (hTs x hxT)).1 with h5 | h5
        · rwa [h5] at h4
        · exact absurd ⟨x, hxT, h5, hxz⟩ hy
      have h6 : sumW (s.take t) = y1.2 + sumW (l1 ++ l2) := by rw [e, sumW_append, sumW_cons, sumW_append]; omega
      have h7 := sumW_eq _ _ hrest
      have h8 : (l1 ++ l2).length = fan - 1 := by
        have : (s.take t).length = (l1 ++ l2).length + 1 := by rw [e]; simp; omega
        omega
      have h9 := (hlev y1 (hTs y1 m1)).2.2.1.2.1 (by omega)
      rw [d1, Nat.add_sub_cancel] at h9
      rw [h6, h7, h8, pw_succ, show ((fan - 1 : Nat) : Int) = (fan : Int) - 1 from by omega, Int.sub_mul]
      omega
  refine invL_next hf t q s st H (invA_step hf t q s st H.a hl h2 hfa ht) 0 ((n + st.length : Nat) : Int) (h + 1) (h + 2) (by omega) (fun x hx => ?_) ⟨y1, m1, ?_⟩ ⟨.inr rfl, ⟨hup, fun _ => hlo, by have := pw_pos (fan := fan) (by omega) hw (h + 1); omega⟩, fun h => absurd rfl h⟩ (fun x hx => ⟨.inl (hRl x hx), fun _ => ?_⟩)
  · rw [(hlev x (hTs x hx)).2.1]
    rcases (hlev x (hTs x hx)).1 with e | e <;> rw [e] <;> omega
  · rw [(hlev y1 (hTs y1 m1)).2.1, d1]; rfl
  · by_cases hz : x.1 = z
    · have h3 := (hlev y1 (hTs y1 m1)).2.2.2.1 (fun h4 => ?_)
      · have h5 := hle y1 m1 x hx
        have h6 := (hlev x (hR x hx)).2.2.1.1
        rw [hRl x hx] at h6 ⊢
        rw [d1] at h3
        omega
      · have hnd : (s.map (·.1)).Nodup := (List.nodup_append.1 (H.a.perm.nodup_iff.2 (nums_nodup _))).2.1
        have h1 : (s.map (·.1)) = (s.take t).map (·.1) ++ (s.drop t).map (·.1) := by rw [← List.map_append, List.take_append_drop]
        rw [h1, List.nodup_append] at hnd
        exact hnd.2.2 y1.1 (List.mem_map.2 ⟨y1, m1, rfl⟩) x.1 (List.mem_map.2 ⟨x, hx, rfl⟩) (h4.trans hz.symm)
    · exact (hlev x (hR x hx)).2.2.2.1 hz
theorem invL_step {n fan t0 : Nat} {w : Int} (hf : 2 ≤ fan) (hw : 1 ≤ w) (t q : Nat) (s : List Rung) (st : List S51) (H : InvL n fan t0 w s st) (hl : s.length = t + q * (fan - 1)) (h2 : 2 ≤ t) (hfa : t ≤ fan) (ht : (t = t0 ∧ st = []) ∨ (t = fan ∧ st ≠ [])) :
    InvL n fan t0 w (nextS n t s st) (nextT n t s st) := by
  obtain ⟨h, z, hlev⟩ := H.lev
  have hTs : ∀ x ∈ s.take t, x ∈ s := fun x hx => List.mem_of_mem_take hx
  by_cases hA : ∀ x ∈ s.take t, dl n st x = h
  · exact invL_A hf hw t q s st H hl h2 hfa ht h z (fun x hx => ⟨(hlev x hx).1, (hlev x hx).2.1, (hlev x hx).2.2.1, (hlev x hx).2.2.2.1, fun e => ((hlev x hx).2.2.2.2 e).2⟩) hA
  · have ⟨y1, m1, d1⟩ : ∃ y ∈ s.take t, dl n st y = h + 1 := Classical.byContradiction fun hc => hA (fun x hx => by
      rcases (hlev x (hTs x hx)).1 with e | e
      · exact e
      · exact absurd ⟨x, hx, e⟩ hc)
    by_cases hB : ∃ y ∈ s.take t, dl n st y = h
    · obtain ⟨y0, m0, d0⟩ := hB
      exact invL_B hf hw t q s st H hl h2 hfa ht h z hlev y0 y1 m0 m1 d0 d1
    · have hT : ∀ x ∈ s.take t, dl n st x = h + 1 := fun x hx => by
        rcases (hlev x (hTs x hx)).1 with e | e
        · exact absurd ⟨x, hx, e⟩ hB
        · exact e
      have hall : ∀ x ∈ s, dl n st x = h + 1 := fun x hx => by
        rw [← List.take_append_drop t s] at hx
        rcases List.mem_append.1 hx with hx | hx
        · exact hT x hx
        · have hxs := List.mem_of_mem_drop hx
          rcases (hlev x hxs).1 with e | e
          · have h3 := (hlev x hxs).2.2.1
            have h4 := (hlev y1 (hTs y1 m1)).2.2.1
            rw [e] at h3
            rw [d1] at h4
            have h5 := lev_lt (by omega) hw h3 h4
            have h6 : (s.take t ++ s.drop t).Pairwise le := by rw [List.take_append_drop]; exact H.sorted
            have h7 := (List.pairwise_append.1 h6).2.2 y1 m1 x hx
            unfold le at h7
            omega
          · exact e
      exact invL_A hf hw t q s st H hl h2 hfa ht (h + 1) z (fun x hx => ⟨.inl (hall x hx), (hlev x hx).2.1, (hlev x hx).2.2.1, (hlev x hx).2.2.2.1, fun e => ((hlev x hx).2.2.2.2 e).2⟩) hT
theorem level_depth {n fan : Nat} {w : Int} (hf : 2 ≤ fan) (hw : 1 ≤ w) (hn : 2 ≤ n) : ∃ d : Nat, 1 ≤ d ∧ deepV n (gSteps (List.replicate n w) fan) = d ∧ n ≤ fan ^ d ∧ fan ^ (d - 1) < n := by
  have hlen : (List.replicate n w).length = n := by simp
  have hst : InvL n fan (takeOf n fan) w (sortR (rungs 0 (List.replicate n w))) [] := by
    have ha := invA_start (List.replicate n w) fan (takeOf n fan)
    rw [hlen] at ha
    refine ⟨ha, sortR_sorted _, ?_, 0, 0, ?_⟩
    · rw [sumW_perm (sortR_perm _), sumW_rungs]
      have := sum_const (List.replicate n w) w
      rw [List.map_replicate, hlen] at this
      exact this
    · intro x hx
      have hx2 : x.2 = w := by
        have := rungs_mem _ 0 x ((sortR_perm _).mem_iff.1 hx)
        exact (List.mem_replicate.1 this).2
      have e1 : (dp n []).getD x.1.toNat 0 = 0 := getD_zeros n _
      have e2 : dl n [] x = 0 := by show ((dp n []).getD x.1.toNat 0).toNat = 0; rw [e1]; rfl
      have e3 : pw fan w 0 = w := by unfold pw; simp
      rw [e2, e1, e3, hx2]
      exact ⟨.inl rfl, rfl, ⟨by rw [e3]; exact Int.le_refl _, fun h => by omega, by omega⟩, fun _ => rfl, fun _ => ⟨rfl, rfl⟩⟩
  obtain ⟨x, hx, hL⟩ := gSteps_ind (l := List.replicate n w) hf (by rw [hlen]; exact hn) (InvL n fan (takeOf n fan) w) (fun t q s st H h1 h2 h3 h4 => by
    rw [hlen] at h4 ⊢; exact invL_step hf hw t q s st H h1 h2 h3 h4) hst
  obtain ⟨h, z, hlev⟩ := hx.lev
  obtain ⟨l1, l2, l3, l4, l5⟩ := hlev x (List.mem_singleton.2 rfl)
  have hsum := hx.sum
  have hx2 : x.2 = n * w := by rw [← hsum]; simp [sumW]
  have hne : gSteps (List.replicate n w) fan ≠ [] := fun e => by rw [e] at hL; simp at hL
  have hx1 := hx.a.last hne
  simp only [List.map_cons, List.map_nil, List.mem_singleton] at hx1
  refine ⟨dl n (gSteps (List.replicate n w) fan) x, ?_, ?_, ?_, ?_⟩
  · rcases Nat.eq_zero_or_pos (dl n (gSteps (List.replicate n w) fan) x) with e | e
    · have h3 := l3.1
      rw [e, hx2] at h3
      unfold pw at h3
      simp at h3
      have : 2 * w ≤ n * w := Int.mul_le_mul_of_nonneg_right (by omega) (by omega)
      omega
    · exact e
  · unfold deepV
    rw [← l2, ← hx1, Int.toNat_natCast]
  · have h3 := l3.1
    rw [hx2] at h3
    have := Int.le_of_mul_le_mul_right h3 (by omega)
    omega
  · rcases Nat.eq_zero_or_pos (dl n (gSteps (List.replicate n w) fan) x) with e | e
    · rw [e]; simp; omega
    · have h3 := l3.2.1 e
      rw [hx2] at h3
      have := Int.lt_of_mul_lt_mul_right h3 (by omega)
      omega
theorem level_l1 (n fan d : Nat) (hn : n ≤ 2048) (hf : 2 ≤ fan) (hf2 : fan ≤ 64) (h1 : n ≤ fan ^ d) (h2 : fan ^ (d - 1) < n ∨ d = 1) : ∀ (m j : Nat), d - j = m → 1 ≤ j → j ≤ d → Ev (fun k => milllaw10_PlanLevel.l1 k n fan d j ((fan ^ j : Nat) : Int)) true
  | 0, j, hm, hj, hj2 => by
    have e : j = d := by omega
    subst e
    have e1 : ¬ (((fan ^ j : Nat) : Int) < (n : Int)) := by omega
    exact Ev.step (f := fun _ => some true) (fun k => by rw [milllaw10_PlanLevel.l1, if_neg e1]; simp) (Ev.now _)
  | m + 1, j, hm, hj, hj2 => by
    have h3 : fan ^ (d - 1) < n := by rcases h2 with h | h; exact h; omega
    have h4 : fan ^ j ≤ fan ^ (d - 1) := Nat.pow_le_pow_right (by omega) (by omega)
    have e1 : ((fan ^ j : Nat) : Int) < (n : Int) := by omega
    have hj3 : j < 2048 := by
      have : j < 2 ^ j := Nat.lt_two_pow_self
      have : 2 ^ j ≤ fan ^ j := Nat.pow_le_pow_left hf j
      omega
    have e2 : wrap64 (((fan ^ j : Nat) : Int) * (fan : Int)) = ((fan ^ (j + 1) : Nat) : Int) := by
      have h5 : fan ^ j * fan ≤ 2048 * 64 := Nat.mul_le_mul (by omega) hf2
      rw [Nat.pow_succ, ← Int.natCast_mul]
      exact w64 _ (by omega) (by omega)
    exact Ev.step (fun k => by rw [milllaw10_PlanLevel.l1, if_pos e1, e2, wS (by omega)]) (level_l1 n fan d hn hf hf2 h1 h2 m (j + 1) (by omega) (by omega) (by omega))
theorem level_l0 (n : Nat) (w : Int) (fan : Nat) (hn : n ≤ 2048) (r : Bool) (cont : Ev (fun k => milllaw10_PlanLevel.l0 k n w fan (List.replicate n w) n) r) : ∀ (d i : Nat), n - i = d → i ≤ n → Ev (fun k => milllaw10_PlanLevel.l0 k n w fan (List.replicate i w ++ List.replicate (n - i) 0) i) r
  | 0, i, hd, hi => by
    have e : i = n := by omega
    subst e
    rw [Nat.sub_self, List.replicate_zero, List.append_nil]; exact cont
  | d + 1, i, hd, hi => by
    refine Ev.step (fun k => ?_) (level_l0 n w fan hn r cont d (i + 1) (by omega) (by omega))
    have e : (List.replicate i w ++ List.replicate (n - i) 0).set i w = List.replicate (i + 1) w ++ List.replicate (n - (i + 1)) 0 := by
      rw [List.set_append_right _ _ (by rw [List.length_replicate]; omega), List.length_replicate, Nat.sub_self, show n - i = (n - (i + 1)) + 1 from by omega, List.replicate_succ, List.set_cons_zero, List.replicate_succ', List.append_assoc]; rfl
    rw [milllaw10_PlanLevel.l0, if_pos (by omega), if_pos (by omega), if_pos (by rw [List.length_append, List.length_replicate, List.length_replicate]; omega), Int.toNat_natCast, e, wS (by omega)]
theorem level_ev (n w fan : Int) : Ev (fun k => milllaw10_PlanLevel.f k n w fan) true := by
  unfold milllaw10_PlanLevel.f
  have yes : Ev (fun k => milllaw10_PlanLevel.j0 k n w fan true) true := Ev.step (f := fun _ => some true) (fun k => by rw [milllaw10_PlanLevel.j0, if_pos rfl]) (Ev.now _)
  by_cases c1 : n < 1
  · simp only [if_pos c1]; exact yes
  simp only [if_neg c1]
  by_cases c2 : n > 2048
  · simp only [if_pos c2]; exact yes
  simp only [if_neg c2]
  by_cases c3 : w < 1
  · simp only [if_pos c3]; exact yes
  simp only [if_neg c3]
  by_cases c4 : w > 1073741824
  · simp only [if_pos c4]; exact yes
  simp only [if_neg c4]
  by_cases c5 : fan < 2
  · simp only [if_pos c5]; exact yes
  simp only [if_neg c5]
  by_cases c6 : fan > 64
  · rw [decide_eq_true c6]; exact yes
  rw [decide_eq_false c6]
  obtain ⟨N, rfl⟩ : ∃ N : Nat, n = N := ⟨n.toNat, by omega⟩
  obtain ⟨F, rfl⟩ : ∃ F : Nat, fan = F := ⟨fan.toNat, by omega⟩
  refine Ev.step (f := fun k => milllaw10_PlanLevel.l0 k N w F (List.replicate 0 w ++ List.replicate (N - 0) 0) ((0 : Nat) : Int)) (fun k => ?_) ?_
  · have e1 : (0 : Int) ≤ (N : Int) := by omega
    have e2 : N ≤ 35184372088832 := by omega
    rw [milllaw10_PlanLevel.j0, if_neg (by simp), if_pos e1, Int.toNat_natCast, if_pos e2]; rfl
  refine level_l0 N w F (by omega) true ?_ N 0 rfl (Nat.zero_le _)
  have hlen : (List.replicate N w).length = N := by simp
  have hg : givenV (List.replicate N w) F = 0 := by
    unfold givenV
    rw [if_neg (by omega), hlen, if_neg (by omega), if_pos]
    intro x hx
    rw [(List.mem_replicate.1 hx).2]
    exact ⟨by omega, by omega⟩
  have hmake := make_ev hg
  rw [Int.toNat_natCast] at hmake
  have hdep := depth_ev (List.replicate N w) F (gSteps (List.replicate N w) F)
  have hck := gSteps_check hg
  rw [Int.toNat_natCast] at hck
  rw [if_pos hck, hlen] at hdep
  have e0 : ¬ ((N : Int) < (N : Int)) := by omega
  refine Ev.step (fun k => by rw [milllaw10_PlanLevel.l0, if_neg e0]) ?_
  refine Ev.bind hmake (Ev.bind hdep ?_)
  refine Ev.congr (f := fun k => milllaw10_PlanLevel.j2 k N F (deepV N (gSteps (List.replicate N w) F)) false) (fun k => by simp [milllaw10_num.f]) ?_
  have hd : ∃ d : Nat, 1 ≤ d ∧ deepV N (gSteps (List.replicate N w) F) = d ∧ N ≤ F ^ d ∧ (F ^ (d - 1) < N ∨ d = 1) := by
    by_cases h1 : N = 1
    · subst h1
      refine ⟨1, Nat.le_refl _, ?_, by simp; omega, .inr rfl⟩
      unfold gSteps
      rw [if_pos hlen]
      rfl
    · obtain ⟨d, a, b, c, e⟩ := level_depth (n := N) (fan := F) (w := w) (by omega) (by omega) (by omega)
      exact ⟨d, a, b, c, .inl e⟩
  obtain ⟨d, a, b, c, e⟩ := hd
  rw [b]
  have := level_l1 N F d (by omega) (by omega) (by omega) c e (d - 1) 1 rfl (Nat.le_refl _) a
  rw [Nat.pow_one] at this
  exact Ev.step (fun k => by rw [milllaw10_PlanLevel.j2, if_neg (by simp)]; rfl) this
theorem PlanLevel : milllaw10_PlanLevel.Pure := fun a0 a1 a2 _ _ _ => (level_ev a0 a1 a2).rounds

end Go.Proofs.Ytbgabijjnbmghaa.Pure
