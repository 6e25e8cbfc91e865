/- runs.Heap[Thing]: the walk of Push. -/
import Derived.Test.YtjjfaiociajikaaRunB
import Derived.Deep.AppendLies
import Derived.Deep.DeepCutAuto
namespace Go.Proofs.Ytjjfaiociajikaa
open Go.RowKit Go.Proofs.YtjjfaiociajikaaW.PrintWords
set_option linter.unusedVariables false
set_option linter.unusedSimpArgs false

theorem info50 : (Try.prog.info? 50).map (fun i => (i.zero, i.size, i.bytes)) = some (some (.agg #[.int .i64 0, .int .i64 0, .int .u64 0]), 3, 24) := by kernel_rfl
/-- an entry's cells, one behind the other -/
structure Row (W : Int → Int) (l : List Rung) (xs : List Value) : Prop where
  len : xs.length = l.length * 3
  at_ : ∀ i x, l[i]? = some x → xs[i * 3]? = some (.int .i64 x.2) ∧ xs[i * 3 + 1]? = some (.int .i64 (W x.1)) ∧ xs[i * 3 + 2]? = some (.int .u64 x.1)
theorem Row.snoc {W : Int → Int} {l : List Rung} {xs : List Value} (h : Row W l xs) (x : Rung) {y : Int} (hy : W x.1 = y) : Row W (l ++ [x]) (xs ++ [.int .i64 x.2, .int .i64 y, .int .u64 x.1]) := by
  subst hy
  refine ⟨by simp [h.len]; omega, fun i y hi => ?_⟩
  have hl := h.len
  by_cases e : i < l.length
  · rw [List.getElem?_append_left e] at hi
    rw [List.getElem?_append_left (by omega), List.getElem?_append_left (by omega), List.getElem?_append_left (by omega)]
    exact h.at_ i y hi
  · have hlt := (List.getElem?_eq_some_iff.1 hi).1
    have e2 : i = l.length := by simp at hlt; omega
    subst e2
    simp at hi
    subst hi
    rw [List.getElem?_append_right (by omega), List.getElem?_append_right (by omega), List.getElem?_append_right (by omega), hl, show l.length * 3 - l.length * 3 = 0 by omega, show l.length * 3 + 1 - l.length * 3 = 1 by omega, show l.length * 3 + 2 - l.length * 3 = 2 by omega]
    exact ⟨rfl, rfl, rfl⟩
theorem lad_of_own {W : Int → Int} {w : World} {base : Nat} {v : Value} {l : List Rung} {xs : List Value} {n : Nat} (h : w.ownsRow base 50 3 v n xs) (hn : n = l.length) (hr : Row W l xs) (h0 : 0 < l.length) : ∃ g cap, v = .slice (some ⟨g, 0, none⟩) l.length cap ∧ base ≤ g ∧ cap ≤ maxLen ∧ Lad W w g cap l := by
  subst hn
  rcases h.2 with ⟨_, hz⟩ | ⟨g, cap, cur, rfl, hb, hh, hc, hm, hs, ht⟩
  · omega
  · refine ⟨g, cap, rfl, hb, hm, cur, hh, hs, hc, fun i x hx => ?_⟩
    obtain ⟨h1, h2, h3⟩ := hr.at_ i x hx
    have key : ∀ j u, xs[j]? = some u → cur[j]? = some u := fun j u hj => by
      rw [← ht] at hj
      have hl := (List.getElem?_eq_some_iff.1 hj).1
      rw [List.length_take] at hl
      rw [List.getElem?_take_of_lt (by omega), Array.getElem?_toList] at hj
      exact hj
    exact ⟨key _ _ h1, key _ _ h2, key _ _ h3⟩
theorem own_of_lad {W : Int → Int} {w : World} {base g cap : Nat} {l : List Rung} (h : Lad W w g cap l) (hb : base ≤ g) (hm : cap ≤ maxLen) : ∃ xs, w.ownsRow base 50 3 (.slice (some ⟨g, 0, none⟩) l.length cap) l.length xs ∧ Row W l xs := by
  obtain ⟨cs, hh, hs, hl, hc⟩ := h
  have hlen : (cs.toList.take (l.length * 3)).length = l.length * 3 := by have e : cs.toList.length = cs.size := Array.length_toList; rw [List.length_take, e, hs]; omega
  refine ⟨cs.toList.take (l.length * 3), ⟨hlen, .inr ⟨g, cap, cs, rfl, hb, hh, hl, hm, hs, rfl⟩⟩, hlen, fun i x hx => ?_⟩
  have hi := (List.getElem?_eq_some_iff.1 hx).1
  obtain ⟨h1, h2, h3⟩ := hc i x hx
  rw [List.getElem?_take_of_lt (by omega), List.getElem?_take_of_lt (by omega), List.getElem?_take_of_lt (by omega), Array.getElem?_toList, Array.getElem?_toList, Array.getElem?_toList]
  exact ⟨h1, h2, h3⟩
/-- the heap with its list -/
def Hp (W : Int → Int) (w : World) (P base : Nat) (q : Int) (l : List Rung) : Prop := ∃ v xs, Top w P v q ∧ w.ownsRow base 50 3 v l.length xs ∧ Row W l xs
/-- of what was there before, blocks of the heap's own types alone were written -/
structure Fr (base : Nat) (w w' : World) : Prop where
  below : Below base w w'
  size : w.heap.size ≤ w'.heap.size
  ty : ∀ (k : Nat) (cells : Array Value) (t : Nat), w.heap[k]? = some (Obj.cells cells t (0, 0)) → t ≠ 48 → t ≠ 50 → w'.heap[k]? = w.heap[k]?
theorem Fr.of_kept {base : Nat} {w w' : World} {S : Nat → Prop} (hb : Below base w w') (hk : Kept w w' S) (hS : ∀ k, S k → ∃ cells t, w.heap[k]? = some (Obj.cells cells t (0, 0)) ∧ (t = 48 ∨ t = 50)) : Fr base w w' := by
  refine ⟨hb, hk.1, fun k cells t hc h1 h2 => hk.2 k (blk_lt hc) (fun hs => ?_)⟩
  obtain ⟨c2, t2, h3, h4⟩ := hS k hs
  rw [hc] at h3
  injection h3 with h3
  injection h3 with _ h3
  subst h3
  rcases h4 with h | h
  · exact h1 h
  · exact h2 h
theorem Fr.trans {base : Nat} {w w1 w2 : World} (h : Fr base w w1) (k : Fr base w1 w2) : Fr base w w2 := by
  refine ⟨h.below.trans k.below, Nat.le_trans h.size k.size, fun b cells t hc h1 h2 => ?_⟩
  have e := h.ty b cells t hc h1 h2
  exact (k.ty b cells t (e.trans hc) h1 h2).trans e
theorem own_top_ne {w : World} {base n P k : Nat} {v v' : Value} {q : Int} {xs : List Value} (h : w.ownsRow base 50 3 v n xs) (ht : Top w P v' q) (hk : v.ownBlock = some k) : k ≠ P := by
  rintro rfl
  obtain ⟨c, hc⟩ := own_typed h k hk
  unfold Top at ht
  rw [ht] at hc
  injection hc with hc
  injection hc with _ hc
  cases hc
theorem own_kept2 {w : World} {base n : Nat} {v : Value} {xs : List Value} {o o2 : Obj} (h : w.ownsRow base 50 3 v n xs) : ((w.alloc o).drew.alloc o2).ownsRow base 50 3 v n xs := (h.alloc o).alloc o2
theorem cells3_new (w : World) (a b c : Value) {n t : Nat} (hn : w.heap.size = n) : ∀ j u, [a, b, c][j]? = some u → (w.alloc (.cells #[a, b, c] t)).cell? ((⟨n, 0, none⟩ : Addr).add j) = some u := by
  subst hn
  exact World.news_of_block (cs := #[a, b, c]) (t := t) (fr := (0, 0)) (Go.heap_alloc_new w (.cells #[a, b, c] t))
theorem top_ne_lad {W : Int → Int} {w : World} {P g n : Nat} {v : Value} {q : Int} {l : List Rung} (ht : Top w P v q) (hl : Lad W w g n l) : P ≠ g := by
  rintro rfl
  obtain ⟨cs, h2, _⟩ := hl
  unfold Top at ht
  rw [ht] at h2
  injection h2 with h2
  injection h2 with _ h2
  cases h2
theorem Top.set2 {w : World} {P : Nat} {v : Value} {q : Int} (h : Top w P v q) (q' : Int) : Top (w.setCell ⟨P, 2, none⟩ (.int .u64 q')) P v q' := by
  have := blk_set h 2 (.int .u64 q')
  unfold Top; rw [this]; rfl
theorem Top.len {w : World} {P n m : Nat} {A : Option Addr} {c : Nat} {q : Int} (h : Top w P (.slice A n c) q) (e : m = n) : Top w P (.slice A m c) q := by subst e; exact h
theorem Top.set1 {w : World} {P : Nat} {v : Value} {q : Int} (h : Top w P v q) (v' : Value) : Top (w.setCell ⟨P, 1, none⟩ v') P v' q := by
  have := blk_set h 1 v'
  unfold Top; rw [this]; rfl
theorem Lad.put {W : Int → Int} {w : World} {g n : Nat} {l : List Rung} (h : Lad W w g n l) (i : Nat) (x : Rung) : Lad W (((w.setCell ⟨g, i * 3, none⟩ (.int .i64 x.2)).setCell ⟨g, i * 3 + 1, none⟩ (.int .i64 (W x.1))).setCell ⟨g, i * 3 + 2, none⟩ (.int .u64 x.1)) g n (l.set i x) := by
  obtain ⟨cs, hb, hs, hl, hc⟩ := h
  refine ⟨_, blk_set (blk_set (blk_set hb _ _) _ _) _ _, by simpa using hs, by simpa using hl, ?_⟩
  intro j y hj
  by_cases e : j = i
  · subst e
    have hlt : j < l.length := by have := (List.getElem?_eq_some_iff.1 hj).1; simpa using this
    rw [List.getElem?_set] at hj
    simp [hlt] at hj
    subst hj
    refine ⟨?_, ?_, ?_⟩
    · rw [Array.getElem?_setIfInBounds_ne (by omega), Array.getElem?_setIfInBounds_ne (by omega), Array.getElem?_setIfInBounds_self_of_lt (by omega)]
    · rw [Array.getElem?_setIfInBounds_ne (by omega), Array.getElem?_setIfInBounds_self_of_lt (by simp; omega)]
    · rw [Array.getElem?_setIfInBounds_self_of_lt (by simp; omega)]
  · rw [List.getElem?_set_ne (by omega)] at hj
    obtain ⟨h1, h2, h3⟩ := hc j y hj
    refine ⟨?_, ?_, ?_⟩
    · rw [Array.getElem?_setIfInBounds_ne (by omega), Array.getElem?_setIfInBounds_ne (by omega), Array.getElem?_setIfInBounds_ne (by omega)]; exact h1
    · rw [Array.getElem?_setIfInBounds_ne (by omega), Array.getElem?_setIfInBounds_ne (by omega), Array.getElem?_setIfInBounds_ne (by omega)]; exact h2
    · rw [Array.getElem?_setIfInBounds_ne (by omega), Array.getElem?_setIfInBounds_ne (by omega), Array.getElem?_setIfInBounds_ne (by omega)]; exact h3
theorem Lad.drew_ {W : Int → Int} {w : World} {g n : Nat} {l : List Rung} (h : Lad W w g n l) : Lad W w.drew g n l := h
theorem Lad.swap {W : Int → Int} {w : World} {g n : Nat} {l : List Rung} (h : Lad W w g n l) (i j : Nat) : Lad W ((((((w.setCell ⟨g, i * 3, none⟩ (.int .i64 (at_ l j).2)).setCell ⟨g, i * 3 + 1, none⟩ (.int .i64 (W (at_ l j).1))).setCell ⟨g, i * 3 + 2, none⟩ (.int .u64 (at_ l j).1)).setCell ⟨g, j * 3, none⟩ (.int .i64 (at_ l i).2)).setCell ⟨g, j * 3 + 1, none⟩ (.int .i64 (W (at_ l i).1))).setCell ⟨g, j * 3 + 2, none⟩ (.int .u64 (at_ l i).1)) g n (swapAt l i j) :=
  (h.put i (at_ l j)).put j (at_ l i)
theorem ahead_hp (W : Int → Int) (P g n m : Nat) (l : List Rung) (q : Int) (ai aj : Int) (i j : Nat) (w : World) (ei : ai = i) (ej : aj = j) (hm : l.length = m) (ht : Top w P (.slice (some ⟨g, 0, none⟩) m n) q) (hl : Lad W w g n l) (hi : i < l.length) (hj : j < l.length) (b : Bool) (hb : lessB (at_ l i) (at_ l j) = b) :
    Calls Try.prog 19 #[.pointer (some ⟨P, 0, none⟩), .int .i64 ai, .int .i64 aj] w fun e w' => e = .returned (.bool b) ∧ Below w.heap.size w w' := by
  subst ei ej hm hb
  exact ahead_any W P g n l q i j w ht hl hi hj
theorem swapAt_comm (l : List Rung) {i j : Nat} (h : i ≠ j) : swapAt l i j = swapAt l j i := by
  unfold swapAt
  exact List.set_comm _ _ h
theorem kept6 (g : Nat) (w : World) (a b c d e f : Nat) (u v x y z t : Value) : Kept w (((((((w.setCell ⟨g, a, none⟩ u).setCell ⟨g, b, none⟩ v).setCell ⟨g, c, none⟩ x).setCell ⟨g, d, none⟩ y).setCell ⟨g, e, none⟩ z).setCell ⟨g, f, none⟩ t).drew) (fun k => k = g) :=
  ((((((((Kept.refl w (fun k => k = g)).setCell (.inl rfl) _).setCell (.inl rfl) _).setCell (.inl rfl) _).setCell (.inl rfl) _).setCell (.inl rfl) _).setCell (.inl rfl) _).drew)
/-- behind the append: one more entry lies at the end -/
def Pushed (W : Int → Int) (w wx : World) (P base : Nat) (v : Value) (q : Int) (l : List Rung) (x : Rung) : Prop :=
  ∃ g1 cap1, Top wx P (.slice (some ⟨g1, 0, none⟩) (l.length + 1) cap1) q ∧ base ≤ g1 ∧ cap1 ≤ maxLen ∧ Lad W wx g1 cap1 (l ++ [x]) ∧ Kept w wx (fun k => k = P ∨ v.ownBlock = some k) ∧ Below base w wx ∧ ((g1 = P ∨ v.ownBlock = some g1) ∨ w.heap.size ≤ g1)
theorem pushed_mk {W : Int → Int} {w w1 : World} {P base g1 cap1 : Nat} {v : Value} {q who key : Int} {l : List Rung} {xs : List Value} (ht : Top w P v q) (ho : w.ownsRow base 50 3 v l.length xs) (hr : Row W l xs) (hbP : base ≤ P) (hw : W q = who)
    (ho1 : w1.ownsRow base 50 3 (.slice (some ⟨g1, 0, none⟩) (l.length + 1) cap1) (l.length + 1) (xs ++ [.int .i64 key, .int .i64 who, .int .u64 q]))
    (hg : (((w.alloc (.cells #[.int .i64 key, .int .i64 who] 28)).drew).alloc (.cells #[.int .i64 key, .int .i64 who, .int .u64 q] 50)).grownBy w1 v.ownBlock) (hat : v.ownBlock = some g1 ∨ g1 = w.heap.size + 2) :
    Pushed W w (w1.setCell ⟨P, 1, none⟩ (.slice (some ⟨g1, 0, none⟩) (l.length + 1) cap1)) P base v q l (q, key) := by
  have hP : P < w.heap.size := blk_lt ht
  have h1 : w1.heap[P]? = some (.cells #[lessF, v, .int .u64 q] 48 (0, 0)) := (hg.block P (by simp; omega) (fun e => own_top_ne ho ht e.symm rfl)).trans ((heap_alloc_old _ _ (by simp; omega)).trans ((heap_alloc_old w _ hP).trans ht))
  obtain ⟨g, cap, e, hb, hm, hl⟩ := lad_of_own ho1 (l := l ++ [(q, key)]) (by simp) (hr.snoc (q, key) hw) (by simp)
  injection e with e _ e2
  injection e with e
  injection e with e
  subst e e2
  have hgP : P ≠ g1 := by
    rintro rfl
    obtain ⟨cs, h2, _⟩ := hl
    rw [h1] at h2
    injection h2 with h2
    injection h2 with _ h2
    cases h2
  have hk0 : Kept w w1 (fun k => k = P ∨ v.ownBlock = some k) := Kept.of_grown hg ((((Kept.refl w _).alloc _).drew).alloc _) (fun k hk => .inl (.inr hk))
  have hB0 : Below base w w1 := by
    have h3 : Below base w (((w.alloc (.cells #[.int .i64 key, .int .i64 who] 28)).drew).alloc (.cells #[.int .i64 key, .int .i64 who, .int .u64 q] 50)) := ((Below.refl base w).alloc (by omega) _).drew.alloc (by simp; omega) _
    exact h3.grown hg (by simp; omega) (own_base ho)
  refine ⟨g1, cap1, ?_, hb, hm, ?_, hk0.setCell (.inl (.inl rfl)) _, hB0.setCell hbP _, by rcases hat with h | h; exact .inl (.inr h); exact .inr (by omega)⟩
  · have := blk_set h1 1 (.slice (some ⟨g1, 0, none⟩) (l.length + 1) cap1)
    unfold Top; rw [this]; rfl
  · exact hl.kept (S := fun k => k = P) ((Kept.refl w1 (fun k => k = P)).setCell (.inl rfl) _) (fun e => hgP e.symm)
set_option maxRecDepth 100000 in
set_option maxHeartbeats 2000000 in
theorem Push_v (W : Int → Int) (P base : Nat) (v : Value) (q key who : Int) (l : List Rung) (xs : List Value) (w : World) (ht : Top w P v q) (hbP : base ≤ P) (ho : w.ownsRow base 50 3 v l.length xs) (hr : Row W l xs) (hl : l.length ≤ 100000) (hq0 : 0 ≤ q) (hq : q ≤ 100000) (hw : W q = who) :
    Calls Try.prog 8 #[.pointer (some ⟨P, 0, none⟩), .agg #[.int .i64 key, .int .i64 who]] w fun e w' => e = .returned (.tuple #[]) ∧ Hp W w' P base (q + 1) (upL l.length (l ++ [(q, key)]) l.length) ∧ Kept w w' (fun k => k = P ∨ v.ownBlock = some k) ∧ Below base w w' := by
  have t1 := ht.c1
  have t2 := ht.c2
  have hP : P < w.heap.size := blk_lt ht
  have HR := Aside0.mk hr
  have HO := Aside0.mk ho
  have HT := Aside0.mk ht
  have HW := Aside0.mk hw
  have tt1 : ∀ o, (w.alloc o).cell? ⟨P, 1, none⟩ = some v := fun o => (World.cell?_alloc_past o P 1 hP).trans t1
  have tt2 : ∀ o, (w.alloc o).cell? ⟨P, 2, none⟩ = some (.int .u64 q) := fun o => (World.cell?_alloc_past o P 2 hP).trans t2
  clear ht ho hr hw t1 t2
  go_enter Try.func8, Try.ntmps8
  have HNE := Aside0.mk (fun k hk => own_top_ne HO.out HT.out (k := k) hk)
  obtain ⟨i0, hi, hz0, hz1, hz2⟩ := info_parts info50
  have Hi := Aside0.mk hi
  have Hz0 := Aside0.mk hz0
  have Hz1 := Aside0.mk hz1
  have Hz2 := Aside0.mk hz2
  clear hi hz0 hz1 hz2
  have HBP := Aside0.mk hbP
  have HPW := Aside0.mk hP
  have hmore : ∀ (w1 : World), (((w.alloc (.cells #[.int .i64 key, .int .i64 who] 28)).drew).alloc (.cells #[.int .i64 key, .int .i64 who, .int .u64 q] 50)).grownBy w1 v.ownBlock → w1.frozen? ⟨P, 1, none⟩ = false ∧ w1.cell? ⟨P, 1, none⟩ = some v ∧ w1.cell? ⟨P, 2, none⟩ = some (.int .u64 q) ∧ w1.cell? ⟨w.heap.size, 0, none⟩ = some (.int .i64 key) ∧ w1.cell? ⟨w.heap.size, 1, none⟩ = some (.int .i64 who) := fun w1 hg => by
    have h1 : w1.heap[P]? = some (.cells #[lessF, v, .int .u64 q] 48 (0, 0)) := (hg.block P (by simp; omega) (fun e => HNE.out P e.symm rfl)).trans ((heap_alloc_old _ _ (by simp; omega)).trans ((heap_alloc_old w _ hP).trans HT.out))
    have h2 : w1.heap[w.heap.size]? = some (.cells #[.int .i64 key, .int .i64 who] 28 (0, 0)) := (hg.block w.heap.size (by simp; omega) (fun e => Nat.lt_irrefl _ (own_lt HO.out _ e.symm))).trans ((heap_alloc_old _ _ (by simp)).trans (Go.heap_alloc_new w _))
    exact ⟨blk_frozen h1 1, by rw [blk_cell h1]; rfl, by rw [blk_cell h1]; rfl, by rw [blk_cell h2]; rfl, by rw [blk_cell h2]; rfl⟩
  have HM := Aside0.mk hmore
  clear hmore
  go_upto_region 2 with fail
  go_cut [] (fun wx => Aside0 (Pushed W w wx P base v q l (q, key)))
  case first =>
    go_region_law ((refine step_append_lies _ (by rfl) (.tmp 12) (.tmp 19) 45 (by rfl) base 50 i0 _ 3 24 Try.underlying45 Hi.out Hz0.out Hz1.out Hz2.out rfl (by decide) v l.length xs (by rfl) (own_kept2 HO.out) ⟨w.heap.size + 1, 0, none⟩ 1 1 [.int .i64 key, .int .i64 who, .int .u64 q] (by rfl) (by rfl) ?news ?h1 (by omega) ?h63 ?hbytes ?hbase (w.heap.size + 2) ?hH ?_; (case news => exact cells3_new _ _ _ _ (by simp)); (case h1 => intro u hu; simp at hu; rcases hu with rfl | rfl | rfl <;> rfl); (case h63 => simp only [maxLen]; omega); (case hbytes => omega); (case hbase => have := HBP.out; have := HPW.out; simp; omega); (case hH => simp); intro g1 cap1 w1 ho hg hat hlt; obtain ⟨hp2, hp1, _, _, _⟩ := HM.out w1 hg; have HO1 := Aside0.mk ho; have HG1 := Aside0.mk hg; have HA1 := Aside0.mk hat; clear ho hg hat hlt))
    all_goals (go_wp2_with fail; go_meet; exact ⟨pushed_mk HT.out HO.out HR.out HBP.out HW.out HO1.out HG1.out HA1.out⟩)
  case rest =>
    obtain ⟨hcut⟩ := hcut
    obtain ⟨g1, cap1, ht, hb1, hm1, hl1, hk, hB, hg0⟩ := hcut
    have hc1 := ht.c1
    have hc2 := ht.c2
    have hf2 := ht.free 2
    go_wp2
    have HK := Aside0.mk hk
    have HB := Aside0.mk hB
    have HT2 := Aside0.mk ht
    have HL2 := Aside0.mk hl1
    have HM1 := Aside0.mk hm1
    have HB1 := Aside0.mk hb1
    clear hk hB ht hl1 hm1 hb1 hc1 hc2 hf2
    have hgP : P ≠ g1 := top_ne_lad HT2.out HL2.out
    have HG0 := Aside0.mk hg0
    clear hg0
    go_loopw [4] (fun v4 w2 => ∃ (f j : Nat) (l' : List Rung), v4 = .int .i64 j ∧ j ≤ f ∧ j < l'.length ∧ Aside0 (l'.length = l.length + 1) ∧ Aside0 (upL f l' j = upL l.length (l ++ [(q, key)]) l.length) ∧ Aside0 (Top w2 P (.slice (some ⟨g1, 0, none⟩) (l.length + 1) cap1) (q + 1)) ∧ Aside0 (Lad W w2 g1 cap1 l') ∧ Aside0 (Kept wc w2 (fun k => k = P ∨ k = g1)) ∧ Aside0 (Below base w w2)) (fun v4 _ => (intOf v4).toNat)
    case atStart =>
      exact ⟨l.length, l.length, l ++ [(q, key)], rfl, Nat.le_refl _, by simp, ⟨by simp⟩, ⟨rfl⟩, ⟨HT2.out.set2 _⟩, ⟨HL2.out.kept (S := fun k => k = P) ((Kept.refl wc (fun k => k = P)).setCell (.inl rfl) _) (fun e => hgP e.symm)⟩, ⟨(Kept.refl wc _).setCell (.inl (.inl rfl)) _⟩, ⟨HB.out.setCell HBP.out _⟩⟩
    case round =>
      clear HT2 HL2 HB
      obtain ⟨f, j, l', rfl, hjf, hjl, HLEN, HUP, HT2, HL2, HK2, HB⟩ := hrel
      have hlen := HLEN.out
      have HBW := Aside0.mk (Nat.le_trans (Nat.le_trans HBP.out (Nat.le_of_lt (blk_lt HT.out))) (Nat.le_trans HK.out.1 HK2.out.1))
      by_cases c1 : j = 0
      · subst c1
        clear hlen
        go_wp2_with fail
        go_end0
        refine ⟨rfl, ?_, ?_, HB.out⟩
        · obtain ⟨xs2, ho2, hr2⟩ := own_of_lad HL2.out HB1.out HM1.out
          rw [← HUP.out, upL_stop]
          exact ⟨_, xs2, HT2.out.len HLEN.out, ho2, hr2⟩
        · exact HK.out.then_ HK2.out (fun k hk => by rcases hk with rfl | rfl; exact .inl (.inl rfl); exact HG0.out)
      · have c1b : decide ((0 : Int) < (j : Int)) = true := decide_eq_true (by omega)
        obtain ⟨f, rfl⟩ : ∃ f', f = f' + 1 := ⟨f - 1, by omega⟩
        obtain ⟨u, hu⟩ : ∃ u, u = (j - 1) / 2 := ⟨_, rfl⟩
        have hdiv : ((j : Int) - 1) / 2 = (u : Int) := by omega
        have huj : u < j := by omega
        have HU := Aside0.mk hu
        clear hu
        have HUL := Aside0.mk (show u < l'.length by omega)
        have HJL := Aside0.mk hjl
        have hjb : j ≤ 100001 := by omega
        have hj0 : 1 ≤ j := by omega
        have HBQ := Aside0.mk hlen
        clear hlen
        cases hb3 : lessB (at_ l' j) (at_ l' u) with
        | true =>
          have HB3 := Aside0.mk hb3
          clear hb3
          go_wp2_with fail
          refine (ahead_hp W P g1 cap1 _ l' _ _ _ j u wr rfl (by omega) HLEN.out HT2.out HL2.out HJL.out HUL.out true HB3.out).mono ?_
          rintro e w2 ⟨rfl, hb⟩
          have HT3 := Aside0.mk (HT2.out.below hb)
          have HL3 := Aside0.mk (HL2.out.below hb)
          have HK3 := Aside0.mk (HK2.out.below hb)
          have HB4 := Aside0.mk (HB.out.trans (hb.mono HBW.out))
          clear hb HT2 HL2 HK2 HB
          have t1 := HT3.out.c1
          have a0 := HL3.out.key HJL.out
          have a1 := HL3.out.who HJL.out
          have a2 := HL3.out.num HJL.out
          have b0 := HL3.out.key HUL.out
          have b1 := HL3.out.who HUL.out
          have b2 := HL3.out.num HUL.out
          have fr := HL3.out.free
          have f0 := fr (j * 3)
          have f1 := fr (j * 3 + 1)
          have f2 := fr (j * 3 + 2)
          have f3 := fr (u * 3)
          have f4 := fr (u * 3 + 1)
          have f5 := fr (u * 3 + 2)
          have q1 : j < l.length + 1 := by have := HBQ.out; have := HJL.out; omega
          have q2 : u < l.length + 1 := by have := HBQ.out; have := HUL.out; omega
          clear fr
          go_wp2_with fail
          go_region
          all_goals
            go_wp2_with fail
            go_roundw
            case rel =>
              refine ⟨f, u, swapAt l' u j, rfl, by have := HU.out; omega, by rw [swapAt_length]; exact HUL.out, ⟨by rw [swapAt_length]; exact HLEN.out⟩, ⟨?_⟩, ⟨?_⟩, ⟨?_⟩, ⟨?_⟩, ⟨?_⟩⟩
              · have e := HU.out
                subst e
                rw [← HUP.out, upL_go c1 HB3.out]
              · exact HT3.out.kept (kept6 g1 w2 _ _ _ _ _ _ _ _ _ _ _ _) hgP
              · rw [swapAt_comm l' (show u ≠ j by omega)]
                exact (HL3.out.swap j u).drew_
              · exact HK3.out.then_ (kept6 g1 w2 _ _ _ _ _ _ _ _ _ _ _ _) (fun k hk => .inl (.inr hk))
              · exact below_drew1 (((((((HB4.out.setCell HB1.out _).setCell HB1.out _).setCell HB1.out _).setCell HB1.out _).setCell HB1.out _).setCell HB1.out _))
            case measure => simp [intOf]; omega
        | false =>
          have HB3 := Aside0.mk hb3
          clear hb3
          go_wp2_with fail
          refine (ahead_hp W P g1 cap1 _ l' _ _ _ j u wr rfl (by omega) HLEN.out HT2.out HL2.out HJL.out HUL.out false HB3.out).mono ?_
          rintro e w2 ⟨rfl, hb⟩
          have HT3 := Aside0.mk (HT2.out.below hb)
          have HL3 := Aside0.mk (HL2.out.below hb)
          have HK3 := Aside0.mk (HK2.out.below hb)
          have HB4 := Aside0.mk (HB.out.trans (hb.mono HBW.out))
          clear hb HT2 HL2 HK2 HB
          go_wp2_with fail
          refine bodyPost_ret (results_none rfl _ _ _) rfl ⟨rfl, ?_, ?_, HB4.out⟩
          · obtain ⟨xs2, ho2, hr2⟩ := own_of_lad HL3.out HB1.out HM1.out
            rw [← HUP.out, upL_stay c1 (by rw [← HU.out]; exact HB3.out)]
            exact ⟨_, xs2, HT3.out.len HLEN.out, ho2, hr2⟩
          · exact HK.out.then_ HK3.out (fun k hk => by rcases hk with rfl | rfl; exact .inl (.inl rfl); exact HG0.out)
end Go.Proofs.Ytjjfaiociajikaa
