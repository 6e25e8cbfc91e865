/- plan.Make: its walk. -/
import Derived.Test.YtbgabijjnbmghaaMakeA
import Derived.Sort.OwnSortedInts
namespace Go.Proofs.Ytbgabijjnbmghaa.P
open Go.RowKit Go.Proofs.YtbgabijjnbmghaaW.PrintWords Go.Proofs.YtbgabijjnbmghaaW.PrintLast Go.Proofs.YtbgabijjnbmghaaW.PrintMore Go.Proofs.Ytbgabijjnbmghaa
set_option linter.unusedVariables false
set_option linter.unusedSimpArgs false

/-- two integers, so many times: a made row of rungs -/
def zeros62 (n : Nat) : Array Value := madeCells #[.int .i64 0, .int .i64 0] (n * 2)
theorem zeros62_size (n : Nat) : (zeros62 n).size = n * 2 := size_madeCells _ _

theorem hp_start (w : World) (n : Nat) : Hp ((w.alloc (.cells (zeros62 n) 62)).alloc (.cells #[.slice (some ⟨w.heap.size, 0, none⟩) 0 n] 60)) (w.heap.size + 1) w.heap.size n [] := by
  have h0 : (w.alloc (.cells (zeros62 n) 62)).heap[w.heap.size]? = some (.cells (zeros62 n) 62 (0, 0)) := heap_alloc_new _ _
  have h1 : Lad (w.alloc (.cells (zeros62 n) 62)) w.heap.size n [] := ⟨zeros62 n, h0, zeros62_size n, Nat.zero_le _, fun i x h => by simp at h⟩
  refine ⟨h1.alloc _, ?_⟩
  have := heap_alloc_new (w.alloc (.cells (zeros62 n) 62)) (.cells #[.slice (some ⟨w.heap.size, 0, none⟩) 0 n] 60)
  simpa [Top] using this

set_option maxRecDepth 100000 in
set_option maxHeartbeats 8000000 in
theorem Make_bad (k : Nat) (A0 : Option Addr) (c0 : Nat) (l0 : List Int) (a1 t : Int) (w : World) (hr0 : Kd.C (Kd.int .i64) w A0 l0.length l0) (hc0 : l0.length ≤ c0) (h : plan_given.f k l0 a1 = some t) (ht : t ≠ 0) :
    Calls Try.prog 24 #[.slice A0 l0.length c0, .int .i64 a1] w fun e w' => e = .returned (.tuple #[.slice none 0 0, .int .i64 t]) ∧ Drawn0 w w' := by
  have c4b0 : (t == 0) = false := beq_eq_false_iff_ne.mpr ht
  have c4b1 : (t != 0) = true := bne_iff_ne.mpr ht
  clear ht
  have HR := Aside0.mk hr0
  have HC := Aside0.mk hc0
  have H := Aside0.mk h
  clear hr0 hc0 h
  go_enter Try.func24, Try.ntmps24
  go_wp2_with fail
  refine (plan_given.calls k _ _ l0 a1 t w HR.out HC.out H.out).mono ?_
  rintro e w' ⟨rfl, hd⟩
  go_wp2_with fail
  go_ret2
  exact ⟨rfl, hd⟩

set_option maxRecDepth 100000 in
set_option maxHeartbeats 8000000 in
theorem Make_one (k : Nat) (A0 : Option Addr) (c0 : Nat) (l0 : List Int) (a1 : Int) (w : World) (hr0 : Kd.C (Kd.int .i64) w A0 l0.length l0) (hc0 : l0.length ≤ c0) (h : plan_given.f k l0 a1 = some 0) (hl : l0.length = 1) :
    Calls Try.prog 24 #[.slice A0 l0.length c0, .int .i64 a1] w fun e w' => ∃ v0_ : Value, e = .returned (.tuple #[v0_, .int .i64 0]) ∧ Kd.S k51 51 w' w.heap.size (fun k_ => (w.heap.size ≤ k_)) v0_ [⟨[0], 1⟩] ∧ Below w.heap.size w w' := by
  have c5 : ((l0.length : Int) == 1) = true := by rw [hl]; rfl
  clear hl
  have HR := Aside0.mk hr0
  have HC := Aside0.mk hc0
  have H := Aside0.mk h
  clear hr0 hc0 h
  go_enter Try.func24, Try.ntmps24
  go_wp2_with fail
  refine (plan_given.calls k _ _ l0 a1 0 w HR.out HC.out H.out).mono ?_
  rintro e w1 ⟨rfl, hd⟩
  have HB1 := Aside0.mk hd.below
  clear hd
  go_wp2_with (first
    | ((with_reducible refine gate_dst (N := 27) rfl ?_); refine Kd.R_lit (Kd.int .i64) _ 3 ?hg (N := 27) ?hd (xs := ([0] : List Int)) (inner := [.int .i64 0]) (ok := fun _ => True) (okp := fun _ => True) ?hr ?hp (fun _ hk => hk) trivial (Below.refl _ _) (Nat.le_refl _) (by simp) ?_; (case hd => rfl); (case hg => rfl); (case hr => first | (go_simp; done) | (go_simp; rfl)); (case hp => exact (Reps.one (show Kd.M (Kd.int .i64) _ _ _ 0 [.int .i64 0] from rfl) (Reps.none _ _))); intro v2 w2 ho2 hb2 hg2 hnew2; clear hg2 hnew2; have HO2 := Aside0.mk ho2; have HB2 := Aside0.mk hb2; clear ho2 hb2; obtain ⟨Ao2, co2, eo2⟩ := Kd.R_slice HO2.out; subst eo2)
    | ((with_reducible refine gate_dst (N := 29) rfl ?_); refine Kd.S_lits k51 (w0 := w) w.heap.size 51 ?hg3 (N := 29) ?hd3 (xs := ([⟨[0], 1⟩] : List S51)) (inner := [.slice Ao2 1 co2, .int .i64 1]) (ok := fun k_ => w.heap.size ≤ k_) (fun j k_ => j = 0 ∧ w1.heap.size ≤ k_) ?hr3 rfl ?hp3 ?ha3 ?ho3 ?hf3 ?hB3 ?hs3 (by simp) ?_; (case hd3 => rfl); (case hg3 => rfl); (case hr3 => first | (go_simp; done) | (go_simp; rfl)); (case hp3 => (intro j x hx; match j, hx with | 0, hx => (simp only [List.getElem?_cons_zero, Option.some.injEq] at hx; subst hx; exact k51_mkM _ _ _ _ (Kd.R_mono (Kd.R_lower (Kd.R_bound HO2.out) HB1.out.size) (fun k hk => ⟨rfl, hk.2.1⟩))) | j + 1, hx => simp at hx)); (case ha3 => exact fun i j k h1 h2 => h1.1.trans h2.1.symm); (case ho3 => exact fun j k h => Nat.le_trans HB1.out.size h.2); (case hf3 => exact Nat.le_trans HB1.out.size HB2.out.size); (case hB3 => exact below_then HB1.out HB1.out.size HB2.out); (case hs3 => exact Nat.le_trans HB1.out.size HB2.out.size); intro v3 w3 ho3 hb3 hg3 hnew3; clear hg3 hnew3; have HO3 := Aside0.mk ho3; have HB3 := Aside0.mk hb3; clear ho3 hb3))
  go_ret2
  exact ⟨_, rfl, HO3.out, HB3.out⟩

/-- slices.Sort on a row of the call's own. -/
theorem Sort_own (A : Option Addr) (c base : Nat) (ok : Nat → Prop) (zs : List Int) (W : World) (h : Kd.R (Kd.int .i64) 3 W base ok (.slice A zs.length c) zs) (hz : zs.length < 4611686018427387904) :
    Calls Try.prog 38 #[.slice A zs.length c] W fun e w' => e = .returned (.tuple #[]) ∧ Kd.R (Kd.int .i64) 3 w' base ok (.slice A zs.length c) (sortI zs) ∧ W.grownBy w' (Value.slice A zs.length c).ownBlock := by
  have hlen : (sortI zs).length = zs.length := by simp [sortI]
  by_cases h0 : zs.length = 0
  · have hn : zs = [] := List.eq_nil_of_length_eq_zero h0
    subst hn
    refine (Try.slices_Sort_int_none A c W).mono ?_
    rintro e w' ⟨rfl, rfl⟩
    have e0 : sortI [] = [] := by simp [sortI]
    rw [e0]
    exact ⟨rfl, h, World.grownBy.refl _ _⟩
  · have hok := h.1
    have ho := Kd.own_of_R h
    rcases ho.2 with ⟨hv, _⟩ | ⟨g, cap, cur, hv, hg, hb, h1, h2, h3, h4⟩
    · injection hv with _ hv _
      exact absurd hv h0
    · injection hv with hA _ hc
      subst hA hc
      rw [Nat.mul_one] at h4
      have hh : Go.Sort.Holds (Value.int .i64) W g 0 zs.toArray := holds_of_blockI hb h4
      refine (Try.slices_Sort_int g 0 c zs W hh (blk_lt hb) hz).mono ?_
      rintro e w' ⟨rfl, n, os, rfl⟩
      refine ⟨rfl, Kd.R_of_own ?_ hok, grownBy_sortedI _⟩
      rw [hlen]
      exact ownsRow_sortedI (ts := sortI zs) hlen hg hb h1 h2 h3
end Go.Proofs.Ytbgabijjnbmghaa.P
