/- runs.Heap[int]: the walk of Push. -/
import Derived.Test.YtjjfaiociajikaaAskC
namespace Go.Proofs.Ytjjfaiociajikaa.Ask
open Go.RowKit Go.Proofs.YtjjfaiociajikaaW.PrintWords
set_option linter.unusedVariables false
set_option linter.unusedSimpArgs false

set_option maxRecDepth 100000 in
set_option maxHeartbeats 2000000 in
theorem Push_v (A P base : Nat) (v : Value) (q key t : Int) (l : List Rung) (xs : List Value) (w : World) (ht : Top w A P v q) (hc : Cnt w A t) (hbA : base ≤ A) (ht0 : 0 ≤ t) (ht1 : t ≤ 100000000) (hbP : base ≤ P) (ho : w.ownsRow base 55 2 v l.length xs) (hr : Row l xs) (hl : l.length ≤ 100000) (hq0 : 0 ≤ q) (hq : q ≤ 100000) :
    Calls Try.prog 15 #[.pointer (some ⟨P, 0, none⟩), .int .i64 key] w fun e w' => e = .returned (.tuple #[]) ∧ Hp w' A P base (q + 1) (upL l.length (l ++ [(q, key)]) l.length) ∧ Asked w' A t (dig (l.length + 1)) ∧ Kept w w' (fun k => k = P ∨ k = A ∨ v.ownBlock = some k) ∧ Below base w w' := by
  have t1 := ht.c1
  have t2 := ht.c2
  have hP : P < w.heap.size := blk_lt ht
  have HR := Aside0.mk hr
  have HO := Aside0.mk ho
  have HT := Aside0.mk ht
  have HC := Aside0.mk hc
  have HBA := Aside0.mk hbA
  have HT0 := Aside0.mk ht0
  have HT1 := Aside0.mk ht1
  clear ht ho hr hc hbA ht0 ht1
  go_enter Try.func15, Try.ntmps15
  have HNE := Aside0.mk (fun k hk => own_top_ne HO.out HT.out (k := k) hk)
  obtain ⟨i0, hi, hz0, hz1, hz2⟩ := info_parts info55
  have Hi := Aside0.mk hi
  have Hz0 := Aside0.mk hz0
  have Hz1 := Aside0.mk hz1
  have Hz2 := Aside0.mk hz2
  clear hi hz0 hz1 hz2
  have HBP := Aside0.mk hbP
  have HPW := Aside0.mk hP
  have hmore : ∀ (w1 : World), (w.drew.alloc (.cells #[.int .i64 key, .int .u64 q] 55)).grownBy w1 v.ownBlock → w1.frozen? ⟨P, 1, none⟩ = false ∧ w1.cell? ⟨P, 1, none⟩ = some v ∧ w1.cell? ⟨P, 2, none⟩ = some (.int .u64 q) := fun w1 hg => by
    have h1 : w1.heap[P]? = some (.cells #[askF A, v, .int .u64 q] 53 (0, 0)) := (hg.block P (by simp; omega) (fun e => HNE.out P e.symm rfl)).trans ((heap_alloc_old w.drew _ hP).trans HT.out)
    exact ⟨blk_frozen h1 1, by rw [blk_cell h1]; rfl, by rw [blk_cell h1]; rfl⟩
  have HM := Aside0.mk hmore
  clear hmore
  go_upto_region 2 with fail
  go_cut [] (fun wx => Aside0 (Pushed w wx A P base v q t l (q, key)))
  case first =>
    go_region_law ((refine step_append_lies _ (by rfl) (.tmp 12) (.tmp 19) 51 (by rfl) base 55 i0 _ 2 16 Try.underlying51 Hi.out Hz0.out Hz1.out Hz2.out rfl (by decide) v l.length xs (by rfl) (own_kept1 HO.out) ⟨w.heap.size, 0, none⟩ 1 1 [.int .i64 key, .int .u64 q] (by rfl) (by rfl) ?news ?h1 (by omega) ?h63 ?hbytes ?hbase (w.heap.size + 1) ?hH ?_; (case news => exact cells2_new _ _ _ (by simp)); (case h1 => intro u hu; simp at hu; rcases hu with rfl | rfl <;> rfl); (case h63 => simp only [maxLen]; omega); (case hbytes => omega); (case hbase => have := HBP.out; have := HPW.out; simp; omega); (case hH => simp); intro g1 cap1 w1 ho hg hat hlt; obtain ⟨hp2, hp1, _⟩ := HM.out w1 hg; have HO1 := Aside0.mk ho; have HG1 := Aside0.mk hg; have HA1 := Aside0.mk hat; clear ho hg hat hlt))
    all_goals (go_wp2_with fail; go_meet; exact ⟨pushed_mk HT.out HC.out HO.out HR.out HBP.out HO1.out HG1.out HA1.out⟩)
  case rest =>
    obtain ⟨hcut⟩ := hcut
    obtain ⟨g1, cap1, ht, hb1, hm1, hl1, hk, hB, hg0, hc⟩ := hcut
    have HCC := Aside0.mk hc
    clear hc
    have hc1 := ht.c1
    have hc2 := ht.c2
    have hf2 := ht.free 2
    go_wp2
    have HK := Aside0.mk hk
    have HB := Aside0.mk hB
    have HT2 := Aside0.mk ht
    have HL2 := Aside0.mk hl1
    have HM1 := Aside0.mk hm1
    have HB1 := Aside0.mk hb1
    clear hk hB ht hl1 hm1 hb1 hc1 hc2 hf2
    have hgP : P ≠ g1 := top_ne_lad HT2.out HL2.out
    have HG0 := Aside0.mk hg0
    have HPA := Aside0.mk (HT2.out.ne_cnt HCC.out)
    have HGA := Aside0.mk (HL2.out.ne_cnt HCC.out)
    clear hg0
    go_loopw [4] (fun v4 w2 => ∃ (f j : Nat) (l' : List Rung) (s : Int), v4 = .int .i64 j ∧ j ≤ f ∧ j < l'.length ∧ Aside0 (l'.length = l.length + 1) ∧ Aside0 (upL f l' j = upL l.length (l ++ [(q, key)]) l.length) ∧ Aside0 (Top w2 A P (.slice (some ⟨g1, 0, none⟩) (l.length + 1) cap1) (q + 1)) ∧ Aside0 (Lad w2 g1 cap1 l') ∧ Aside0 (Kept wc w2 (fun k => k = P ∨ k = A ∨ k = g1)) ∧ Aside0 (Below base w w2) ∧ Aside0 (Cnt w2 A s ∧ t ≤ s ∧ s + dig (j + 1) ≤ t + dig (l.length + 1))) (fun v4 _ => (intOf v4).toNat)
    case atStart =>
      exact ⟨l.length, l.length, l ++ [(q, key)], t, rfl, Nat.le_refl _, by simp, ⟨by simp⟩, ⟨rfl⟩, ⟨HT2.out.set2 _⟩, ⟨HL2.out.kept (S := fun k => k = P) ((Kept.refl wc (fun k => k = P)).setCell (.inl rfl) _) (fun e => hgP e.symm)⟩, ⟨(Kept.refl wc _).setCell (.inl (.inl rfl)) _⟩, ⟨HB.out.setCell HBP.out _⟩, ⟨HCC.out.kept (S := fun k => k = P) ((Kept.refl wc (fun k => k = P)).setCell (.inl rfl) _) (fun e => HPA.out e.symm), Int.le_refl _, Int.le_refl _⟩⟩
    case round =>
      clear HT2 HL2 HB
      obtain ⟨f, j, l', s, rfl, hjf, hjl, HLEN, HUP, HT2, HL2, HK2, HB, HS⟩ := hrel
      have hlen := HLEN.out
      have HBW := Aside0.mk (Nat.le_trans (Nat.le_trans HBP.out (Nat.le_of_lt (blk_lt HT.out))) (Nat.le_trans HK.out.1 HK2.out.1))
      by_cases c1 : j = 0
      · subst c1
        clear hlen
        go_wp2_with fail
        go_end0
        refine ⟨rfl, ?_, ?_, ?_, HB.out⟩
        · obtain ⟨xs2, ho2, hr2⟩ := own_of_lad HL2.out HB1.out HM1.out
          rw [← HUP.out, upL_stop]
          exact ⟨_, xs2, HT2.out.len HLEN.out, ho2, hr2⟩
        · exact ⟨s, HS.out.1, HS.out.2.1, by have := HS.out.2.2; omega⟩
        · exact HK.out.then_ HK2.out (fun k hk => by rcases hk with rfl | rfl | rfl; exact .inl (.inl rfl); exact .inl (.inr (.inl rfl)); exact HG0.out)
      · have c1b : decide ((0 : Int) < (j : Int)) = true := decide_eq_true (by omega)
        obtain ⟨f, rfl⟩ : ∃ f', f = f' + 1 := ⟨f - 1, by omega⟩
        obtain ⟨u, hu⟩ : ∃ u, u = (j - 1) / 2 := ⟨_, rfl⟩
        have hdiv : ((j : Int) - 1) / 2 = (u : Int) := by omega
        have huj : u < j := by omega
        have HU := Aside0.mk hu
        clear hu
        have HUL := Aside0.mk (show u < l'.length by omega)
        have HJL := Aside0.mk hjl
        have hjb : j ≤ 100001 := by omega
        have hj0 : 1 ≤ j := by omega
        have HBQ := Aside0.mk hlen
        clear hlen
        cases hb3 : lessB (at_ l' j) (at_ l' u) with
        | true =>
          have HB3 := Aside0.mk hb3
          clear hb3
          go_wp2_with fail
          refine (ahead_hp A base P g1 cap1 _ l' _ s _ _ j u wr rfl (by omega) HLEN.out HS.out.1 HBA.out (by have := HT0.out; have := HS.out.2.1; omega) (by have := HT1.out; have := HS.out.2.2; have := dig_self (l.length + 1); omega) HT2.out HL2.out HJL.out HUL.out true HB3.out).mono ?_
          rintro e w2 ⟨rfl, hc, hk, hb⟩
          have HT3 := Aside0.mk (HT2.out.kept hk HPA.out)
          have HL3 := Aside0.mk (HL2.out.kept hk HGA.out)
          have HK3 := Aside0.mk (HK2.out.then_ hk (fun k h => .inl (.inr (.inl h))))
          have HB4 := Aside0.mk (HB.out.trans hb)
          have HS3 := Aside0.mk (And.intro hc (And.intro (show t ≤ s + 1 by have := HS.out.2.1; omega) HS.out.2.2))
          clear hc hk hb HT2 HL2 HK2 HB HS
          have t1 := HT3.out.c1
          have a0 := HL3.out.key HJL.out
          have a1 := HL3.out.num HJL.out
          have b0 := HL3.out.key HUL.out
          have b1 := HL3.out.num HUL.out
          have fr := HL3.out.free
          have f0 := fr (j * 2)
          have f1 := fr (j * 2 + 1)
          have f3 := fr (u * 2)
          have f4 := fr (u * 2 + 1)
          have q1 : j < l.length + 1 := by have := HBQ.out; have := HJL.out; omega
          have q2 : u < l.length + 1 := by have := HBQ.out; have := HUL.out; omega
          clear fr
          go_wp2_with fail
          go_region
          all_goals
            go_wp2_with fail
            go_roundw
            case rel =>
              refine ⟨f, u, swapAt l' u j, s + 1, rfl, by have := HU.out; omega, by rw [swapAt_length]; exact HUL.out, ⟨by rw [swapAt_length]; exact HLEN.out⟩, ⟨?_⟩, ⟨?_⟩, ⟨?_⟩, ⟨?_⟩, ⟨?_⟩, ⟨?_⟩⟩
              · have e := HU.out
                subst e
                rw [← HUP.out, upL_go c1 HB3.out]
              · exact HT3.out.kept (kept4 g1 w2 _ _ _ _ _ _ _ _) hgP
              · rw [swapAt_comm l' (show u ≠ j by omega)]
                exact (HL3.out.swap j u).drew_
              · exact HK3.out.then_ (kept4 g1 w2 _ _ _ _ _ _ _ _) (fun k hk => .inl (.inr (.inr hk)))
              · exact below_drew1 ((((HB4.out.setCell HB1.out _).setCell HB1.out _).setCell HB1.out _).setCell HB1.out _)
              · exact ⟨HS3.out.1.kept (kept4 g1 w2 _ _ _ _ _ _ _ _) (fun e => HGA.out e.symm), HS3.out.2.1, by have := HS3.out.2.2; have := dig_up (j := j) (by omega) HU.out; omega⟩
            case measure => simp [intOf]; omega
        | false =>
          have HB3 := Aside0.mk hb3
          clear hb3
          go_wp2_with fail
          refine (ahead_hp A base P g1 cap1 _ l' _ s _ _ j u wr rfl (by omega) HLEN.out HS.out.1 HBA.out (by have := HT0.out; have := HS.out.2.1; omega) (by have := HT1.out; have := HS.out.2.2; have := dig_self (l.length + 1); omega) HT2.out HL2.out HJL.out HUL.out false HB3.out).mono ?_
          rintro e w2 ⟨rfl, hc, hk, hb⟩
          have HT3 := Aside0.mk (HT2.out.kept hk HPA.out)
          have HL3 := Aside0.mk (HL2.out.kept hk HGA.out)
          have HK3 := Aside0.mk (HK2.out.then_ hk (fun k h => .inl (.inr (.inl h))))
          have HB4 := Aside0.mk (HB.out.trans hb)
          have HS3 := Aside0.mk (And.intro hc (And.intro (show t ≤ s + 1 by have := HS.out.2.1; omega) HS.out.2.2))
          clear hc hk hb HT2 HL2 HK2 HB HS
          go_wp2_with fail
          refine bodyPost_ret (results_none rfl _ _ _) rfl ⟨rfl, ?_, ?_, ?_, HB4.out⟩
          · obtain ⟨xs2, ho2, hr2⟩ := own_of_lad HL3.out HB1.out HM1.out
            rw [← HUP.out, upL_stay c1 (by rw [← HU.out]; exact HB3.out)]
            exact ⟨_, xs2, HT3.out.len HLEN.out, ho2, hr2⟩
          · exact ⟨s + 1, HS3.out.1, HS3.out.2.1, by have := HS3.out.2.2; have := dig_up (j := j) (by omega) HU.out; omega⟩
          · exact HK.out.then_ HK3.out (fun k hk => by rcases hk with rfl | rfl | rfl; exact .inl (.inl rfl); exact .inl (.inr (.inl rfl)); exact HG0.out)
end Go.Proofs.Ytjjfaiociajikaa.Ask
