/- milllaw10.apart: its walk. -/
import Derived.Test.YtbgabijjnbmghaaApartC
import Derived.Outline
import Derived.Deep.DeepMust
namespace Go.Proofs.Ytbgabijjnbmghaa.P
open Go.RowKit Go.Proofs.YtbgabijjnbmghaaW.PrintWords Go.Proofs.YtbgabijjnbmghaaW.PrintLast Go.Proofs.YtbgabijjnbmghaaW.PrintMore
set_option linter.unusedVariables false
set_option linter.unusedSimpArgs false

set_option maxRecDepth 100000 in
set_option maxHeartbeats 2000000 in
theorem apart_calls (w0 w : World) (base lo hi ga : Nat) (A : Nat → Ans) (out : Nat → Nat → Int) (val : Nat → Nat → Nat → Int) (hB : Below base w0 w) (hlo : base ≤ lo) (hhi : hi ≤ w.heap.size) (hga : hi ≤ ga) (hS : Sep A 6 lo hi) (hT : Top2 w ga A 6) (hP : Pic w A 6 out val) :
    Calls Try.prog 27 #[.slice (some ⟨ga, 0, none⟩) 6 6] w fun e w' => e = .returned (.bool true) ∧ Below base w0 w' := by
  have HB := Aside0.mk hB
  have HS := Aside0.mk hS
  have HT := Aside0.mk hT
  have HP := Aside0.mk hP
  clear hB hS hT hP
  go_enter Try.func27, Try.ntmps27
  go_wp2_with fail
  go_loopw [3] (fun v3 wr => ∃ (i : Nat) (out1 : Nat → Nat → Int) (val1 : Nat → Nat → Nat → Int), v3 = .int .i64 i ∧ i ≤ 6 ∧ Aside0 (Pic wr A 6 out1 val1) ∧ Aside0 (Top2 wr ga A 6) ∧ Aside0 (Done A out1 val1 i 0 0) ∧ Aside0 (hi ≤ wr.heap.size) ∧ Aside0 (Below base w0 wr)) (fun v3 _ => 6 - (intOf v3).toNat)
  case atStart => exact ⟨0, out, val, rfl, by omega, HP, HT, ⟨Done.start _ _ _⟩, ⟨hhi⟩, HB⟩
  case round =>
    clear HP HT HB hhi
    obtain ⟨i, out1, val1, rfl, hi6, HP, HT, HD, HHI, HB⟩ := hrel
    by_cases c1 : i < 6
    · have c1b : decide ((i : Int) < 6) = true := decide_eq_true (by omega)
      have hc1 := HT.out.cell c1
      have hfit := HS.out.fit i c1
      have hL := hfit.few
      have HF := Aside0.mk hfit
      clear hfit
      go_wp2_with fail
      obtain ⟨wo, hwo⟩ : ∃ wo : World, wo = wr := ⟨_, rfl⟩
      go_loopw [4] (fun v4 w2 => ∃ (s : Nat) (out1 : Nat → Nat → Int) (val1 : Nat → Nat → Nat → Int), v4 = .int .i64 s ∧ s ≤ (A i).L ∧ Aside0 (Pic w2 A 6 out1 val1) ∧ Aside0 (Top2 w2 ga A 6) ∧ Aside0 (Done A out1 val1 i s 0) ∧ Aside0 (hi ≤ w2.heap.size) ∧ Aside0 (Below base w0 w2)) (fun v4 _ => (A i).L - (intOf v4).toNat)
      case atStart => exact ⟨0, out1, val1, rfl, Nat.zero_le _, HP, HT, HD, HHI, HB⟩
      case round =>
        clear HP HT HB HD HHI hc1 out1 val1 hwo
        obtain ⟨s, out1, val1, rfl, hs6, HP, HT, HD, HHI, HB⟩ := hrel
        have hc1 := HT.out.cell c1
        by_cases c2 : s < (A i).L
        · have c2b : decide (s < (A i).L) = true := decide_eq_true c2
          have hm := HF.out.short s c2
          have hmK := HF.out.mK s c2
          have hc2 := HP.out.step c1 c2
          go_wp2_with fail
          go_loopw [5] (fun v5 w3 => ∃ (k : Nat) (val1 : Nat → Nat → Nat → Int), v5 = .int .i64 k ∧ k ≤ (A i).m s ∧ Aside0 (Pic w3 A 6 out1 val1) ∧ Aside0 (Top2 w3 ga A 6) ∧ Aside0 (Done A out1 val1 i s k) ∧ Aside0 (hi ≤ w3.heap.size) ∧ Aside0 (Below base w0 w3)) (fun v5 _ => (A i).m s - (intOf v5).toNat)
          case atStart => exact ⟨0, val1, rfl, Nat.zero_le _, HP, HT, HD, HHI, HB⟩
          case round =>
            clear HP HT HB HD HHI hc1 hc2 val1
            obtain ⟨k, val1, rfl, hk6, HP, HT, HD, HHI, HB⟩ := hrel
            have hc1 := HT.out.cell c1
            have hc2 := HP.out.step c1 c2
            by_cases c3 : k < (A i).m s
            · have c3b : decide (k < (A i).m s) = true := decide_eq_true c3
              have hc3 := HP.out.valc c1 c2 c3
              have hf3 := HP.out.free c1 c2 k
              have hne1 : ga ≠ (A i).hb s := by have := (HF.out.hb_in s c2).2; omega
              go_wp2_with fail
              go_roundw
              case rel =>
                refine ⟨k + 1, up3 val1 i s k (VAL i s k), by go_num, by omega, ⟨?_⟩, ⟨?_⟩, ⟨HD.out.place⟩, ⟨by simpa using HHI.out⟩, ⟨?_⟩⟩
                · exact HP.out.setVal HS.out c1 c2 c3 (VAL i s k)
                · exact HT.out.kept (kept_set wr ⟨(A i).hb s, k, none⟩ _) hne1
                · exact HB.out.setCell (show base ≤ (A i).hb s by have := (HF.out.hb_in s c2).1; omega) _
              case measure => simp [intOf]; omega
            · have c3b : decide (k < (A i).m s) = false := decide_eq_false c3
              have hco := HP.out.outc c1 c2
              have hfo := HP.out.freeg c1 (s * 2 + 1)
              go_wp2_with fail
              go_roundw
              case rel =>
                refine ⟨s + 1, up2 out1 i s (OUT i s), val1, by go_num, by omega, ⟨?_⟩, ⟨?_⟩, ⟨HD.out.step (by omega)⟩, ⟨by simpa using HHI.out⟩, ⟨?_⟩⟩
                · exact HP.out.setOut HS.out c1 c2 (OUT i s)
                · exact HT.out.kept (kept_set wr ⟨(A i).g, s * 2 + 1, none⟩ _) (by show ¬ ga = (A i).g; have := HF.out.g_in.2; omega)
                · exact HB.out.setCell (show base ≤ (A i).g by have := HF.out.g_in.1; omega) _
              case measure => simp [intOf]; omega
        · have c2b : decide (s < (A i).L) = false := decide_eq_false c2
          go_wp2_with fail
          go_roundw
          case rel => exact ⟨i + 1, out1, val1, by go_num, by omega, HP, HT, ⟨HD.out.answer (by omega)⟩, HHI, HB⟩
          case measure => simp [intOf]; omega
    · have c1b : decide ((i : Int) < 6) = false := decide_eq_false (by omega)
      have HP2 := Aside0.mk (HP.out.congr (fun i s hi2 hs => HD.out.o1 i s (by omega) hs) (fun i s k hi2 hs hk => HD.out.v1 i s k (by omega) hs hk))
      have hgaw : ga < wr.heap.size := by obtain ⟨c, h1, _⟩ := HT.out; exact blk_lt h1
      go_wp2_with fail
      clear HP HD
      obtain ⟨wo, hwo⟩ : ∃ wo : World, wo = wr := ⟨_, rfl⟩
      subst hwo
      go_loopw [6, 7, 8] (fun v6 v7 v8 w2 => ∃ (i : Nat), v8 = .int .i64 i ∧ i ≤ 6 ∧ Aside0 (Grow w2 A ga wo.heap.size v6 v7 i 0) ∧ Aside0 (Below base w0 w2)) (fun _ _ v8 _ => 6 - (intOf v8).toNat)
      case atStart => exact ⟨0, rfl, by omega, ⟨Grow.start HP2.out HT.out⟩, HB⟩
      case round =>
        clear HP2 HT HB c1 c1b hi6
        obtain ⟨i, rfl, hi6, HG, HB⟩ := hrel
        by_cases c1 : i < 6
        · have c1b : decide ((i : Int) < 6) = true := decide_eq_true (by omega)
          have hc1 := HG.out.top.cell c1
          have hfit := HS.out.fit i c1
          have hL := hfit.few
          have HF := Aside0.mk hfit
          clear hfit
          go_wp2_with fail
          go_loopw [6, 9] (fun v6 v9 w2 => ∃ (s : Nat), v9 = .int .i64 s ∧ s ≤ (A i).L ∧ Aside0 (Grow w2 A ga wo.heap.size v6 u7 i s) ∧ Aside0 (Below base w0 w2)) (fun _ v9 _ => (A i).L - (intOf v9).toNat)
          case atStart => exact ⟨0, rfl, Nat.zero_le _, HG, HB⟩
          case round =>
            clear HG HB hc1
            obtain ⟨s, rfl, hs6, HG, HB⟩ := hrel
            have hc1 := HG.out.top.cell c1
            by_cases c2 : s < (A i).L
            · have c2b : decide (s < (A i).L) = true := decide_eq_true c2
              have hm := HF.out.short s c2
              have hmK := HF.out.mK s c2
              have hc2 := HG.out.pic.step c1 c2
              go_wp2_with fail
              obtain ⟨wq, hwq⟩ : ∃ wq : World, wq = wr := ⟨_, rfl⟩
              subst hwq
              go_loopw [10, 11] (fun v10 v11 w4 => ∃ (k : Nat), v11 = .int .i64 k ∧ k ≤ 70 ∧ Aside0 (App 3 1 lo wq w4 ((A i).hb s) ((A i).m s) ((A i).K s) (CIN A i s) k v10) ∧ Aside0 (Below base w0 w4)) (fun _ v11 _ => 70 - (intOf v11).toNat)
              case atStart =>
                refine ⟨0, rfl, by omega, ⟨?_⟩, HB⟩
                obtain ⟨cells, h1, h2, h3⟩ := (HG.out.pic i c1).ins s c2
                exact App.start (HF.out.hb_in s c2).1 hmK (HF.out.Km s c2) h1 h2 (fun j hj => by rw [h3 j hj]; unfold CIN; rw [if_pos (by omega)])
              case round =>
                clear hc1 hc2 HB
                obtain ⟨k, rfl, hk6, HA, HB⟩ := hrel
                have HLW := Aside0.mk (show lo ≤ wr.heap.size by have := HA.out.kept.1; have := HG.out.size; have := (HF.out.hb_in s c2); have := HHI.out; omega)
                have HLW0 := Aside0.mk (show lo ≤ wo.heap.size by have := (HF.out.hb_in s c2); have := HHI.out; omega)
                have HGW := Aside0.mk (show (A i).hb s < wq.heap.size by have := HG.out.size; have := (HF.out.hb_in s c2); have := HHI.out; omega)
                by_cases c3 : k < 70
                · have c3b : decide ((k : Int) < 70) = true := decide_eq_true (by omega)
                  go_wp2_with ((with_reducible refine gate_builtin (b := .append) (xs := #[.tmp 105, .tmp 114]) rfl ?_); at_builtin; go_must (refine wpList_append2 lo rfl (.tmp 105) (.tmp 114) 22 3 (.int .i64 0) 1 8 rfl Try.underlying22 info3 rfl (by decide) (by omega) u10 ((A i).m s + k) ((List.range (((A i).m s + k) * 1)).map (CIN A i s)) [.int .i64 (-100000 * (i : Int) - 100 * (s : Int) - (k : Int) - 1)] rfl rfl rfl ?h1 ?hO ?hb ?hl ?_; (case h1 => intro u hu; rw [List.mem_singleton.1 hu]; rfl); (case hO => exact HA.out.own); (case hb => exact HLW.out); (case hl => omega); intro v1 w1 ho1 hc1; have HO1 := Aside0.mk ho1; have HC1 := Aside0.mk hc1; clear ho1 hc1))
                  go_roundw
                  case rel =>
                    refine ⟨k + 1, by go_num, by omega, ⟨HA.out.next HGW.out ?_ HO1.out HC1.out⟩, ⟨below_two HB.out (Nat.le_trans hlo HLW.out) (fun b hb => Nat.le_trans hlo (own_base HA.out.own b hb)) HC1.out⟩⟩
                    show _ = [CIN A i s (((A i).m s + k) * 1 + 0)]
                    unfold CIN
                    rw [if_neg (by omega), show ((A i).m s + k) * 1 + 0 - (A i).m s = k by omega]
                  case measure => simp [intOf]; omega
                · have c3b : decide ((k : Int) < 70) = false := decide_eq_false (by omega)
                  have hk70 : k = 70 := by omega
                  subst hk70
                  obtain ⟨hG2, hE⟩ := HG.out.grownIn HS.out HHI.out hga c1 c2 HA.out
                  obtain ⟨b, c, e1, hE2⟩ := id hE
                  subst e1
                  clear hE2
                  obtain ⟨EL, ho6, he6⟩ := hG2.ins
                  have HO6 := Aside0.mk ho6
                  have HE6 := Aside0.mk he6
                  have HG2 := Aside0.mk hG2
                  have HE := Aside0.mk hE
                  have hEl : EL.length ≤ 7000 := by have := he6.len; have := off_le HS.out i (by omega); omega
                  clear ho6 he6 hG2 hE
                  go_wp2_with ((with_reducible refine gate_builtin (b := .append) (xs := #[.tmp 116, .tmp 118]) rfl ?_); at_builtin; go_must (refine wpList_append2 wo.heap.size rfl (.tmp 116) (.tmp 118) 73 22 (.slice none 0 0) 1 24 rfl Try.underlying73 info22 rfl (by decide) (by omega) u6 EL.length EL [.slice (some ⟨b, 0, none⟩) ((A i).m s + 70) c] rfl rfl rfl ?h1 ?hO ?hb ?hl ?_; (case h1 => intro u hu; rw [List.mem_singleton.1 hu]; rfl); (case hO => exact HO6.out); (case hb => exact HG2.out.size); (case hl => omega); intro v1 w1 ho1 hc1; have HO1 := Aside0.mk ho1; have HC1 := Aside0.mk hc1; clear ho1 hc1))
                  go_roundw
                  case rel => exact ⟨s + 1, by go_num, by omega, ⟨HG2.out.laidIn HS.out HHI.out hgaw c1 c2 HE.out HO6.out HE6.out HO1.out (kept_two HC1.out)⟩, ⟨below_two HB.out (Nat.le_trans hlo HLW.out) (fun b hb => by have := own_base HO6.out b hb; have := HLW0.out; omega) HC1.out⟩⟩
                  case measure => simp [intOf]; omega
            · have c2b : decide (s < (A i).L) = false := decide_eq_false c2
              have hsL : s = (A i).L := by omega
              subst hsL
              have hgi := HF.out.g_in
              have hro := HF.out.room
              have HLW0 := Aside0.mk (show lo ≤ wo.heap.size by have := HHI.out; omega)
              go_wp2_with fail
              obtain ⟨wq, hwq⟩ : ∃ wq : World, wq = wr := ⟨_, rfl⟩
              subst hwq
              have HGW := Aside0.mk (show (A i).g < wq.heap.size by have := HG.out.size; have := HHI.out; omega)
              go_loopw [12, 13] (fun v12 v13 w4 => ∃ (k : Nat), v13 = .int .i64 k ∧ k ≤ 20 ∧ Aside0 (App 51 2 lo wq w4 (A i).g (A i).L (A i).cap (COUT A i) k v12) ∧ Aside0 (Below base w0 w4)) (fun _ v13 _ => 20 - (intOf v13).toNat)
              case atStart =>
                refine ⟨0, rfl, by omega, ⟨?_⟩, HB⟩
                obtain ⟨cells, h1, h2, h3⟩ := (HG.out.pic i c1).row
                exact App.start hgi.1 hro HF.out.capm h1 h2 (fun j hj => by rw [h3 j hj]; unfold COUT; rw [if_pos hj])
              case round =>
                clear hc1 HB
                obtain ⟨k, rfl, hk6, HA, HB⟩ := hrel
                have HLW := Aside0.mk (show lo ≤ wr.heap.size by have := HA.out.kept.1; have := HG.out.size; have := HHI.out; omega)
                by_cases c3 : k < 20
                · have c3b : decide ((k : Int) < 20) = true := decide_eq_true (by omega)
                  go_wp2_with ((with_reducible refine gate_builtin (b := .append) (xs := #[.tmp 128, .tmp 134]) rfl ?_); at_builtin; go_must (refine wpList_append2 lo rfl (.tmp 128) (.tmp 134) 23 51 (.agg #[(.slice none 0 0), (.int .i64 0)]) 2 32 rfl Try.underlying23 info51 rfl (by decide) (by omega) u12 ((A i).L + k) ((List.range (((A i).L + k) * 2)).map (COUT A i)) [.slice none 0 0, .int .i64 (1000 * (i : Int) + (k : Int))] rfl rfl rfl ?h1 ?hO ?hb ?hl ?_; (case h1 => intro u hu; simp at hu; rcases hu with rfl | rfl <;> rfl); (case hO => exact HA.out.own); (case hb => exact HLW.out); (case hl => omega); intro v1 w1 ho1 hc1; have HO1 := Aside0.mk ho1; have HC1 := Aside0.mk hc1; clear ho1 hc1))
                  go_roundw
                  case rel =>
                    refine ⟨k + 1, by go_num, by omega, ⟨HA.out.next HGW.out ?_ HO1.out HC1.out⟩, ⟨below_two HB.out (Nat.le_trans hlo HLW.out) (fun b hb => Nat.le_trans hlo (own_base HA.out.own b hb)) HC1.out⟩⟩
                    show _ = [COUT A i (((A i).L + k) * 2 + 0), COUT A i (((A i).L + k) * 2 + 1)]
                    rw [cout_row, cout_out]
                  case measure => simp [intOf]; omega
                · have c3b : decide ((k : Int) < 20) = false := decide_eq_false (by omega)
                  have hk20 : k = 20 := by omega
                  subst hk20
                  obtain ⟨hG2, hE⟩ := HG.out.grownOut HS.out HHI.out hga c1 HA.out
                  obtain ⟨b, c, e1, hE2⟩ := id hE
                  subst e1
                  clear hE2
                  obtain ⟨OL, ho7, he7⟩ := hG2.outs
                  have htop := hG2.top
                  have HO7 := Aside0.mk ho7
                  have HE7 := Aside0.mk he7
                  have HG2 := Aside0.mk hG2
                  have HE := Aside0.mk hE
                  have HTOP := Aside0.mk htop
                  have hOl : OL.length ≤ 6 := by have := he7.len; omega
                  clear ho7 he7 hG2 hE htop
                  go_wp2_with ((with_reducible refine gate_builtin (b := .append) (xs := #[.tmp 136, .tmp 138]) rfl ?_); at_builtin; go_must (refine wpList_append2 wo.heap.size rfl (.tmp 136) (.tmp 138) 49 23 (.slice none 0 0) 1 24 rfl Try.underlying49 info23 rfl (by decide) (by omega) u7 OL.length OL [.slice (some ⟨b, 0, none⟩) ((A i).L + 20) c] rfl rfl rfl ?h1 ?hO ?hb ?hl ?_; (case h1 => intro u hu; rw [List.mem_singleton.1 hu]; rfl); (case hO => exact HO7.out); (case hb => exact HG2.out.size); (case hl => omega); intro v1 w1 ho1 hc1; have HO1 := Aside0.mk ho1; have HC1 := Aside0.mk hc1; clear ho1 hc1))
                  go_roundw
                  case rel => exact ⟨i + 1, by go_num, by omega, ⟨HG2.out.laidOut HS.out HHI.out hgaw c1 HE.out HO7.out HE7.out HO1.out (kept_two HC1.out) (by obtain ⟨c, h1, _⟩ := HTOP.out; exact ⟨c, h1⟩)⟩, ⟨below_two HB.out (Nat.le_trans hlo HLW.out) (fun b hb => by have := own_base HO7.out b hb; have := HLW0.out; omega) HC1.out⟩⟩
                  case measure => simp [intOf]; omega
        · have c1b : decide ((i : Int) < 6) = false := decide_eq_false (by omega)
          have hi66 : i = 6 := by omega
          have HG6 : Aside0 (Grow wr A ga wo.heap.size u6 u7 6 0) := by rw [← hi66]; exact HG
          clear HG hi66
          have HG := HG6
          clear HG6
          obtain ⟨b6, c6, e6, h6⟩ := HG.out.finIn HS.out
          obtain ⟨b7, c7, e7, h7⟩ := HG.out.finOut
          subst e6 e7
          have H6 := Aside0.mk h6
          have H7 := Aside0.mk h7
          clear h6 h7
          go_wp2_with fail
          go_loop [14, 15] (fun v14 v15 => ∃ (i : Nat), v15 = .int .i64 i ∧ i ≤ 6 ∧ v14 = .int .i64 ((off A i : Nat) : Int)) (fun _ v15 => 6 - (intOf v15).toNat)
          case atStart => exact ⟨0, rfl, by omega, rfl⟩
          case round =>
            obtain ⟨i, rfl, hi6, rfl⟩ := hrel
            clear c1 c1b
            by_cases c1 : i < 6
            · have c1b : decide ((i : Int) < 6) = true := decide_eq_true (by omega)
              have hc1 := HG.out.top.cell c1
              have hfit := HS.out.fit i c1
              have hL := hfit.few
              have HF := Aside0.mk hfit
              clear hfit
              go_wp2_with fail
              go_loop [14, 16] (fun v14 v16 => ∃ (s : Nat), v16 = .int .i64 s ∧ s ≤ (A i).L ∧ v14 = .int .i64 ((off A i + s : Nat) : Int)) (fun _ v16 => (A i).L - (intOf v16).toNat)
              case atStart => exact ⟨0, rfl, Nat.zero_le _, rfl⟩
              case round =>
                obtain ⟨s, rfl, hs6, rfl⟩ := hrel
                by_cases c2 : s < (A i).L
                · have c2b : decide (s < (A i).L) = true := decide_eq_true c2
                  have hm := HF.out.short s c2
                  have hmK := HF.out.mK s c2
                  have hc2 := HG.out.pic.step c1 c2
                  have hco : wr.cell? ⟨(A i).g, s * 2 + 1, none⟩ = some (.int .i64 (-1000 * (i : Int) - (s : Int) - 1)) := HG.out.pic.outc c1 c2
                  have hat := off_lt A c1 c2
                  have hoff := off_le HS.out i (by omega)
                  obtain ⟨b, c, hb1, hb2⟩ := H6.out i s c1 c2
                  have HB2 := Aside0.mk hb2
                  clear hb2
                  go_wp2_with fail
                  go_loop [18] (fun v18 => ∃ (k : Nat), v18 = .int .i64 k ∧ k ≤ (A i).m s + 70) (fun v18 => (A i).m s + 70 - (intOf v18).toNat)
                  case atStart => exact ⟨0, rfl, Nat.zero_le _⟩
                  case round =>
                    obtain ⟨k, rfl, hk6⟩ := hrel
                    by_cases c3 : k < (A i).m s + 70
                    · have c3b : decide ((k : Int) < ((A i).m s : Int) + 70) = true := decide_eq_true (by omega)
                      have hck := HB2.out k c3
                      by_cases c4 : k < (A i).m s
                      · have c4b : decide (k < (A i).m s) = true := decide_eq_true c4
                        have c4d : decide ((A i).m s ≤ k) = false := decide_eq_false (by omega)
                        have hcv : wr.cell? ⟨(A i).hb s, k, none⟩ = some (.int .i64 (100000 * (i : Int) + 100 * (s : Int) + (k : Int))) := HG.out.pic.valc c1 c2 c4
                        clear hck
                        go_wp2_with fail
                        go_round
                        case rel => exact ⟨k + 1, by go_num, by omega⟩
                        case measure => simp [intOf]; omega
                      · have c4b : decide (k < (A i).m s) = false := decide_eq_false c4
                        have c4d : decide ((A i).m s ≤ k) = true := decide_eq_true (by omega)
                        rw [cin_new A c4] at hck
                        go_wp2_with fail
                        go_round
                        case rel => exact ⟨k + 1, by go_num, by omega⟩
                        case measure => simp [intOf]; omega
                    · have c3b : decide ((k : Int) < ((A i).m s : Int) + 70) = false := decide_eq_false (by omega)
                      go_wp2_with fail
                      go_round
                      case rel => exact ⟨s + 1, by go_num, by omega, by go_num⟩
                      case measure => simp [intOf]; omega
                · have c2b : decide (s < (A i).L) = false := decide_eq_false c2
                  have hsL : s = (A i).L := by omega
                  subst hsL
                  obtain ⟨b, c, hb1, hb2⟩ := H7.out i c1
                  have HB2 := Aside0.mk hb2
                  clear hb2
                  go_wp2_with fail
                  go_loop [20] (fun v20 => ∃ (k : Nat), v20 = .int .i64 k ∧ k ≤ 20) (fun v20 => 20 - (intOf v20).toNat)
                  case atStart => exact ⟨0, rfl, Nat.zero_le _⟩
                  case round =>
                    obtain ⟨k, rfl, hk6⟩ := hrel
                    by_cases c3 : k < 20
                    · have c3b : decide ((k : Int) < 20) = true := decide_eq_true (by omega)
                      have hck := HB2.out k c3
                      go_wp2_with fail
                      go_round
                      case rel => exact ⟨k + 1, by go_num, by omega⟩
                      case measure => simp [intOf]; omega
                    · have c3b : decide ((k : Int) < 20) = false := decide_eq_false (by omega)
                      go_wp2_with fail
                      go_round
                      case rel => exact ⟨i + 1, by go_num, by omega, rfl⟩
                      case measure => simp [intOf]; omega
            · have c1b : decide ((i : Int) < 6) = false := decide_eq_false (by omega)
              go_wp2_with fail
              go_ret
              exact ⟨rfl, HB.out⟩
end Go.Proofs.Ytbgabijjnbmghaa.P
