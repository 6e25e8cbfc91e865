/- RunsAsks answers true, whatever comes in. Several texts of this claim in one (the limit of files): YtjjfaiociajikaaAskF, YtjjfaiociajikaaAskG, YtjjfaiociajikaaLawRunsAsks. -/
import Derived.Test.YtjjfaiociajikaaAskC
import Derived.Test.YtjjfaiociajikaaAskD
import Derived.Test.YtjjfaiociajikaaAskE
import Derived.Test.YtjjfaiociajikaaRows
import Derived.WalkKit
import Derived.ProofKit
import Derived.OpenShut
import Derived.ShutString
import Derived.ChangeOld
import Derived.Below
import Derived.SizedLaws
import Derived.Test.YtjjfaiociajikaaWSized
/- RunsAsks: the walk of digits. -/
namespace Go.Proofs.Ytjjfaiociajikaa.Ask
open Go.RowKit Go.Proofs.YtjjfaiociajikaaW.PrintWords
set_option linter.unusedVariables false
set_option linter.unusedSimpArgs false

theorem digits_any (n : Nat) (hn : n ≤ 100000) (w : World) : Calls Try.prog 16 #[.int .i64 n] w fun e w' => e = .returned (.int .i64 (dig n)) ∧ w = w' := by
  have HN := Aside0.mk hn
  have HD := Aside0.mk (dig_self n)
  go_enter Try.func16, Try.ntmps16
  go_wp2_with fail
  go_loopw [0, 3] (fun v0 v3 w9 => ∃ (m k : Nat), v0 = .int .i64 m ∧ v3 = .int .i64 k ∧ m ≤ n ∧ Aside0 (k + dig m = dig n) ∧ w9 = w) (fun v0 _ _ => (intOf v0).toNat)
  case atStart => exact ⟨n, 0, rfl, rfl, Nat.le_refl _, ⟨Nat.zero_add _⟩, rfl⟩
  case round =>
    obtain ⟨m, k, rfl, rfl, hm, HK, rfl⟩ := hrel
    have hk : k ≤ 100000 := by have := HK.out; have := HD.out; have := HN.out; omega
    by_cases c : 0 < m
    · have cb : decide (0 < (m : Int)) = true := decide_eq_true (by omega)
      obtain ⟨u, hu⟩ : ∃ u, u = m / 2 := ⟨_, rfl⟩
      have hdiv : (m : Int) / 2 = (u : Int) := by omega
      have HU := Aside0.mk hu
      have hum : u < m := by omega
      clear hu
      have HM := Aside0.mk (dig_pos c)
      have HC := Aside0.mk c
      go_wp2_with fail
      go_roundw
      case rel => exact ⟨u, k + 1, by go_num, by go_num, by omega, ⟨by have := HK.out; have := HM.out; rw [← HU.out] at this; omega⟩, by first | rfl | trivial⟩
      case measure => simp [intOf]; have := HC.out; omega
    · have cb : decide (0 < (m : Int)) = false := decide_eq_false (by omega)
      obtain rfl : m = 0 := by omega
      have HR := Aside0.mk (show k = dig n by have := HK.out; rw [show dig 0 = 0 by simp [dig]] at this; omega)
      go_wp2_with fail
      go_ret
      exact ⟨by rw [HR.out]; rfl, rfl⟩
end Go.Proofs.Ytjjfaiociajikaa.Ask
/- RunsAsks: the walk. -/
namespace Go.Proofs.Ytjjfaiociajikaa.Ask
open Go.RowKit Go.Proofs.YtjjfaiociajikaaW.PrintWords
set_option linter.unusedVariables false
set_option linter.unusedSimpArgs false

/-- between rounds -/
structure St (w wx : World) (A P : Nat) (q t : Int) (l : List Rung) : Prop where
  hp : Hp wx A P w.heap.size q l
  cnt : Cnt wx A t
  below : Below w.heap.size w wx
  lowP : w.heap.size ≤ P
  lowA : w.heap.size ≤ A
  heap : IsHeap l
section
variable {w wx : World} {A P n : Nat} {q t : Int} {l : List Rung}
theorem Len_x (h : St w wx A P q t l) (hn : l.length = n) : Calls Try.prog 14 #[.pointer (some ⟨P, 0, none⟩)] wx fun e w' => e = .returned (.int .i64 n) ∧ wx = w' := by
  subst hn
  obtain ⟨v, xs, ht, ho, hr⟩ := h.hp
  obtain ⟨B, c, rfl⟩ := own_slice ho
  exact Len_any A P B l.length c q wx ht
theorem Peek_x (h : St w wx A P q t l) : Calls Try.prog 18 #[.pointer (some ⟨P, 0, none⟩)] wx fun e w' => ∃ x b, e = .returned (.tuple #[.int .i64 x, .bool b]) ∧ wx = w' := by
  obtain ⟨v, xs, ht, ho, hr⟩ := h.hp
  by_cases h0 : 0 < l.length
  · obtain ⟨g, cap, rfl, _, _, hl⟩ := lad_of_own ho rfl hr h0
    refine (Peek_some A P g cap l.length l q wx ht rfl hl h0).mono ?_
    rintro e w' ⟨rfl, rfl⟩
    exact ⟨_, _, rfl, rfl⟩
  · obtain rfl : l = [] := List.eq_nil_of_length_eq_zero (by omega)
    obtain ⟨B, c, rfl⟩ := own_slice ho
    refine (Peek_none A P B c q wx ht).mono ?_
    rintro e w' ⟨rfl, rfl⟩
    exact ⟨_, _, rfl, rfl⟩
theorem Push_x (h : St w wx A P q t l) (key : Int) (ht0 : 0 ≤ t) (ht1 : t ≤ 100000000) (hl : l.length ≤ 100000) (hq0 : 0 ≤ q) (hq : q ≤ 100000) : Calls Try.prog 15 #[.pointer (some ⟨P, 0, none⟩), .int .i64 key] wx fun e w' => e = .returned (.tuple #[]) ∧ ∃ t', t ≤ t' ∧ t' ≤ t + dig (l.length + 1) ∧ St w w' A P (q + 1) t' (upL l.length (l ++ [(q, key)]) l.length) := by
  obtain ⟨v, xs, ht, ho, hr⟩ := h.hp
  refine (Push_v A P w.heap.size v q key t l xs wx ht h.cnt h.lowA ht0 ht1 h.lowP ho hr hl hq0 hq).mono ?_
  rintro e w' ⟨rfl, hh, ⟨t', hc, h1, h2⟩, hk, hb⟩
  exact ⟨rfl, t', h1, h2, hh, hc, h.below.trans hb, h.lowP, h.lowA, push_heap h.heap _⟩
theorem Pop_0 (h : St w wx A P q t l) (hl : l.length = 0) : Calls Try.prog 17 #[.pointer (some ⟨P, 0, none⟩)] wx fun e w' => e = .returned (.tuple #[.int .i64 0, .bool false]) ∧ wx = w' := by
  obtain rfl : l = [] := List.eq_nil_of_length_eq_zero hl
  obtain ⟨v, xs, ht, ho, hr⟩ := h.hp
  obtain ⟨B, c, rfl⟩ := own_slice ho
  exact Pop_none A P B c q wx ht
theorem Pop_x (h : St w wx A P q t l) (ht0 : 0 ≤ t) (ht1 : t ≤ 100000000) (hn : l.length = n + 1) (hn2 : n ≤ 100000) : Calls Try.prog 17 #[.pointer (some ⟨P, 0, none⟩)] wx fun e w' => e = .returned (.tuple #[.int .i64 (at_ l 0).2, .bool true]) ∧ ∃ t', t ≤ t' ∧ t' ≤ t + 2 * dig (n + 1) ∧ St w w' A P q t' ((popL l).take n) := by
  obtain ⟨v, xs, ht, ho, hr⟩ := h.hp
  obtain ⟨g, cap, rfl, hb, hm, hl⟩ := lad_of_own ho rfl hr (by omega)
  refine (Pop_some A P w.heap.size g cap n l q t wx (ht.len hn.symm) hl h.cnt h.lowA ht0 ht1 hn hn2 hm h.lowP hb).mono ?_
  rintro e w' ⟨rfl, hh, ⟨t', hc, h1, h2⟩, hk, hB⟩
  have h3 := popL_heap h.heap (show l.length ≠ 0 by omega)
  rw [show l.length - 1 = n by omega] at h3
  exact ⟨rfl, t', h1, by omega, hh, hc, h.below.trans hB, h.lowP, h.lowA, h3⟩
theorem digits_x (a : Int) (n : Nat) (e : a = n) (hn : n ≤ 100000) (w : World) : Calls Try.prog 16 #[.int .i64 a] w fun e w' => e = .returned (.int .i64 (dig n)) ∧ w = w' := by
  subst e
  exact digits_any n hn w
theorem start_st (w : World) : St w ((w.alloc (.cells #[.int .i64 0] 3)).alloc (.cells #[askF w.heap.size, .slice none 0 0, .int .u64 0] 53)) w.heap.size (w.heap.size + 1) 0 0 [] :=
  ⟨⟨_, [], by have := Go.heap_alloc_new (w.alloc (.cells #[.int .i64 0] 3)) (.cells #[askF w.heap.size, .slice none 0 0, .int .u64 0] 53); rwa [show (w.alloc (.cells #[.int .i64 0] 3)).heap.size = w.heap.size + 1 by simp] at this, own_nil _ _ _ _, ⟨rfl, fun i x h => by simp at h⟩⟩,
    blk_alloc (Go.heap_alloc_new w (.cells #[.int .i64 0] 3)) _, below_alloc (below_alloc (Below.refl _ _) _) _, Nat.le_succ _, Nat.le_refl _, fun j h1 h2 _ => absurd h2 (Nat.not_lt_zero _)⟩
theorem least_one (h : IsHeap l) (q : Int) : (at_ (upL l.length (l ++ [(q, 1)]) l.length) 0).2 ≤ 1 := by
  have h1 := push_heap h (q, 1)
  have h2 := push_perm l (q, 1)
  have hm : (q, (1 : Int)) ∈ upL l.length (l ++ [(q, 1)]) l.length := h2.mem_iff.2 (List.mem_cons_self ..)
  obtain ⟨j, hj, e⟩ := List.getElem_of_mem hm
  have e1 := at_of_lt hj
  rw [List.getElem?_eq_getElem hj, e] at e1
  injection e1 with e1
  have h3 := heap_min h1 j hj
  rw [← e1] at h3
  unfold le at h3
  rcases h3 with h3 | h3
  · exact Int.le_of_lt h3
  · exact Int.le_of_eq h3.1
end
theorem asks_far (A0 : Option Addr) (c0 : Nat) (l0 : List Int) (w : World) (h1 : 2000 < l0.length) :
    Calls Try.prog 4 #[.slice A0 l0.length c0] w fun e w' => e = .returned (.bool true) ∧ Below w.heap.size w w' := by
  have c1 : decide (2000 < (l0.length : Int)) = true := decide_eq_true (by omega)
  go_enter Try.func4, Try.ntmps4
  go_wp2_with fail
  go_ret
  exact ⟨rfl, Below.refl _ _⟩
set_option maxRecDepth 100000 in
set_option maxHeartbeats 4000000 in
theorem asks_true (A0 : Option Addr) (c0 : Nat) (l0 : List Int) (w : World) (hr0 : Kd.C (Kd.int .i64) w A0 l0.length l0) (hc0 : l0.length ≤ c0) :
    Calls Try.prog 4 #[.slice A0 l0.length c0] w fun e w' => e = .returned (.bool true) ∧ Below w.heap.size w w' := by
  by_cases h1 : 2000 < l0.length
  · exact asks_far A0 c0 l0 w h1
  have c1 : decide (2000 < (l0.length : Int)) = false := decide_eq_false (by omega)
  have HR0 := Aside0.mk hr0
  clear hr0
  have hmf : ∀ (fn : Fn) (first cap : Array Value) (w : World), (Instr.makeFunc fn first cap).run Try.prog w = .ok (.func fn first cap) w := fun _ _ _ _ => rfl
  go_enter Try.func4, Try.ntmps4
  go_wp2_with fail
  refine (new_any _ _).mono ?_
  rintro e w1 ⟨rfl, rfl⟩
  go_wp2_with fail
  refine (num_any _ _).mono ?_
  rintro e w1 ⟨rfl, rfl⟩
  go_wp2_with fail
  generalize hP : w.heap.size + 1 = P at *
  have HP := Aside0.mk hP
  clear hP
  generalize hA : w.heap.size = A at *
  have HA := Aside0.mk hA
  clear hA
  go_loopw [6] (fun v6 w9 => ∃ (i q : Nat) (t : Int) (l : List Rung), v6 = .int .i64 i ∧ i ≤ l0.length ∧ Aside0 (q ≤ i) ∧ Aside0 (l.length ≤ i) ∧ Aside0 (0 ≤ t ∧ t ≤ 6000 * (i : Int)) ∧ Aside0 (St w w9 A P q t l)) (fun v6 _ => l0.length - (intOf v6).toNat)
  case atStart => exact ⟨0, 0, 0, [], rfl, Nat.zero_le _, ⟨Nat.le_refl _⟩, ⟨Nat.le_refl _⟩, ⟨by omega⟩, ⟨by rw [← HP.out, ← HA.out]; exact start_st w⟩⟩
  case round =>
    obtain ⟨i, q, t, l, rfl, hi, HQ, HL, HTT, HST⟩ := hrel
    have z0 := HST.out.cnt.c0
    have hl1 := HL.out
    by_cases d2 : i < l0.length
    · have d2b : decide ((i : Int) < (l0.length : Int)) = true := decide_eq_true (by omega)
      have HI := Aside0.mk (show i + 1 ≤ l0.length from d2)
      have HI2 := Aside0.mk (show i ≤ 2000 by omega)
      obtain ⟨ad, e, hx⟩ := Kd.at_int (Kd.C_below HR0.out HST.out.below) (i : Int) (by omega) (by omega)
      cases e
      rw [Int.toNat_natCast] at hx
      go_wp2_with fail
      refine (Len_x HST.out rfl).mono ?_
      rintro e w2 ⟨rfl, rfl⟩
      by_cases d3 : 0 ≤ rd l0 (i : Int)
      · have d3b : decide (0 ≤ rd l0 (i : Int)) = true := decide_eq_true d3
        go_wp2_with fail
        refine (Push_x HST.out (rd l0 (i : Int)) HTT.out.1 (by have := HTT.out; have := HI2.out; omega) (by have := HL.out; have := HI2.out; omega) (by omega) (by have := HQ.out; have := HI2.out; omega)).mono ?_
        rintro e w3 ⟨rfl, t2, ht1, ht2, hs⟩
        have HS2 := Aside0.mk hs
        have HT2 := Aside0.mk (And.intro ht1 ht2)
        have HDG := Aside0.mk (show dig (l.length + 1) ≤ 2001 by have := dig_self (l.length + 1); have := HL.out; have := HI2.out; omega)
        clear hs ht1 ht2
        go_wp2_with fail
        refine (digits_x _ (l.length + 1) (by omega) (by have := HL.out; have := HI2.out; omega) _).mono ?_
        rintro e w4 ⟨rfl, rfl⟩
        have z1 := HS2.out.cnt.c0
        have zb : decide (4 * (dig (l.length + 1) : Int) < t2 - t) = false := decide_eq_false (by have := HT2.out; omega)
        have zt : t2 - t ≤ 100000 ∧ -100000 ≤ t2 - t := by have := HT2.out; have := HDG.out; omega
        obtain ⟨zt1, zt2⟩ := zt
        have zd := HDG.out
        go_wp2_with fail
        refine (Peek_x HS2.out).mono ?_
        rintro e w5 ⟨x5, b5, rfl, rfl⟩
        go_wp2_with fail
        refine (Len_x HS2.out rfl).mono ?_
        rintro e w5 ⟨rfl, rfl⟩
        go_wp2_with fail
        go_roundw
        case rel => exact ⟨i + 1, q + 1, t2, _, by go_num, HI.out, ⟨by have := HQ.out; omega⟩, ⟨by rw [upL_length]; simp; have := HL.out; omega⟩, ⟨by have := HT2.out; have := HTT.out; have := HDG.out; omega⟩, HS2⟩
        case measure => simp [intOf]; have := HI.out; omega
      · have d3b : decide (0 ≤ rd l0 (i : Int)) = false := decide_eq_false d3
        rcases Nat.eq_zero_or_pos l.length with e0 | e0
        · have HE0 := Aside0.mk e0
          clear e0
          go_wp2_with fail
          refine (Pop_0 HST.out HE0.out).mono ?_
          rintro e w3 ⟨rfl, rfl⟩
          obtain ⟨t2, ht2⟩ : ∃ t2, t2 = t := ⟨_, rfl⟩
          have HS2 := Aside0.mk (show St w wr A P q t2 l by rw [ht2]; exact HST.out)
          have HT2 := Aside0.mk (show t ≤ t2 ∧ t2 ≤ t + 2 * dig l.length by rw [ht2]; omega)
          have HDG := Aside0.mk (show dig l.length ≤ 2001 by have := dig_self l.length; have := HL.out; have := HI2.out; omega)
          clear ht2 z0
          go_wp2_with fail
          refine (digits_x _ l.length rfl (by have := HL.out; have := HI2.out; omega) _).mono ?_
          rintro e w4 ⟨rfl, rfl⟩
          have z1 := HS2.out.cnt.c0
          have zb : decide (4 * (dig (l.length) : Int) < t2 - t) = false := decide_eq_false (by have := HT2.out; omega)
          have zt : t2 - t ≤ 100000 ∧ -100000 ≤ t2 - t := by have := HT2.out; have := HDG.out; omega
          obtain ⟨zt1, zt2⟩ := zt
          have zd := HDG.out
          go_wp2_with fail
          refine (Peek_x HS2.out).mono ?_
          rintro e w5 ⟨x5, b5, rfl, rfl⟩
          go_wp2_with fail
          refine (Len_x HS2.out rfl).mono ?_
          rintro e w5 ⟨rfl, rfl⟩
          go_wp2_with fail
          go_roundw
          case rel => exact ⟨i + 1, q, t2, _, by go_num, HI.out, ⟨by have := HQ.out; omega⟩, ⟨by have := HL.out; omega⟩, ⟨by have := HT2.out; have := HTT.out; have := HDG.out; omega⟩, HS2⟩
          case measure => simp [intOf]; have := HI.out; omega
        · obtain ⟨n, hn⟩ : ∃ n, l.length = n + 1 := ⟨l.length - 1, by omega⟩
          have HN := Aside0.mk hn
          clear hn e0
          go_wp2_with fail
          refine (Pop_x HST.out HTT.out.1 (by have := HTT.out; have := HI2.out; omega) HN.out (by have := HN.out; have := HL.out; have := HI2.out; omega)).mono ?_
          rintro e w3 ⟨rfl, t2, ht1, ht2, hs⟩
          have HS2 := Aside0.mk hs
          have HT2 := Aside0.mk (show t ≤ t2 ∧ t2 ≤ t + 2 * dig l.length by rw [HN.out]; exact ⟨ht1, ht2⟩)
          have HDG := Aside0.mk (show dig l.length ≤ 2001 by have := dig_self l.length; have := HL.out; have := HI2.out; omega)
          clear hs ht1 ht2
          go_wp2_with fail
          refine (digits_x _ l.length rfl (by have := HL.out; have := HI2.out; omega) _).mono ?_
          rintro e w4 ⟨rfl, rfl⟩
          have z1 := HS2.out.cnt.c0
          have zb : decide (4 * (dig (l.length) : Int) < t2 - t) = false := decide_eq_false (by have := HT2.out; omega)
          have zt : t2 - t ≤ 100000 ∧ -100000 ≤ t2 - t := by have := HT2.out; have := HDG.out; omega
          obtain ⟨zt1, zt2⟩ := zt
          have zd := HDG.out
          go_wp2_with fail
          refine (Peek_x HS2.out).mono ?_
          rintro e w5 ⟨x5, b5, rfl, rfl⟩
          go_wp2_with fail
          refine (Len_x HS2.out rfl).mono ?_
          rintro e w5 ⟨rfl, rfl⟩
          go_wp2_with fail
          go_roundw
          case rel => exact ⟨i + 1, q, t2, _, by go_num, HI.out, ⟨by have := HQ.out; omega⟩, ⟨by rw [List.length_take]; have := HL.out; have := HN.out; omega⟩, ⟨by have := HT2.out; have := HTT.out; have := HDG.out; omega⟩, HS2⟩
          case measure => simp [intOf]; have := HI.out; omega
    · have d2b : decide ((i : Int) < (l0.length : Int)) = false := decide_eq_false (by omega)
      have HI2 := Aside0.mk (show i ≤ 2000 by omega)
      go_wp2_with fail
      refine (Push_x HST.out 1 HTT.out.1 (by have := HTT.out; have := HI2.out; omega) (by have := HL.out; have := HI2.out; omega) (by omega) (by have := HQ.out; have := HI2.out; omega)).mono ?_
      rintro e w3 ⟨rfl, t2, ht1, ht2, hs⟩
      have HS2 := Aside0.mk hs
      have HT2 := Aside0.mk (show 0 ≤ t2 ∧ t2 ≤ 100000000 by have := HTT.out; have := HI2.out; have := dig_self (l.length + 1); have := HL.out; omega)
      have HLE := Aside0.mk (least_one HST.out.heap q)
      clear hs ht1 ht2
      go_wp2_with fail
      refine (Pop_x (n := l.length) HS2.out HT2.out.1 HT2.out.2 (by rw [upL_length]; simp) (by have := HL.out; have := HI2.out; omega)).mono ?_
      rintro e w4 ⟨rfl, t3, _, _, hs⟩
      have HS3 := Aside0.mk hs
      clear hs
      generalize (at_ (upL l.length (l ++ [((q : Int), 1)]) l.length) 0).2 = x0 at *
      have HX := Aside0.mk (show decide (x0 ≤ 1) = true from decide_eq_true HLE.out)
      have hx := HX.out
      go_wp2_with fail
      go_ret
      exact ⟨by simp, HS3.out.below⟩
end Go.Proofs.Ytjjfaiociajikaa.Ask
/- RunsAsks answers true, whatever comes in: from the printed row of RunsAsks, turned by hand. -/
namespace Go.Proofs.Ytjjfaiociajikaa.runsAsks
open Go.ChangeShapes Go.WideShapes Go.ChangeAt Go.RowKit Go.Proofs.YtjjfaiociajikaaW.PrintWords
open Go.ChangeMaps (open_string shut_string)
set_option linter.unusedVariables false
theorem own : ownKnob Try.prog.godebug = none := by kernel_rfl
theorem laidOut : laidOutB Try.prog = true := by kernel_rfl
def IsRow (k : IntKind) (w : World) (a : Option Addr) (len cap : Nat) (zs : List Int) : Prop :=
  (a = none ∧ len = 0 ∧ cap = 0 ∧ zs = []) ∨
  ∃ x, a = some x ∧ len ≤ cap ∧ cap ≤ maxLen ∧ zs.length = cap ∧ (∀ i, i < zs.length → w.cell? (x.add i) = some (.int k (zs.getD i 0))) ∧ ∀ n ∈ zs, (Lit.int k n).wf = true
set_option maxRecDepth 100000 in
theorem lifted (os : Os) (started : os.Started) (H : Type) (enc : TypeId × Value → H) :
    ReturnsInHanded {} Try.checked os 4 .any (Rows.runsAsksSpec.pre6 enc Try.prog Try.f4 Rows.runsAsksRow.domain false) (Rows.runsAsksSpec.post enc Try.prog Try.f4 false true false false) := by
  refine returnsInHanded_of_change_sized (C := Try.checked) own started (by kernel_rfl) Try.func4
    (ChangeSpec.witness6 (enc := enc) (C := Try.checked) false ⟨#[], #[.slice none 0 0], []⟩ 8 (by kernel_rfl) (by kernel_rfl) (by kernel_rfl) (by kernel_rfl)) ?_
  intro W base args ds gs before hval0 hW hcnd hsz0 _
  have hsz : (DataW.weightsEach Try.prog (Try.f4.params.toList ++ Rows.runsAsksSpec.plain.varTypes Try.prog) (ds ++ gs)).all (· ≤ reachBytes) = true := hsz0
  have hval : ∀ (j : Nat) t v, Try.f4.params[j]? = some t → args[j]? = some v → Value.okWide Try.prog W .any base t v := hval0
  have hW' := hW
  obtain ⟨p, q, hA0, hV, rfl, hfz, hnd⟩ := hW
  have hA : DataW.TrodAll enc Try.prog W 0 (fun _ => true) true Try.f4.params.toList args.toList ds p := hA0
  rw [Try.params4] at hA hval hsz
  obtain ⟨v0, vs0, d0, ds0, p0, q0, hargs, rfl, rfl, h0, r0⟩ := trodAll_cons hA
  obtain ⟨rfl, rfl, rfl⟩ := trodAll_nil r0
  obtain rfl : args = #[v0] := by cases args; simp_all
  obtain ⟨rfl, rfl⟩ := trodVars_none hV
  obtain ⟨a0, len0, cap0, rfl⟩ := okWide_slice Try.underlying22 (hval 0 22 v0 rfl rfl)
  have k0 := h0
  have lt0 : ∀ x ∈ p0, x.block < W.heap.size := by obtain ⟨m, hm⟩ := k0; exact DataW.trod_lt m _ _ _ hm
  obtain ⟨z0, w0⟩ : ∃ zs, IsRow .i64 W a0 len0 cap0 zs := by
    obtain ⟨fuel, hf⟩ := h0
    rcases open_ints Try.underlying22 Try.underlying3 (by kernel_rfl) hf with ⟨hcs, _⟩ | ⟨x, l, c, zs, hcs, _, hl, hm, hz, _, hcell, hwz⟩
    · simp [Value.cells] at hcs
      obtain ⟨rfl, rfl, rfl⟩ := hcs
      exact ⟨[], .inl ⟨rfl, rfl, rfl, rfl⟩⟩
    · simp [Value.cells] at hcs
      obtain ⟨rfl, rfl, rfl⟩ := hcs
      exact ⟨zs, .inr ⟨_, rfl, hl, hm, by simpa using hz, hcell, hwz⟩⟩
  have y0 : len0 * 8 ≤ 140737488351232 := Go.Proofs.YtjjfaiociajikaaW.PrintWords.sized_ints hsz (j := 0) (t := 22) rfl rfl Try.underlying22 Try.underlying3 (by kernel_rfl) (by kernel_rfl) h0
  clear hA0 hval0 hsz0 hsz
  obtain ⟨l0, rfl, hr0, hm0, hw0, hc0⟩ := ReadsInt.ofRowC w0
  refine (Ask.asks_true _ _ l0 W (Kd.C_of_reads (d := (0 : Int)) (h1 := fun _ => rfl) hr0) hc0).mono fun e W' ⟨he, bel⟩ => ?_
  subst he
  exact ⟨_, rfl, _, _, _, [], _, [], hW', trodAll_mk1 (shut_bool Try.underlying4 _), (trodAll_cons_mk (Below.trod laidOut (by kernel_rfl) (of_decide_eq_true (by kernel_rfl)) k0 bel lt0) trodAll_mk0), rfl, bel.frame _, fun h => by cases h⟩
theorem over : Rows.runsAsksRow.holds Try.pinned (OpenSpec.ofChange Rows.runsAsksSpec) :=
  OpenClaim.holds_of_wide 4 Try.f4 rfl rfl rfl rfl rfl rfl rfl ⟨rfl, rfl, rfl, rfl, rfl⟩ rfl rfl rfl rfl rfl (by kernel_rfl) Try.func4 (by kernel_rfl)
    (of_decide_eq_true (by kernel_rfl)) (by unfold Func.isWrapper; first | (rw [if_pos (by decide +kernel)]; kernel_rfl) | (rw [if_neg (by decide +kernel)]; exact ⟨rfl, rfl⟩))
    (fun os started H enc _ => lifted os started H enc)
theorem proved : Rows.RunsAsksSaid := over
#print axioms proved
end Go.Proofs.Ytjjfaiociajikaa.runsAsks
namespace Go.Proofs.Ytjjfaiociajikaa
/-- The row, under a short name, for the claim. -/
theorem runsAsks_holds : Rows.RunsAsksSaid := runsAsks.proved
end Go.Proofs.Ytjjfaiociajikaa
