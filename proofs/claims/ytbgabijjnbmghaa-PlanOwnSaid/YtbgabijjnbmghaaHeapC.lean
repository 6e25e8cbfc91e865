/- The walks of container/heap over a *plan.ladder: up, Init, Pop, Push. -/
import Derived.Test.YtbgabijjnbmghaaHeapB
namespace Go.Proofs.Ytbgabijjnbmghaa
open Go.RowKit Go.Proofs.YtbgabijjnbmghaaW.PrintWords
set_option linter.unusedVariables false
set_option linter.unusedSimpArgs false

def upL : Nat → List Rung → Nat → List Rung
  | 0, l, _ => l
  | f + 1, l, j => if j = 0 then l else if lessB (at_ l j) (at_ l ((j - 1) / 2)) = true then upL f (swapAt l ((j - 1) / 2) j) ((j - 1) / 2) else l
theorem upL_stop (f : Nat) (l : List Rung) : upL f l 0 = l := by
  cases f with
  | zero => rfl
  | succ f => rw [upL, if_pos rfl]
theorem upL_go {f : Nat} {l : List Rung} {j : Nat} (h : ¬ j = 0) (h2 : lessB (at_ l j) (at_ l ((j - 1) / 2)) = true) : upL (f + 1) l j = upL f (swapAt l ((j - 1) / 2) j) ((j - 1) / 2) := by
  rw [upL, if_neg h, if_pos h2]
theorem upL_stay {f : Nat} {l : List Rung} {j : Nat} (h : ¬ j = 0) (h2 : lessB (at_ l j) (at_ l ((j - 1) / 2)) = false) : upL (f + 1) l j = l := by
  rw [upL, if_neg h, if_neg (by simp [h2])]
/-- Init's rounds: i - 1, .., 0 -/
def initL (n : Nat) : Nat → List Rung → List Rung
  | 0, l => l
  | i + 1, l => initL n i (downL n (n - i) l i)
theorem downL_length (n : Nat) : ∀ (f : Nat) (l : List Rung) (i : Nat), (downL n f l i).length = l.length
  | 0, l, i => rfl
  | f + 1, l, i => by
    unfold downL
    split
    · split
      · split
        · rw [downL_length n f, swapAt_length]
        · rfl
      · split
        · rw [downL_length n f, swapAt_length]
        · rfl
    · rfl
theorem upL_length : ∀ (f : Nat) (l : List Rung) (i : Nat), (upL f l i).length = l.length
  | 0, l, i => rfl
  | f + 1, l, i => by
    unfold upL
    split
    · rfl
    · split
      · rw [upL_length f, swapAt_length]
      · rfl
theorem initL_length (n : Nat) : ∀ (i : Nat) (l : List Rung), (initL n i l).length = l.length
  | 0, l => rfl
  | i + 1, l => by rw [initL, initL_length n i, downL_length]

set_option maxRecDepth 100000 in
set_option maxHeartbeats 4000000 in
theorem up_any (P g n : Nat) (l : List Rung) (j0 : Nat) (aj : Int) (hj : aj = j0) (w : World) (h : Hp w P g n l) (hjl : j0 < l.length) (hn : n ≤ 1073741824) :
    Calls Try.prog 46 #[.iface 63 (.pointer (some ⟨P, 0, none⟩)), .int .i64 aj] w fun e w' => e = .returned (.tuple #[]) ∧ Hp w' P g n (upL j0 l j0) ∧ Wrote (PG P g) w w' := by
  subst hj
  have hroom := h.lad.room
  go_enter Try.func46, Try.ntmps46
  go_wp2_with fail
  go_loopw [1] (fun v wr => ∃ (j f : Nat) (l' : List Rung), v = .int .i64 j ∧ j ≤ j0 ∧ j ≤ f ∧ Hid (upL f l' j = upL j0 l j0) ∧ Hid (l'.length = l.length) ∧ Hp wr P g n l' ∧ Wrote (PG P g) w wr) (fun v _ => (intOf v).toNat)
  case atStart => exact ⟨j0, j0, l, rfl, Nat.le_refl _, Nat.le_refl _, rfl, rfl, h, Wrote.refl _ _⟩
  case round =>
    obtain ⟨j, f, l', rfl, hj, hf, HR, HL, hp, hw⟩ := hrel
    have ml := method_less P g n l'.length wr hp.top.cell
    have nl := nil_less ⟨P, 0, none⟩ wr
    have hlen := HL.out
    have hl1 : j < l'.length := by omega
    clear hlen
    by_cases c1 : j = 0
    · subst c1
      go_wp2_with fail
      go_end0
      refine ⟨rfl, ?_, hw⟩
      rw [← HR.out, upL_stop]
      exact hp
    · obtain ⟨k, rfl⟩ : ∃ k, j = k + 1 := ⟨j - 1, by omega⟩
      obtain ⟨f, rfl⟩ : ∃ f', f = f' + 1 := ⟨f - 1, by omega⟩
      have hne : (((k : Int) / 2) == (k : Int) + 1) = false := by simp; omega
      cases hb3 : lessB (at_ l' (k + 1)) (at_ l' (k / 2)) with
      | true =>
        have HB3 := Lib.hid hb3
        clear hb3
        go_wp2_with fail
        refine (Less_hp P g n l' _ _ (k + 1) (k / 2) wr hp (by omega) (by omega) (by omega) (by omega) true HB3.out).mono ?_
        rintro e w2 ⟨rfl, hp_w2, hw_w2⟩
        have ms_w2 := method_swap P g n l'.length w2 hp_w2.top.cell
        have ns_w2 := nil_swap ⟨P, 0, none⟩ w2
        go_wp2_with fail
        refine (Swap_hp P g n l' _ _ (k / 2) (k + 1) w2 hp_w2 (by omega) (by omega) (by omega) (by omega)).mono ?_
        rintro e w3 ⟨rfl, hp3, hw3⟩
        go_wp2_with fail
        go_roundw
        case rel => exact ⟨k / 2, f, swapAt l' (k / 2) (k + 1), by go_num, by omega, by omega, Lib.hid (by rw [← HR.out, upL_go c1 HB3.out]; rfl), Lib.hid (by rw [swapAt_length]; exact HL.out), hp3, (hw.trans hw_w2).trans hw3⟩
        case measure => simp [intOf]; omega
      | false =>
        have HB3 := Lib.hid hb3
        clear hb3
        go_wp2_with fail
        refine (Less_hp P g n l' _ _ (k + 1) (k / 2) wr hp (by omega) (by omega) (by omega) (by omega) false HB3.out).mono ?_
        rintro e w2 ⟨rfl, hp_w2, hw_w2⟩
        go_wp2_with fail
        go_end0
        refine ⟨rfl, ?_, hw.trans hw_w2⟩
        rw [← HR.out, upL_stay c1 HB3.out]
        exact hp_w2

set_option maxRecDepth 100000 in
set_option maxHeartbeats 4000000 in
theorem Init_any (P g n : Nat) (l : List Rung) (w : World) (h : Hp w P g n l) (hn : n ≤ 1073741824) :
    Calls Try.prog 36 #[.iface 63 (.pointer (some ⟨P, 0, none⟩))] w fun e w' => e = .returned (.tuple #[]) ∧ Hp w' P g n (initL l.length (l.length / 2) l) ∧ Wrote (PG P g) w w' := by
  have hroom := h.lad.room
  have m1 := method_len P g n l.length w h.top.cell
  have n1 := nil_len ⟨P, 0, none⟩ w
  go_enter Try.func36, Try.ntmps36
  go_wp2_with fail
  refine (Len_any _ _ _ _).mono ?_
  rintro e w' ⟨rfl, rfl⟩
  go_wp2_with fail
  go_loopw [3] (fun v wr => ∃ (i : Nat) (l' : List Rung), v = .int .i64 ((i : Int) - 1) ∧ i ≤ l.length / 2 ∧ Hid (initL l.length i l' = initL l.length (l.length / 2) l) ∧ Hid (l'.length = l.length) ∧ Hp wr P g n l' ∧ Wrote (PG P g) w wr) (fun v _ => (intOf v + 1).toNat)
  case atStart => exact ⟨l.length / 2, l, by go_num, Nat.le_refl _, rfl, rfl, h, Wrote.refl _ _⟩
  case round =>
    obtain ⟨i, l', rfl, hi, HR, HL, hp, hw⟩ := hrel
    by_cases c1 : i = 0
    · subst c1
      go_wp2_with fail
      go_end0
      refine ⟨rfl, ?_, hw⟩
      rw [← HR.out]
      exact hp
    · obtain ⟨k, rfl⟩ : ∃ k, i = k + 1 := ⟨i - 1, by omega⟩
      have hk : ((k + 1 : Nat) : Int) - 1 = k := by omega
      rw [hk]
      go_wp2_with fail
      refine (down_any P g n l' k l.length _ _ (by omega) rfl wr hp (by have := HL.out; omega) (by omega) hn).mono ?_
      rintro e w2 ⟨⟨b, rfl⟩, hp2, hw2⟩
      go_wp2_with fail
      go_roundw
      case rel => exact ⟨k, _, by go_num, by omega, Lib.hid (by rw [← HR.out]; rfl), Lib.hid (by rw [downL_length]; exact HL.out), hp2, hw.trans hw2⟩
      case measure => simp [intOf]

def popL (l : List Rung) : List Rung := downL (l.length - 1) (l.length - 1) (swapAt l 0 (l.length - 1)) 0
theorem popL_length (l : List Rung) : (popL l).length = l.length := by rw [popL, downL_length, swapAt_length]

set_option maxRecDepth 100000 in
set_option maxHeartbeats 4000000 in
theorem Hpop_any (P g n : Nat) (l : List Rung) (m : Nat) (w : World) (h : Hp w P g n l) (hm : l.length = m + 1) (hn : n ≤ 1073741824) :
    Calls Try.prog 37 #[.iface 63 (.pointer (some ⟨P, 0, none⟩))] w fun e w' => e = .returned (.iface 62 (.agg #[.int .i64 (at_ (popL l) m).1, .int .i64 (at_ (popL l) m).2])) ∧ Hp w' P g n ((popL l).take m) ∧ Wrote (PG P g) w w' := by
  have hroom := h.lad.room
  have m1 := method_len P g n l.length w h.top.cell
  have n1 := nil_len ⟨P, 0, none⟩ w
  have m2 := method_swap P g n l.length w h.top.cell
  have n2 := nil_swap ⟨P, 0, none⟩ w
  have HM := Lib.hid hm
  have hm1 : m + 1 ≤ l.length := by omega
  have hm2 : l.length ≤ m + 1 := by omega
  clear hm
  go_enter Try.func37, Try.ntmps37
  go_wp2_with fail
  refine (Len_any _ _ _ _).mono ?_
  rintro e w' ⟨rfl, rfl⟩
  go_wp2_with fail
  refine (Swap_hp P g n l _ _ 0 m w h rfl (by omega) (by omega) (by omega)).mono ?_
  rintro e w2 ⟨rfl, hp2, hw2⟩
  go_wp2_with fail
  refine (down_any P g n (swapAt l 0 m) 0 m _ _ rfl (by omega) w2 hp2 (by rw [swapAt_length]; omega) (by omega) hn).mono ?_
  rintro e w3 ⟨⟨b, rfl⟩, hp3, hw3⟩
  have hL : downL m (m - 0) (swapAt l 0 m) 0 = popL l := by unfold popL; rw [HM.out]; rfl
  rw [hL] at hp3
  have m4 := method_pop ⟨P, 0, none⟩ w3
  have n4 := nil_pop ⟨P, 0, none⟩ w3
  go_wp2_with fail
  have hlen : (popL l).length = m + 1 := by rw [popL_length]; exact HM.out
  refine (Pop_any P g n (popL l) m w3 hp3.lad (by have := hp3.top; rwa [hlen] at this) hlen hn).mono ?_
  rintro e w4 ⟨rfl, hl4, ht4, hw4⟩
  go_wp2_with fail
  go_ret
  refine ⟨rfl, ⟨hl4, ?_⟩, (hw2.trans hw3).trans (hw4.mono fun k hk => .inl hk)⟩
  rw [List.length_take, hlen, Nat.min_eq_left (by omega)]
  exact ht4

set_option maxRecDepth 100000 in
set_option maxHeartbeats 4000000 in
theorem Hpush_any (P g n : Nat) (l : List Rung) (x : Rung) (w : World) (h : Hp w P g n l) (hm : l.length < n) (hn : n ≤ 1073741824) :
    Calls Try.prog 39 #[.iface 63 (.pointer (some ⟨P, 0, none⟩)), .iface 62 (.agg #[.int .i64 x.1, .int .i64 x.2])] w fun e w' => e = .returned (.tuple #[]) ∧ Hp w' P g n (upL l.length (l ++ [x]) l.length) ∧ Wrote (PG P g) w w' := by
  have hroom := h.lad.room
  have m1 := method_push ⟨P, 0, none⟩ w
  have n1 := nil_push ⟨P, 0, none⟩ w
  go_enter Try.func39, Try.ntmps39
  go_wp2_with fail
  refine (Push_any P g n l x l.length w h.lad h.top rfl hm hn).mono ?_
  rintro e w2 ⟨rfl, hl2, ht2, hw2⟩
  have hp2 : Hp w2 P g n (l ++ [x]) := ⟨hl2, by rw [List.length_append]; exact ht2⟩
  have m3 := method_len P g n (l ++ [x]).length w2 hp2.top.cell
  have n3 := nil_len ⟨P, 0, none⟩ w2
  go_wp2_with fail
  refine (Len_any _ _ _ _).mono ?_
  rintro e w' ⟨rfl, rfl⟩
  go_wp2_with fail
  refine (up_any P g n (l ++ [x]) l.length _ (by simp) w2 hp2 (by simp) hn).mono ?_
  rintro e w3 ⟨rfl, hp3, hw3⟩
  go_wp2_with fail
  go_end0
  exact ⟨rfl, hp3, hw2.trans hw3⟩
end Go.Proofs.Ytbgabijjnbmghaa
