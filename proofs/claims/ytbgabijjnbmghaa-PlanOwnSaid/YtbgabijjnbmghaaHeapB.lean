import Derived.Test.YtbgabijjnbmghaaHeapA
import Derived.Lib.Hide
namespace Go.Proofs.Ytbgabijjnbmghaa
open Go.RowKit Go.Proofs.YtbgabijjnbmghaaW.PrintWords
set_option linter.unusedVariables false
set_option linter.unusedSimpArgs false
theorem method_len0 (a : Addr) (w : World) : (method 219 63 (.pointer (some a)) "Len").run Try.prog w = ((do let v ← loadVar 60 a; pure (82, v)) : Sem (FuncId × Value)).run Try.prog w := by kernel_rfl
theorem method_less0 (a : Addr) (w : World) : (method 219 63 (.pointer (some a)) "Less").run Try.prog w = ((do let v ← loadVar 60 a; pure (83, v)) : Sem (FuncId × Value)).run Try.prog w := by kernel_rfl
theorem method_swap0 (a : Addr) (w : World) : (method 219 63 (.pointer (some a)) "Swap").run Try.prog w = ((do let v ← loadVar 60 a; pure (84, v)) : Sem (FuncId × Value)).run Try.prog w := by kernel_rfl
theorem method_pop (a : Addr) (w : World) : (method 219 63 (.pointer (some a)) "Pop").run Try.prog w = .ok (85, .pointer (some a)) w := by kernel_rfl
theorem method_push (a : Addr) (w : World) : (method 219 63 (.pointer (some a)) "Push").run Try.prog w = .ok (86, .pointer (some a)) w := by kernel_rfl
theorem nil_len (a : Addr) (w : World) : (nilAhead 219 63 (.pointer (some a)) "Len").run Try.prog w = .ok (some false) w := by kernel_rfl
theorem nil_less (a : Addr) (w : World) : (nilAhead 219 63 (.pointer (some a)) "Less").run Try.prog w = .ok (some false) w := by kernel_rfl
theorem nil_swap (a : Addr) (w : World) : (nilAhead 219 63 (.pointer (some a)) "Swap").run Try.prog w = .ok (some false) w := by kernel_rfl
theorem nil_pop (a : Addr) (w : World) : (nilAhead 219 63 (.pointer (some a)) "Pop").run Try.prog w = .ok (some false) w := by kernel_rfl
theorem nil_push (a : Addr) (w : World) : (nilAhead 219 63 (.pointer (some a)) "Push").run Try.prog w = .ok (some false) w := by kernel_rfl
theorem load60 (P g n m : Nat) (w : World) (hc : w.cell? ⟨P, 0, none⟩ = some (.slice (some ⟨g, 0, none⟩) m n)) : (loadVar 60 ⟨P, 0, none⟩).run Try.prog w = .ok (.slice (some ⟨g, 0, none⟩) m n) w := by
  have := Try.underlying60
  go_simp
theorem method_len (P g n m : Nat) (w : World) (hc : w.cell? ⟨P, 0, none⟩ = some (.slice (some ⟨g, 0, none⟩) m n)) : (method 219 63 (.pointer (some ⟨P, 0, none⟩)) "Len").run Try.prog w = .ok (82, .slice (some ⟨g, 0, none⟩) m n) w := by
  rw [method_len0]
  have h := load60 P g n m w hc
  simp [Sem.run_bind, h]
theorem method_less (P g n m : Nat) (w : World) (hc : w.cell? ⟨P, 0, none⟩ = some (.slice (some ⟨g, 0, none⟩) m n)) : (method 219 63 (.pointer (some ⟨P, 0, none⟩)) "Less").run Try.prog w = .ok (83, .slice (some ⟨g, 0, none⟩) m n) w := by
  rw [method_less0]
  have h := load60 P g n m w hc
  simp [Sem.run_bind, h]
theorem method_swap (P g n m : Nat) (w : World) (hc : w.cell? ⟨P, 0, none⟩ = some (.slice (some ⟨g, 0, none⟩) m n)) : (method 219 63 (.pointer (some ⟨P, 0, none⟩)) "Swap").run Try.prog w = .ok (84, .slice (some ⟨g, 0, none⟩) m n) w := by
  rw [method_swap0]
  have h := load60 P g n m w hc
  simp [Sem.run_bind, h]


/-- the heap as it lies: the rungs in block g, the variable in block P -/
structure Hp (w : World) (P g n : Nat) (l : List Rung) : Prop where
  lad : Lad w g n l
  top : Top w P g n l.length
abbrev PG (P g : Nat) : Nat → Prop := fun k => k = P ∨ k = g
theorem Less_hp (P g n : Nat) (l : List Rung) (i j : Int) (i' j' : Nat) (w : World) (h : Hp w P g n l) (hi : i = i') (hj : j = j') (hi' : i' < l.length) (hj' : j' < l.length) (b : Bool) (hb : lessB (at_ l i') (at_ l j') = b) :
    Calls Try.prog 83 #[.slice (some ⟨g, 0, none⟩) l.length n, .int .i64 i, .int .i64 j] w fun e w' => e = .returned (.bool b) ∧ Hp w' P g n l ∧ Wrote (PG P g) w w' := by
  subst hi hj hb
  refine (Less_any g n l i' j' w h.lad hi' hj').mono ?_
  rintro e w' ⟨rfl, k, rfl⟩
  exact ⟨rfl, ⟨h.lad, h.top⟩, (Wrote.refl _ w).drewN k⟩
theorem Swap_hp (P g n : Nat) (l : List Rung) (i j : Int) (i' j' : Nat) (w : World) (h : Hp w P g n l) (hi : i = i') (hj : j = j') (hi' : i' < l.length) (hj' : j' < l.length) :
    Calls Try.prog 84 #[.slice (some ⟨g, 0, none⟩) l.length n, .int .i64 i, .int .i64 j] w fun e w' => e = .returned (.tuple #[]) ∧ Hp w' P g n (swapAt l i' j') ∧ Wrote (PG P g) w w' := by
  subst hi hj
  refine (Swap_any g n l i' j' w h.lad hi' hj').mono ?_
  rintro e w' ⟨rfl, hl, hw⟩
  refine ⟨rfl, ⟨hl, ?_⟩, hw.mono fun k hk => .inr hk⟩
  rw [swapAt_length]
  exact h.top.kept hw.kept (h.lad.ne h.top)

def downL (n : Nat) : Nat → List Rung → Nat → List Rung
  | 0, l, _ => l
  | f + 1, l, i =>
    if 2 * i + 1 < n then
      if 2 * i + 2 < n ∧ lessB (at_ l (2 * i + 2)) (at_ l (2 * i + 1)) = true then
        if lessB (at_ l (2 * i + 2)) (at_ l i) = true then downL n f (swapAt l i (2 * i + 2)) (2 * i + 2) else l
      else if lessB (at_ l (2 * i + 1)) (at_ l i) = true then downL n f (swapAt l i (2 * i + 1)) (2 * i + 1) else l
    else l
theorem downL_stop {n : Nat} (f : Nat) (l : List Rung) {i : Nat} (h : ¬ 2 * i + 1 < n) : downL n f l i = l := by
  cases f with
  | zero => rfl
  | succ f => rw [downL, if_neg h]
theorem downL_two_go {n f : Nat} {l : List Rung} {i : Nat} (h : 2 * i + 2 < n) (h2 : lessB (at_ l (2 * i + 2)) (at_ l (2 * i + 1)) = true) (h3 : lessB (at_ l (2 * i + 2)) (at_ l i) = true) : downL n (f + 1) l i = downL n f (swapAt l i (2 * i + 2)) (2 * i + 2) := by
  rw [downL, if_pos (by omega), if_pos ⟨h, h2⟩, if_pos h3]
theorem downL_two_stay {n f : Nat} {l : List Rung} {i : Nat} (h : 2 * i + 2 < n) (h2 : lessB (at_ l (2 * i + 2)) (at_ l (2 * i + 1)) = true) (h3 : lessB (at_ l (2 * i + 2)) (at_ l i) = false) : downL n (f + 1) l i = l := by
  rw [downL, if_pos (by omega), if_pos ⟨h, h2⟩, if_neg (by simp [h3])]
theorem downL_one_go {n f : Nat} {l : List Rung} {i : Nat} (h : 2 * i + 1 < n) (h2 : 2 * i + 2 < n → lessB (at_ l (2 * i + 2)) (at_ l (2 * i + 1)) = false) (h3 : lessB (at_ l (2 * i + 1)) (at_ l i) = true) : downL n (f + 1) l i = downL n f (swapAt l i (2 * i + 1)) (2 * i + 1) := by
  rw [downL, if_pos h, if_neg (fun hc => by simp [h2 hc.1] at hc), if_pos h3]
theorem downL_one_stay {n f : Nat} {l : List Rung} {i : Nat} (h : 2 * i + 1 < n) (h2 : 2 * i + 2 < n → lessB (at_ l (2 * i + 2)) (at_ l (2 * i + 1)) = false) (h3 : lessB (at_ l (2 * i + 1)) (at_ l i) = false) : downL n (f + 1) l i = l := by
  rw [downL, if_pos h, if_neg (fun hc => by simp [h2 hc.1] at hc), if_neg (by simp [h3])]
/-- what down returns is not looked at -/
def SomeBool (e : Ending) : Prop := ∃ b : Bool, e = .returned (.bool b)

set_option maxRecDepth 100000 in
set_option maxHeartbeats 4000000 in
theorem down_any (P g n : Nat) (l : List Rung) (i0 m : Nat) (ai am : Int) (hi : ai = i0) (hm : am = m) (w : World) (h : Hp w P g n l) (hml : m ≤ l.length) (him : i0 ≤ m) (hn : n ≤ 1073741824) :
    Calls Try.prog 43 #[.iface 63 (.pointer (some ⟨P, 0, none⟩)), .int .i64 ai, .int .i64 am] w fun e w' => SomeBool e ∧ Hp w' P g n (downL m (m - i0) l i0) ∧ Wrote (PG P g) w w' := by
  subst hi hm
  have hroom := h.lad.room
  go_enter Try.func43, Try.ntmps43
  go_wp2_with fail
  go_loopw [7] (fun v wr => ∃ (i f : Nat) (l' : List Rung), v = .int .i64 i ∧ i ≤ m ∧ m - i ≤ f ∧ Hid (downL m f l' i = downL m (m - i0) l i0) ∧ Hid (l'.length = l.length) ∧ Hp wr P g n l' ∧ Wrote (PG P g) w wr) (fun v _ => m - (intOf v).toNat)
  case atStart => exact ⟨i0, m - i0, l, rfl, him, Nat.le_refl _, rfl, rfl, h, Wrote.refl _ _⟩
  case round =>
    obtain ⟨i, f, l', rfl, hi, hf, HR, HL, hp, hw⟩ := hrel
    have ml := method_less P g n l'.length wr hp.top.cell
    have nl := nil_less ⟨P, 0, none⟩ wr
    by_cases c1 : 2 * i + 1 < m
    · obtain ⟨f, rfl⟩ : ∃ f', f = f' + 1 := ⟨f - 1, by omega⟩
      have hlen := HL.out
      have hl1 : m ≤ l'.length := by omega
      clear hlen
      by_cases c2 : 2 * i + 2 < m
      · cases hb2 : lessB (at_ l' (2 * i + 2)) (at_ l' (2 * i + 1)) with
        | true =>
          have HB2 := Lib.hid hb2
          clear hb2
          go_wp2_with fail
          refine (Less_hp P g n l' _ _ (2 * i + 2) (2 * i + 1) wr hp (by omega) (by omega) (by omega) (by omega) true HB2.out).mono ?_
          rintro e w1 ⟨rfl, hp_w1, hw_w1⟩
          have ml_w1 := method_less P g n l'.length w1 hp_w1.top.cell
          have nl_w1 := nil_less ⟨P, 0, none⟩ w1
          have ms_w1 := method_swap P g n l'.length w1 hp_w1.top.cell
          have ns_w1 := nil_swap ⟨P, 0, none⟩ w1
          cases hb3 : lessB (at_ l' (2 * i + 2)) (at_ l' i) with
          | true =>
            have HB3 := Lib.hid hb3
            clear hb3
            go_wp2_with fail
            refine (Less_hp P g n l' _ _ (2 * i + 2) (i) w1 hp_w1 (by omega) (by omega) (by omega) (by omega) true HB3.out).mono ?_
            rintro e w2 ⟨rfl, hp_w2, hw_w2⟩
            have ml_w2 := method_less P g n l'.length w2 hp_w2.top.cell
            have nl_w2 := nil_less ⟨P, 0, none⟩ w2
            have ms_w2 := method_swap P g n l'.length w2 hp_w2.top.cell
            have ns_w2 := nil_swap ⟨P, 0, none⟩ w2
            go_wp2_with fail
            refine (Swap_hp P g n l' _ _ i (2 * i + 2) w2 hp_w2 (by omega) (by omega) (by omega) (by omega)).mono ?_
            rintro e w3 ⟨rfl, hp3, hw3⟩
            go_wp2_with fail
            go_roundw
            case rel => exact ⟨2 * i + 2, f, swapAt l' i (2 * i + 2), by go_num, by omega, by omega, Lib.hid (by rw [← HR.out, downL_two_go c2 HB2.out HB3.out]), Lib.hid (by rw [swapAt_length]; exact HL.out), hp3, ((hw.trans hw_w1).trans hw_w2).trans hw3⟩
            case measure => simp [intOf]; omega
          | false =>
            have HB3 := Lib.hid hb3
            clear hb3
            go_wp2_with fail
            refine (Less_hp P g n l' _ _ (2 * i + 2) (i) w1 hp_w1 (by omega) (by omega) (by omega) (by omega) false HB3.out).mono ?_
            rintro e w2 ⟨rfl, hp_w2, hw_w2⟩
            have ml_w2 := method_less P g n l'.length w2 hp_w2.top.cell
            have nl_w2 := nil_less ⟨P, 0, none⟩ w2
            have ms_w2 := method_swap P g n l'.length w2 hp_w2.top.cell
            have ns_w2 := nil_swap ⟨P, 0, none⟩ w2
            go_wp2_with fail
            go_ret
            refine ⟨⟨_, rfl⟩, ?_, ((hw.trans hw_w1).trans hw_w2)⟩
            rw [← HR.out, downL_two_stay c2 HB2.out HB3.out]
            exact hp_w2
        | false =>
          have HB2 := Lib.hid hb2
          clear hb2
          go_wp2_with fail
          refine (Less_hp P g n l' _ _ (2 * i + 2) (2 * i + 1) wr hp (by omega) (by omega) (by omega) (by omega) false HB2.out).mono ?_
          rintro e w1 ⟨rfl, hp_w1, hw_w1⟩
          have ml_w1 := method_less P g n l'.length w1 hp_w1.top.cell
          have nl_w1 := nil_less ⟨P, 0, none⟩ w1
          have ms_w1 := method_swap P g n l'.length w1 hp_w1.top.cell
          have ns_w1 := nil_swap ⟨P, 0, none⟩ w1
          cases hb3 : lessB (at_ l' (2 * i + 1)) (at_ l' i) with
          | true =>
            have HB3 := Lib.hid hb3
            clear hb3
            go_wp2_with fail
            refine (Less_hp P g n l' _ _ (2 * i + 1) (i) w1 hp_w1 (by omega) (by omega) (by omega) (by omega) true HB3.out).mono ?_
            rintro e w2 ⟨rfl, hp_w2, hw_w2⟩
            have ml_w2 := method_less P g n l'.length w2 hp_w2.top.cell
            have nl_w2 := nil_less ⟨P, 0, none⟩ w2
            have ms_w2 := method_swap P g n l'.length w2 hp_w2.top.cell
            have ns_w2 := nil_swap ⟨P, 0, none⟩ w2
            go_wp2_with fail
            refine (Swap_hp P g n l' _ _ i (2 * i + 1) w2 hp_w2 (by omega) (by omega) (by omega) (by omega)).mono ?_
            rintro e w3 ⟨rfl, hp3, hw3⟩
            go_wp2_with fail
            go_roundw
            case rel => exact ⟨2 * i + 1, f, swapAt l' i (2 * i + 1), by go_num, by omega, by omega, Lib.hid (by rw [← HR.out, downL_one_go c1 (fun _ => HB2.out) HB3.out]), Lib.hid (by rw [swapAt_length]; exact HL.out), hp3, ((hw.trans hw_w1).trans hw_w2).trans hw3⟩
            case measure => simp [intOf]; omega
          | false =>
            have HB3 := Lib.hid hb3
            clear hb3
            go_wp2_with fail
            refine (Less_hp P g n l' _ _ (2 * i + 1) (i) w1 hp_w1 (by omega) (by omega) (by omega) (by omega) false HB3.out).mono ?_
            rintro e w2 ⟨rfl, hp_w2, hw_w2⟩
            have ml_w2 := method_less P g n l'.length w2 hp_w2.top.cell
            have nl_w2 := nil_less ⟨P, 0, none⟩ w2
            have ms_w2 := method_swap P g n l'.length w2 hp_w2.top.cell
            have ns_w2 := nil_swap ⟨P, 0, none⟩ w2
            go_wp2_with fail
            go_ret
            refine ⟨⟨_, rfl⟩, ?_, ((hw.trans hw_w1).trans hw_w2)⟩
            rw [← HR.out, downL_one_stay c1 (fun _ => HB2.out) HB3.out]
            exact hp_w2
      · have c2' : ¬ (2 * (i : Int) + 1 + 1 < m) := by omega
        cases hb3 : lessB (at_ l' (2 * i + 1)) (at_ l' i) with
        | true =>
          have HB3 := Lib.hid hb3
          clear hb3
          go_wp2_with fail
          refine (Less_hp P g n l' _ _ (2 * i + 1) (i) wr hp (by omega) (by omega) (by omega) (by omega) true HB3.out).mono ?_
          rintro e w2 ⟨rfl, hp_w2, hw_w2⟩
          have ml_w2 := method_less P g n l'.length w2 hp_w2.top.cell
          have nl_w2 := nil_less ⟨P, 0, none⟩ w2
          have ms_w2 := method_swap P g n l'.length w2 hp_w2.top.cell
          have ns_w2 := nil_swap ⟨P, 0, none⟩ w2
          go_wp2_with fail
          refine (Swap_hp P g n l' _ _ i (2 * i + 1) w2 hp_w2 (by omega) (by omega) (by omega) (by omega)).mono ?_
          rintro e w3 ⟨rfl, hp3, hw3⟩
          go_wp2_with fail
          go_roundw
          case rel => exact ⟨2 * i + 1, f, swapAt l' i (2 * i + 1), by go_num, by omega, by omega, Lib.hid (by rw [← HR.out, downL_one_go c1 (fun hc => absurd hc c2) HB3.out]), Lib.hid (by rw [swapAt_length]; exact HL.out), hp3, (hw.trans hw_w2).trans hw3⟩
          case measure => simp [intOf]; omega
        | false =>
          have HB3 := Lib.hid hb3
          clear hb3
          go_wp2_with fail
          refine (Less_hp P g n l' _ _ (2 * i + 1) (i) wr hp (by omega) (by omega) (by omega) (by omega) false HB3.out).mono ?_
          rintro e w2 ⟨rfl, hp_w2, hw_w2⟩
          have ml_w2 := method_less P g n l'.length w2 hp_w2.top.cell
          have nl_w2 := nil_less ⟨P, 0, none⟩ w2
          have ms_w2 := method_swap P g n l'.length w2 hp_w2.top.cell
          have ns_w2 := nil_swap ⟨P, 0, none⟩ w2
          go_wp2_with fail
          go_ret
          refine ⟨⟨_, rfl⟩, ?_, (hw.trans hw_w2)⟩
          rw [← HR.out, downL_one_stay c1 (fun hc => absurd hc c2) HB3.out]
          exact hp_w2
    · have c1' : ¬ (2 * (i : Int) + 1 < m) := by omega
      go_wp2_with fail
      go_ret
      refine ⟨⟨_, rfl⟩, ?_, hw⟩
      rw [← HR.out, downL_stop f l' c1]
      exact hp
end Go.Proofs.Ytbgabijjnbmghaa
