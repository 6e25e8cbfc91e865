/- milllaw10.apart: what lies in memory while the answers' rows grow: words and plain laws. -/
import Derived.Test.YtbgabijjnbmghaaApartA
namespace Go.Proofs.Ytbgabijjnbmghaa.P
open Go.RowKit Go.Proofs.YtbgabijjnbmghaaW.PrintWords Go.Proofs.YtbgabijjnbmghaaW.PrintLast Go.Proofs.YtbgabijjnbmghaaW.PrintMore
set_option linter.unusedVariables false
set_option linter.unusedSimpArgs false

theorem info22 : (Try.prog.info? 22).map (fun i => (i.zero, i.size, i.bytes)) = some (some (.slice none 0 0), 1, 24) := by kernel_rfl
theorem info23 : (Try.prog.info? 23).map (fun i => (i.zero, i.size, i.bytes)) = some (some (.slice none 0 0), 1, 24) := by kernel_rfl
/-- a step's row, grown by 70 -/
def CIN (A : Nat → Ans) (i s j : Nat) : Value := .int .i64 (if j < (A i).m s then VAL i s j else -100000 * (i : Int) - 100 * (s : Int) - ((j - (A i).m s : Nat) : Int) - 1)
/-- an answer, grown by 20 -/
def COUT (A : Nat → Ans) (i j : Nat) : Value := if j < (A i).L * 2 then (A i).cell (OUT i) j else if j % 2 = 0 then .slice none 0 0 else .int .i64 (1000 * (i : Int) + ((j / 2 - (A i).L : Nat) : Int))
theorem cout_row (A : Nat → Ans) (i k : Nat) : COUT A i (((A i).L + k) * 2 + 0) = .slice none 0 0 := by
  have h1 : ¬ ((A i).L + k) * 2 + 0 < (A i).L * 2 := by omega
  have h2 : (((A i).L + k) * 2 + 0) % 2 = 0 := by omega
  unfold COUT; rw [if_neg h1, if_pos h2]
theorem cout_out (A : Nat → Ans) (i k : Nat) : COUT A i (((A i).L + k) * 2 + 1) = .int .i64 (1000 * (i : Int) + (k : Int)) := by
  have h1 : ¬ ((A i).L + k) * 2 + 1 < (A i).L * 2 := by omega
  have h2 : ¬ (((A i).L + k) * 2 + 1) % 2 = 0 := by omega
  have h3 : (((A i).L + k) * 2 + 1) / 2 - (A i).L = k := by omega
  unfold COUT; rw [if_neg h1, if_neg h2, h3]
theorem cin_old (A : Nat → Ans) {i s k : Nat} (h : k < (A i).m s) : CIN A i s k = .int .i64 (VAL i s k) := by unfold CIN; rw [if_pos h]
theorem cin_new (A : Nat → Ans) {i s k : Nat} (h : ¬ k < (A i).m s) : CIN A i s k = .int .i64 (-100000 * (i : Int) - 100 * (s : Int) - (k : Int) + ((A i).m s : Int) - 1) := by
  unfold CIN; rw [if_neg h]
  congr 1
  omega
def off (A : Nat → Ans) : Nat → Nat
  | 0 => 0
  | i + 1 => off A i + (A i).L
def EntOK (w : World) (A : Nat → Ans) (base2 i s : Nat) (v : Value) : Prop :=
  ∃ b c, v = .slice (some ⟨b, 0, none⟩) ((A i).m s + 70) c ∧ (∃ cells, w.heap[b]? = some (.cells cells 3 (0, 0)) ∧ ∀ j, j < (A i).m s + 70 → cells[j]? = some (CIN A i s j)) ∧ (b = (A i).hb s ∨ base2 ≤ b)
def OutOK (w : World) (A : Nat → Ans) (base2 i : Nat) (v : Value) : Prop :=
  ∃ b c, v = .slice (some ⟨b, 0, none⟩) ((A i).L + 20) c ∧ (∃ cells, w.heap[b]? = some (.cells cells 51 (0, 0)) ∧ ∀ j, j < ((A i).L + 20) * 2 → cells[j]? = some (COUT A i j)) ∧ (b = (A i).g ∨ base2 ≤ b)
structure Ents (w : World) (A : Nat → Ans) (base2 : Nat) (EL : List Value) (i s : Nat) : Prop where
  len : EL.length = off A i + s
  at_ : ∀ i' s', s' < (A i').L → (i' < i ∨ i' = i ∧ s' < s) → ∃ v, EL[off A i' + s']? = some v ∧ EntOK w A base2 i' s' v
structure Outs (w : World) (A : Nat → Ans) (base2 : Nat) (OL : List Value) (i : Nat) : Prop where
  len : OL.length = i
  at_ : ∀ i', i' < i → ∃ v, OL[i']? = some v ∧ OutOK w A base2 i' v
/-- where the growing stands: answers before i are through, of answer i the steps before s -/
structure Grow (w : World) (A : Nat → Ans) (ga base2 : Nat) (v6 v7 : Value) (i s : Nat) : Prop where
  pic : Pic w A 6 OUT VAL
  top : Top2 w ga A 6
  ins : ∃ EL, w.ownsRow base2 22 1 v6 EL.length EL ∧ Ents w A base2 EL i s
  outs : ∃ OL, w.ownsRow base2 23 1 v7 OL.length OL ∧ Outs w A base2 OL i
  size : base2 ≤ w.heap.size
theorem own_kept {w w1 : World} {base e size n : Nat} {v : Value} {xs : List Value} {S : Nat → Prop} (h : w.ownsRow base e size v n xs) (hk : Kept w w1 S) (hne : ∀ k, v.ownBlock = some k → ¬ S k) : w1.ownsRow base e size v n xs :=
  own_move h (fun k hk2 => hk.2 k (own_lt h k hk2) (hne k hk2))
theorem EntOK.kept {w w1 : World} {A : Nat → Ans} {base2 i s : Nat} {v : Value} {S : Nat → Prop} (h : EntOK w A base2 i s v) (hk : Kept w w1 S) (hne : ∀ b cells, w.heap[b]? = some (.cells cells 3 (0, 0)) → (b = (A i).hb s ∨ base2 ≤ b) → ¬ S b) : EntOK w1 A base2 i s v := by
  obtain ⟨b, c, e, ⟨cells, h1, h2⟩, h3⟩ := h
  exact ⟨b, c, e, ⟨cells, blk_kept h1 hk (hne b cells h1 h3), h2⟩, h3⟩
theorem OutOK.kept {w w1 : World} {A : Nat → Ans} {base2 i : Nat} {v : Value} {S : Nat → Prop} (h : OutOK w A base2 i v) (hk : Kept w w1 S) (hne : ∀ b cells, w.heap[b]? = some (.cells cells 51 (0, 0)) → (b = (A i).g ∨ base2 ≤ b) → ¬ S b) : OutOK w1 A base2 i v := by
  obtain ⟨b, c, e, ⟨cells, h1, h2⟩, h3⟩ := h
  exact ⟨b, c, e, ⟨cells, blk_kept h1 hk (hne b cells h1 h3), h2⟩, h3⟩
section
variable {w w1 W : World} {A : Nat → Ans} {lo hi ga base2 i s : Nat} {v v6 v7 : Value}
theorem Grow.start (hP : Pic w A 6 OUT VAL) (hT : Top2 w ga A 6) : Grow w A ga w.heap.size (.slice none 0 0) (.slice none 0 0) 0 0 :=
  ⟨hP, hT, ⟨[], World.ownsRow_nil _ _ _ _, ⟨rfl, fun i' s' _ h => by rcases h with h | h; exact absurd h (Nat.not_lt_zero _); exact absurd h.2 (Nat.not_lt_zero _)⟩⟩, ⟨[], World.ownsRow_nil _ _ _ _, ⟨rfl, fun i' h => absurd h (Nat.not_lt_zero _)⟩⟩, Nat.le_refl _⟩
theorem App.val {e size base g m K k : Nat} {F : Nat → Value} (h : App e size base W w g m K F k v) : ∃ b c, v = .slice (some ⟨b, 0, none⟩) (m + k) c ∧ (∃ cells, w.heap[b]? = some (.cells cells e (0, 0)) ∧ ∀ j, j < (m + k) * size → cells[j]? = some (F j)) ∧ (b = g ∨ W.heap.size ≤ b) := by
  have hv : ∃ b c, v = .slice (some ⟨b, 0, none⟩) (m + k) c ∧ (b = g ∨ W.heap.size ≤ b) := by
    rcases h.at_ with e1 | ⟨b, c, e1, hb⟩
    · exact ⟨g, K, e1, .inl rfl⟩
    · exact ⟨b, c, e1, .inr hb⟩
  obtain ⟨b, c, e1, hb⟩ := hv
  refine ⟨b, c, e1, ?_, hb⟩
  rcases h.own.2 with ⟨h0, _⟩ | ⟨g2, c2, cur, h0, _, hh, _, _, hs, ht⟩
  · rw [e1] at h0; cases h0
  · rw [e1] at h0
    injection h0 with h0 _ h5
    injection h0 with h0
    injection h0 with h0
    subst h0
    exact ⟨cur, hh, fun j hj => at_map ht hj⟩
/-- behind the growing of one step's row -/
theorem Grow.grownIn (h : Grow W A ga base2 v6 v7 i s) (hS : Sep A 6 lo hi) (hhi : hi ≤ base2) (hga : hi ≤ ga) (hin : i < 6) (hs : s < (A i).L) (ha : App 3 1 lo W w ((A i).hb s) ((A i).m s) ((A i).K s) (CIN A i s) 70 v) : Grow w A ga base2 v6 v7 i s ∧ EntOK w A base2 i s v := by
  have hlt := ((hS.fit i hin).hb_in s hs).2
  refine ⟨⟨fun i' hi' => ⟨?_, fun s' hs' => ?_⟩, h.top.kept ha.kept (by omega), ?_, ?_, Nat.le_trans h.size ha.kept.1⟩, ?_⟩
  · obtain ⟨cells, h1, h2⟩ := (h.pic i' hi').row
    exact ⟨cells, blk_kept h1 ha.kept (hS.gh i' i s hi' hin hs), h2⟩
  · by_cases e : (A i').hb s' = (A i).hb s
    · obtain ⟨rfl, rfl⟩ := hS.hb_inj _ _ _ _ hi' hin hs' hs e
      obtain ⟨cells, h1, h2, h3⟩ := ha.old
      refine ⟨cells, h1, h2, fun j hj => ?_⟩
      rw [h3 j hj]
      unfold CIN
      rw [if_pos (by omega)]
    · obtain ⟨cells, h1, h2⟩ := (h.pic i' hi').ins s' hs'
      exact ⟨cells, blk_kept h1 ha.kept e, h2⟩
  · obtain ⟨EL, ho, he⟩ := h.ins
    refine ⟨EL, own_kept ho ha.kept (fun k hk e => by have := own_base ho k hk; omega), ⟨he.len, fun i' s' hs' hb => ?_⟩⟩
    obtain ⟨u, hu, ho2⟩ := he.at_ i' s' hs' hb
    refine ⟨u, hu, ho2.kept ha.kept (fun b cells _ hb2 e => ?_)⟩
    rcases hb2 with rfl | hb2
    · obtain ⟨e1, e2⟩ := hS.hb_inj _ _ _ _ (by omega) hin hs' hs e
      omega
    · omega
  · obtain ⟨OL, ho, he⟩ := h.outs
    refine ⟨OL, own_kept ho ha.kept (fun k hk e => by have := own_base ho k hk; omega), ⟨he.len, fun i' hb => ?_⟩⟩
    obtain ⟨u, hu, ho2⟩ := he.at_ i' hb
    refine ⟨u, hu, ho2.kept ha.kept (fun b cells _ hb2 e => ?_)⟩
    rcases hb2 with rfl | hb2
    · exact hS.gh i' i s (by omega) hin hs e
    · omega
  · obtain ⟨b, c, e1, ⟨cells, h1, h2⟩, hb⟩ := ha.val
    exact ⟨b, c, e1, ⟨cells, h1, fun j hj => h2 j (by omega)⟩, hb.imp id (fun hb => Nat.le_trans h.size hb)⟩
/-- behind the growing of one answer -/
theorem Grow.grownOut (h : Grow W A ga base2 v6 v7 i (A i).L) (hS : Sep A 6 lo hi) (hhi : hi ≤ base2) (hga : hi ≤ ga) (hin : i < 6) (ha : App 51 2 lo W w ((A i).g) ((A i).L) ((A i).cap) (COUT A i) 20 v) : Grow w A ga base2 v6 v7 i (A i).L ∧ OutOK w A base2 i v := by
  have hlt := (hS.fit i hin).g_in.2
  refine ⟨⟨fun i' hi' => ⟨?_, fun s' hs' => ?_⟩, h.top.kept ha.kept (by omega), ?_, ?_, Nat.le_trans h.size ha.kept.1⟩, ?_⟩
  · by_cases e : (A i').g = (A i).g
    · have := hS.g_inj _ _ hi' hin e
      subst this
      obtain ⟨cells, h1, h2, h3⟩ := ha.old
      refine ⟨cells, h1, h2, fun j hj => ?_⟩
      rw [h3 j hj]
      unfold COUT
      rw [if_pos hj]
    · obtain ⟨cells, h1, h2⟩ := (h.pic i' hi').row
      exact ⟨cells, blk_kept h1 ha.kept e, h2⟩
  · obtain ⟨cells, h1, h2⟩ := (h.pic i' hi').ins s' hs'
    exact ⟨cells, blk_kept h1 ha.kept (Ne.symm (hS.gh i i' s' hin hi' hs')), h2⟩
  · obtain ⟨EL, ho, he⟩ := h.ins
    refine ⟨EL, own_kept ho ha.kept (fun k hk e => by have := own_base ho k hk; omega), ⟨he.len, fun i' s' hs' hb => ?_⟩⟩
    obtain ⟨u, hu, ho2⟩ := he.at_ i' s' hs' hb
    refine ⟨u, hu, ho2.kept ha.kept (fun b cells _ hb2 e => ?_)⟩
    rcases hb2 with rfl | hb2
    · exact hS.gh i i' s' hin (by omega) hs' e.symm
    · omega
  · obtain ⟨OL, ho, he⟩ := h.outs
    refine ⟨OL, own_kept ho ha.kept (fun k hk e => by have := own_base ho k hk; omega), ⟨he.len, fun i' hb => ?_⟩⟩
    obtain ⟨u, hu, ho2⟩ := he.at_ i' hb
    refine ⟨u, hu, ho2.kept ha.kept (fun b cells _ hb2 e => ?_)⟩
    rcases hb2 with rfl | hb2
    · have := hS.g_inj i' i (by omega) hin e
      omega
    · omega
  · obtain ⟨b, c, e1, ⟨cells, h1, h2⟩, hb⟩ := ha.val
    exact ⟨b, c, e1, ⟨cells, h1, h2⟩, hb.imp id (fun hb => Nat.le_trans h.size hb)⟩
theorem blk_ty {w : World} {b t t' : Nat} {c c' : Array Value} (h : w.heap[b]? = some (.cells c t (0, 0))) (h' : w.heap[b]? = some (.cells c' t' (0, 0))) : t = t' := by
  rw [h] at h'
  injection h' with h'
  injection h' with _ h'
/-- a row's block has its type -/
theorem own_ty {w : World} {base e size n b t : Nat} {v : Value} {xs : List Value} {c : Array Value} (h : w.ownsRow base e size v n xs) (hb : v.ownBlock = some b) (h' : w.heap[b]? = some (.cells c t (0, 0))) : e = t := by
  obtain ⟨cells, hc⟩ := own_typed h b hb
  exact blk_ty hc h'
/-- one more row lies in ins -/
theorem Grow.laidIn (h : Grow W A ga base2 v6 v7 i s) (hS : Sep A 6 lo hi) (hhi : hi ≤ base2) (hga2 : ga < base2) (hin : i < 6) (hs : s < (A i).L) (hv : EntOK W A base2 i s v) {EL : List Value} {v1 : Value} (ho : W.ownsRow base2 22 1 v6 EL.length EL) (he : Ents W A base2 EL i s) (ho1 : w.ownsRow base2 22 1 v1 (EL.length + 1) (EL ++ [v])) (hk : Kept W w (fun b => v6.ownBlock = some b)) : Grow w A ga base2 v1 v7 i (s + 1) := by
  have hlow : ∀ b, b < base2 → ¬ v6.ownBlock = some b := fun b hb e => by have := own_base ho b e; omega
  have hent : ∀ i' s' u, EntOK W A base2 i' s' u → EntOK w A base2 i' s' u := fun i' s' u hu => hu.kept hk (fun b cells hb _ e => by have := own_ty ho e hb; omega)
  refine ⟨h.pic.kept hk hS (fun k h1 h2 => hlow k (by omega)), h.top.kept hk (hlow ga hga2), ⟨EL ++ [v], by rw [List.length_append]; exact ho1, ⟨by rw [List.length_append, he.len]; rfl, fun i' s' hs' hb => ?_⟩⟩, ?_, Nat.le_trans h.size hk.1⟩
  · by_cases e : i' = i ∧ s' = s
    · obtain ⟨rfl, rfl⟩ := e
      refine ⟨v, ?_, hent _ _ _ hv⟩
      rw [← he.len, List.getElem?_append_right (Nat.le_refl _), Nat.sub_self]; rfl
    · obtain ⟨u, hu, hu2⟩ := he.at_ i' s' hs' (by omega)
      exact ⟨u, by rw [List.getElem?_append_left (List.getElem?_eq_some_iff.1 hu).1]; exact hu, hent _ _ _ hu2⟩
  · obtain ⟨OL, ho7, he7⟩ := h.outs
    refine ⟨OL, own_kept ho7 hk (fun k hk7 e => ?_), ⟨he7.len, fun i' hb => ?_⟩⟩
    · obtain ⟨cells, hc⟩ := own_typed ho7 k hk7
      have := own_ty ho e hc
      omega
    · obtain ⟨u, hu, hu2⟩ := he7.at_ i' hb
      exact ⟨u, hu, hu2.kept hk (fun b cells hb _ e => by have := own_ty ho e hb; omega)⟩
theorem Grow.laidOut (h : Grow W A ga base2 v6 v7 i (A i).L) (hS : Sep A 6 lo hi) (hhi : hi ≤ base2) (hga2 : ga < base2) (hin : i < 6) (hv : OutOK W A base2 i v) {OL : List Value} {v1 : Value} (ho : W.ownsRow base2 23 1 v7 OL.length OL) (he : Outs W A base2 OL i) (ho1 : w.ownsRow base2 23 1 v1 (OL.length + 1) (OL ++ [v])) (hk : Kept W w (fun b => v7.ownBlock = some b)) (htop : ∃ c, W.heap[ga]? = some (.cells c 23 (0, 0))) : Grow w A ga base2 v6 v1 (i + 1) 0 := by
  have hlow : ∀ b, b < base2 → ¬ v7.ownBlock = some b := fun b hb e => by have := own_base ho b e; omega
  refine ⟨h.pic.kept hk hS (fun k h1 h2 => hlow k (by omega)), h.top.kept hk (hlow ga hga2), ?_, ⟨OL ++ [v], by rw [List.length_append]; exact ho1, ⟨by rw [List.length_append, he.len]; rfl, fun i' hb => ?_⟩⟩, Nat.le_trans h.size hk.1⟩
  · obtain ⟨EL, ho6, he6⟩ := h.ins
    refine ⟨EL, own_kept ho6 hk (fun k hk6 e => ?_), ⟨by rw [he6.len]; rfl, fun i' s' hs' hb => ?_⟩⟩
    · obtain ⟨cells, hc⟩ := own_typed ho6 k hk6
      have := own_ty ho e hc
      omega
    · have hb2 : i' < i ∨ i' = i ∧ s' < (A i).L := by
        rcases hb with hb | hb
        · by_cases e : i' = i
          · subst e; exact .inr ⟨rfl, hs'⟩
          · exact .inl (by omega)
        · exact absurd hb.2 (Nat.not_lt_zero _)
      obtain ⟨u, hu, hu2⟩ := he6.at_ i' s' hs' hb2
      exact ⟨u, hu, hu2.kept hk (fun b cells hb _ e => by have := own_ty ho e hb; omega)⟩
  · by_cases e : i' = i
    · subst e
      refine ⟨v, ?_, hv.kept hk (fun b cells hb _ e => by have := own_ty ho e hb; omega)⟩
      have hl := he.len
      rw [← hl, List.getElem?_append_right (Nat.le_refl _), Nat.sub_self]; rfl
    · obtain ⟨u, hu, hu2⟩ := he.at_ i' (by omega)
      exact ⟨u, by rw [List.getElem?_append_left (List.getElem?_eq_some_iff.1 hu).1]; exact hu, hu2.kept hk (fun b cells hb _ e => by have := own_ty ho e hb; omega)⟩
theorem off_le (hS : Sep A 6 lo hi) : ∀ i, i ≤ 6 → off A i ≤ 1000 * i
  | 0, _ => Nat.le_refl _
  | i + 1, hi => by
    have := off_le hS i (by omega)
    have := (hS.fit i (by omega)).few
    rw [off]; omega
end
theorem own_form {w : World} {base e : Nat} {v : Value} {xs : List Value} (h : w.ownsRow base e 1 v xs.length xs) (hp : 0 < xs.length) : ∃ b c, v = .slice (some ⟨b, 0, none⟩) xs.length c ∧ ∀ j u, xs[j]? = some u → w.cell? ⟨b, j, none⟩ = some u := by
  rcases h.2 with ⟨_, h0⟩ | ⟨g, cap, cur, e1, _, hh, _, _, _, ht⟩
  · omega
  · refine ⟨g, cap, e1, fun j u hj => ?_⟩
    rw [blk_cell hh]
    rw [← ht] at hj
    have hl := (List.getElem?_eq_some_iff.1 hj).1
    rw [List.length_take] at hl
    rw [List.getElem?_take_of_lt (by omega), Array.getElem?_toList] at hj
    exact hj
section
variable {w : World} {A : Nat → Ans} {lo hi ga base2 : Nat} {v6 v7 : Value}
theorem off_lt (A : Nat → Ans) : ∀ {n i s : Nat}, i < n → s < (A i).L → off A i + s < off A n
  | 0, i, s, h, _ => absurd h (Nat.not_lt_zero _)
  | n + 1, i, s, h, hs => by
    rw [off]
    by_cases e : i = n
    · subst e; omega
    · have := off_lt A (n := n) (i := i) (s := s) (by omega) hs
      omega
theorem Grow.finIn (h : Grow w A ga base2 v6 v7 6 0) (hS : Sep A 6 lo hi) : ∃ b6 c6, v6 = .slice (some ⟨b6, 0, none⟩) (off A 6) c6 ∧ ∀ i s, i < 6 → s < (A i).L → ∃ b c, w.cell? ⟨b6, off A i + s, none⟩ = some (.slice (some ⟨b, 0, none⟩) ((A i).m s + 70) c) ∧ ∀ k, k < (A i).m s + 70 → w.cell? ⟨b, k, none⟩ = some (CIN A i s k) := by
  obtain ⟨EL, ho, he⟩ := h.ins
  have hp : 0 < EL.length := by
    have := off_lt A (n := 6) (i := 0) (s := 0) (by omega) (hS.fit 0 (by omega)).some_
    have := he.len
    omega
  obtain ⟨b6, c6, e6, h6⟩ := own_form ho hp
  rw [he.len, Nat.add_zero] at e6
  refine ⟨b6, c6, e6, fun i s hi hs => ?_⟩
  obtain ⟨u, hu, b, c, e1, ⟨cells, h1, h2⟩, _⟩ := he.at_ i s hs (.inl hi)
  refine ⟨b, c, ?_, fun k hk => ?_⟩
  · rw [h6 _ u hu, e1]
  · rw [blk_cell h1, h2 k hk]
theorem Grow.finOut (h : Grow w A ga base2 v6 v7 6 0) : ∃ b7 c7, v7 = .slice (some ⟨b7, 0, none⟩) 6 c7 ∧ ∀ i, i < 6 → ∃ b c, w.cell? ⟨b7, i, none⟩ = some (.slice (some ⟨b, 0, none⟩) ((A i).L + 20) c) ∧ ∀ k, k < 20 → w.cell? ⟨b, ((A i).L + k) * 2 + 1, none⟩ = some (.int .i64 (1000 * (i : Int) + (k : Int))) := by
  obtain ⟨OL, ho, he⟩ := h.outs
  obtain ⟨b7, c7, e7, h7⟩ := own_form ho (by have := he.len; omega)
  rw [he.len] at e7
  refine ⟨b7, c7, e7, fun i hi => ?_⟩
  obtain ⟨u, hu, b, c, e1, ⟨cells, h1, h2⟩, _⟩ := he.at_ i hi
  refine ⟨b, c, ?_, fun k hk => ?_⟩
  · rw [h7 _ u hu, e1]
  · rw [blk_cell h1, h2 _ (by omega), cout_out]
end
/-- an append's two ways, as what is kept -/
theorem kept_two {W w1 : World} {v v1 : Value} {n n1 : Nat} (h : (∃ g cap, v = .slice (some ⟨g, 0, none⟩) n cap ∧ v1 = .slice (some ⟨g, 0, none⟩) n1 cap ∧ W.grownBy w1 (some g)) ∨ (∃ b cap, v1 = .slice (some ⟨b, 0, none⟩) n1 cap ∧ W.heap.size ≤ b ∧ W.grownBy w1 none)) : Kept W w1 (fun b => v.ownBlock = some b) := by
  rcases h with ⟨g, cap, e1, _, hg⟩ | ⟨b, cap, _, _, hg⟩
  · exact Kept.of_grown hg (Kept.refl _ _) (fun k hk => .inl (by rw [e1, ← hk]; rfl))
  · exact Kept.of_grown hg (Kept.refl _ _) (fun k hk => by cases hk)
theorem below_two {W w0 w1 : World} {base n n1 : Nat} {v v1 : Value} (hB : Below base w0 W) (hw : base ≤ W.heap.size) (hb : ∀ k, v.ownBlock = some k → base ≤ k) (h : (∃ g cap, v = .slice (some ⟨g, 0, none⟩) n cap ∧ v1 = .slice (some ⟨g, 0, none⟩) n1 cap ∧ W.grownBy w1 (some g)) ∨ (∃ b cap, v1 = .slice (some ⟨b, 0, none⟩) n1 cap ∧ W.heap.size ≤ b ∧ W.grownBy w1 none)) : Below base w0 w1 := by
  rcases h with ⟨g, cap, e1, _, hg⟩ | ⟨b, cap, _, _, hg⟩
  · exact hB.grown hg hw (fun k hk => hb k (by rw [e1, ← hk]; rfl))
  · exact hB.grown hg hw (fun k hk => by cases hk)
end Go.Proofs.Ytbgabijjnbmghaa.P
