/- Plain law: PlanWhole answers true. -/
import Derived.Test.YtbgabijjnbmghaaP25
import Derived.Test.YtbgabijjnbmghaaSpecM
namespace Go.Proofs.Ytbgabijjnbmghaa.Pure
open Go.RowKit Go.Proofs.Ytbgabijjnbmghaa Go.Proofs.Ytbgabijjnbmghaa.P Go.Proofs.YtbgabijjnbmghaaW.PrintWords Go.Proofs.YtbgabijjnbmghaaW.PrintLast
set_option linter.unusedVariables false
set_option linter.unusedSimpArgs false

structure Hold (n L b : Nat) (xs h : List Int) : Prop where
  len : h.length = n + L
  gone : ∀ j : Nat, j < b → (j : Int) ∈ xs → h.getD j 0 = 0
  here : ∀ j : Nat, j < b → (j : Int) ∉ xs → 1 ≤ h.getD j 0
  fresh : ∀ j : Nat, b < j → h.getD j 0 = 0
  out : 0 ≤ h.getD b 0
  sum : h.sum = n
  low : ∀ x ∈ xs, x < (b : Int)
theorem Hold.nonneg {n L b : Nat} {xs h : List Int} (H : Hold n L b xs h) (j : Nat) : 0 ≤ h.getD j 0 := by
  by_cases h1 : j < b
  · by_cases h2 : (j : Int) ∈ xs
    · rw [H.gone j h1 h2]; exact Int.le_refl _
    · have := H.here j h1 h2; omega
  · by_cases h3 : j = b
    · subst h3; exact H.out
    · rw [H.fresh j (by omega)]; exact Int.le_refl _
theorem Hold.le {n L b : Nat} {xs h : List Int} (H : Hold n L b xs h) (j : Nat) : h.getD j 0 ≤ n := by
  rw [← H.sum]
  exact getD_le_sum h j (mem_getD fun j _ => H.nonneg j)
theorem Hold.take {n L b : Nat} {xs h : List Int} (H : Hold n L b xs h) (hb : b < n + L) {x : Nat} (hx : x < b) (hn : (x : Int) ∉ xs) :
    Hold n L b (xs ++ [(x : Int)]) ((h.set b (h.getD b 0 + h.getD x 0)).set x 0) ∧ 1 ≤ ((h.set b (h.getD b 0 + h.getD x 0)).set x 0).getD b 0 := by
  have hl := H.len
  have hb2 : b < h.length := by omega
  have hx2 : x < (h.set b (h.getD b 0 + h.getD x 0)).length := by rw [List.length_set]; omega
  have g : ∀ j, ((h.set b (h.getD b 0 + h.getD x 0)).set x 0).getD j 0 = if j = x then 0 else if j = b then h.getD b 0 + h.getD x 0 else h.getD j 0 := fun j => by
    rw [getD_set hx2, getD_set hb2]
  have h1 := H.here x hx hn
  have h2 := H.out
  refine ⟨⟨by rw [List.length_set, List.length_set]; exact hl, ?_, ?_, ?_, ?_, ?_, ?_⟩, ?_⟩
  · intro j hj hm
    rw [g]
    rcases List.mem_append.1 hm with hm | hm
    · rw [H.gone j hj hm, if_neg (show ¬ j = b by omega)]; split <;> rfl
    · rw [if_pos (by simp at hm; omega)]
  · intro j hj hm
    rw [g, if_neg (fun e => hm (by subst e; simp)), if_neg (show ¬ j = b by omega)]
    exact H.here j hj (fun h => hm (List.mem_append_left _ h))
  · intro j hj
    rw [g, if_neg (show ¬ j = x by omega), if_neg (show ¬ j = b by omega)]
    exact H.fresh j hj
  · rw [g, if_neg (show ¬ b = x by omega), if_pos rfl]; omega
  · rw [sum_set hx2, sum_set hb2, getD_set hb2, if_neg (show ¬ x = b by omega), H.sum]; omega
  · intro y hy
    rcases List.mem_append.1 hy with hy | hy
    · exact H.low y hy
    · simp at hy; omega
  · rw [g, if_neg (show ¬ b = x by omega), if_pos rfl]; omega
theorem Hold.next {n L b : Nat} {xs h : List Int} (H : Hold n L b xs h) (h1 : 1 ≤ h.getD b 0) : Hold n L (b + 1) xs h := by
  refine ⟨H.len, ?_, ?_, fun j hj => H.fresh j (by omega), by rw [H.fresh (b + 1) (by omega)]; exact Int.le_refl _, H.sum, fun x hx => by have := H.low x hx; omega⟩
  · intro j hj hm
    have := H.low _ hm
    exact H.gone j (by omega) hm
  · intro j hj hm
    by_cases e : j = b
    · subst e; exact h1
    · exact H.here j (by omega) hm
theorem l2_step (k : Nat) (x0 : List Int) (x1 : Int) (steps : List S51) (n s i X : Nat) (h : List Int) (hs : s < steps.length) (hi : i < (steps[s]).f0.length) (hX : (steps[s]).f0[i] = X) (hXb : X < n + s) (hb : n + s < h.length) (b1 : n + s < 1000000) (b2 : i < 1000000)
    (h1 : ¬ h.getD X 0 = 0) (hw : wrap64 (h.getD (n + s) 0 + h.getD X 0) = h.getD (n + s) 0 + h.getD X 0) :
    milllaw10_PlanWhole.l2 (k + 1) x0 x1 steps n h s i = milllaw10_PlanWhole.l2 k x0 x1 steps n ((h.set (n + s) (h.getD (n + s) 0 + h.getD X 0)).set X 0) s ((i + 1 : Nat) : Int) := by
  have e1 : (0 : Int) ≤ (s : Int) := by clear h1 hw; omega
  have e2 : (s : Int) < steps.length := by clear h1 hw; omega
  have e3 : (i : Int) < (steps[s]).f0.length := by clear h1 hw; omega
  have e4 : (0 : Int) ≤ (i : Int) := by clear h1 hw; omega
  have e5 : ¬ (X : Int) < 0 := by clear h1 hw; omega
  have e6 : wrap64 ((n : Int) + (s : Int)) = ((n + s : Nat) : Int) := wA (by clear h1 hw; omega) (by clear h1 hw; omega)
  have e7 : ¬ (X : Int) ≥ ((n + s : Nat) : Int) := by clear h1 hw; omega
  have e8 : (0 : Int) ≤ (X : Int) := by clear h1 hw; omega
  have e9 : (X : Int) < h.length := by clear h1 hw; omega
  have e10 : (0 : Int) ≤ ((n + s : Nat) : Int) := by clear h1 hw; omega
  have e11 : ((n + s : Nat) : Int) < h.length := by clear h1 hw; omega
  rw [milllaw10_PlanWhole.l2, if_pos e1, if_pos e2, rdT_getElem hs, if_pos e3, if_pos e4, rd_getElem hi, hX, if_neg e5, e6, if_neg e7, if_pos e8, if_pos e9, rd_nat, if_neg h1, if_pos e10, if_pos e11, rd_nat, Int.toNat_natCast, Int.toNat_natCast, hw, wS (by clear h1 hw; omega)]
theorem whole_l2 (x0 : List Int) (x1 : Int) (steps : List S51) (n L s : Nat) (hs : s < steps.length) (hL : L = steps.length) (hn : n ≤ 2048) (hL2 : L ≤ 2048) (xs : List Int)
    (hr : ∀ x ∈ (steps[s]).f0, 0 ≤ x ∧ x < ((n + s : Nat) : Int)) (hp : (steps[s]).f0.Pairwise (· < ·)) (hx : ∀ x ∈ (steps[s]).f0, x ∉ xs) (hlen : (steps[s]).f0.length ≤ 64) (h1 : 1 ≤ (steps[s]).f0.length)
    (cont : ∀ h', Hold n L (n + s + 1) (xs ++ (steps[s]).f0) h' → Ev (fun k => milllaw10_PlanWhole.l1 k x0 x1 steps n h' ((s + 1 : Nat) : Int)) true) :
    ∀ (d i : Nat) (h : List Int), (steps[s]).f0.length - i = d → i ≤ (steps[s]).f0.length → Hold n L (n + s) (xs ++ (steps[s]).f0.take i) h → (0 < i → 1 ≤ h.getD (n + s) 0) →
      Ev (fun k => milllaw10_PlanWhole.l2 k x0 x1 steps n h s i) true
  | 0, i, h, hd, hi, H, hpos => by
    have e : i = (steps[s]).f0.length := by omega
    subst e
    rw [List.take_length] at H
    refine Ev.step (f := fun k => milllaw10_PlanWhole.l1 k x0 x1 steps n h ((s + 1 : Nat) : Int)) (fun k => ?_) (cont h (H.next (hpos (by omega))))
    rw [milllaw10_PlanWhole.l2, if_pos (by omega), if_pos (by omega), rdT_getElem hs, if_neg (by omega), wS (by omega)]
  | d + 1, i, h, hd, hi, H, hpos => by
    have hlt : i < (steps[s]).f0.length := by omega
    have hm : (steps[s]).f0[i] ∈ (steps[s]).f0 := List.getElem_mem hlt
    obtain ⟨r1, r2⟩ := hr _ hm
    obtain ⟨X, hX⟩ : ∃ X : Nat, (steps[s]).f0[i] = X := ⟨((steps[s]).f0[i]).toNat, by omega⟩
    have hnx : (X : Int) ∉ xs ++ (steps[s]).f0.take i := by
      rw [← hX]
      intro hc
      rcases List.mem_append.1 hc with hc | hc
      · exact hx _ hm hc
      · obtain ⟨j, hj, e⟩ := List.getElem_of_mem hc
        rw [List.length_take] at hj
        rw [List.getElem_take] at e
        have := List.pairwise_iff_getElem.1 hp j i (by omega) hlt (by omega)
        omega
    have hlen2 := H.len
    have hXb : X < n + s := by omega
    have hwx := H.here X hXb hnx
    have hle1 := H.le X
    have hle2 := H.le (n + s)
    have ho := H.out
    obtain ⟨H2, hp2⟩ := H.take (by omega) hXb hnx
    refine Ev.step (f := fun k => milllaw10_PlanWhole.l2 k x0 x1 steps n ((h.set (n + s) (h.getD (n + s) 0 + h.getD X 0)).set X 0) s ((i + 1 : Nat) : Int)) (fun k => ?_) ?_
    · exact l2_step k x0 x1 steps n s i X h hs hlt hX hXb (by omega) (by omega) (by omega) (by omega) (w64 _ (by omega) (by omega))
    · refine whole_l2 x0 x1 steps n L s hs hL hn hL2 xs hr hp hx hlen h1 cont d (i + 1) _ (by omega) (by omega) ?_ (fun _ => hp2)
      rw [List.take_add_one, List.getElem?_eq_getElem hlt, hX, ← List.append_assoc]
      exact H2
theorem l1_end (k : Nat) (x0 : List Int) (x1 : Int) (steps : List S51) (n m : Nat) (h : List Int) (hm : h.length = m + 1) (b1 : m < 1000000) :
    milllaw10_PlanWhole.l1 (k + 1) x0 x1 steps n h steps.length = (plan_Check.f k x0 x1 steps).bind fun t266 => if h.getD m 0 = (n : Int) then ((milllaw10_num.f t266).bind fun t268 => (some (t268 == 0))) else (some false) := by
  have e1 : ¬ (steps.length : Int) < steps.length := by omega
  have e2 : wrap64 ((h.length : Int) - 1) = (m : Int) := by rw [w64 _ (by omega) (by omega)]; omega
  have e3 : (0 : Int) ≤ (m : Int) := by omega
  have e4 : (m : Int) < h.length := by omega
  rw [milllaw10_PlanWhole.l1, if_neg e1, e2]
  simp only [rd_nat, if_pos e3, if_pos e4]
  rfl
theorem l1_step (k : Nat) (x0 : List Int) (fan : Nat) (steps : List S51) (n s : Nat) (h : List Int) (hs : s < steps.length) (b1 : n + s < 1000000) (f1 : (steps[s]).f1 = (n : Int) + s) (f3 : (steps[s]).f0.length ≤ fan) (hl : 0 < s → (steps[s]).f0.length = fan) :
    milllaw10_PlanWhole.l1 (k + 1) x0 fan steps n h s = milllaw10_PlanWhole.j5 k x0 fan steps n h s false := by
  have e1 : (s : Int) < steps.length := by omega
  have e2 : (0 : Int) ≤ (s : Int) := by omega
  have e3 : wrap64 ((n : Int) + (s : Int)) = (n : Int) + s := by rw [wA (by omega) (by omega)]; omega
  have e4 : ¬ ((steps[s]).f0.length : Int) > fan := by omega
  rw [milllaw10_PlanWhole.l1, if_pos e1, if_pos e2, rdT_getElem hs, e3, if_pos f1, if_neg e4]
  by_cases h0 : 0 < s
  · have e5 : (s : Int) > 0 := by omega
    rw [if_pos e5, hl h0]; simp
  · have e5 : ¬ (s : Int) > 0 := by omega
    rw [if_neg e5]
theorem whole_l1 (x0 : List Int) (fan : Nat) (steps : List S51) (n L : Nat) (hx0 : x0.length = n) (hg : givenV x0 fan = 0) (hL : L = steps.length) (hn : n ≤ 2048) (hL2 : L ≤ 2048) (hp : Plan n fan steps) (hfan : fan ≤ 64)
    (hlens : ∀ i (h : i < steps.length), 0 < i → (steps[i]).f0.length = fan) :
    ∀ (d s : Nat) (h : List Int), steps.length - s = d → s ≤ steps.length → Hold n L (n + s) (flat (steps.take s)) h →
      Ev (fun k => milllaw10_PlanWhole.l1 k x0 fan steps n h s) true
  | 0, s, h, hd, hi, H => by
    have e : s = steps.length := by omega
    subst e
    rw [List.take_length] at H
    have hL1 := hp.some
    have hlast : h.getD (n + L - 1) 0 = n := by
      have hlen := H.len
      have hz : ∀ j : Nat, j < n + L - 1 → h.getD j 0 = 0 := fun j hj => H.gone j (by omega) (hp.all j (by omega))
      have h1 := sum_set (l := h) (i := n + L - 1) (by omega) 0
      have h2 : (h.set (n + L - 1) 0).sum = 0 := by
        refine sum_zero _ (mem_getD fun j hj => ?_)
        rw [List.length_set] at hj
        rw [getD_set (by omega)]
        by_cases e : j = n + L - 1
        · rw [if_pos e]
        · rw [if_neg e]; exact hz j (by omega)
      rw [h2, H.sum] at h1
      generalize h.getD (n + L - 1) 0 = v at h1 ⊢
      clear hz h2
      omega
    have hlen : h.length = (n + L - 1) + 1 := by have := H.len; clear hlast; omega
    have hb : n + L - 1 < 1000000 := by clear hlast; omega
    refine Ev.step (fun k => l1_end k x0 fan steps n (n + L - 1) h hlen hb) ?_
    refine Ev.bind (check_ev x0 fan steps) ?_
    rw [checkV_plan hg (by rw [hx0]; exact hp)]
    simp only [if_pos hlast]
    exact Ev.now _
  | d + 1, s, h, hd, hi, H => by
    have hlt : s < steps.length := by omega
    obtain ⟨⟨f1, f2, f3, f4⟩, p2, p3, p4, _⟩ := plan_at hp hlt
    have fin : Ev (fun k => milllaw10_PlanWhole.j5 k x0 fan steps n h s false) true := by
      refine Ev.step (f := fun k => milllaw10_PlanWhole.l2 k x0 fan steps n h s ((0 : Nat) : Int)) (fun k => by rw [milllaw10_PlanWhole.j5, if_neg (by simp)]; rfl) ?_
      refine whole_l2 x0 fan steps n L s hlt hL hn hL2 (flat (steps.take s)) (fun x hx => by have := p2 x hx; omega) p3 p4 (by omega) f2 (fun h' H' => ?_) _ 0 h rfl (Nat.zero_le _) (by simpa using H) (fun h => by omega)
      refine whole_l1 x0 fan steps n L hx0 hg hL hn hL2 hp hfan hlens d (s + 1) h' (by omega) (by omega) ?_
      rw [flat_take_succ hlt]; exact H'
    exact Ev.step (fun k => l1_step k x0 fan steps n s h hlt (by omega) f1 f3 (hlens s hlt)) fin
theorem whole_l0 (x0 : List Int) (x1 : Int) (steps : List S51) (n L : Nat) (hn : n ≤ 2048) (hL2 : L ≤ 2048)
    (cont : Ev (fun k => milllaw10_PlanWhole.l1 k x0 x1 steps n (List.replicate n 1 ++ List.replicate L 0) ((0 : Nat) : Int)) true) :
    ∀ (d i : Nat), n - i = d → i ≤ n → Ev (fun k => milllaw10_PlanWhole.l0 k x0 x1 steps n (List.replicate i 1 ++ List.replicate (n - i + L) 0) i) true
  | 0, i, hd, hi => by
    have e : i = n := by omega
    subst e
    rw [Nat.sub_self, Nat.zero_add]
    exact Ev.step (f := fun k => milllaw10_PlanWhole.l1 k x0 x1 steps i (List.replicate i 1 ++ List.replicate L 0) ((0 : Nat) : Int)) (fun k => by rw [milllaw10_PlanWhole.l0, if_neg (by omega)]; rfl) cont
  | d + 1, i, hd, hi => by
    refine Ev.step (f := fun k => milllaw10_PlanWhole.l0 k x0 x1 steps n (List.replicate (i + 1) 1 ++ List.replicate (n - (i + 1) + L) 0) ((i + 1 : Nat) : Int)) (fun k => ?_) (whole_l0 x0 x1 steps n L hn hL2 cont d (i + 1) (by omega) (by omega))
    have e : (List.replicate i (1 : Int) ++ List.replicate (n - i + L) 0).set i 1 = List.replicate (i + 1) 1 ++ List.replicate (n - (i + 1) + L) 0 := by
      rw [List.set_append_right _ _ (by rw [List.length_replicate]; omega), List.length_replicate, Nat.sub_self, show n - i + L = (n - (i + 1) + L) + 1 from by omega, List.replicate_succ, List.set_cons_zero, List.replicate_succ', List.append_assoc]; rfl
    rw [milllaw10_PlanWhole.l0, if_pos (by omega), if_pos (by omega), if_pos (by rw [List.length_append, List.length_replicate, List.length_replicate]; omega), Int.toNat_natCast, e, wS (by omega)]
theorem hold_start (n L : Nat) : Hold n L (n + 0) [] (List.replicate n 1 ++ List.replicate L 0) := by
  have g : ∀ j, (List.replicate n (1 : Int) ++ List.replicate L 0).getD j 0 = if j < n then 1 else 0 := fun j => by
    rw [List.getD_eq_getElem?_getD]
    by_cases h : j < n
    · rw [List.getElem?_append_left (by simpa using h), List.getElem?_replicate, if_pos h, if_pos h]; rfl
    · rw [List.getElem?_append_right (by simpa using h), List.getElem?_replicate, if_neg h]; split <;> rfl
  refine ⟨by simp, fun j hj hm => by simp at hm, fun j hj _ => ?_, fun j hj => ?_, ?_, ?_, fun x hx => by simp at hx⟩
  · rw [g, if_pos (by omega)]; exact Int.le_refl _
  · rw [g, if_neg (by omega)]
  · rw [g, if_neg (by omega)]; exact Int.le_refl _
  · rw [List.sum_append, sum_zero (List.replicate L 0) (fun x hx => (List.mem_replicate.1 hx).2)]
    have : ∀ m : Nat, (List.replicate m (1 : Int)).sum = m := fun m => by
      induction m with
      | zero => rfl
      | succ n ih => rw [List.replicate_succ, List.sum_cons]; omega
    rw [this]; omega
theorem whole_ev (l : List Int) (fan : Int) : Ev (fun k => milllaw10_PlanWhole.f k l fan) true := by
  unfold milllaw10_PlanWhole.f
  refine Ev.bind (ref_given_ev l fan) ?_
  have yes : Ev (fun k => milllaw10_PlanWhole.j0 k l fan true) true := Ev.step (f := fun _ => some true) (fun k => by rw [milllaw10_PlanWhole.j0, if_pos rfl]) (Ev.now _)
  by_cases hg : givenV l fan = 0
  · simp only [if_pos hg]
    by_cases hl : l.length > 2048
    · rw [decide_eq_true (by omega)]; exact yes
    · rw [decide_eq_false (by omega)]
      obtain ⟨g1, g2, g3, g4, g5⟩ := givenV_zero hg
      obtain ⟨F, rfl⟩ : ∃ F : Nat, fan = F := ⟨fan.toNat, by omega⟩
      refine Ev.step (f := fun k => (plan_Make.f k l F).bind fun bt257 => (if (l.length : Int) > 1 then (if (wrap64 ((F : Int) - 1)) = 0 then (none) else (milllaw10_PlanWhole.j1 k l F bt257.1 bt257.2 (l.length : Int) (wrap64 (Int.tdiv (wrap64 ((wrap64 ((wrap64 ((l.length : Int) - 1)) + F)) - 2)) (wrap64 ((F : Int) - 1)))))) else (milllaw10_PlanWhole.j1 k l F bt257.1 bt257.2 (l.length : Int) 1))) (fun k => by rw [milllaw10_PlanWhole.j0, if_neg (by simp)]) ?_
      refine Ev.bind (make_ev hg) ?_
      simp only [Int.toNat_natCast]
      have hlen := gSteps_length (l := l) (fan := F) (by omega) g3
      have hplan := gSteps_plan (l := l) (fan := F) (by omega) g3
      have hfew := hplan.few
      have main : Ev (fun k => milllaw10_PlanWhole.j1 k l F (gSteps l F) 0 (l.length : Int) ((gSteps l F).length : Int)) true := by
        refine Ev.step (f := fun k => milllaw10_PlanWhole.j2 k l F (gSteps l F) (l.length : Int) false) (fun k => ?_) ?_
        · rw [milllaw10_PlanWhole.j1]; simp [milllaw10_num.f]
        · have hw : wrap64 ((l.length : Int) + ((gSteps l F).length : Int)) = ((l.length + (gSteps l F).length : Nat) : Int) := by rw [w64 _ (by omega) (by omega)]; omega
          refine Ev.step (f := fun k => milllaw10_PlanWhole.l0 k l F (gSteps l F) (l.length : Int) (List.replicate 0 1 ++ List.replicate (l.length - 0 + (gSteps l F).length) 0) ((0 : Nat) : Int)) (fun k => ?_) ?_
          · rw [milllaw10_PlanWhole.j2, if_neg (by simp), hw, if_pos (by omega), Int.toNat_natCast, if_pos (by omega)]; rfl
          · refine whole_l0 l F (gSteps l F) l.length (gSteps l F).length (by omega) (by omega) ?_ _ 0 rfl (Nat.zero_le _)
            refine whole_l1 l F (gSteps l F) l.length _ rfl hg rfl (by omega) (by omega) hplan (by omega) (fun i h h0 => by rw [gSteps_lens (by omega) g3 i h, if_neg (by omega)]) _ 0 _ rfl (Nat.zero_le _) ?_
            exact hold_start _ _
      by_cases h1 : (l.length : Int) > 1
      · simp only [if_pos h1]
        have hne : ¬ (wrap64 ((F : Int) - 1) = 0) := by rw [w64 _ (by omega) (by omega)]; omega
        simp only [if_neg hne]
        have e : wrap64 (Int.tdiv (wrap64 ((wrap64 ((wrap64 ((l.length : Int) - 1)) + F)) - 2)) (wrap64 ((F : Int) - 1))) = ((gSteps l F).length : Int) := by
          have e1 : wrap64 (wrap64 (wrap64 ((l.length : Int) - 1) + F) - 2) = ((l.length - 2 + (F - 1) : Nat) : Int) := by
            rw [w64 ((l.length : Int) - 1) (by omega) (by omega), w64 ((l.length : Int) - 1 + F) (by omega) (by omega), w64 ((l.length : Int) - 1 + F - 2) (by omega) (by omega)]; omega
          have e2 : wrap64 ((F : Int) - 1) = ((F - 1 : Nat) : Int) := by rw [w64 _ (by omega) (by omega)]; omega
          rw [hlen]
          have hle := Nat.div_le_self (l.length - 2) (F - 1)
          have e3 : moreOf l.length F = (l.length - 2) / (F - 1) := by unfold moreOf; rw [if_neg (by omega)]
          rw [e1, e2, Int.tdiv_eq_ediv_of_nonneg (Int.natCast_nonneg _), ← Int.natCast_ediv, Nat.add_div_right _ (by omega), e3]
          generalize (l.length - 2) / (F - 1) = q at hle
          clear e1 e2 e3 hne
          rw [w64 _ (by omega) (by omega)]
        rw [e]
        exact main
      · simp only [if_neg h1]
        have e : (gSteps l F).length = 1 := by rw [hlen]; unfold moreOf; rw [if_pos (by omega)]
        rw [e] at main
        exact main
  · simp only [if_neg hg]; exact yes
theorem PlanWhole : milllaw10_PlanWhole.Pure := fun l0 a1 _ _ _ _ => (whole_ev l0 a1).rounds

end Go.Proofs.Ytbgabijjnbmghaa.Pure
