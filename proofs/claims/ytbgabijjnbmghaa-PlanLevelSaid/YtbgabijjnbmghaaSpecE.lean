/- Plain law: a plan as a flow of runs: what is left, through how many steps each goes, what it costs. -/
import Derived.Test.YtbgabijjnbmghaaSpecM
namespace Go.Proofs.Ytbgabijjnbmghaa.P
open Go.RowKit Go.Proofs.Ytbgabijjnbmghaa Go.Proofs.YtbgabijjnbmghaaW.PrintWords Go.Proofs.YtbgabijjnbmghaaW.PrintLast Go.Proofs.YtbgabijjnbmghaaW.PrintMore
set_option linter.unusedVariables false
set_option linter.unusedSimpArgs false

/-- through how many of the steps (numbers s and on) a run goes -/
def upFrom (n : Nat) : Nat → List S51 → Int → Nat
  | _, [], _ => 0
  | s, st :: r, x => if x ∈ st.f0 then upFrom n (s + 1) r ((n + s : Nat) : Int) + 1 else upFrom n (s + 1) r x
theorem upFrom_le (n : Nat) : ∀ (l : List S51) (s : Nat) (x : Int), upFrom n s l x ≤ l.length
  | [], s, x => Nat.le_refl _
  | st :: r, s, x => by
    rw [upFrom, List.length_cons]
    have h1 := upFrom_le n r (s + 1) ((n + s : Nat) : Int)
    have h2 := upFrom_le n r (s + 1) x
    split <;> omega
/-- A holds the runs that are left ahead of step s -/
def Flow (n fan : Nat) : Nat → List S51 → List Int → Prop
  | s, [], A => A = [((n + s - 1 : Nat) : Int)]
  | s, st :: r, A => ∃ R : List Int, A.Perm (st.f0 ++ R) ∧ (∀ x ∈ R, x ∉ st.f0) ∧ (∀ x ∈ A, 0 ≤ x ∧ x < ((n + s : Nat) : Int)) ∧ 1 ≤ st.f0.length ∧ st.f0.length ≤ fan ∧ (2 ≤ n → 2 ≤ st.f0.length) ∧ Flow n fan (s + 1) r (((n + s : Nat) : Int) :: R)
theorem perm_nodup {a b : List Int} (ha : a.Nodup) (hb : b.Nodup) (h : ∀ x, x ∈ a ↔ x ∈ b) : a.Perm b := (List.perm_ext_iff_of_nodup ha hb).2 h
theorem flow_of (n fan : Nat) (L : Nat) : ∀ (steps : List S51) (s : Nat) (xs A : List Int), (xs ++ A).Perm (nums (n + s)) → PlanFrom n fan s steps xs → s + steps.length = L → 1 ≤ n + L → (∀ j : Nat, j + 1 < n + L → (j : Int) ∈ xs ++ flat steps) → (∀ x ∈ xs, x + 1 < (n : Int) + s) → Flow n fan s steps A
  | [], s, xs, A, hp, hf, hL, h1, hall, hlow => by
    have hnd := (hp.nodup_iff).2 (nums_nodup _)
    have hA : A.Perm [((n + s - 1 : Nat) : Int)] := by
      refine perm_nodup (List.nodup_append.1 hnd).2.1 (by simp) (fun x => ?_)
      have hm := hp.mem_iff (a := x)
      rw [nums_mem, List.mem_append] at hm
      simp at hL
      constructor
      · intro hx
        have h2 := hm.1 (.inr hx)
        have h3 := hall x.toNat
        simp only [List.mem_singleton]
        by_cases e : x = ((n + s - 1 : Nat) : Int)
        · exact e
        · have h4 := h3 (by omega)
          simp [flat] at h4
          rw [show max x 0 = x by omega] at h4
          exact absurd rfl ((List.nodup_append.1 hnd).2.2 x h4 x hx)
      · intro hx
        simp only [List.mem_singleton] at hx
        rcases hm.2 ⟨by omega, by omega⟩ with h | h
        · have := hlow x h; omega
        · exact h
    have := List.perm_singleton.1 hA
    exact this
  | st :: r, s, xs, A, hp, hf, hL, h1, hall, hlow => by
    obtain ⟨f, hr, hpw, hx, hrest⟩ := hf
    obtain ⟨f1, f2, f3, f4⟩ := f
    have hnd := (hp.nodup_iff).2 (nums_nodup _)
    have hA := (List.nodup_append.1 hnd).2.1
    have hins : st.f0.Nodup := hpw.imp (fun {a b} h => by omega)
    have hinA : ∀ x ∈ st.f0, x ∈ A := fun x hxm => by
      have := hr x hxm
      rcases List.mem_append.1 (hp.mem_iff.2 (nums_mem.2 ⟨this.1, by omega⟩)) with h | h
      · exact absurd h (hx x hxm)
      · exact h
    have hR : (A.filter (fun x => x ∉ st.f0)).Nodup := hA.sublist List.filter_sublist
    have hperm : A.Perm (st.f0 ++ A.filter (fun x => x ∉ st.f0)) := by
      refine perm_nodup hA ?_ (fun x => ?_)
      · rw [List.nodup_append]
        exact ⟨hins, hR, fun a ha b hb e => by subst e; simp at hb; exact hb.2 ha⟩
      · simp only [List.mem_append, List.mem_filter, decide_eq_true_eq]
        constructor
        · intro h
          by_cases h2 : x ∈ st.f0
          · exact .inl h2
          · exact .inr ⟨h, h2⟩
        · rintro (h | h)
          · exact hinA x h
          · exact h.1
    have hrange : ∀ x ∈ A, 0 ≤ x ∧ x < ((n + s : Nat) : Int) := fun x h => nums_mem.1 (hp.mem_iff.1 (List.mem_append_right _ h))
    refine ⟨A.filter (fun x => x ∉ st.f0), hperm, ?_, hrange, f2, f3, fun h => ?_, ?_⟩
    · intro x hx; simp at hx; exact hx.2
    · rcases Nat.lt_or_ge st.f0.length 2 with h2 | h2
      · have := f4 (by omega); omega
      · exact h2
    · refine flow_of n fan L r (s + 1) (xs ++ st.f0) _ ?_ hrest (by rw [List.length_cons] at hL; omega) h1 (fun j hj => ?_) (fun x hx => ?_)
      · rw [show n + (s + 1) = (n + s) + 1 from rfl, nums_succ, List.append_assoc]
        have e1 : (st.f0 ++ ((n + s : Nat) : Int) :: A.filter (fun x => x ∉ st.f0)).Perm (A ++ [((n + s : Nat) : Int)]) := by
          refine List.perm_middle.trans (List.Perm.trans ?_ (List.perm_append_singleton _ _).symm)
          exact hperm.symm.cons _
        refine (e1.append_left xs).trans ?_
        rw [← List.append_assoc]
        exact hp.append_right _
      · have := hall j hj
        rwa [flat_cons, ← List.append_assoc] at this
      · rcases List.mem_append.1 hx with hx | hx
        · have := hlow x hx; omega
        · have := hr x hx; omega
theorem flow_of_plan {n fan : Nat} {steps : List S51} (h : Plan n fan steps) : Flow n fan 0 steps (nums n) :=
  flow_of n fan steps.length steps 0 [] (nums n) (by simp) h.steps (by omega) (by have := h.some; omega) (fun j hj => by simpa using h.all j hj) (fun x hx => by simp at hx)
/-- how many places are taken -/
theorem flow_taken (n fan : Nat) : ∀ (steps : List S51) (s : Nat) (A : List Int), Flow n fan s steps A → (flat steps).length + 1 = A.length + steps.length
  | [], s, A, h => by rw [Flow] at h; subst h; rfl
  | st :: r, s, A, h => by
    obtain ⟨R, h1, h2, h3, h4, h5, h5b, h6⟩ := h
    have ih := flow_taken n fan r (s + 1) _ h6
    have hl := h1.length_eq
    rw [List.length_append] at hl
    rw [flat_cons, List.length_append]
    simp only [List.length_cons] at ih ⊢
    omega
theorem flow_flat_le (n fan : Nat) : ∀ (steps : List S51) (s : Nat) (A : List Int), Flow n fan s steps A → (flat steps).length ≤ fan * steps.length
  | [], s, A, h => Nat.zero_le _
  | st :: r, s, A, h => by
    obtain ⟨R, h1, h2, h3, h4, h5, h5b, h6⟩ := h
    have ih := flow_flat_le n fan r (s + 1) _ h6
    rw [flat_cons, List.length_append, List.length_cons, Nat.mul_succ]
    omega
/-! ### sums over what is left -/
theorem sum_map_perm {a b : List Int} (f : Int → Int) (h : a.Perm b) : (a.map f).sum = (b.map f).sum := sum_perm (h.map f)
theorem sum_map_congr {a : List Int} {f g : Int → Int} (h : ∀ x ∈ a, f x = g x) : (a.map f).sum = (a.map g).sum := by
  rw [List.map_congr_left h]
theorem sum_const (a : List Int) (c : Int) : (a.map fun _ => c).sum = a.length * c := by
  induction a with
  | nil => simp
  | cons x a ih =>
    simp only [List.map_cons, List.sum_cons, ih, List.length_cons]
    rw [show (((a.length + 1 : Nat) : Int)) = (a.length : Int) + 1 from by omega, Int.add_mul]
    omega
theorem sum_map_mul (a : List Int) (f : Int → Int) (c : Int) : (a.map fun x => f x * c).sum = (a.map f).sum * c := by
  induction a with
  | nil => simp
  | cons x a ih => simp only [List.map_cons, List.sum_cons, ih, Int.add_mul]
theorem sum_map_add (a : List Int) (f g : Int → Int) : (a.map fun x => f x + g x).sum = (a.map f).sum + (a.map g).sum := by
  induction a with
  | nil => simp
  | cons x a ih => simp only [List.map_cons, List.sum_cons, ih]; omega
theorem flow_up {n fan s : Nat} {st : S51} {r : List S51} {R : List Int} (h2 : ∀ x ∈ R, x ∉ st.f0) :
    (∀ x ∈ st.f0, upFrom n s (st :: r) x = upFrom n (s + 1) r ((n + s : Nat) : Int) + 1) ∧ ∀ x ∈ R, upFrom n s (st :: r) x = upFrom n (s + 1) r x :=
  ⟨fun x hx => by rw [upFrom, if_pos hx], fun x hx => by rw [upFrom, if_neg (h2 x hx)]⟩
/-- the inequality of Kraft -/
theorem flow_kraft (n fan : Nat) (hf : 1 ≤ fan) : ∀ (steps : List S51) (s D : Nat) (A : List Int), Flow n fan s steps A → steps.length ≤ D → (A.map fun x => ((fan ^ (D - upFrom n s steps x) : Nat) : Int)).sum ≤ ((fan ^ D : Nat) : Int)
  | [], s, D, A, h, hD => by rw [Flow] at h; subst h; simp [upFrom]
  | st :: r, s, D, A, h, hD => by
    obtain ⟨R, h1, h2, h3, h4, h5, h5b, h6⟩ := h
    rw [List.length_cons] at hD
    have ih := flow_kraft n fan hf r (s + 1) D _ h6 (by omega)
    obtain ⟨u1, u2⟩ := flow_up (n := n) (fan := fan) (s := s) (st := st) (r := r) h2
    rw [sum_map_perm _ h1, List.map_append, List.sum_append, sum_map_congr (f := fun x => ((fan ^ (D - upFrom n s (st :: r) x) : Nat) : Int)) (g := fun x => ((fan ^ (D - (upFrom n (s + 1) r ((n + s : Nat) : Int) + 1)) : Nat) : Int)) (fun x hx => by rw [u1 x hx]), sum_const,
      sum_map_congr (f := fun x => ((fan ^ (D - upFrom n s (st :: r) x) : Nat) : Int)) (g := fun x => ((fan ^ (D - upFrom n (s + 1) r x) : Nat) : Int)) (fun x hx => by rw [u2 x hx])]
    rw [List.map_cons, List.sum_cons] at ih
    have hu := upFrom_le n r (s + 1) ((n + s : Nat) : Int)
    generalize upFrom n (s + 1) r ((n + s : Nat) : Int) = u at ih hu ⊢
    have e : D - u = (D - (u + 1)) + 1 := by omega
    have hle : ((st.f0.length * fan ^ (D - (u + 1)) : Nat) : Int) ≤ ((fan ^ (D - u) : Nat) : Int) := by
      rw [e, Nat.pow_succ, Nat.mul_comm]
      have := Nat.mul_le_mul_left (fan ^ (D - (u + 1))) h5
      omega
    rw [Int.natCast_mul] at hle
    omega
/-! ### costs -/
def sumAt (acc : List Int) (ins : List Int) : Int := (ins.map fun x => acc.getD x.toNat 0).sum
def costOf : List Int → List S51 → Int
  | _, [] => 0
  | acc, st :: r => sumAt acc st.f0 + costOf (acc ++ [sumAt acc st.f0]) r
theorem getD_append_lt {acc b : List Int} {j : Nat} (h : j < acc.length) : (acc ++ b).getD j 0 = acc.getD j 0 := by
  rw [List.getD_eq_getElem?_getD, List.getD_eq_getElem?_getD, List.getElem?_append_left h]
theorem getD_append_len (acc : List Int) (v : Int) : (acc ++ [v]).getD acc.length 0 = v := by
  rw [List.getD_eq_getElem?_getD]; simp
theorem flow_cost (n fan : Nat) : ∀ (steps : List S51) (s : Nat) (A acc : List Int), Flow n fan s steps A → acc.length = n + s → (A.map fun x => acc.getD x.toNat 0 * (upFrom n s steps x : Int)).sum = costOf acc steps
  | [], s, A, acc, h, hl => by rw [Flow] at h; subst h; simp [upFrom, costOf]
  | st :: r, s, A, acc, h, hl => by
    obtain ⟨R, h1, h2, h3, h4, h5, h5b, h6⟩ := h
    have ih := flow_cost n fan r (s + 1) _ (acc ++ [sumAt acc st.f0]) h6 (by rw [List.length_append, List.length_singleton, hl]; omega)
    obtain ⟨u1, u2⟩ := flow_up (n := n) (fan := fan) (s := s) (st := st) (r := r) h2
    have hR : ∀ x ∈ R, x.toNat < acc.length := fun x hx => by
      have := h3 x (h1.mem_iff.2 (List.mem_append_right _ hx)); omega
    rw [costOf, ← ih, sum_map_perm _ h1, List.map_append, List.sum_append, List.map_cons, List.sum_cons, Int.toNat_natCast, ← hl, getD_append_len, hl]
    rw [sum_map_congr (a := st.f0) (g := fun x => acc.getD x.toNat 0 * ((upFrom n (s + 1) r ((n + s : Nat) : Int) : Nat) : Int) + acc.getD x.toNat 0) (fun x hx => by rw [u1 x hx, show ((upFrom n (s + 1) r ((n + s : Nat) : Int) + 1 : Nat) : Int) = (upFrom n (s + 1) r ((n + s : Nat) : Int) : Int) + 1 from by omega, Int.mul_add, Int.mul_one]), sum_map_add, sum_map_mul]
    rw [sum_map_congr (a := R) (g := fun x => (acc ++ [sumAt acc st.f0]).getD x.toNat 0 * (upFrom n (s + 1) r x : Int)) (fun x hx => by rw [u2 x hx, getD_append_lt (hR x hx)])]
    unfold sumAt
    omega
/-! ### depths -/
def maxL (l : List Int) : Int := l.foldr (fun x m => max x m) 0
theorem maxL_cons (x : Int) (l : List Int) : maxL (x :: l) = max x (maxL l) := rfl
theorem maxL_nonneg : ∀ (l : List Int), 0 ≤ maxL l
  | [] => Int.le_refl _
  | x :: l => by have := maxL_nonneg l; rw [maxL_cons]; omega
theorem maxL_append : ∀ (a b : List Int), maxL (a ++ b) = max (maxL a) (maxL b)
  | [], b => by have := maxL_nonneg b; rw [List.nil_append, show maxL [] = 0 from rfl]; omega
  | x :: a, b => by rw [List.cons_append, maxL_cons, maxL_cons, maxL_append a b]; omega
theorem maxL_perm {a b : List Int} (h : a.Perm b) : maxL a = maxL b := by
  induction h with
  | nil => rfl
  | cons x _ ih => rw [maxL_cons, maxL_cons, ih]
  | swap x y l => simp only [maxL_cons]; omega
  | trans _ _ ih1 ih2 => exact ih1.trans ih2
def deepAt (acc : List Int) (ins : List Int) : Int := maxL (ins.map fun x => acc.getD x.toNat 0 + 1)
def deepOf : List Int → List S51 → List Int
  | acc, [] => acc
  | acc, st :: r => deepOf (acc ++ [deepAt acc st.f0]) r
theorem maxL_shift : ∀ (a : List Int) (u : Int), 0 ≤ u → 1 ≤ a.length → (∀ x ∈ a, 0 ≤ x) → maxL (a.map fun x => x + u) = maxL a + u
  | [], u, hu, h1, h => by simp at h1
  | [x], u, hu, h1, h => by
    have := h x (List.mem_cons_self ..)
    show max (x + u) 0 = max x 0 + u
    omega
  | x :: y :: a, u, hu, h1, h => by
    have ih := maxL_shift (y :: a) u hu (by simp) (fun z hz => h z (List.mem_cons_of_mem _ hz))
    rw [List.map_cons, maxL_cons, ih, maxL_cons x]
    omega
theorem flow_depth (n fan : Nat) : ∀ (steps : List S51) (s : Nat) (A acc : List Int), Flow n fan s steps A → acc.length = n + s → 1 ≤ n + s → (∀ j, 0 ≤ acc.getD j 0) → maxL (A.map fun x => acc.getD x.toNat 0 + (upFrom n s steps x : Int)) = (deepOf acc steps).getD (n + s + steps.length - 1) 0
  | [], s, A, acc, h, hl, h1, h0 => by
    rw [Flow] at h; subst h
    have := h0 (n + s - 1)
    simp only [List.map_cons, List.map_nil, maxL_cons, upFrom, deepOf, List.length_nil, Nat.add_zero, Int.toNat_natCast]
    rw [show maxL [] = 0 from rfl]
    omega
  | st :: r, s, A, acc, h, hl, h01, h0 => by
    obtain ⟨R, h1, h2, h3, h4, h5, h5b, h6⟩ := h
    have hd0 := maxL_nonneg (st.f0.map fun x => acc.getD x.toNat 0 + 1)
    have ih := flow_depth n fan r (s + 1) _ (acc ++ [deepAt acc st.f0]) h6 (by rw [List.length_append, List.length_singleton, hl]; omega) (by omega) (fun j => by
      rcases Nat.lt_trichotomy j acc.length with hj | hj | hj
      · rw [getD_append_lt hj]; exact h0 j
      · subst hj; rw [getD_append_len]; exact hd0
      · rw [List.getD_eq_getElem?_getD, List.getElem?_eq_none (by simp; omega)]; exact Int.le_refl _)
    obtain ⟨u1, u2⟩ := flow_up (n := n) (fan := fan) (s := s) (st := st) (r := r) h2
    have hR : ∀ x ∈ R, x.toNat < acc.length := fun x hx => by
      have := h3 x (h1.mem_iff.2 (List.mem_append_right _ hx)); omega
    rw [deepOf, List.length_cons, show n + s + (r.length + 1) - 1 = n + (s + 1) + r.length - 1 from by omega, ← ih]
    rw [maxL_perm (h1.map _), List.map_append, maxL_append, List.map_cons, maxL_cons, Int.toNat_natCast, ← hl, getD_append_len, hl]
    have e1 : st.f0.map (fun x => acc.getD x.toNat 0 + (upFrom n s (st :: r) x : Int)) = (st.f0.map fun x => acc.getD x.toNat 0 + 1).map fun y => y + ((upFrom n (s + 1) r ((n + s : Nat) : Int) : Nat) : Int) := by
      rw [List.map_map]
      refine List.map_congr_left fun x hx => ?_
      rw [u1 x hx]
      simp only [Function.comp]
      omega
    have e2 : R.map (fun x => acc.getD x.toNat 0 + (upFrom n s (st :: r) x : Int)) = R.map fun x => (acc ++ [deepAt acc st.f0]).getD x.toNat 0 + (upFrom n (s + 1) r x : Int) :=
      List.map_congr_left fun x hx => by rw [u2 x hx, getD_append_lt (hR x hx)]
    rw [e1, e2, maxL_shift _ _ (by omega) (by rw [List.length_map]; exact h4) (fun y hy => by
      obtain ⟨x, _, rfl⟩ := List.mem_map.1 hy
      have := h0 x.toNat; omega)]
    rfl
end Go.Proofs.Ytbgabijjnbmghaa.P
