/- The walks of the five methods of plan.ladder: Len, Less, Swap, Push, Pop. -/
import Derived.Test.YtbgabijjnbmghaaProg
import Derived.Test.YtbgabijjnbmghaaHeapP
import Derived.WalkKit
import Derived.KernelRfl
import Derived.Deep.QuietTactic
import Derived.BigQuiet
import Derived.BigRegion
import Derived.RegionTactic
import Derived.ChangeAlike
import Derived.Laws.IdiomCopy
import Derived.Deep.RegionWith
import Derived.Outline
import Derived.Deep.RegionLaw
namespace Go.Proofs.Ytbgabijjnbmghaa
open Go.RowKit Go.Proofs.YtbgabijjnbmghaaW.PrintWords
set_option linter.unusedVariables false
set_option linter.unusedSimpArgs false
theorem info62 : (Try.prog.info? 62).map (fun i => (i.zero, i.size, i.bytes)) = some (some (.agg #[.int .i64 0, .int .i64 0]), 2, 16) := by kernel_rfl
theorem Len_any (a : Option Addr) (n c : Nat) (w : World) :
    Calls Try.prog 82 #[.slice a n c] w fun e w' => e = .returned (.int .i64 n) ∧ w = w' := by
  go_enter Try.func82, Try.ntmps82
  go_wp2
  go_ret
  exact ⟨rfl, rfl⟩

theorem Less_lt (g n c i j : Nat) (x y : Rung) (w : World) (hi : i < n) (hj : j < n) 
    (hx2 : w.cell? ⟨g, i * 2 + 1, none⟩ = some (.int .i64 x.2)) (hy2 : w.cell? ⟨g, j * 2 + 1, none⟩ = some (.int .i64 y.2))
    (h : x.2 < y.2) :
    Calls Try.prog 83 #[.slice (some ⟨g, 0, none⟩) n c, .int .i64 i, .int .i64 j] w fun e w' => e = .returned (.bool true) ∧ ∃ k, w' = w.drewN k := by
  have h1 : decide (x.2 < y.2) = true := by simpa using h
  go_enter Try.func83, Try.ntmps83
  go_wp2
  go_quiet (fail)
  go_wp2
  go_ret
  exact ⟨rfl, _, rfl⟩
theorem Less_gt (g n c i j : Nat) (x y : Rung) (w : World) (hi : i < n) (hj : j < n) 
    (hx2 : w.cell? ⟨g, i * 2 + 1, none⟩ = some (.int .i64 x.2)) (hy2 : w.cell? ⟨g, j * 2 + 1, none⟩ = some (.int .i64 y.2))
    (h : y.2 < x.2) :
    Calls Try.prog 83 #[.slice (some ⟨g, 0, none⟩) n c, .int .i64 i, .int .i64 j] w fun e w' => e = .returned (.bool false) ∧ ∃ k, w' = w.drewN k := by
  have h1 : decide (x.2 < y.2) = false := by simp; omega
  have h2 : (x.2 == y.2) = false := by simp; omega
  go_enter Try.func83, Try.ntmps83
  go_wp2
  go_quiet (fail)
  go_wp2
  go_ret
  exact ⟨rfl, _, rfl⟩
theorem Less_eq (g n c i j : Nat) (b : Bool) (x y z : Int) (w : World) (hi : i < n) (hj : j < n) 
    (hx1 : w.cell? ⟨g, i * 2, none⟩ = some (.int .i64 x)) (hy1 : w.cell? ⟨g, j * 2, none⟩ = some (.int .i64 y))
    (hx2 : w.cell? ⟨g, i * 2 + 1, none⟩ = some (.int .i64 z)) (hy2 : w.cell? ⟨g, j * 2 + 1, none⟩ = some (.int .i64 z))
    (h : decide (x < y) = b) :
    Calls Try.prog 83 #[.slice (some ⟨g, 0, none⟩) n c, .int .i64 i, .int .i64 j] w fun e w' => e = .returned (.bool b) ∧ ∃ k, w' = w.drewN k := by
  have h1 : decide (z < z) = false := by simp
  have h2 : (z == z) = true := by simp
  go_enter Try.func83, Try.ntmps83
  go_wp2
  go_quiet (fail)
  go_wp2
  go_ret
  exact ⟨rfl, _, rfl⟩
theorem Less_any (g n : Nat) (l : List Rung) (i j : Nat) (w : World) (hl : Lad w g n l) (hi : i < l.length) (hj : j < l.length) :
    Calls Try.prog 83 #[.slice (some ⟨g, 0, none⟩) l.length n, .int .i64 i, .int .i64 j] w fun e w' => e = .returned (.bool (lessB (at_ l i) (at_ l j))) ∧ ∃ k, w' = w.drewN k := by
  rcases Int.lt_trichotomy (at_ l i).2 (at_ l j).2 with h | h | h
  · have e : lessB (at_ l i) (at_ l j) = true := by simp [lessB, h]
    rw [e]
    exact Less_lt g _ n i j _ _ w hi hj (hl.weight hi) (hl.weight hj) h
  · have e : lessB (at_ l i) (at_ l j) = decide ((at_ l i).1 < (at_ l j).1) := by simp [lessB, h]
    rw [e]
    exact Less_eq g _ n i j _ _ _ _ w hi hj (hl.run hi) (hl.run hj) (hl.weight hi) (by rw [h]; exact hl.weight hj) rfl
  · have e : lessB (at_ l i) (at_ l j) = false := by simp [lessB]; omega
    rw [e]
    exact Less_gt g _ n i j _ _ w hi hj (hl.weight hi) (hl.weight hj) h

theorem Swap_lt (g n c i j : Nat) (x y : Rung) (w : World) (hi : i < n) (hj : j < n) 
    (hx1 : w.cell? ⟨g, i * 2, none⟩ = some (.int .i64 x.1)) (hx2 : w.cell? ⟨g, i * 2 + 1, none⟩ = some (.int .i64 x.2))
    (hy1 : w.cell? ⟨g, j * 2, none⟩ = some (.int .i64 y.1)) (hy2 : w.cell? ⟨g, j * 2 + 1, none⟩ = some (.int .i64 y.2)) 
    (hf1 : w.frozen? ⟨g, i * 2, none⟩ = false) (hf2 : w.frozen? ⟨g, i * 2 + 1, none⟩ = false) (hf3 : w.frozen? ⟨g, j * 2, none⟩ = false) (hf4 : w.frozen? ⟨g, j * 2 + 1, none⟩ = false) (h : i < j) :
    Calls Try.prog 84 #[.slice (some ⟨g, 0, none⟩) n c, .int .i64 i, .int .i64 j] w fun e w' => e = .returned (.tuple #[]) ∧ ∃ k, w' = ((((w.setCell ⟨g, i * 2, none⟩ (.int .i64 y.1)).setCell ⟨g, i * 2 + 1, none⟩ (.int .i64 y.2)).setCell ⟨g, j * 2, none⟩ (.int .i64 x.1)).setCell ⟨g, j * 2 + 1, none⟩ (.int .i64 x.2)).drewN k := by
  go_enter Try.func84, Try.ntmps84
  go_wp2
  go_region
  all_goals (go_end0; exact ⟨rfl, 1, rfl⟩)
theorem Swap_gt (g n c i j : Nat) (x y : Rung) (w : World) (hi : i < n) (hj : j < n) 
    (hx1 : w.cell? ⟨g, i * 2, none⟩ = some (.int .i64 x.1)) (hx2 : w.cell? ⟨g, i * 2 + 1, none⟩ = some (.int .i64 x.2))
    (hy1 : w.cell? ⟨g, j * 2, none⟩ = some (.int .i64 y.1)) (hy2 : w.cell? ⟨g, j * 2 + 1, none⟩ = some (.int .i64 y.2)) 
    (hf1 : w.frozen? ⟨g, i * 2, none⟩ = false) (hf2 : w.frozen? ⟨g, i * 2 + 1, none⟩ = false) (hf3 : w.frozen? ⟨g, j * 2, none⟩ = false) (hf4 : w.frozen? ⟨g, j * 2 + 1, none⟩ = false) (h : j < i) :
    Calls Try.prog 84 #[.slice (some ⟨g, 0, none⟩) n c, .int .i64 i, .int .i64 j] w fun e w' => e = .returned (.tuple #[]) ∧ ∃ k, w' = ((((w.setCell ⟨g, i * 2, none⟩ (.int .i64 y.1)).setCell ⟨g, i * 2 + 1, none⟩ (.int .i64 y.2)).setCell ⟨g, j * 2, none⟩ (.int .i64 x.1)).setCell ⟨g, j * 2 + 1, none⟩ (.int .i64 x.2)).drewN k := by
  go_enter Try.func84, Try.ntmps84
  go_wp2
  go_region
  all_goals (go_end0; exact ⟨rfl, 1, rfl⟩)
theorem Swap_eq (g n c i : Nat) (x : Rung) (w : World) (hi : i < n)
    (hx1 : w.cell? ⟨g, i * 2, none⟩ = some (.int .i64 x.1)) (hx2 : w.cell? ⟨g, i * 2 + 1, none⟩ = some (.int .i64 x.2))
    (hf1 : w.frozen? ⟨g, i * 2, none⟩ = false) (hf2 : w.frozen? ⟨g, i * 2 + 1, none⟩ = false) :
    Calls Try.prog 84 #[.slice (some ⟨g, 0, none⟩) n c, .int .i64 i, .int .i64 i] w fun e w' => e = .returned (.tuple #[]) ∧ ∃ k, w' = ((((w.setCell ⟨g, i * 2, none⟩ (.int .i64 x.1)).setCell ⟨g, i * 2 + 1, none⟩ (.int .i64 x.2)).setCell ⟨g, i * 2, none⟩ (.int .i64 x.1)).setCell ⟨g, i * 2 + 1, none⟩ (.int .i64 x.2)).drewN k := by
  have hq1 : (w.setCell ⟨g, i * 2, none⟩ (.int .i64 x.1)).cell? ⟨g, i * 2, none⟩ = some (.int .i64 x.1) := by go_simp
  go_enter Try.func84, Try.ntmps84
  go_wp2
  go_region
  all_goals (go_end0; exact ⟨rfl, 1, rfl⟩)
theorem Swap_any (g n : Nat) (l : List Rung) (i j : Nat) (w : World) (hl : Lad w g n l) (hi : i < l.length) (hj : j < l.length) :
    Calls Try.prog 84 #[.slice (some ⟨g, 0, none⟩) l.length n, .int .i64 i, .int .i64 j] w fun e w' => e = .returned (.tuple #[]) ∧ Lad w' g n (swapAt l i j) ∧ Wrote (Only g) w w' := by
  rcases Nat.lt_trichotomy i j with h | h | h
  · refine (Swap_lt g _ n i j (at_ l i) (at_ l j) w hi hj (hl.run hi) (hl.weight hi) (hl.run hj) (hl.weight hj) (hl.free _) (hl.free _) (hl.free _) (hl.free _) h).mono ?_
    rintro e w' ⟨rfl, k, rfl⟩
    exact ⟨rfl, (hl.swap i j).drewN k, wrote4 _ _ _ _ _ _ _ _ _ _ k⟩
  · subst h
    refine (Swap_eq g _ n i (at_ l i) w hi (hl.run hi) (hl.weight hi) (hl.free _) (hl.free _)).mono ?_
    rintro e w' ⟨rfl, k, rfl⟩
    exact ⟨rfl, (hl.swap i i).drewN k, wrote4 _ _ _ _ _ _ _ _ _ _ k⟩
  · refine (Swap_gt g _ n i j (at_ l i) (at_ l j) w hi hj (hl.run hi) (hl.weight hi) (hl.run hj) (hl.weight hj) (hl.free _) (hl.free _) (hl.free _) (hl.free _) h).mono ?_
    rintro e w' ⟨rfl, k, rfl⟩
    exact ⟨rfl, (hl.swap i j).drewN k, wrote4 _ _ _ _ _ _ _ _ _ _ k⟩
theorem Pop_any (P g n : Nat) (l : List Rung) (m : Nat) (w : World) (hl : Lad w g n l) (ht : Top w P g n (m + 1)) (hm : l.length = m + 1) (hn : n ≤ 1073741824) :
    Calls Try.prog 85 #[.pointer (some ⟨P, 0, none⟩)] w fun e w' => e = .returned (.iface 62 (.agg #[.int .i64 (at_ l m).1, .int .i64 (at_ l m).2])) ∧ Lad w' g n (l.take m) ∧ Top w' P g n m ∧ Wrote (Only P) w w' := by
  have hr := hl.room
  have h1 := hl.run (i := m) (by omega)
  have h2 := hl.weight (i := m) (by omega)
  have hc := ht.cell
  have hf := ht.free 0
  have hP : P < w.heap.size := blk_lt ht
  have hc' : ∀ o, (w.alloc o).cell? ⟨P, 0, none⟩ = some (.slice (some ⟨g, 0, none⟩) (m + 1) n) := fun o => (World.cell?_alloc_past o P 0 hP).trans hc
  have hf' : ∀ o, (w.alloc o).frozen? ⟨P, 0, none⟩ = false := fun o => (World.frozen?_alloc_past o P 0 hP).trans hf
  go_enter Try.func85, Try.ntmps85
  go_wp2
  go_ret
  exact ⟨rfl, ((hl.take m).far (hl.ne ht) _).alloc _, (ht.set_ m).alloc _, ((Wrote.refl (Only P) w).at_ 0 _).alloc _⟩
theorem Push_any (P g n : Nat) (l : List Rung) (x : Rung) (m : Nat) (w : World) (hl : Lad w g n l) (ht : Top w P g n m) (hm : l.length = m) (hr : m < n) (hn : n ≤ 1073741824) :
    Calls Try.prog 86 #[.pointer (some ⟨P, 0, none⟩), .iface 62 (.agg #[.int .i64 x.1, .int .i64 x.2])] w fun e w' => e = .returned (.tuple #[]) ∧ Lad w' g n (l ++ [x]) ∧ Top w' P g n (m + 1) ∧ Wrote (fun k => k = P ∨ k = g) w w' := by
  have hc := ht.cell
  have hf := ht.free 0
  have hP : P < w.heap.size := blk_lt ht
  have hg : g < w.heap.size := hl.lt
  have hPg := hl.ne ht
  have hc' : ∀ o, (w.alloc o).cell? ⟨P, 0, none⟩ = some (.slice (some ⟨g, 0, none⟩) m n) := fun o => (World.cell?_alloc_past o P 0 hP).trans hc
  have hf' : ∀ o, (w.alloc o).frozen? ⟨P, 0, none⟩ = false := fun o => (World.frozen?_alloc_past o P 0 hP).trans hf
  have hta : ∀ (v : Value) (W : World), (Instr.typeAssert (.iface 62 v) 20 62 false).run Try.prog W = .ok v W := fun v W => by kernel_rfl
  obtain ⟨i0, hi, hz0, hz1, hz2⟩ := info_parts info62
  have hla := fun o => hl.alloc o
  have hsp := fun o => (hl.alloc o).spare (by omega)
  rw [hm] at hsp
  have hk1 : Top ((w.alloc (.cells #[.int .i64 x.1, .int .i64 x.2] 62)).drew.setCells g (m * 2) [.int .i64 x.1, .int .i64 x.2]) P g n m :=
    (ht.alloc (.cells #[.int .i64 x.1, .int .i64 x.2] 62)).kept (S := Only g) (w := (w.alloc (.cells #[.int .i64 x.1, .int .i64 x.2] 62)).drew) ((wrote2 g _ _ _ _).kept) hPg
  have hk2 := hk1.cell
  have hk3 := hk1.free 0
  go_enter Try.func86, Try.ntmps86
  go_wp2
  go_region_law (refine step_append_room rfl (.tmp 7) (.tmp 10) 60 rfl 62 i0 2 Try.underlying60 hi hz1 g 0 m n rfl ⟨w.heap.size, 0, none⟩ 1 1 [.int .i64 x.1, .int .i64 x.2] rfl rfl (by intro j u hj; match j, hj with | 0, hj => (simp at hj; subst hj; simp [Addr.add]) | 1, hj => (simp at hj; subst hj; simp [Addr.add])) (by intro u hu; simp at hu; rcases hu with rfl | rfl <;> rfl) (by omega) (by intro j hj; exact hsp _ j (by simpa using hj)) ?_)
  all_goals
    go_end0
    subst hm
    have hs := Lad.snoc (hl.alloc (.cells #[.int .i64 x.1, .int .i64 x.2] 62)) x hr
    rw [Nat.zero_add] at hs
    exact ⟨rfl, Lad.far (w := (w.alloc (.cells #[.int .i64 x.1, .int .i64 x.2] 62)).drew.setCells g (l.length * 2) [.int .i64 x.1, .int .i64 x.2]) hs hPg _, hk1.set_ _, (((Wrote.refl _ w).alloc _).drew.trans ((wrote2 g _ (l.length * 2) _ _).mono (fun k hk => .inr hk))).setCell (.inl rfl) _⟩
end Go.Proofs.Ytbgabijjnbmghaa
