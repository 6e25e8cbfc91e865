/- runs.Heap[Thing]: the walks of NewHeap, num, Peek and Len. -/
import Derived.Test.YtjjfaiociajikaaRunA
namespace Go.Proofs.Ytjjfaiociajikaa
open Go.RowKit Go.Proofs.YtjjfaiociajikaaW.PrintWords
set_option linter.unusedVariables false
set_option linter.unusedSimpArgs false

theorem num_any (x : Int) (w : World) : Calls Try.prog 7 #[.int .i64 x] w fun e w' => e = .returned (.int .i64 x) ∧ w = w' := by
  go_enter Try.func7, Try.ntmps7
  go_wp2
  go_ret
  exact ⟨rfl, rfl⟩
theorem new_any (w : World) : Calls Try.prog 5 #[lessF] w fun e w' => e = .returned (.tuple #[.pointer (some ⟨w.heap.size, 0, none⟩), .int .i64 0]) ∧ w' = w.alloc (.cells #[lessF, .slice none 0 0, .int .u64 0] 48) := by
  have hq : ∀ w, (binOp .eql 29 lessF .nilFunc).run Try.prog w = .ok (.bool false) w := fun w => by kernel_rfl
  go_enter Try.func5, Try.ntmps5
  go_wp2_with (simp only [hq])
  go_ret2
  exact ⟨rfl, rfl⟩
theorem Len_any (P : Nat) (A : Option Addr) (n c : Nat) (q : Int) (w : World) (ht : Top w P (.slice A n c) q) :
    Calls Try.prog 11 #[.pointer (some ⟨P, 0, none⟩)] w fun e w' => e = .returned (.int .i64 n) ∧ w = w' := by
  have t1 := ht.c1
  clear ht
  go_enter Try.func11, Try.ntmps11
  go_wp2
  go_ret
  exact ⟨rfl, rfl⟩
theorem Peek_none (P : Nat) (A : Option Addr) (c : Nat) (q : Int) (w : World) (ht : Top w P (.slice A 0 c) q) :
    Calls Try.prog 9 #[.pointer (some ⟨P, 0, none⟩)] w fun e w' => e = .returned (.tuple #[.agg #[.int .i64 0, .int .i64 0], .bool false]) ∧ Below w.heap.size w w' := by
  have t1 := ht.c1
  have hP : P < w.heap.size := blk_lt ht
  have tt : ∀ o, (w.alloc o).cell? ⟨P, 1, none⟩ = some (.slice A 0 c) := fun o => (World.cell?_alloc_past o P 1 hP).trans t1
  have tt2 : ∀ o o2, ((w.alloc o).alloc o2).cell? ⟨P, 1, none⟩ = some (.slice A 0 c) := fun o o2 => (World.cell?_alloc_past o2 P 1 (by simp; omega)).trans (tt o)
  clear ht t1
  go_enter Try.func9, Try.ntmps9
  go_wp2
  exact bodyPost_ret (v := .tuple #[.agg #[.int .i64 0, .int .i64 0], .bool false]) (by simp [results, Try.results9, go_sem]) rfl ⟨rfl, below_alloc (below_alloc (Below.refl _ _) _) _⟩
theorem Peek_some (W : Int → Int) (P g n : Nat) (l : List Rung) (q : Int) (w : World) (ht : Top w P (.slice (some ⟨g, 0, none⟩) l.length n) q) (hl : Lad W w g n l) (h0 : 0 < l.length) :
    Calls Try.prog 9 #[.pointer (some ⟨P, 0, none⟩)] w fun e w' => e = .returned (.tuple #[.agg #[.int .i64 (at_ l 0).2, .int .i64 (W (at_ l 0).1)], .bool true]) ∧ Below w.heap.size w w' := by
  have t1 := ht.c1
  have hP : P < w.heap.size := blk_lt ht
  have hg : g < w.heap.size := by obtain ⟨cs, hb, _⟩ := hl; exact blk_lt hb
  have tt2 : ∀ o o2, ((w.alloc o).alloc o2).cell? ⟨P, 1, none⟩ = some (.slice (some ⟨g, 0, none⟩) l.length n) := fun o o2 => (World.cell?_alloc_past o2 P 1 (by simp; omega)).trans ((World.cell?_alloc_past o P 1 hP).trans t1)
  have a0 := hl.key h0
  have a1 := hl.who h0
  rw [Nat.zero_mul] at a0 a1
  have aa0 : ∀ o o2, ((w.alloc o).alloc o2).cell? ⟨g, 0, none⟩ = some (.int .i64 (at_ l 0).2) := fun o o2 => (World.cell?_alloc_past o2 g 0 (by simp; omega)).trans ((World.cell?_alloc_past o g 0 hg).trans a0)
  have aa1 : ∀ o o2, ((w.alloc o).alloc o2).cell? ⟨g, 1, none⟩ = some (.int .i64 (W (at_ l 0).1)) := fun o o2 => (World.cell?_alloc_past o2 g 1 (by simp; omega)).trans ((World.cell?_alloc_past o g 1 hg).trans a1)
  have c1 : ((l.length : Int) == 0) = false := beq_eq_false_iff_ne.mpr (by omega)
  have c2 : (l.length == 0) = false := beq_eq_false_iff_ne.mpr (by omega)
  have c3 := eq_true h0
  clear ht hl t1 a0 a1 h0
  go_enter Try.func9, Try.ntmps9
  go_wp2
  exact bodyPost_ret (v := .tuple #[.agg #[.int .i64 (at_ l 0).2, .int .i64 (W (at_ l 0).1)], .bool true]) (by simp [results, Try.results9, go_sem]) rfl ⟨rfl, below_alloc (below_alloc (Below.refl _ _) _) _⟩
end Go.Proofs.Ytjjfaiociajikaa
