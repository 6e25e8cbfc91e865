/- runs.Heap[int]: the walks of NewHeap, num, Peek and Len. -/
import Derived.Test.YtjjfaiociajikaaAskA
namespace Go.Proofs.Ytjjfaiociajikaa.Ask
open Go.RowKit Go.Proofs.YtjjfaiociajikaaW.PrintWords
set_option linter.unusedVariables false
set_option linter.unusedSimpArgs false

theorem num_any (x : Int) (w : World) : Calls Try.prog 7 #[.int .i64 x] w fun e w' => e = .returned (.int .i64 x) ∧ w = w' := by
  go_enter Try.func7, Try.ntmps7
  go_wp2
  go_ret
  exact ⟨rfl, rfl⟩
theorem new_any (A : Nat) (w : World) : Calls Try.prog 12 #[askF A] w fun e w' => e = .returned (.tuple #[.pointer (some ⟨w.heap.size, 0, none⟩), .int .i64 0]) ∧ w' = w.alloc (.cells #[askF A, .slice none 0 0, .int .u64 0] 53) := by
  have hq : ∀ w, (binOp .eql 40 (askF A) .nilFunc).run Try.prog w = .ok (.bool false) w := fun w => by kernel_rfl
  go_enter Try.func12, Try.ntmps12
  go_wp2_with (simp only [hq])
  go_ret2
  exact ⟨rfl, rfl⟩
theorem Len_any (A0 P : Nat) (A : Option Addr) (n c : Nat) (q : Int) (w : World) (ht : Top w A0 P (.slice A n c) q) :
    Calls Try.prog 14 #[.pointer (some ⟨P, 0, none⟩)] w fun e w' => e = .returned (.int .i64 n) ∧ w = w' := by
  have t1 := ht.c1
  clear ht
  go_enter Try.func14, Try.ntmps14
  go_wp2
  go_ret
  exact ⟨rfl, rfl⟩
theorem Peek_none (A0 P : Nat) (A : Option Addr) (c : Nat) (q : Int) (w : World) (ht : Top w A0 P (.slice A 0 c) q) :
    Calls Try.prog 18 #[.pointer (some ⟨P, 0, none⟩)] w fun e w' => e = .returned (.tuple #[.int .i64 0, .bool false]) ∧ w = w' := by
  have t1 := ht.c1
  clear ht
  go_enter Try.func18, Try.ntmps18
  go_wp2
  go_ret2
  exact ⟨rfl, rfl⟩
theorem Peek_some (A0 P g n m : Nat) (l : List Rung) (q : Int) (w : World) (ht : Top w A0 P (.slice (some ⟨g, 0, none⟩) m n) q) (hm : l.length = m) (hl : Lad w g n l) (h0 : 0 < l.length) :
    Calls Try.prog 18 #[.pointer (some ⟨P, 0, none⟩)] w fun e w' => e = .returned (.tuple #[.int .i64 (at_ l 0).2, .bool true]) ∧ w = w' := by
  subst hm
  have t1 := ht.c1
  have a0 := hl.key h0
  rw [Nat.zero_mul] at a0
  have c1 : ((l.length : Int) == 0) = false := beq_eq_false_iff_ne.mpr (by omega)
  have c2 : (l.length == 0) = false := beq_eq_false_iff_ne.mpr (by omega)
  have c3 := eq_true h0
  clear ht hl h0
  go_enter Try.func18, Try.ntmps18
  go_wp2
  go_ret2
  exact ⟨rfl, rfl⟩
end Go.Proofs.Ytjjfaiociajikaa.Ask
