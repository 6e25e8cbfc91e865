/- milllaw10.PlanOwn: six answers that share nothing go through apart; the calls as PlanOwn makes them. -/
import Derived.Test.YtbgabijjnbmghaaApartB
import Derived.Test.YtbgabijjnbmghaaOwnA
import Derived.Test.YtbgabijjnbmghaaMakeC
import Derived.Test.YtbgabijjnbmghaaP21
namespace Go.Proofs.Ytbgabijjnbmghaa.P
open Go.RowKit Go.Proofs.YtbgabijjnbmghaaW.PrintWords Go.Proofs.YtbgabijjnbmghaaW.PrintLast Go.Proofs.YtbgabijjnbmghaaW.PrintMore
set_option linter.unusedVariables false
set_option linter.unusedSimpArgs false

/-- an answer whose blocks have numbers from lo on, below hi -/
def Mine (w : World) (lo hi : Nat) (v : Value) (xs : List S51) : Prop := ∃ base, Kd.S k51 51 w base (fun k => lo ≤ k ∧ k < hi) v xs
section
variable {w W w1 : World} {lo hi p : Nat} {v : Value} {xs : List S51}
theorem Mine.new (h : Kd.S k51 51 w1 W.heap.size (fun k => W.heap.size ≤ k) v xs) (hb : Below W.heap.size W w1) (hp : p ≤ W.heap.size) : ∃ lo hi, Mine w1 lo hi v xs ∧ (p ≤ lo ∧ lo ≤ hi) ∧ hi ≤ w1.heap.size :=
  ⟨W.heap.size, w1.heap.size, ⟨_, Kd.S_mono (Kd.S_bound h) (fun k hk => ⟨hk.1, hk.2.2.1⟩)⟩, ⟨hp, hb.size⟩, Nat.le_refl _⟩
theorem Mine.new2 (h : Kd.S k51 51 w1 W.heap.size (fun _ => True) v xs) (hb : Below W.heap.size W w1) (hp : p ≤ W.heap.size) : ∃ lo hi, Mine w1 lo hi v xs ∧ (p ≤ lo ∧ lo ≤ hi) ∧ hi ≤ w1.heap.size :=
  Mine.new (Kd.S_mono (Kd.S_bound h) (fun k hk => hk.2.1)) hb hp
theorem Mine.below (h : Mine w lo hi v xs) (hb : Below w.heap.size w w1) : Mine w1 lo hi v xs := by
  obtain ⟨base, h⟩ := h; exact ⟨base, Kd.S_below h hb⟩
theorem Mine.alloc (h : Mine w lo hi v xs) (o : Obj) : Mine (w.alloc o) lo hi v xs := by
  obtain ⟨base, h⟩ := h; exact ⟨base, Kd.S_alloc h o⟩
theorem Mine.drewN (h : Mine w lo hi v xs) (n : Nat) : Mine (w.drewN n) lo hi v xs := by
  obtain ⟨base, h⟩ := h; exact ⟨base, Kd.S_drewN h n⟩
theorem Mine.kept {S : Nat → Prop} (h : Mine w lo hi v xs) (hk : Kept w w1 S) (hn : ∀ k, lo ≤ k → k < hi → ¬ S k) : Mine w1 lo hi v xs := by
  obtain ⟨base, h⟩ := h; exact ⟨base, Kd.S_kept h hk (fun k hk2 => hn k hk2.1 hk2.2)⟩
theorem Mine.form (h : Mine w lo hi v xs) : ∃ A c, v = .slice A xs.length c := by
  obtain ⟨base, h⟩ := h; exact Kd.S_slice h
theorem Mine.reads {A : Option Addr} {n c : Nat} (h : Mine w lo hi (.slice A n c) xs) : Kd.C k51 w A xs.length xs := by
  obtain ⟨base, h⟩ := h; exact (Kd.S_reads' h).2.2
theorem Mine.room {A : Option Addr} {c : Nat} (h : Mine w lo hi (.slice A xs.length c) xs) : xs.length ≤ c := by
  obtain ⟨base, h⟩ := h; exact (Kd.S_reads' h).2.1
end
theorem RowW.alloc {w : World} {g : Nat} {L : List Int} (h : RowW w g L) (o : Obj) : RowW (w.alloc o) g L := h.kept ((Kept.refl w (fun _ => False)).alloc o) (fun h => h)
theorem RowW.below {w w1 : World} {g : Nat} {L : List Int} (h : RowW w g L) (hb : Below w.heap.size w w1) : RowW w1 g L := h.kept (Kept.of_below hb (fun _ => False)) (fun h => h)
theorem RowW.readsn {w : World} {g n : Nat} {L : List Int} (h : RowW w g L) (hn : L.length = n) (hl : L.length ≤ 1000) : Kd.C (Kd.int .i64) w (some ⟨g, 0, none⟩) n L := by subst hn; exact h.reads hl
theorem make_at {n : Nat} (k : Nat) (A0 : Option Addr) (c0 : Nat) (l : List Int) (a1 : Int) (r1 : List S51) (w : World) (hn : l.length = n) (hr0 : Kd.C (Kd.int .i64) w A0 n l) (hc0 : n ≤ c0) (h : plan_Make.f k l a1 = some (r1, 0)) :
    Calls Try.prog 24 #[.slice A0 n c0, .int .i64 a1] w fun e w' => ∃ v0_ : Value, e = .returned (.tuple #[v0_, .int .i64 0]) ∧ Kd.S k51 51 w' w.heap.size (fun k_ => (w.heap.size ≤ k_)) v0_ r1 ∧ Below w.heap.size w w' := by
  subst hn; exact plan_Make.calls_S k A0 c0 l a1 r1 0 w hr0 hc0 h
theorem refMake_at {n : Nat} (k : Nat) (A0 : Option Addr) (c0 : Nat) (l : List Int) (a1 : Int) (r1 : List S51) (w : World) (hn : l.length = n) (hr0 : Kd.C (Kd.int .i64) w A0 n l) (hc0 : n ≤ c0) (h : millref10_Make.f k l a1 = some (r1, 0)) :
    Calls Try.prog 25 #[.slice A0 n c0, .int .i64 a1] w fun e w' => ∃ v0_ : Value, e = .returned (.tuple #[v0_, .int .i64 0]) ∧ Kd.N k51 51 w' w.heap.size (fun k_ => (w.heap.size ≤ k_)) v0_ r1 ∧ Below w.heap.size w w' := by
  subst hn; exact millref10_Make.calls k A0 c0 l a1 r1 0 w hr0 hc0 h

/-- steps of a plan of few runs -/
def Small (xs : List S51) : Prop := 0 < xs.length ∧ xs.length ≤ 1000 ∧ ∀ x ∈ xs, 1 ≤ x.f0.length ∧ x.f0.length ≤ 1000
theorem Mine.ans {w : World} {lo hi : Nat} {v : Value} {xs : List S51} (h : Mine w lo hi v xs) (hs : Small xs) : ∃ (a : Ans) (out : Nat → Int) (val : Nat → Nat → Int), v = .slice (some ⟨a.g, 0, none⟩) a.L a.cap ∧ PicA w a out val ∧ FitA a lo hi ∧ ∀ t, t < a.L → a.g ≠ a.hb t := by
  obtain ⟨base, h⟩ := h
  obtain ⟨a, _, e, hp, hf, hg⟩ := ans_of_S h hs.1 hs.2.1 hs.2.2
  exact ⟨a, _, _, e, hp, hf, hg⟩
def six {α : Type} (a b c d e f : α) : Nat → α
  | 0 => a
  | 1 => b
  | 2 => c
  | 3 => d
  | 4 => e
  | _ => f
theorem six_all {P : Nat → Prop} (h0 : P 0) (h1 : P 1) (h2 : P 2) (h3 : P 3) (h4 : P 4) (h5 : P 5) : ∀ i, i < 6 → P i
  | 0, _ => h0
  | 1, _ => h1
  | 2, _ => h2
  | 3, _ => h3
  | 4, _ => h4
  | 5, _ => h5
  | n + 6, h => absurd h (by omega)
theorem apart_six (w0 W : World) (base la ha lb hb lc hc ld hd lx hx ly hy : Nat) (va vb vc vd vx vy : Value) (sa sb sc sd sx sy : List S51)
    (Ma : Mine W la ha va sa) (Mb : Mine W lb hb vb sb) (Mc : Mine W lc hc vc sc) (Md : Mine W ld hd vd sd) (Mx : Mine W lx hx vx sx) (My : Mine W ly hy vy sy)
    (Sa : Small sa) (Sb : Small sb) (Sc : Small sc) (Sd : Small sd) (Sx : Small sx) (Sy : Small sy)
    (o0 : base ≤ la) (oa : la ≤ ha) (ob : ha ≤ lb ∧ lb ≤ hb) (oc : hb ≤ lc ∧ lc ≤ hc) (od : hc ≤ ld ∧ ld ≤ hd) (ox : hd ≤ lx ∧ lx ≤ hx) (oy : hx ≤ ly ∧ ly ≤ hy) (ow : hy ≤ W.heap.size) (hB : Below base w0 W) (g : Nat) (hgw : g = W.heap.size) :
    Calls Try.prog 27 #[.slice (some ⟨g, 0, none⟩) 6 6] (W.alloc (.cells #[va, vb, vc, vd, vx, vy] 23)) fun e w' => e = .returned (.bool true) ∧ Below base w0 w' := by
  subst hgw
  obtain ⟨aa, outa, vala, ea, pa, fa, ga⟩ := Ma.ans Sa
  obtain ⟨ab, outb, valb, eb, pb, fb, gb⟩ := Mb.ans Sb
  obtain ⟨ac, outc, valc, ec, pc, fc, gc⟩ := Mc.ans Sc
  obtain ⟨ad, outd, vald, ed, pd, fd, gd⟩ := Md.ans Sd
  obtain ⟨ax, outx, valx, ex, px, fx, gx⟩ := Mx.ans Sx
  obtain ⟨ay, outy, valy, ey, py, fy, gy⟩ := My.ans Sy
  have hk : Kept W (W.alloc (.cells #[va, vb, vc, vd, vx, vy] 23)) (fun _ => False) := (Kept.refl W _).alloc _
  have hkp : ∀ {a : Ans} {o : Nat → Int} {v : Nat → Nat → Int}, PicA W a o v → PicA (W.alloc (.cells #[va, vb, vc, vd, vx, vy] 23)) a o v := fun h => h.kept hk (fun h => h) (fun _ _ h => h)
  have hord := ord_of (Lo := six la lb lc ld lx ly) (Hi := six ha hb hc hd hx hy) (n := 6) (six_all oa ob.2 oc.2 od.2 ox.2 oy.2) (fun i hi => six_all (P := fun i => i + 1 < 6 → six ha hb hc hd hx hy i ≤ six la lb lc ld lx ly (i + 1)) (fun _ => ob.1) (fun _ => oc.1) (fun _ => od.1) (fun _ => ox.1) (fun _ => oy.1) (fun h => absurd h (by omega)) i (by omega) hi)
  have hS : Sep (six aa ab ac ad ax ay) 6 la hy := sep_of (Lo := six la lb lc ld lx ly) (Hi := six ha hb hc hd hx hy) (six_all fa fb fc fd fx fy) (fun i t hi ht => six_all (P := fun i => ∀ t, t < (six aa ab ac ad ax ay i).L → (six aa ab ac ad ax ay i).g ≠ (six aa ab ac ad ax ay i).hb t) ga gb gc gd gx gy i hi t ht) hord
    (six_all (Nat.le_refl _) (show la ≤ lb by omega) (show la ≤ lc by omega) (show la ≤ ld by omega) (show la ≤ lx by omega) (show la ≤ ly by omega))
    (six_all (show ha ≤ hy by omega) (show hb ≤ hy by omega) (show hc ≤ hy by omega) (show hd ≤ hy by omega) (show hx ≤ hy by omega) (Nat.le_refl _))
  refine apart_calls w0 (W.alloc (.cells #[va, vb, vc, vd, vx, vy] 23)) base la hy W.heap.size (six aa ab ac ad ax ay) (six outa outb outc outd outx outy) (six vala valb valc vald valx valy) (hB.alloc (show base ≤ W.heap.size by omega) _) o0 (by simp; omega) ow hS ?_ ?_
  · exact ⟨_, Go.heap_alloc_new W _, six_all (congrArg some ea) (congrArg some eb) (congrArg some ec) (congrArg some ed) (congrArg some ex) (congrArg some ey)⟩
  · exact six_all (P := fun i => PicA _ (six aa ab ac ad ax ay i) (six outa outb outc outd outx outy i) (six vala valb valc vald valx valy i)) (hkp pa) (hkp pb) (hkp pc) (hkp pd) (hkp px) (hkp py)
end Go.Proofs.Ytbgabijjnbmghaa.P
