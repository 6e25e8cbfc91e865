/- plan.Make: its walk, where there are two runs or more. -/
import Derived.Test.YtbgabijjnbmghaaMakeB
import Derived.Deep.DeepMust
namespace Go.Proofs.Ytbgabijjnbmghaa.P
open Go.RowKit Go.Proofs.YtbgabijjnbmghaaW.PrintWords Go.Proofs.YtbgabijjnbmghaaW.PrintLast Go.Proofs.YtbgabijjnbmghaaW.PrintMore Go.Proofs.Ytbgabijjnbmghaa
set_option linter.unusedVariables false
set_option linter.unusedSimpArgs false

/-- what holds at the head of Make's rounds -/
structure Fits (n fan t : Nat) (l : List Rung) (st : List S51) : Prop where
  pos : 1 ≤ l.length
  room : l.length + st.length ≤ n
  low : 2 ≤ t
  high : t ≤ 66
  take : 1 < l.length → ∃ q, l.length = t + q * (fan - 1)
theorem fits_start {n fan : Nat} (l : List Rung) (hl : l.length = n) (h2 : 2 ≤ n) (hf : 2 ≤ fan) (hf2 : fan ≤ 64) (hm : (n - 2) % (fan - 1) < fan - 1) (hq : (fan - 1) * ((n - 2) / (fan - 1)) + (n - 2) % (fan - 1) = n - 2) : Fits n fan (2 + (n - 2) % (fan - 1)) l [] :=
  ⟨by omega, by simp; omega, by omega, by omega, fun _ => ⟨(n - 2) / (fan - 1), by rw [Nat.mul_comm]; omega⟩⟩
theorem runL_stop {n fan f t : Nat} {l : List Rung} {st : List S51} (h : ¬ 1 < l.length) : runL n fan f t l st = st := by
  cases f with
  | zero => rfl
  | succ f => rw [runL, if_neg h]
theorem runL_go {n fan f t : Nat} {l : List Rung} {st : List S51} (h : 1 < l.length) : runL n fan (f + 1) t l st = runL n fan f fan (stepH n t l st) (stepS n t l st) := by rw [runL, if_pos h]
theorem makeSteps_many {l : List Int} {fan : Nat} (h : 2 ≤ l.length) : makeSteps l fan = runL l.length fan l.length (2 + (l.length - 2) % (fan - 1)) (initL l.length (l.length / 2) (rungs 0 l)) [] := by
  rw [makeSteps, if_neg (by omega)]
set_option maxRecDepth 100000 in
set_option maxHeartbeats 2000000 in
theorem Make_many (k : Nat) (A0 : Option Addr) (c0 : Nat) (l0 : List Int) (a1 : Int) (w : World) (hr0 : Kd.C (Kd.int .i64) w A0 l0.length l0) (hc0 : l0.length ≤ c0) (h : plan_given.f k l0 a1 = some 0) (hl : 2 ≤ l0.length) :
    Calls Try.prog 24 #[.slice A0 l0.length c0, .int .i64 a1] w fun e w' => ∃ v0_ : Value, e = .returned (.tuple #[v0_, .int .i64 0]) ∧ Kd.S k51 51 w' w.heap.size (fun k_ => (w.heap.size ≤ k_)) v0_ (makeSteps l0 a1.toNat) ∧ Below w.heap.size w w' := by
  have hgv := given_zero h
  have hf1 : 2 ≤ a1 := hgv.1
  have hf2 : a1 ≤ 64 := hgv.2.1
  have hn : l0.length ≤ 65536 := hgv.2.2.2.1
  have HV := Aside0.mk hgv.2.2.2.2
  clear hgv
  obtain ⟨fan, rfl⟩ : ∃ fan : Nat, a1 = fan := ⟨a1.toNat, by omega⟩
  rw [Int.toNat_natCast]
  have c5 : ((l0.length : Int) == 1) = false := by simp; omega
  have HR := Aside0.mk hr0
  have HC := Aside0.mk hc0
  have H := Aside0.mk h
  clear hr0 hc0 h
  obtain ⟨i0, hi, hz0, hz1, hz2⟩ := info_parts info62
  have hmk : ∀ W : World, (Instr.makeSlice 60 (.int .i64 0) (.int .i64 (l0.length : Int))).run Try.prog W = .ok (.slice (some ⟨W.heap.size, 0, none⟩) 0 l0.length) (W.alloc (.cells (zeros62 l0.length) 62)) := by
    intro W
    have := run_make (P := Try.prog) W 60 62 i0 _ Try.underlying60 hi hz0 .i64 .i64 0 (l0.length : Int) (by omega) (by omega) (by rw [hz2]; omega) (by omega)
    rw [this, hz1]; rfl
  have Hi := Aside0.mk hi
  have Hz1 := Aside0.mk hz1
  clear hi hz0 hz1 hz2
  go_enter Try.func24, Try.ntmps24
  go_wp2_with fail
  refine (plan_given.calls k _ _ l0 (fan : Int) 0 w HR.out HC.out H.out).mono ?_
  rintro e w' ⟨rfl, ⟨nd, rfl⟩⟩
  go_wp2_with fail
  go_loopw [34] (fun v wr => ∃ i : Nat, v = .int .i64 i ∧ i ≤ l0.length ∧ Hp wr (w.heap.size + 1) w.heap.size l0.length ((rungs 0 l0).take i) ∧ Aside0 (Below w.heap.size w wr)) (fun v _ => l0.length - (intOf v).toNat)
  case atStart => exact ⟨0, rfl, Nat.zero_le _, hp_start (w.drewN nd) l0.length, ⟨below_alloc (below_alloc (pw_below_drewN (Below.refl _ _) nd) _) _⟩⟩
  case round =>
    obtain ⟨i, rfl, hin, hp, HB⟩ := hrel
    have hlen : ((rungs 0 l0).take i).length = i := by rw [List.length_take, rungs_length]; omega
    by_cases c1 : i < l0.length
    · obtain ⟨ad, e1, hx⟩ := Kd.at_int HR.out (i : Int) (by omega) (by omega)
      cases e1
      have hx2 := (HB.out.cell (World.block_lt_of_cell? w _ hx)).trans hx
      clear hx
      rw [Int.toNat_natCast] at hx2
      have htc := hp.top.cell
      rw [hlen] at htc
      have hpt := fun x => pushed_top hp x
      have hpp := fun x => pushed_hp hp x (by omega)
      have hpw := fun x => pushed_wrote (P := w.heap.size + 1) (g := w.heap.size) (n := l0.length) (w := wr) (l := (rungs 0 l0).take i) x
      have hsp := (hp.lad.alloc (.cells #[.int .i64 (i : Int), .int .i64 (rd l0 i)] 62)).spare (by omega)
      rw [hlen] at hpt hpp hpw hsp
      have hpc := (hpt ((i : Int), rd l0 i)).cell
      have hpf := (hpt ((i : Int), rd l0 i)).free 0
      have HPP := Aside0.mk (hpp ((i : Int), rd l0 i))
      have HPW := Aside0.mk (hpw ((i : Int), rd l0 i))
      have HSP := Aside0.mk hsp
      have hgz : wr.heap.size ≠ 0 := by have := hp.lad.lt; omega
      clear hpt hpp hpw hsp
      go_wp2_with (at_builtin; refine wpList_append_room rfl (.tmp 39) (.tmp 43) 60 rfl 62 i0 2 Try.underlying60 Hi.out Hz1.out w.heap.size 0 i l0.length rfl ⟨wr.heap.size, 0, none⟩ 1 1 [.int .i64 (i : Int), .int .i64 (rd l0 i)] rfl rfl (by intro j u hj; match j, hj with | 0, hj => (simp at hj; subst hj; simp [Addr.add]) | 1, hj => (simp at hj; subst hj; simp [Addr.add])) (by intro u hu; simp at hu; rcases hu with rfl | rfl <;> rfl) (by omega) (by intro j hj; exact HSP.out j (by simpa using hj)) ?_)
      go_roundw
      case rel => exact ⟨i + 1, by go_num, by omega, by rw [rungs_take l0 i c1]; exact HPP.out, ⟨HB.out.trans (HPW.out.below w.heap.size HB.out.size (fun k hk => by rcases hk with rfl | rfl <;> omega))⟩⟩
      case measure => simp [intOf]; omega
    · go_wp2_with fail
      have hlast : (rungs 0 l0).take i = rungs 0 l0 := by rw [List.take_of_length_le]; rw [rungs_length]; omega
      rw [hlast] at hp
      have hrl := rungs_length 0 l0
      refine (Init_any _ _ _ (rungs 0 l0) wr hp (by omega)).mono ?_
      rintro e w2 ⟨rfl, hp2, hw2⟩
      rw [hrl] at hp2
      have HB2 := Aside0.mk (HB.out.trans (hw2.below w.heap.size HB.out.size (fun k hk => by rcases hk with rfl | rfl <;> omega)))
      clear hw2 HB hp hlast hlen hrl
      have hmlt : (l0.length - 2) % (fan - 1) < fan - 1 := Nat.mod_lt _ (by omega)
      have hml2 : (l0.length - 2) % (fan - 1) ≤ l0.length - 2 := Nat.mod_le _ _
      have HMQ := Aside0.mk (Nat.div_add_mod (l0.length - 2) (fan - 1))
      go_wp2_with fail
      have hmod : wrap64 (2 + ((l0.length : Int) - 2) % ((fan : Int) - 1)) = ((2 + (l0.length - 2) % (fan - 1) : Nat) : Int) := by
        have : ((l0.length : Int) - 2) % ((fan : Int) - 1) = (((l0.length - 2) % (fan - 1) : Nat) : Int) := by
          rw [Int.natCast_emod]; congr 1 <;> omega
        rw [this]; unfold wrap64; omega
      rw [hmod]
      clear hmod
      go_loopg [12, 13] l0.length (fun f v12 v13 wr => ∃ (t : Nat) (l : List Rung) (st : List S51), v13 = .int .i64 t ∧ Fits l0.length fan t l st ∧ l.length ≤ f ∧ Aside0 (runL l0.length fan f t l st = makeSteps l0 fan) ∧ Hp wr (w.heap.size + 1) w.heap.size l0.length l ∧ Aside0 (Kd.S k51 51 wr w.heap.size (fun k_ => w.heap.size ≤ k_ ∧ k_ ≠ w.heap.size + 1 ∧ k_ ≠ w.heap.size) v12 st) ∧ Aside0 (Below w.heap.size w wr))
      case atStart =>
        have hil : (initL l0.length (l0.length / 2) (rungs 0 l0)).length = l0.length := by rw [initL_length, rungs_length]
        exact ⟨2 + (l0.length - 2) % (fan - 1), _, [], rfl, fits_start _ hil (by omega) (by omega) (by omega) hmlt HMQ.out, by rw [hil]; exact Nat.le_refl _, ⟨(makeSteps_many (by omega)).symm⟩, hp2, ⟨Kd.S_nil _ _ _ _ _⟩, HB2⟩
      case round =>
        clear hmlt hml2 HMQ hp2 HB2
        obtain ⟨t, l, st, rfl, hfit, hf, HRUN, hp, HS, HB⟩ := hrel
        have hpos := hfit.pos
        have hroom := hfit.room
        have ml := method_len (w.heap.size + 1) w.heap.size l0.length l.length wr hp.top.cell
        have nl := nil_len ⟨w.heap.size + 1, 0, none⟩ wr
        by_cases c2 : 1 < l.length
        · obtain ⟨As, cs, es⟩ := Kd.S_slice HS.out
          subst es
          have c2b : decide (1 < (l.length : Int)) = true := by simp; omega
          obtain ⟨g', rfl⟩ : ∃ g', gk = g' + 1 := ⟨gk - 1, by omega⟩
          go_wp2_with fail
          refine (Len_any _ _ _ _).mono ?_
          rintro e w' ⟨rfl, rfl⟩
          go_wp2_with fail
          have htl : t ≤ l.length := by obtain ⟨q, hq⟩ := hfit.take c2; omega
          have hlow := hfit.low
          have hhigh := hfit.high
          have hPM : w.heap.size + 1 < wr.heap.size := blk_lt hp.top
          obtain ⟨wo, hwo⟩ : ∃ wo : World, wo = wr := ⟨_, rfl⟩
          subst hwo
          go_loopw [15, 64] (fun v15 v64 w3 => ∃ (i : Nat) (l' : List Rung) (ins : List Int) (s : Int) (rv : Value), v64 = .int .i64 i ∧ v15 = .int .i64 s ∧ i ≤ t ∧ Aside0 (popMany (t - i) l' ins s = popMany t l [] 0) ∧ l'.length + i ≤ l.length ∧ l.length ≤ l'.length + i ∧ Aside0 (ins.length = i) ∧ Hp w3 (w.heap.size + 1) w.heap.size l0.length l' ∧ Aside0 (Kd.S k51 51 w3 w.heap.size (fun k_ => (w.heap.size ≤ k_ ∧ k_ ≠ w.heap.size + 1 ∧ k_ ≠ w.heap.size) ∧ k_ < wo.heap.size) (.slice As st.length cs) st) ∧ Aside0 (w3.heap[wo.heap.size]? = some (.cells #[rv, .int .i64 ((l0.length : Int) + (st.length : Int))] 51 (0, 0))) ∧ Aside0 (Kd.R (Kd.int .i64) 3 w3 w.heap.size (fun k_ => wo.heap.size < k_) rv ins) ∧ Aside0 (Below w.heap.size w w3)) (fun _ v64 _ => t - (intOf v64).toNat)
          case atStart =>
            exact ⟨0, l, [], 0, _, rfl, rfl, Nat.zero_le _, ⟨rfl⟩, Nat.le_refl _, Nat.le_refl _, ⟨rfl⟩, ⟨hp.lad.alloc _, hp.top.alloc _⟩, ⟨Kd.S_alloc (Kd.S_mono (Kd.S_bound HS.out) (fun k hk => ⟨hk.1, hk.2.2.1⟩)) _⟩, ⟨heap_alloc_new _ _⟩, ⟨Kd.R_nil _ _ _ _ _⟩, ⟨below_alloc HB.out _⟩⟩
          case round =>
            clear hp HS HB ml nl
            obtain ⟨i, l', ins, s, rv, rfl, rfl, hit, HPM, hla, hlb, HIL, hp, HS, HM, HR2, HB⟩ := hrel
            obtain ⟨Ar, cr, er⟩ := Kd.R_slice HR2.out
            subst er
            by_cases c3 : i < t
            · have hta : ∀ (v : Value) (W : World), (Instr.typeAssert (.iface 62 v) 20 62 false).run Try.prog W = .ok v W := fun v W => by kernel_rfl
              go_wp2_with fail
              refine (Hpop_any _ _ _ l' (l'.length - 1) wr hp (by omega) (by omega)).mono ?_
              rintro e w4 ⟨rfl, hp4, hw4⟩
              have hne : ∀ k, PG (w.heap.size + 1) w.heap.size k → k < wo.heap.size := fun k hk => by rcases hk with rfl | rfl <;> omega
              have HS4 := Aside0.mk (Kd.S_kept HS.out hw4.kept (fun k hk h2 => by rcases h2 with rfl | rfl; exact hk.1.2.1 rfl; exact hk.1.2.2 rfl))
              have HM4 := Aside0.mk (blk_kept HM.out hw4.kept (fun h2 => absurd (hne _ h2) (Nat.lt_irrefl _)))
              have HR4 := Aside0.mk (Kd.R_kept HR2.out hw4.kept (fun k hk h2 => absurd (hne _ h2) (by omega)))
              have HB4 := Aside0.mk (HB.out.trans (hw4.below w.heap.size HB.out.size (fun k hk => by rcases hk with rfl | rfl <;> omega)))
              clear hp HS HM HR2 HB hw4 hne
              have hMlt : wo.heap.size < w4.heap.size := blk_lt HM4.out
              generalize hx : at_ (popL l') (l'.length - 1) = x at *
              have HX := Aside0.mk hx
              clear hx
              have HSZ := Aside0.mk (show (w4.alloc (.cells #[.int .i64 x.1, .int .i64 x.2] 62)).heap.size = w4.heap.size + 1 from Array.size_push _)
              have hcM : ∀ o, (w4.alloc o).cell? ⟨wo.heap.size, 0, none⟩ = some (.slice Ar ins.length cr) := fun o => (World.cell?_alloc_past o _ 0 hMlt).trans (by rw [blk_cell HM4.out]; rfl)
              go_wp2_with ((with_reducible refine gate_builtin (b := .append) (xs := #[.tmp 70, .tmp 73]) rfl ?_); at_builtin; go_must (refine Kd.R_append (Kd.int .i64) (w0 := w) w.heap.size rfl (.tmp 70) (.tmp 73) 22 3 (.int .i64 0) 8 rfl Try.underlying22 info3 rfl (by decide) (by omega) (.slice Ar ins.length cr) ins x.1 [.int .i64 x.1] (fun k_ => wo.heap.size < k_) (fun _ => False) rfl (by rw [HSZ.out]; rfl) ?aP (fun _ hk => hk.elim) ?aF ?aO ?aB ?aS ?aL ?_; (case aP => exact rfl); (case aF => exact (fun k_ hk => Nat.lt_of_lt_of_le hMlt (Nat.le_trans (by simp) hk))); (case aO => exact Kd.R_alloc HR4.out _); (case aB => exact below_alloc HB4.out _); (case aS => exact Nat.le_trans HB4.out.size (by simp)); (case aL => have := HIL.out; omega); intro v5 w5 ho5 hb5 hg5 hat5; have HO5 := Aside0.mk ho5; have HB5 := Aside0.mk hb5; have HG5 := Aside0.mk hg5; clear ho5 hb5 hg5 hat5; have hMne : some wo.heap.size ≠ (Value.slice Ar ins.length cr).ownBlock := (fun e => Nat.lt_irrefl _ (HR4.out.1 _ e.symm)); have hM5 := blk_grown ((heap_alloc_old w4 _ hMlt).trans HM4.out) HG5.out hMne; have hxne : some w4.heap.size ≠ (Value.slice Ar ins.length cr).ownBlock := (fun e => Nat.lt_irrefl _ (Kd.R_lt HR4.out _ e.symm)); have hx5 := blk_grown (heap_alloc_new w4 _) HG5.out hxne; have HM5 := Aside0.mk hM5; have HX5 := Aside0.mk hx5; clear hM5 hx5 hMne hxne; have hcM5 : w5.cell? ⟨wo.heap.size, 0, none⟩ = some (.slice Ar ins.length cr) := (by rw [blk_cell HM5.out]; rfl); have hfM5 := blk_frozen HM5.out 0; have hcx5 : w5.cell? ⟨w4.heap.size, 1, none⟩ = some (.int .i64 x.2) := (by rw [blk_cell HX5.out]; rfl); obtain ⟨A5, c5, e5⟩ := Kd.R_slice HO5.out; subst e5))
              go_roundw
              case rel =>
                have hlen : (ins ++ [x.1]).length = ins.length + 1 := by simp
                have HO5' := HO5.out
                rw [hlen] at HO5'
                have HK : Kept w4 (w5.setCell ⟨wo.heap.size, 0, none⟩ (.slice A5 (ins.length + 1) c5)) (fun k => wo.heap.size ≤ k) :=
                  (Kept.of_grown HG5.out ((Kept.refl w4 _).alloc _) (fun k hk => .inl (Nat.le_of_lt (HR4.out.1 k hk)))).setCell (.inl (Nat.le_refl _)) _
                have hpl := popL_length l'
                refine ⟨i + 1, (popL l').take (l'.length - 1), ins ++ [x.1], wrap64 (s + x.2), .slice A5 (ins.length + 1) c5, by go_num, rfl, by omega, ⟨?_⟩, by rw [List.length_take]; omega, by rw [List.length_take]; omega, ⟨?_⟩, ⟨hp4.lad.kept HK (by omega), hp4.top.kept HK (by omega)⟩, ⟨Kd.S_kept HS4.out HK (fun k hk h2 => by have := hk.2; omega)⟩, ⟨?_⟩, ⟨Kd.R_far HO5' (fun k hk => Nat.ne_of_gt hk) _⟩, ⟨HB5.out.setCell (show w.heap.size ≤ wo.heap.size by omega) _⟩⟩
                · rw [← HPM.out, show t - i = (t - (i + 1)) + 1 from by omega, popMany, HX.out]
                · rw [hlen, HIL.out]
                · exact blk_set HM5.out 0 _
              case measure => simp [intOf]; omega
            · have hti : t = i := by omega
              subst hti
              have hcM : wr.cell? ⟨wo.heap.size, 0, none⟩ = some (.slice Ar ins.length cr) := by rw [blk_cell HM.out]; rfl
              go_wp2_with fail
              refine (Sort_own Ar cr w.heap.size _ ins wr HR2.out (by have := HIL.out; omega)).mono ?_
              rintro e w5 ⟨rfl, hr5, hg5⟩
              have hMne : some wo.heap.size ≠ (Value.slice Ar ins.length cr).ownBlock := fun e => Nat.lt_irrefl _ (HR2.out.1 _ e.symm)
              have HM5 := Aside0.mk (blk_grown HM.out hg5 hMne)
              have HR5 := Aside0.mk hr5
              have HK5 := Aside0.mk (Kept.of_grown hg5 (Kept.refl wr (fun k => wo.heap.size < k)) (fun k hk => .inl (HR2.out.1 k hk)))
              have HB5 := Aside0.mk (HB.out.grown hg5 HB.out.size (fun k hk => by have := HR2.out.1 k hk; omega))
              have hp5 : Hp w5 (w.heap.size + 1) w.heap.size l0.length l' := ⟨hp.lad.kept HK5.out (by omega), hp.top.kept HK5.out (by omega)⟩
              have HS5 := Aside0.mk (Kd.S_kept HS.out HK5.out (fun k hk h2 => by have := hk.2; omega))
              clear hr5 hg5 hMne hcM
              have hcM : w5.cell? ⟨wo.heap.size, 0, none⟩ = some (.slice Ar ins.length cr) := by rw [blk_cell HM5.out]; rfl
              have hcN : w5.cell? ⟨wo.heap.size, 1, none⟩ = some (.int .i64 ((l0.length : Int) + (st.length : Int))) := by rw [blk_cell HM5.out]; rfl
              have hsown : ∀ k, (Value.slice As st.length cs).ownBlock = some k → k < wo.heap.size ∧ k ≠ w.heap.size + 1 ∧ k ≠ w.heap.size := fun k hk => by
                have := (Kd.S_R HS5.out).1 k hk
                exact ⟨this.2, this.1.2.1, this.1.2.2⟩
              have HSO := Aside0.mk hsown
              clear hsown
              have hPw5 : w.heap.size + 1 < w5.heap.size := blk_lt hp5.top
              go_wp2_with ((with_reducible refine gate_builtin (b := .append) (xs := #[.tmp 84, .tmp 86]) rfl ?_); at_builtin; go_must (refine Kd.S_append k51 (w0 := w) w.heap.size rfl (.tmp 84) (.tmp 86) 23 51 (.agg #[(.slice none 0 0), (.int .i64 0)]) 32 rfl Try.underlying23 info51 rfl (by decide) (by omega) (.slice As st.length cs) st (⟨sortI ins, (l0.length : Int) + (st.length : Int)⟩ : S51) [.slice Ar ins.length cr, .int .i64 ((l0.length : Int) + (st.length : Int))] (fun k_ => w.heap.size ≤ k_ ∧ k_ ≠ w.heap.size + 1 ∧ k_ ≠ w.heap.size) (fun k_ => wo.heap.size < k_) rfl rfl ?bp ?bo ?bf ?bO ?bB ?bS ?bL ?_; (case bp => exact k51_mkM _ _ _ _ HR5.out); (case bo => exact (fun k hk => ⟨⟨by omega, by omega, by omega⟩, fun e => by have := (HSO.out k e.symm).1; omega⟩)); (case bf => exact (fun k hk => ⟨by omega, by omega, by omega⟩)); (case bO => exact Kd.S_mono HS5.out (fun k hk => ⟨hk.1, by have := hk.2; omega⟩)); (case bB => exact HB5.out); (case bS => exact HB5.out.size); (case bL => omega); intro v6 w6 ho6 hb6 hg6 hat6; have HO6 := Aside0.mk ho6; have HB6 := Aside0.mk hb6; have HG6 := Aside0.mk hg6; clear ho6 hb6 hg6 hat6; have HM6 := Aside0.mk (blk_grown HM5.out HG6.out (fun e => Nat.lt_irrefl _ (HSO.out _ e.symm).1)); have hcN6 : w6.cell? ⟨wo.heap.size, 1, none⟩ = some (.int .i64 ((l0.length : Int) + (st.length : Int))) := (by rw [blk_cell HM6.out]; rfl)))
              have HK6 : Kept w5 w6 (fun k => k < wo.heap.size ∧ k ≠ w.heap.size + 1 ∧ k ≠ w.heap.size) := Kept.of_grown HG6.out (Kept.refl w5 _) (fun k hk => .inl (HSO.out k hk))
              have hp6 : Hp w6 (w.heap.size + 1) w.heap.size l0.length l' := ⟨hp5.lad.kept HK6 (fun h => h.2.2 rfl), hp5.top.kept HK6 (fun h => h.2.1 rfl)⟩
              clear HK6
              refine (Hpush_any _ _ _ l' ((l0.length : Int) + (st.length : Int), s) w6 hp6 (by omega) (by omega)).mono ?_
              rintro e w7 ⟨rfl, hp7, hw7⟩
              have HS7 := Aside0.mk (Kd.S_kept HO6.out hw7.kept (fun k hk h2 => by rcases h2 with rfl | rfl; exact hk.2.1 rfl; exact hk.2.2 rfl))
              have HB7 := Aside0.mk (HB6.out.trans (hw7.below w.heap.size HB6.out.size (fun k hk => by rcases hk with rfl | rfl <;> omega)))
              clear hw7
              go_wp2_with fail
              go_roundg g'
              case measure => omega
              case rel =>
                have hPM : popMany t l [] 0 = (l', ins, s) := by rw [← HPM.out, Nat.sub_self]; rfl
                have hsH : stepH l0.length t l st = pushL l' ((l0.length : Int) + (st.length : Int), s) := by unfold stepH; rw [hPM]; simp
                have hsS : stepS l0.length t l st = st ++ [⟨sortI ins, (l0.length : Int) + (st.length : Int)⟩] := by unfold stepS; rw [hPM]; simp
                have hlen : (pushL l' ((l0.length : Int) + (st.length : Int), s)).length = l'.length + 1 := by unfold pushL; rw [upL_length]; simp
                refine ⟨fan, pushL l' ((l0.length : Int) + (st.length : Int), s), _, rfl, ⟨by omega, by rw [hlen]; simp; omega, by omega, by omega, ?_⟩, by omega, ⟨?_⟩, hp7, HS7, HB7⟩
                · intro hgt
                  obtain ⟨q, hq⟩ := hfit.take c2
                  cases q with
                  | zero => omega
                  | succ q => exact ⟨q, by rw [hlen]; rw [Nat.succ_mul] at hq; omega⟩
                · rw [← HRUN.out, runL_go c2, hsH, hsS]
        · go_wp2_with fail
          refine (Len_any _ _ _ _).mono ?_
          rintro e w' ⟨rfl, rfl⟩
          go_wp2_with fail
          go_ret2
          refine ⟨_, rfl, ?_, HB.out⟩
          rw [← HRUN.out, runL_stop c2]
          exact Kd.S_mono HS.out (fun k hk => hk.1)

theorem plan_Make.calls_S (k : Nat) (A0 : Option Addr) (c0 : Nat) (l0 : List Int) (a1 : Int) (r1 : List (S51)) (r2 : Int) (w : World) (hr0 : Kd.C (Kd.int .i64) w A0 l0.length l0) (hc0 : l0.length ≤ c0) (h : plan_Make.f k l0 a1 = some (r1, r2)) :
    Calls Try.prog 24 #[.slice A0 l0.length c0, .int .i64 a1] w fun e w' => ∃ v0_ : Value, e = .returned (.tuple #[v0_, .int .i64 r2]) ∧ Kd.S k51 51 w' w.heap.size (fun k_ => (w.heap.size ≤ k_)) v0_ r1 ∧ Below w.heap.size w w' := by
  unfold plan_Make.f at h
  obtain ⟨t, hg, h⟩ := Option.bind_eq_some_iff.mp h
  by_cases ht : t = 0
  · subst ht
    rw [if_pos rfl] at h
    simp only [Option.some.injEq, Prod.mk.injEq] at h
    obtain ⟨rfl, rfl⟩ := h
    by_cases hl : l0.length = 1
    · rw [makeSteps, if_pos hl]
      exact Make_one k A0 c0 l0 a1 w hr0 hc0 hg hl
    · have := (given_zero hg).2.2.1
      exact Make_many k A0 c0 l0 a1 w hr0 hc0 hg (by omega)
  · rw [if_neg ht] at h
    simp only [Option.some.injEq, Prod.mk.injEq] at h
    obtain ⟨rfl, rfl⟩ := h
    refine (Make_bad k A0 c0 l0 a1 t w hr0 hc0 hg ht).mono ?_
    rintro e w' ⟨rfl, hd⟩
    exact ⟨_, rfl, Kd.S_nil _ _ _ _ _, hd.below⟩
theorem plan_Make.calls (k : Nat) (A0 : Option Addr) (c0 : Nat) (l0 : List Int) (a1 : Int) (r1 : List (S51)) (r2 : Int) (w : World) (hr0 : Kd.C (Kd.int .i64) w A0 l0.length l0) (hc0 : l0.length ≤ c0) (h : plan_Make.f k l0 a1 = some (r1, r2)) :
    Calls Try.prog 24 #[.slice A0 l0.length c0, .int .i64 a1] w fun e w' => ∃ v0_ : Value, e = .returned (.tuple #[v0_, .int .i64 r2]) ∧ Kd.N k51 51 w' w.heap.size (fun k_ => (w.heap.size ≤ k_)) v0_ r1 ∧ Below w.heap.size w w' := by
  refine (plan_Make.calls_S k A0 c0 l0 a1 r1 r2 w hr0 hc0 h).mono ?_
  rintro e w' ⟨v, rfl, hS, hb⟩
  exact ⟨v, rfl, Kd.S_N hS, hb⟩
end Go.Proofs.Ytbgabijjnbmghaa.P
