/- The specification of the block function; Add and End. -/
import Derived.Test.YtdpgebifeaakjaaDoorMC
import Derived.Test.YtdpgebifeaakjaaDoorMA
import Derived.Deep.Cut

/- The walk of the specification's block. -/
namespace Go.Proofs.YtdpgebifeaakjaaDoor
set_option linter.unusedSimpArgs false
set_option linter.unusedVariables false
open Go.RowKit
attribute [local go_sem] A32.set

/-- The round numbers lie in the variable. -/
def KAt (w : World) : Prop := ∀ j, j < 64 → w.cell? ⟨0, j, none⟩ = some (U32 (roundK j))
theorem KAt.below {w w' : World} (h : KAt w) (h0 : 0 < w.heap.size) (hb : Below w.heap.size w w') : KAt w' := fun j hj => (hb.cell (p := ⟨0, j, none⟩) h0).trans (h j hj)
theorem KAt.pos {w : World} (h : KAt w) : 0 < w.heap.size := World.block_lt_of_cell? w _ (h 0 (by decide))

set_option maxHeartbeats 400000 in
theorem turn_any (x : BitVec 32) (n : Int) (h0 : 0 ≤ n) (h1 : n ≤ 32) (ha : (n64 (rotK (-n))).toNat = (32 - n).toNat) (hb : (n64 (32#64 - rotK (-n))).toNat = n.toNat) (w : World) :
    Calls Tryd.prog 112 #[U32 x, .int .i64 n] w fun e w' => e = .returned (U32 (rotS x (-n))) ∧ ∃ m, w' = w.drewN m := by
  have hr : rotS x (-n) = x >>> n.toNat ||| x <<< (32 - n).toNat := by
    unfold rotS
    rw [ha, hb, BitVec.or_comm]
  have HR := hide hr
  have hw : IntKind.i64.wrap (32 - n) = 32 - n := IntWalk.i64_in _ (by omega)
  have h2 : 0 ≤ 32 - n := by omega
  clear hr ha hb
  go_enter Tryd.func112, Tryd.ntmps112
  go_wp2_with fail
  go_quiet (fail)
  go_wp2_with fail
  go_ret
  exact ⟨by rw [HR.out]; rfl, _, rfl⟩
theorem quiet_turn {w : World} {n : Nat} (x : BitVec 32) (k : Int) (h0 : 0 ≤ k) (h1 : k ≤ 32) (ha : (n64 (rotK (-k))).toNat = (32 - k).toNat) (hb : (n64 (32#64 - rotK (-k))).toNat = k.toNat) :
    Calls Tryd.prog 112 #[U32 x, .int .i64 k] (w.drewN n) fun e w'' => e = .returned (U32 (rotS x (-k))) ∧ ∃ m, w'' = w.drewN m :=
  (turn_any x k h0 h1 ha hb (w.drewN n)).mono fun _ _ ⟨he, m, hm⟩ => ⟨he, n + m, by rw [hm, World.drewN_drewN]⟩

/-- The bytes of a word, k of them. -/
def partW (s : List (BitVec 8)) (t : Nat) : Nat → BitVec 32
  | 0 => 0#32
  | k + 1 => partW s t k <<< 8 ||| (s.getD (4 * t + k) 0#8).setWidth 32
theorem partW_four (s : List (BitVec 8)) (t : Nat) : partW s t 4 = wordAt s t := by
  simp only [partW, wordAt, BitVec.shiftLeft_or_distrib, ← BitVec.shiftLeft_add]
  simp
theorem sched_zero (s : List (BitVec 8)) : ∀ (t i : Nat), t ≤ i → sched s t i = 0#32
  | 0, _, _ => rfl
  | t + 1, i, h => by
    show (if i = t then _ else sched s t i) = _
    rw [if_neg (by omega), sched_zero s t i (by omega)]
theorem run_index_bts {P : Program} {T : TypeId} (hT : P.underlying T = some .string) (s : ByteArray) (n : Int) (k : Nat) (e : n = (k : Int)) (h : k < s.size) (w : World) :
    (Instr.index T (.string s) (.int .i64 n)).run P w = .ok (U8 ((bts s).getD k 0#8)) w := by
  rw [e]
  exact run_index_str hT s k h w

set_option maxRecDepth 100000 in
set_option maxHeartbeats 4000000 in
theorem rblock_any (h : Nat → BitVec 32) (s : ByteArray) (hs : s.size = 64) (w : World) (hK : KAt w) :
    Calls Tryd.prog 73 #[.agg (A32 8 h), .string s] w fun e w' => e = .returned (.agg (A32 8 (shaBlock roundK h (bts s)))) ∧ Below w.heap.size w w' := by
  have HS := hide hs; clear hs
  have hw0 := hK.pos
  have hbx : ∀ w, (Instr.box 61 (.agg (A32 8 h))).run Tryd.prog w = .ok (.pointer (some ⟨w.heap.size, 0, none⟩)) (w.alloc (.cells (A32 8 h) 61)) := fun w => by kernel_rfl
  go_enter Tryd.func73, Tryd.ntmps73
  go_wp2_with fail
  go_loopw [6] (fun s6 W => ∃ t : Nat, t ≤ 16 ∧ s6 = .int .i64 t ∧ Blk W w.heap.size (A32 8 h) 61 ∧ Blk W (w.heap.size + 1) (A32 8 fun _ => 0#32) 61 ∧ Blk W (w.heap.size + 1 + 1) (A32 64 (sched (bts s) t)) 123 ∧ Below w.heap.size w W) (fun s6 _ => 16 - (intOf s6).toNat)
  case atStart =>
    have h1 := (Blk.new w (A32 8 h) 61)
    have h2 := h1.alloc (.cells (A32 8 fun _ => 0#32) 61)
    have h3 := h2.alloc (.cells (A32 64 fun _ => 0#32) 123)
    have g1 := Blk.new (w.alloc (.cells (A32 8 h) 61)) (A32 8 fun _ => 0#32) 61
    have g2 := g1.alloc (.cells (A32 64 fun _ => 0#32) 123)
    have f1 := Blk.new ((w.alloc (.cells (A32 8 h) 61)).alloc (.cells (A32 8 fun _ => 0#32) 61)) (A32 64 fun _ => 0#32) 123
    have hB : Below w.heap.size w (((w.alloc (.cells (A32 8 h) 61)).alloc (.cells (A32 8 fun _ => 0#32) 61)).alloc (.cells (A32 64 fun _ => 0#32) 123)) := (((Below.refl _ _).alloc (Nat.le_refl _) _).alloc (by simp) _).alloc (by simp; omega) _
    rw [World.size_alloc] at g2
    rw [World.size_alloc, World.size_alloc] at f1
    exact ⟨0, by omega, rfl, h3, g2, f1, hB⟩
  case round =>
    obtain ⟨t, ht, rfl, hbh, hbr, hbw, hB⟩ := hrel
    by_cases h16 : t < 16
    · have h161 : (t : Int) < 16 := by omega
      have hp : (0 : Int) ≤ (t : Int) := by omega
      have hlt64 : t < 64 := by omega
      have hq : (t : Int) < 64 := by omega
      go_wp2_with fail
      go_loopw [7] (fun s7 W => ∃ k : Nat, k ≤ 4 ∧ s7 = .int .i64 k ∧ Blk W w.heap.size (A32 8 h) 61 ∧ Blk W (w.heap.size + 1) (A32 8 fun _ => 0#32) 61 ∧ Blk W (w.heap.size + 1 + 1) (A32 64 fun i => if i = t then partW (bts s) t k else sched (bts s) t i) 123 ∧ Below w.heap.size w W) (fun s7 _ => 4 - (intOf s7).toNat)
      case atStart =>
        refine ⟨0, by omega, rfl, hbh, hbr, ?_, hB⟩
        have e : (A32 64 fun i => if i = t then partW (bts s) t 0 else sched (bts s) t i) = A32 64 (sched (bts s) t) := by
          apply A32.ext
          intro i _
          try dsimp only
          by_cases e : i = t
          · rw [if_pos e, sched_zero _ _ _ (by omega)]; rfl
          · rw [if_neg e]
        rw [e]
        exact hbw
      case round =>
        clear hbh hbr hbw hB
        obtain ⟨k, hk, rfl, hbh, hbr, hbw, hB⟩ := hrel
        by_cases hk4 : k < 4
        · have hk41 : (k : Int) < 4 := by omega
          have hpk : (0 : Int) ≤ (k : Int) := by omega
          have hx := run_index_bts (P := Tryd.prog) Tryd.underlying9 s (4 * (t : Int) + (k : Int)) (4 * t + k) (by omega) (by rw [HS.out]; omega)
          have hc : wr.cell? ⟨w.heap.size + 1 + 1, t, none⟩ = some (U32 (partW (bts s) t k)) := by rw [hbw.cell, A32.get _ hlt64, if_pos rfl]
          go_wp2_with fail
          have hw0 : IntKind.i64.wrap (4 * (t : Int)) = 4 * (t : Int) := IntWalk.i64_in _ (by omega)
          have hw1 : IntKind.i64.wrap (4 * (t : Int) + (k : Int)) = 4 * (t : Int) + (k : Int) := IntWalk.i64_in _ (by omega)
          go_still_tail 14, (by kernel_rfl)
          change wpList _ _ _ _ _ wr.drew
          have hbhd := hbh.drew
          have hbrd := hbr.drew
          have hbd := hbw.drew
          have hBd := hB.drew
          generalize wr.drew = W2 at hbhd hbrd hbd hBd ⊢
          clear hbh hbr hbw hB hw0 hw1 hx hc
          have hc : W2.cell? ⟨w.heap.size + 1 + 1, t, none⟩ = some (U32 (partW (bts s) t k)) := by rw [hbd.cell, A32.get _ hlt64, if_pos rfl]
          have hf := hbd.free t
          go_wp2_with fail
          have hb2 := hbd.set t (U32 (partW (bts s) t (k + 1)))
          rw [A32.set] at hb2
          refine ⟨⟨k + 1, by omega, by go_num, hbhd.other (by simp; omega) _, hbrd.other (by simp) _, ?_, hBd.setCell (p := ⟨w.heap.size + 1 + 1, t, none⟩) (by simp; omega) _⟩, by simp [intOf]; omega⟩
          have e2 : (fun i => if i = t then partW (bts s) t (k + 1) else sched (bts s) t i) = fun i => if i = t then partW (bts s) t (k + 1) else (fun i => if i = t then partW (bts s) t k else sched (bts s) t i) i := by
            funext i
            by_cases e : i = t
            · rw [if_pos e, if_pos e]
            · rw [if_neg e, if_neg e]; exact (if_neg e).symm
          rw [e2]
          exact hb2
        · have hk41 : ¬ (k : Int) < 4 := by omega
          have hk : k = 4 := by omega
          subst hk
          go_wp2_with fail
          refine ⟨⟨t + 1, by omega, by go_num, hbh, hbr, ?_, hB⟩, by simp [intOf]; omega⟩
          have e : wNew (bts s) (sched (bts s) t) t = wordAt (bts s) t := by rw [wNew, if_pos h16]
          have e2 : sched (bts s) (t + 1) = fun i => if i = t then partW (bts s) t 4 else sched (bts s) t i := by
            funext j; rw [sched, e, partW_four]
          rw [e2]
          exact hbw
    · have h161 : ¬ (t : Int) < 16 := by omega
      obtain rfl : t = 16 := by omega
      clear ht h16
      go_wp2_with fail
      go_loopw [8] (fun s8 W => ∃ t : Nat, 16 ≤ t ∧ t ≤ 64 ∧ s8 = .int .i64 t ∧ Blk W w.heap.size (A32 8 h) 61 ∧ Blk W (w.heap.size + 1) (A32 8 fun _ => 0#32) 61 ∧ Blk W (w.heap.size + 1 + 1) (A32 64 (sched (bts s) t)) 123 ∧ Below w.heap.size w W) (fun s8 _ => 64 - (intOf s8).toNat)
      case atStart => exact ⟨16, by omega, by omega, rfl, hbh, hbr, hbw, hB⟩
      case round =>
        clear hbh hbr hbw hB h161
        obtain ⟨t, h16, ht, rfl, hbh, hbr, hbw, hB⟩ := hrel
        by_cases hlt64 : t < 64
        · have ht1 : (t : Int) < 64 := by omega
          obtain ⟨f, hfe⟩ : ∃ f, sched (bts s) t = f := ⟨_, rfl⟩
          rw [hfe] at hbw
          have HFE := hide hfe; clear hfe
          have hc1 : wr.cell? ⟨w.heap.size + 1 + 1, t - 15, none⟩ = some (U32 (f (t - 15))) := by rw [hbw.cell, A32.get _ (by omega)]
          go_wp2_with fail
          have hw0 : IntKind.i64.wrap ((t : Int) - 15) = (t : Int) - 15 := IntWalk.i64_in _ (by omega)
          have hp0 : (15 : Int) ≤ (t : Int) := by omega
          have hq0 : (t : Int) - 15 < 64 := by omega
          have hr0 : ((t : Int) - 15).toNat = t - 15 := by omega
          go_quiet ((go_at_call 112; exact quiet_turn _ _ (by decide) (by decide) (by decide) (by decide)))
          clear hc1 hw0 hp0 hq0 hr0
          replace hbh := hbh.drewN nq
          replace hbr := hbr.drewN nq
          replace hbw := hbw.drewN nq
          replace hB := below_drewN' nq hB
          generalize wr.drewN nq = X1 at hbh hbr hbw hB ⊢
          have hc1 : X1.cell? ⟨w.heap.size + 1 + 1, t - 2, none⟩ = some (U32 (f (t - 2))) := by rw [hbw.cell, A32.get _ (by omega)]
          go_wp2_with fail
          have hw0 : IntKind.i64.wrap ((t : Int) - 2) = (t : Int) - 2 := IntWalk.i64_in _ (by omega)
          have hp0 : (2 : Int) ≤ (t : Int) := by omega
          have hq0 : (t : Int) - 2 < 64 := by omega
          have hr0 : ((t : Int) - 2).toNat = t - 2 := by omega
          go_quiet ((go_at_call 112; exact quiet_turn _ _ (by decide) (by decide) (by decide) (by decide)))
          clear hc1 hw0 hp0 hq0 hr0
          replace hbh := hbh.drewN nq
          replace hbr := hbr.drewN nq
          replace hbw := hbw.drewN nq
          replace hB := below_drewN' nq hB
          generalize X1.drewN nq = W2 at hbh hbr hbw hB ⊢
          have hc1 : W2.cell? ⟨w.heap.size + 1 + 1, t - 16, none⟩ = some (U32 (f (t - 16))) := by rw [hbw.cell, A32.get _ (by omega)]
          have hc2 : W2.cell? ⟨w.heap.size + 1 + 1, t - 7, none⟩ = some (U32 (f (t - 7))) := by rw [hbw.cell, A32.get _ (by omega)]
          go_wp2_with fail
          have hw0 : IntKind.i64.wrap ((t : Int) - 16) = (t : Int) - 16 := IntWalk.i64_in _ (by omega)
          have hw1 : IntKind.i64.wrap ((t : Int) - 7) = (t : Int) - 7 := IntWalk.i64_in _ (by omega)
          have hp : (0 : Int) ≤ (t : Int) := by omega
          have hp0 : (16 : Int) ≤ (t : Int) := by omega
          have hp1 : (7 : Int) ≤ (t : Int) := by omega
          have hq0 : (t : Int) - 16 < 64 := by omega
          have hq1 : (t : Int) - 7 < 64 := by omega
          have hr0 : ((t : Int) - 16).toNat = t - 16 := by omega
          have hr1 : ((t : Int) - 7).toNat = t - 7 := by omega
          go_still_tail 15, (by kernel_rfl)
          change wpList _ _ _ _ _ W2.drew
          have hbhd := hbh.drew
          have hbrd := hbr.drew
          have hbd := hbw.drew
          have hBd := hB.drew
          generalize W2.drew = W3 at hbhd hbrd hbd hBd ⊢
          clear hbh hbr hbw hB hw0 hw1 hp hp0 hp1 hq0 hq1 hr0 hr1 hc1 hc2
          have hc : W3.cell? ⟨w.heap.size + 1 + 1, t, none⟩ = some (U32 (f t)) := by rw [hbd.cell, A32.get _ hlt64]
          have hf := hbd.free t
          go_wp2_with fail
          have hb2 := hbd.set t (U32 (wNew (bts s) f t))
          rw [A32.set] at hb2
          refine ⟨⟨t + 1, by omega, by omega, by go_num, hbhd.other (by simp; omega) _, hbrd.other (by simp) _, ?_, hBd.setCell (p := ⟨w.heap.size + 1 + 1, t, none⟩) (by simp; omega) _⟩, by simp [intOf]; omega⟩
          have e : wNew (bts s) f t = f (t - 16) + sig0 (f (t - 15)) + f (t - 7) + sig1 (f (t - 2)) := by rw [wNew, if_neg (by omega)]
          have e2 : sched (bts s) (t + 1) = fun j => if j = t then wNew (bts s) f t else f j := by
            funext j; rw [sched, HFE.out]
          rw [e2]
          rw [e] at hb2 ⊢
          exact hb2
        · have ht1 : ¬ (t : Int) < 64 := by omega
          rw [show sched (bts s) t = sched (bts s) 64 by rw [show t = 64 by omega]] at hbw
          obtain ⟨W, hWe⟩ : ∃ W, sched (bts s) 64 = W := ⟨_, rfl⟩
          rw [hWe] at hbw
          have HWE := hide hWe; clear hWe
          go_wp2_with (first | (refine wp_loadRow rfl 61 _ rfl w.heap.size rfl hbh Tryd.underlying61 rfl size61 (A32.size _ _) ?_) | (refine wp_storeRow rfl 61 _ _ rfl _ rfl rfl (Blk.new _ _ _) size61 (A32.size _ _) (A32.size _ _) (A32.one _) rfl ?_; intro W0 hu0 hb3))
          have hs0 := hB.size
          have hs1 := hbw.lt
          have hb5 := (hbh.alloc (.cells (A32 8 fun _ => 0#32) 61)).upd hu0 (by omega)
          have hbr1 := (hbr.alloc (.cells (A32 8 fun _ => 0#32) 61)).upd hu0 (by omega)
          have hbw1 := (hbw.alloc (.cells (A32 8 fun _ => 0#32) 61)).upd hu0 (by omega)
          have hB1 := hu0.below (hB.alloc hB.size (.cells (A32 8 fun _ => 0#32) 61)) hB.size
          have hBs : w.heap.size + 1 + 1 < wr.heap.size := hbw.lt
          clear hbh hbr hbw hB hu0 hs0 hs1
          obtain ⟨B1, hB1e⟩ : ∃ B1, B1 = wr.heap.size := ⟨_, rfl⟩
          rw [← hB1e] at hb3 hBs ⊢
          clear hB1e
          go_loopw [12] (fun s12 X => ∃ t : Nat, t ≤ 64 ∧ s12 = .int .i64 t ∧ Blk X w.heap.size (A32 8 h) 61 ∧ Blk X (w.heap.size + 1) (A32 8 fun _ => 0#32) 61 ∧ Blk X (w.heap.size + 1 + 1) (A32 64 W) 123 ∧ Blk X B1 (A32 8 (shaRounds roundK W t h)) 61 ∧ Below w.heap.size w X) (fun s12 _ => 64 - (intOf s12).toNat)
          case atStart => exact ⟨0, by omega, rfl, hb5, hbr1, hbw1, hb3, hB1⟩
          case round =>
            clear hb5 hbr1 hbw1 hb3 hB1
            obtain ⟨t2, ht2, rfl, hb5, hbr1, hbw1, hb3, hB1⟩ := hrel
            by_cases hl2 : t2 < 64
            · have hl21 : (t2 : Int) < 64 := by omega
              obtain ⟨v, hve⟩ : ∃ v, shaRounds roundK W t2 h = v := ⟨_, rfl⟩
              rw [hve] at hb3
              have HVE := hide hve; clear hve
              have hv0 := hb3.cell 0
              have hv4 := hb3.cell 4
              have hv5 := hb3.cell 5
              have hv6 := hb3.cell 6
              have hv7 := hb3.cell 7
              rw [A32.get _ (by omega)] at hv0 hv4 hv5 hv6 hv7
              have hkt : wr.cell? ⟨0, t2, none⟩ = some (U32 (roundK t2)) := (hK.below hw0 hB1) t2 hl2
              have hwt : wr.cell? ⟨w.heap.size + 1 + 1, t2, none⟩ = some (U32 (W t2)) := by rw [hbw1.cell, A32.get _ hl2]
              have hp : (0 : Int) ≤ (t2 : Int) := by omega
              go_wp2_with fail
              go_quiet ((go_at_call 112; exact quiet_turn _ _ (by decide) (by decide) (by decide) (by decide)))
              clear hv0 hv4 hv5 hv6 hv7 hkt hwt hp
              replace hb5 := hb5.drewN nq
              replace hbr1 := hbr1.drewN nq
              replace hbw1 := hbw1.drewN nq
              replace hb3 := hb3.drewN nq
              replace hB1 := below_drewN' nq hB1
              generalize wr.drewN nq = X1 at hb5 hbr1 hbw1 hb3 hB1 ⊢
              have hv1 := hb3.cell 1
              have hv2 := hb3.cell 2
              rw [A32.get _ (by omega)] at hv1 hv2
              go_wp2_with fail
              go_quiet ((go_at_call 112; exact quiet_turn _ _ (by decide) (by decide) (by decide) (by decide)))
              clear hv1 hv2
              replace hb5 := hb5.drewN nq
              replace hbr1 := hbr1.drewN nq
              replace hbw1 := hbw1.drewN nq
              replace hb3 := hb3.drewN nq
              replace hB1 := below_drewN' nq hB1
              generalize X1.drewN nq = X2 at hb5 hbr1 hbw1 hb3 hB1 ⊢
              have hv0 := hb3.cell 0
              have hv1 := hb3.cell 1
              have hv2 := hb3.cell 2
              have hv3 := hb3.cell 3
              have hv4 := hb3.cell 4
              have hv5 := hb3.cell 5
              have hv6 := hb3.cell 6
              rw [A32.get _ (by omega)] at hv0 hv1 hv2 hv3 hv4 hv5 hv6
              go_wp2_with (refine wp_storeRow rfl 61 _ _ rfl B1 rfl rfl hb3 size61 (A32.size _ _) (A32.size _ _) (A32.one _) rfl ?_; intro X4 hu4 hb4)
              refine ⟨⟨t2 + 1, by omega, by go_num, hb5.upd hu4 (by omega), hbr1.upd hu4 (by omega), hbw1.upd hu4 (by omega), ?_, hu4.below hB1 (by omega)⟩, by simp [intOf]; omega⟩
              refine (A32.ext ?_ : _ = A32 8 _) ▸ hb4
              intro i hi
              rw [shaRounds, HVE.out]
              match i, hi with
              | 0, _ => rfl
              | 1, _ => rfl
              | 2, _ => rfl
              | 3, _ => rfl
              | 4, _ => rfl
              | 5, _ => rfl
              | 6, _ => rfl
              | 7, _ => rfl
            · have hl21 : ¬ (t2 : Int) < 64 := by omega
              rw [show shaRounds roundK W t2 h = shaRounds roundK W 64 h by rw [show t2 = 64 by omega]] at hb3
              obtain ⟨v, hve⟩ : ∃ v, shaRounds roundK W 64 h = v := ⟨_, rfl⟩
              have HVE := hide hve
              rw [hve] at hb3
              clear hve hbw1
              go_wp2_with fail
              go_loopw [17] (fun s17 X => ∃ j : Nat, j ≤ 8 ∧ s17 = .int .i64 j ∧ Blk X w.heap.size (A32 8 fun i => if i < j then h i + v i else h i) 61 ∧ Blk X (w.heap.size + 1) (A32 8 fun _ => 0#32) 61 ∧ Blk X B1 (A32 8 v) 61 ∧ Below w.heap.size w X) (fun s17 _ => 8 - (intOf s17).toNat)
              case atStart => exact ⟨0, by omega, rfl, hb5, hbr1, hb3, hB1⟩
              case round =>
                clear hb5 hbr1 hb3 hB1
                obtain ⟨j, hj, rfl, hb5, hbr1, hb3, hB1⟩ := hrel
                by_cases hj8 : j < 8
                · have hj81 : (j : Int) < 8 := by omega
                  go_wp2_with fail
                  have hcj := hb5.cell j
                  rw [A32.get _ hj8, if_neg (Nat.lt_irrefl j)] at hcj
                  have hcv := hb3.cell j
                  rw [A32.get _ hj8] at hcv
                  have hp : (0 : Int) ≤ (j : Int) := by omega
                  go_still_tail 9, (by kernel_rfl)
                  change wpList _ _ _ _ _ wr.drew
                  replace hb5 := hb5.drew
                  replace hbr1 := hbr1.drew
                  replace hb3 := hb3.drew
                  replace hB1 := hB1.drew
                  clear hcj hcv hp
                  generalize wr.drew = X5 at hb5 hbr1 hb3 hB1 ⊢
                  have hcj := hb5.cell j
                  rw [A32.get _ hj8, if_neg (Nat.lt_irrefl j)] at hcj
                  have hf := hb5.free j
                  go_wp2_with fail
                  have hb7 := hb5.set j (U32 (h j + v j))
                  rw [A32.set, fill_step (fun i => h i + v i) h j] at hb7
                  exact ⟨⟨j + 1, by omega, by go_num, hb7, hbr1.other (by simp) _, hb3.other (by simp; omega) _, hB1.setCell (p := ⟨w.heap.size, j, none⟩) (Nat.le_refl _) _⟩, by simp [intOf]; omega⟩
                · have hj81 : ¬ (j : Int) < 8 := by omega
                  rw [A32.ext (g := shaBlock roundK h (bts s)) (fun i hi => by rw [if_pos (by omega), shaBlock, HWE.out, HVE.out])] at hb5
                  go_wp2_with (first | (refine wp_loadRow rfl 61 _ rfl w.heap.size rfl hb5 Tryd.underlying61 rfl size61 (A32.size _ _) ?_) | (refine wp_storeRow rfl 61 _ _ rfl (w.heap.size + 1) rfl rfl hbr1 size61 (A32.size _ _) (A32.size _ _) (A32.one _) rfl ?_; intro X4 hu4 hb4))
                  exact ret_row rfl (w.heap.size + 1) rfl hb4 Tryd.underlying61 rfl size61 (A32.size _ _) rfl ⟨rfl, hu4.below hB1 (by omega)⟩
end Go.Proofs.YtdpgebifeaakjaaDoor

/- States of a digest: what is valid, and Start. -/
namespace Go.Proofs.YtdpgebifeaakjaaDoor
set_option linter.unusedSimpArgs false
set_option linter.unusedVariables false
open Go.RowKit

/-- A state: eight words, the rest, the length. -/
def stG (h : Nat → BitVec 32) (rest : ByteArray) (len : Int) : Array Value := Row 10 fun i => if i < 8 then U32 (h i) else if i = 8 then .string rest else .int .i64 len
theorem stG.size (h : Nat → BitVec 32) (rest : ByteArray) (len : Int) : (stG h rest len).size = 10 := Row.size _ _
theorem stG.one (h : Nat → BitVec 32) (rest : ByteArray) (len : Int) : (stG h rest len).all (·.oneCell') = true := Row.all fun i hi => by
  by_cases h1 : i < 8
  · simp [h1]; rfl
  · by_cases h2 : i = 8
    · simp [h2]; rfl
    · simp [h1, h2]; rfl
theorem stG.rest (h : Nat → BitVec 32) (rest : ByteArray) (len : Int) : (stG h rest len)[8]? = some (.string rest) := by
  rw [stG, Row.get _ (by omega), if_neg (by omega), if_pos rfl]
theorem stG.len (h : Nat → BitVec 32) (rest : ByteArray) (len : Int) : (stG h rest len)[9]? = some (.int .i64 len) := by
  rw [stG, Row.get _ (by omega), if_neg (by omega), if_neg (by omega)]
theorem size63 : (Tryd.prog.info? 63).map (·.size) = some 10 := by kernel_rfl
def validB (rest : ByteArray) (len : Int) : Bool := decide (0 ≤ len) && decide (len ≤ 1099511627776) && ((rest.size : Int) == len % 64)

set_option maxRecDepth 20000 in
set_option maxHeartbeats 400000 in
theorem valid_any (h : Nat → BitVec 32) (rest : ByteArray) (len : Int) (hr : rest.size ≤ maxLen) (w : World) :
    Calls Tryd.prog 69 #[.agg (stG h rest len)] w fun e w' => e = .returned (.bool (validB rest len)) ∧ Below w.heap.size w w' := by
  have hbx : ∀ w, (Instr.box 63 (.agg (stG h rest len))).run Tryd.prog w = .ok (.pointer (some ⟨w.heap.size, 0, none⟩)) (w.alloc (.cells (stG h rest len) 63)) := fun w => by kernel_rfl
  have hn := Blk.new w (stG h rest len) 63
  have h8 := hn.cell 8
  have h9 := hn.cell 9
  rw [stG.rest] at h8
  rw [stG.len] at h9
  have hB : Below w.heap.size w (w.alloc (.cells (stG h rest len) 63)) := (Below.refl _ _).alloc (Nat.le_refl _) _
  clear hn
  unfold validB
  go_enter Tryd.func69, Tryd.ntmps69
  by_cases h0 : 0 ≤ len
  · by_cases h1 : len ≤ 1099511627776
    · go_wp2_with fail
      go_ret
      refine ⟨?_, hB⟩
      rw [show decide (0 ≤ len) = true from decide_eq_true h0, show decide (len ≤ 1099511627776) = true from decide_eq_true h1]
      rfl
    · go_wp2_with fail
      go_ret
      refine ⟨?_, hB⟩
      rw [show decide (len ≤ 1099511627776) = false from decide_eq_false (by omega), Bool.false_and]
      rfl
  · go_wp2_with fail
    go_ret
    refine ⟨?_, hB⟩
    rw [show decide (0 ≤ len) = false from decide_eq_false (by omega), Bool.false_and, Bool.false_and]
    rfl
set_option maxRecDepth 20000 in
set_option maxHeartbeats 400000 in
theorem rvalid_any (h : Nat → BitVec 32) (rest : ByteArray) (len : Int) (hr : rest.size ≤ maxLen) (w : World) :
    Calls Tryd.prog 72 #[.agg (stG h rest len)] w fun e w' => e = .returned (.bool (validB rest len)) ∧ Below w.heap.size w w' := by
  have hbx : ∀ w, (Instr.box 63 (.agg (stG h rest len))).run Tryd.prog w = .ok (.pointer (some ⟨w.heap.size, 0, none⟩)) (w.alloc (.cells (stG h rest len) 63)) := fun w => by kernel_rfl
  have hn := Blk.new w (stG h rest len) 63
  have h8 := hn.cell 8
  have h9 := hn.cell 9
  rw [stG.rest] at h8
  rw [stG.len] at h9
  have hB : Below w.heap.size w (w.alloc (.cells (stG h rest len) 63)) := (Below.refl _ _).alloc (Nat.le_refl _) _
  clear hn
  unfold validB
  go_enter Tryd.func72, Tryd.ntmps72
  by_cases h0 : 0 ≤ len
  · by_cases h1 : len ≤ 1099511627776
    · go_wp2_with fail
      go_ret
      refine ⟨?_, hB⟩
      rw [show decide (0 ≤ len) = true from decide_eq_true h0, show decide (len ≤ 1099511627776) = true from decide_eq_true h1]
      rfl
    · go_wp2_with fail
      go_ret
      refine ⟨?_, hB⟩
      rw [show decide (len ≤ 1099511627776) = false from decide_eq_false (by omega), Bool.false_and]
      rfl
  · go_wp2_with fail
    go_ret
    refine ⟨?_, hB⟩
    rw [show decide (0 ≤ len) = false from decide_eq_false (by omega), Bool.false_and, Bool.false_and]
    rfl

theorem build63g (h : Nat → BitVec 32) (w : World) : (Instr.build 63 #[(0, .agg (A32 8 h))]).run Tryd.prog w = .ok (.agg (stG h ByteArray.empty 0)) w := by kernel_rfl
theorem build63e (w : World) : (Instr.build 63 #[]).run Tryd.prog w = .ok (.agg (stG (fun _ => 0#32) ByteArray.empty 0)) w := by kernel_rfl
theorem build128g (h k : Nat → BitVec 32) (rest : ByteArray) (len : Int) (w : World) : (Instr.build 128 #[(0, .agg (stG h rest len)), (1, .agg (A32 64 k))]).run Tryd.prog w = .ok (.agg (hasherC h rest len k)) w := by kernel_rfl
theorem box128g (h k : Nat → BitVec 32) (rest : ByteArray) (len : Int) (w : World) : (Instr.box 128 (.agg (hasherC h rest len k))).run Tryd.prog w = .ok (.pointer (some ⟨w.heap.size, 0, none⟩)) (w.alloc (.cells (hasherC h rest len k) 128)) := by kernel_rfl
theorem box63g (h : Nat → BitVec 32) (rest : ByteArray) (len : Int) (w : World) : (Instr.box 63 (.agg (stG h rest len))).run Tryd.prog w = .ok (.pointer (some ⟨w.heap.size, 0, none⟩)) (w.alloc (.cells (stG h rest len) 63)) := by kernel_rfl
@[go_sem] theorem lit63 : (#[Value.int .u32 0, Value.int .u32 0, Value.int .u32 0, Value.int .u32 0, Value.int .u32 0, Value.int .u32 0, Value.int .u32 0, Value.int .u32 0, Value.string ByteArray.empty, Value.int .i64 0] : Array Value) = stG (fun _ => 0#32) ByteArray.empty 0 := by kernel_rfl
@[go_sem] theorem lit63b : (#[Value.int .u32 0, Value.int .u32 0, Value.int .u32 0, Value.int .u32 0, Value.int .u32 0, Value.int .u32 0, Value.int .u32 0, Value.int .u32 0, Value.string { data := #[] }, Value.int .i64 0] : Array Value) = stG (fun _ => 0#32) ByteArray.empty 0 := by kernel_rfl

set_option maxRecDepth 20000 in
set_option maxHeartbeats 400000 in
theorem start_any (w : World) :
    Calls Tryd.prog 42 #[] w fun e w' => e = .returned (.agg (stG startK ByteArray.empty 0)) ∧ Below w.heap.size w w' := by
  have c70 := constants_any
  have hb63 := build63g startK
  go_enter Tryd.func42, Tryd.ntmps42
  have ho := Blk.new w (stG (fun _ => 0#32) ByteArray.empty 0) 63
  go_wp2_with fail
  refine (c70 _).mono ?_
  rintro e W ⟨rfl, hB⟩
  have hszW : w.heap.size + 1 ≤ W.heap.size := by have := hB.size; simpa using this
  have hBb : Below w.heap.size w W := ((Below.refl _ _).alloc (Nat.le_refl _) _).trans (hB.mono (by simp))
  have ho1 := ho.below hB (by simp)
  have ho2 := (ho1.alloc (.cells (A32 8 fun _ => 0#32) 61)).alloc (.cells (A32 64 fun _ => 0#32) 123)
  have h3 := (Blk.new W (A32 8 fun _ => 0#32) 61).alloc (.cells (A32 64 fun _ => 0#32) 123)
  have h4 := Blk.new (W.alloc (.cells (A32 8 fun _ => 0#32) 61)) (A32 64 fun _ => 0#32) 123
  rw [World.size_alloc] at h4
  have hBc : Below w.heap.size w ((W.alloc (.cells (A32 8 fun _ => 0#32) 61)).alloc (.cells (A32 64 fun _ => 0#32) 123)) := (hBb.alloc (by omega) _).alloc (by simp; omega) _
  clear hB ho ho1 hBb
  go_wp2_with (first
    | (refine wp_storeRow rfl 61 _ _ rfl _ rfl rfl h3 size61 (A32.size _ _) (A32.size _ _) (A32.one _) rfl ?_; intro W1 hu1 h31; have h41 := h4.upd hu1 (by omega))
    | (refine wp_storeRow rfl 123 _ _ rfl _ rfl rfl h41 size123 (A32.size _ _) (A32.size _ _) (A32.one _) rfl ?_; intro W2 hu2 h42; have h32 := h31.upd hu2 (by omega))
    | (refine wp_loadRow rfl 61 _ rfl _ rfl h32 Tryd.underlying61 rfl size61 (A32.size _ _) ?_)
    | (refine wp_storeRow rfl 63 _ _ rfl _ rfl rfl ((ho2.upd hu1 (by omega)).upd hu2 (by omega)) size63 (stG.size _ _ _) (stG.size _ _ _) (stG.one _ _ _) rfl ?_; intro W3 hu3 ho3))
  have hBd := hu3.below (hu2.below (hu1.below hBc (by omega)) (by omega)) (Nat.le_refl _)
  exact ret_row rfl w.heap.size rfl ho3 Tryd.underlying63 rfl size63 (stG.size _ _ _) rfl ⟨rfl, hBd⟩
end Go.Proofs.YtdpgebifeaakjaaDoor

/- The walk of Add. -/
namespace Go.Proofs.YtdpgebifeaakjaaDoor
set_option linter.unusedSimpArgs false
set_option linter.unusedVariables false
open Go.RowKit

/-- What Add answers. -/
def addAns (h : Nat → BitVec 32) (rest : ByteArray) (len : Int) (s : ByteArray) : Array Value × Int :=
  if validB rest len = true then
    if (s.size : Int) ≤ 1099511627776 - len then (stG (addH roundK h (bts rest ++ bts s)) (strOf (addRest (bts rest ++ bts s))) (len + s.size), 0)
    else (stG (fun _ => 0#32) ByteArray.empty 0, 3)
  else (stG (fun _ => 0#32) ByteArray.empty 0, 2)

theorem validB_facts {rest : ByteArray} {len : Int} (h : validB rest len = true) : 0 ≤ len ∧ len ≤ 1099511627776 ∧ (rest.size : Int) = len % 64 := by
  unfold validB at h
  rw [Bool.and_eq_true, Bool.and_eq_true] at h
  obtain ⟨⟨h0, h1⟩, h2⟩ := h
  exact ⟨of_decide_eq_true h0, of_decide_eq_true h1, eq_of_beq h2⟩

set_option maxRecDepth 20000 in
set_option maxHeartbeats 2000000 in
theorem addp_any (h : Nat → BitVec 32) (rest : ByteArray) (len : Int) (hr : rest.size ≤ maxLen) (s : ByteArray) (hs : s.size ≤ 4611686018427387903) (w : World) :
    Calls Tryd.prog 38 #[.agg (stG h rest len), .string s] w fun e w' => e = .returned (.tuple #[.agg (addAns h rest len s).1, .int .i64 (addAns h rest len s).2]) ∧ Below w.heap.size w w' := by
  have c70 := constants_any
  have hbx := box63g h rest len
  have hb128 := build128g h roundK rest len
  have hx128 := box128g h roundK rest len
  have hb63 := build63e
  have hV := fun w => valid_any h rest len hr w
  have hn := (Blk.new w (stG h rest len) 63).alloc (.cells (stG (fun _ => 0#32) ByteArray.empty 0) 63)
  have ho := Blk.new (w.alloc (.cells (stG h rest len) 63)) (stG (fun _ => 0#32) ByteArray.empty 0) 63
  have hB : Below w.heap.size w ((w.alloc (.cells (stG h rest len) 63)).alloc (.cells (stG (fun _ => 0#32) ByteArray.empty 0) 63)) := ((Below.refl _ _).alloc (Nat.le_refl _) _).alloc (by simp) _
  rw [World.size_alloc] at ho
  go_enter Tryd.func38, Tryd.ntmps38
  go_wp2_with (refine wp_loadRow rfl 63 _ rfl w.heap.size rfl hn Tryd.underlying63 rfl size63 (stG.size _ _ _) ?_)
  refine (hV _).mono ?_
  rintro e W ⟨rfl, hB1⟩
  have hn1 := hn.below hB1 hn.lt
  have ho1 := ho.below hB1 ho.lt
  have hBb := hB.trans (hB1.mono hB.size)
  clear hn ho hB hB1
  by_cases hv : validB rest len = true
  · obtain ⟨g0, g1, g2⟩ := validB_facts hv
    have hrs : rest.size < 64 := by omega
    have h9 := hn1.cell 9
    rw [stG.len] at h9
    have hwl : IntKind.i64.wrap (1099511627776 - len) = 1099511627776 - len := IntWalk.i64_in _ (by omega)
    by_cases hl : (s.size : Int) ≤ 1099511627776 - len
    · go_wp2_with fail
      refine (c70 _).mono ?_
      rintro e W0 ⟨rfl, hB0⟩
      have hszW : w.heap.size + 1 + 1 ≤ W0.heap.size := by have := ho1.lt; have := hB0.size; omega
      have hBe : Below w.heap.size w W0 := hBb.trans (hB0.mono hBb.size)
      have hn2 := ((hn1.below hB0 hn1.lt).alloc (.cells (A32 8 fun _ => 0#32) 61)).alloc (.cells (A32 64 fun _ => 0#32) 123)
      have ho2 := ((ho1.below hB0 ho1.lt).alloc (.cells (A32 8 fun _ => 0#32) 61)).alloc (.cells (A32 64 fun _ => 0#32) 123)
      have h3 := (Blk.new W0 (A32 8 fun _ => 0#32) 61).alloc (.cells (A32 64 fun _ => 0#32) 123)
      have h4 := Blk.new (W0.alloc (.cells (A32 8 fun _ => 0#32) 61)) (A32 64 fun _ => 0#32) 123
      rw [World.size_alloc] at h4
      have hBc : Below w.heap.size w ((W0.alloc (.cells (A32 8 fun _ => 0#32) 61)).alloc (.cells (A32 64 fun _ => 0#32) 123)) := (hBe.alloc (by omega) _).alloc (by simp; omega) _
      clear hB0 hn1 ho1 hBe hBb h9
      go_upto_region 6 with (first
        | (refine wp_storeRow rfl 61 _ _ rfl _ rfl rfl h3 size61 (A32.size _ _) (A32.size _ _) (A32.one _) rfl ?_; intro W1 hu1 h31; have h41 := h4.upd hu1 (by omega))
        | (refine wp_storeRow rfl 123 _ _ rfl _ rfl rfl h41 size123 (A32.size _ _) (A32.size _ _) (A32.one _) rfl ?_; intro W2 hu2 h42))
      have hn3 := (hn2.upd hu1 (by omega)).upd hu2 (by omega)
      apply wp_region_lit
      refine wp_loadRow (t := 63) (C := stG h rest len) (n := 10) rfl 63 (.tmp 2) rfl w.heap.size rfl hn3 Tryd.underlying63 rfl size63 (stG.size _ _ _) ?_
      refine wp_loadRow (t := 123) (C := A32 64 roundK) (n := 64) rfl 123 (.tmp 7) rfl (W0.heap.size + 1) rfl h42 Tryd.underlying123 rfl size123 (A32.size _ _) ?_
      refine wp_buildL rfl 128 #[(0, .tmp 24), (1, .tmp 25)] rfl #[(0, .agg (stG h rest len)), (1, .agg (A32 64 roundK))] rfl (.agg (hasherC h rest len roundK)) hb128 ?_
      go_wp2_with fail
      have hBd := hu2.below (hu1.below hBc (by omega)) (by omega)
      have hsz2 : w.heap.size ≤ W2.heap.size := hBd.size
      have ho3 := ((ho2.upd hu1 (by omega)).upd hu2 (by omega)).alloc (.cells (hasherC h rest len roundK) 128)
      have hh := Blk.new W2 (hasherC h rest len roundK) 128
      have hlt := ho3.lt
      have hlt2 := ((ho2.upd hu1 (by omega)).upd hu2 (by omega)).lt
      refine (add_any h roundK rest len W2.heap.size s (by omega) hs (by omega) (by omega) _ hh).mono ?_
      rintro e W3 ⟨rfl, hBut3, hh3⟩
      have hBe : Below w.heap.size w W3 := hBut3.onto (hBd.alloc hsz2 _) hsz2 (by simp; omega)
      have ho4 := ho3.but hBut3 (by omega)
      clear ho3 ho2 hh h3 h4 hBc hBd
      have hH : (Row 10 fun i => (fun i => if i < 8 then U32 (addH roundK h (bts rest ++ bts s) i) else if i = 8 then .string (strOf (addRest (bts rest ++ bts s))) else if i = 9 then .int .i64 (len + s.size) else U32 (roundK (i - 10))) (0 + i)) = stG (addH roundK h (bts rest ++ bts s)) (strOf (addRest (bts rest ++ bts s))) (len + s.size) := Row.ext fun i hi => by
        dsimp only
        rw [Nat.zero_add]
        by_cases e1 : i < 8
        · rw [if_pos e1, if_pos e1]
        · by_cases e2 : i = 8
          · rw [if_neg e1, if_neg e1, if_pos e2, if_pos e2]
          · rw [if_neg e1, if_neg e1, if_neg e2, if_neg e2, if_pos (by omega)]
      go_wp2_with (first
        | (refine wp_loadMid rfl 63 _ rfl W2.heap.size 0 rfl hh3 Tryd.underlying63 rfl size63 (by omega) hH ?_)
        | (refine wp_storeRow rfl 63 _ _ rfl _ rfl rfl ho4 size63 (stG.size _ _ _) (stG.size _ _ _) (stG.one _ _ _) rfl ?_; intro W4 hu4 ho5))
      exact ret_row_tmp rfl (w.heap.size + 1) rfl rfl (run_loadVar_Blk ho5 Tryd.underlying63 rfl size63 (stG.size _ _ _)) rfl ⟨by rw [addAns, if_pos hv, if_pos hl]; rfl, hu4.below hBe (by omega)⟩
    · go_wp2_with (first | (refine wp_storeRow rfl 63 _ _ rfl _ rfl rfl ho1 size63 (stG.size _ _ _) (stG.size _ _ _) (stG.one _ _ _) rfl ?_; intro W3 hu3 ho3))
      exact ret_row_tmp rfl (w.heap.size + 1) rfl rfl (run_loadVar_Blk ho3 Tryd.underlying63 rfl size63 (stG.size _ _ _)) rfl ⟨by rw [addAns, if_pos hv, if_neg (by omega)]; rfl, hu3.below hBb (by omega)⟩
  · have hv' : validB rest len = false := by
      cases e : validB rest len
      · rfl
      · exact absurd e hv
    go_wp2_with (first | (refine wp_storeRow rfl 63 _ _ rfl _ rfl rfl ho1 size63 (stG.size _ _ _) (stG.size _ _ _) (stG.one _ _ _) rfl ?_; intro W3 hu3 ho3))
    exact ret_row_tmp rfl (w.heap.size + 1) rfl rfl (run_loadVar_Blk ho3 Tryd.underlying63 rfl size63 (stG.size _ _ _)) rfl ⟨by rw [addAns, if_neg hv]; rfl, hu3.below hBb (by omega)⟩
end Go.Proofs.YtdpgebifeaakjaaDoor

/- The walk of End. -/
namespace Go.Proofs.YtdpgebifeaakjaaDoor
set_option linter.unusedSimpArgs false
set_option linter.unusedVariables false
open Go.RowKit

/-- What End answers. -/
def endAns (h : Nat → BitVec 32) (rest : ByteArray) (len : Int) : (Nat → BitVec 8) × Int :=
  if validB rest len = true then (digestOf (addH roundK h (bts rest ++ padList rest.size (BitVec.ofInt 64 len * 8#64))), 0) else (fun _ => 0#8, 2)

set_option maxRecDepth 20000 in
set_option maxHeartbeats 2000000 in
theorem endp_any (h : Nat → BitVec 32) (rest : ByteArray) (len : Int) (hr : rest.size ≤ maxLen) (w : World) :
    Calls Tryd.prog 40 #[.agg (stG h rest len)] w fun e w' => e = .returned (.tuple #[.agg (A8 32 (endAns h rest len).1), .int .i64 (endAns h rest len).2]) ∧ Below w.heap.size w w' := by
  have c70 := constants_any
  have hbx := box63g h rest len
  have hb128 := build128g h roundK rest len
  have hx128 := box128g h roundK rest len
  have hV := fun w => valid_any h rest len hr w
  have hn := (Blk.new w (stG h rest len) 63).alloc (.cells (A8 32 fun _ => 0#8) 69)
  have ho := Blk.new (w.alloc (.cells (stG h rest len) 63)) (A8 32 fun _ => 0#8) 69
  have hB : Below w.heap.size w ((w.alloc (.cells (stG h rest len) 63)).alloc (.cells (A8 32 fun _ => 0#8) 69)) := ((Below.refl _ _).alloc (Nat.le_refl _) _).alloc (by simp) _
  rw [World.size_alloc] at ho
  go_enter Tryd.func40, Tryd.ntmps40
  go_wp2_with (refine wp_loadRow rfl 63 _ rfl w.heap.size rfl hn Tryd.underlying63 rfl size63 (stG.size _ _ _) ?_)
  refine (hV _).mono ?_
  rintro e W ⟨rfl, hB1⟩
  have hn1 := hn.below hB1 hn.lt
  have ho1 := ho.below hB1 ho.lt
  have hBb := hB.trans (hB1.mono hB.size)
  clear hn ho hB hB1
  by_cases hv : validB rest len = true
  · obtain ⟨g0, g1, g2⟩ := validB_facts hv
    have hrs : rest.size < 64 := by omega
    go_wp2_with fail
    refine (c70 _).mono ?_
    rintro e W0 ⟨rfl, hB0⟩
    have hszW : w.heap.size + 1 + 1 ≤ W0.heap.size := by have := ho1.lt; have := hB0.size; omega
    have hBe : Below w.heap.size w W0 := hBb.trans (hB0.mono hBb.size)
    have hn2 := ((hn1.below hB0 hn1.lt).alloc (.cells (A32 8 fun _ => 0#32) 61)).alloc (.cells (A32 64 fun _ => 0#32) 123)
    have ho2 := ((ho1.below hB0 ho1.lt).alloc (.cells (A32 8 fun _ => 0#32) 61)).alloc (.cells (A32 64 fun _ => 0#32) 123)
    have h3 := (Blk.new W0 (A32 8 fun _ => 0#32) 61).alloc (.cells (A32 64 fun _ => 0#32) 123)
    have h4 := Blk.new (W0.alloc (.cells (A32 8 fun _ => 0#32) 61)) (A32 64 fun _ => 0#32) 123
    rw [World.size_alloc] at h4
    have hBc : Below w.heap.size w ((W0.alloc (.cells (A32 8 fun _ => 0#32) 61)).alloc (.cells (A32 64 fun _ => 0#32) 123)) := (hBe.alloc (by omega) _).alloc (by simp; omega) _
    clear hB0 hn1 ho1 hBe hBb
    go_upto_region 4 with (first
      | (refine wp_storeRow rfl 61 _ _ rfl _ rfl rfl h3 size61 (A32.size _ _) (A32.size _ _) (A32.one _) rfl ?_; intro W1 hu1 h31; have h41 := h4.upd hu1 (by omega))
      | (refine wp_storeRow rfl 123 _ _ rfl _ rfl rfl h41 size123 (A32.size _ _) (A32.size _ _) (A32.one _) rfl ?_; intro W2 hu2 h42))
    have hn3 := (hn2.upd hu1 (by omega)).upd hu2 (by omega)
    apply wp_region_lit
    refine wp_loadRow (t := 63) (C := stG h rest len) (n := 10) rfl 63 (.tmp 1) rfl w.heap.size rfl hn3 Tryd.underlying63 rfl size63 (stG.size _ _ _) ?_
    refine wp_loadRow (t := 123) (C := A32 64 roundK) (n := 64) rfl 123 (.tmp 5) rfl (W0.heap.size + 1) rfl h42 Tryd.underlying123 rfl size123 (A32.size _ _) ?_
    refine wp_buildL rfl 128 #[(0, .tmp 14), (1, .tmp 15)] rfl #[(0, .agg (stG h rest len)), (1, .agg (A32 64 roundK))] rfl (.agg (hasherC h rest len roundK)) hb128 ?_
    go_wp2_with fail
    have hBd := hu2.below (hu1.below hBc (by omega)) (by omega)
    have hsz2 : w.heap.size ≤ W2.heap.size := hBd.size
    have ho3 := ((ho2.upd hu1 (by omega)).upd hu2 (by omega)).alloc (.cells (hasherC h rest len roundK) 128)
    have hh := Blk.new W2 (hasherC h rest len roundK) 128
    have hlt := ho3.lt
    have hlt2 := ((ho2.upd hu1 (by omega)).upd hu2 (by omega)).lt
    refine (finished_any h roundK rest len _ hrs (by omega) (by omega) _ hh).mono ?_
    rintro e W3 ⟨rfl, hBut3⟩
    have hBe : Below w.heap.size w W3 := hBut3.onto (hBd.alloc hsz2 _) hsz2 (by simp; omega)
    have ho4 := ho3.but hBut3 (by omega)
    clear ho3 ho2 hh h3 h4 hBc hBd
    go_wp2_with (first
      | (refine wp_storeRow rfl 69 _ _ rfl _ rfl rfl ho4 size69 (A8.size _ _) (A8.size _ _) (A8.one _) rfl ?_; intro W4 hu4 ho5))
    exact ret_row_tmp rfl (w.heap.size + 1) rfl rfl (run_loadVar_Blk ho5 Tryd.underlying69 rfl size69 (A8.size _ _)) rfl ⟨by rw [endAns, if_pos hv]; rfl, hu4.below hBe (by omega)⟩
  · have hv' : validB rest len = false := by
      cases e : validB rest len
      · rfl
      · exact absurd e hv
    go_wp2_with (first | (refine wp_storeRow rfl 69 _ _ rfl _ rfl rfl ho1 size69 (A8.size _ _) (A8.size _ _) (A8.one _) rfl ?_; intro W3 hu3 ho3))
    exact ret_row_tmp rfl (w.heap.size + 1) rfl rfl (run_loadVar_Blk ho3 Tryd.underlying69 rfl size69 (A8.size _ _)) rfl ⟨by rw [endAns, if_neg hv]; rfl, hu3.below hBb (by omega)⟩
end Go.Proofs.YtdpgebifeaakjaaDoor

/- The specification's Add: what it answers, and steps. -/
namespace Go.Proofs.YtdpgebifeaakjaaDoor
set_option linter.unusedSimpArgs false
set_option linter.unusedVariables false
open Go.RowKit

theorem exec_build {P : Program} {o : Oper} {w : World} (ρ : Operand → Value) (t : TypeId) (parts : Array (Nat × Operand)) (ho : o.op = .build t parts)
    (vals : Array (Nat × Value)) (hv : parts.toList.map (fun p => (p.1, ρ p.2)) = vals.toList) (v : Value) (hrun : ∀ w, (Instr.build t vals).run P w = .ok v w) :
    (execOp ρ o).run P w = .ok (.value v) w := by
  have e : (parts.map fun (i, x) => (i, ρ x)) = vals := by
    rw [← Array.toList_inj, Array.toList_map]
    exact hv
  unfold execOp
  simp only [ho, Sem.run_bind, e, hrun, Result.andThen_ok, Sem.run_pure]
theorem wpo_loadRow {P : Program} {o : Oper} {a : Act} {w : World} {K : Act → World → Prop} {Q : Exit → Act → World → Prop} (ty : TypeId) (x : Operand) (ho : o.op = .load ty x)
    (b : Nat) (hx : a.eval x = .pointer (some ⟨b, 0, none⟩)) {C : Array Value}
    (hrun : (loadVar ty ⟨b, 0, none⟩).run P w = .ok (.agg C) w)
    (h : K (a.put o.dst (.agg C)) w) : Oper.wp P o a w K Q := by
  unfold Oper.wp execOp
  simp only [ho, hx, Instr.loadAt, Instr.sureAddr, Sem.run_bind, Sem.run_pure, Result.andThen_ok, hrun]
  exact h
/-- A state and an error, in a struct. -/
def stE (h : Nat → BitVec 32) (rest : ByteArray) (len e : Int) : Array Value := Row 11 fun i => if i < 8 then U32 (h i) else if i = 8 then .string rest else if i = 9 then .int .i64 len else .int .i64 e
theorem stE.size (h : Nat → BitVec 32) (rest : ByteArray) (len e : Int) : (stE h rest len e).size = 11 := Row.size _ _
theorem stE.one (h : Nat → BitVec 32) (rest : ByteArray) (len e : Int) : (stE h rest len e).all (·.oneCell') = true := Row.all fun i hi => by
  by_cases h1 : i < 8
  · simp [h1]; rfl
  · by_cases h2 : i = 8
    · simp [h2]; rfl
    · by_cases h3 : i = 9
      · simp [h3]; rfl
      · simp [h1, h2, h3]; rfl
theorem size67 : (Tryd.prog.info? 67).map (·.size) = some 11 := by kernel_rfl
theorem build67e (e : Int) (w : World) : (Instr.build 67 #[(1, .int .i64 e)]).run Tryd.prog w = .ok (.agg (stE (fun _ => 0#32) ByteArray.empty 0 e)) w := by kernel_rfl
theorem build67 (h : Nat → BitVec 32) (rest : ByteArray) (len : Int) (w : World) : (Instr.build 67 #[(0, .agg (stG h rest len))]).run Tryd.prog w = .ok (.agg (stE h rest len 0)) w := by kernel_rfl
theorem build63f (h : Nat → BitVec 32) (rest : ByteArray) (len : Int) (w : World) : (Instr.build 63 #[(0, .agg (A32 8 h)), (1, .string rest), (2, .int .i64 len)]).run Tryd.prog w = .ok (.agg (stG h rest len)) w := by kernel_rfl
@[go_sem] theorem lit67 : (#[Value.int .u32 0, Value.int .u32 0, Value.int .u32 0, Value.int .u32 0, Value.int .u32 0, Value.int .u32 0, Value.int .u32 0, Value.int .u32 0, Value.string ByteArray.empty, Value.int .i64 0, Value.int .i64 0] : Array Value) = stE (fun _ => 0#32) ByteArray.empty 0 0 := by kernel_rfl
@[go_sem] theorem lit67b : (#[Value.int .u32 0, Value.int .u32 0, Value.int .u32 0, Value.int .u32 0, Value.int .u32 0, Value.int .u32 0, Value.int .u32 0, Value.int .u32 0, Value.string { data := #[] }, Value.int .i64 0, Value.int .i64 0] : Array Value) = stE (fun _ => 0#32) ByteArray.empty 0 0 := by kernel_rfl

/-- What Add answers, in parts. -/
def addS (h : Nat → BitVec 32) (rest : ByteArray) (len : Int) (s : ByteArray) : (Nat → BitVec 32) × ByteArray × Int × Int :=
  if validB rest len = true then
    if (s.size : Int) ≤ 1099511627776 - len then (addH roundK h (bts rest ++ bts s), strOf (addRest (bts rest ++ bts s)), len + s.size, 0)
    else (fun _ => 0#32, ByteArray.empty, 0, 3)
  else (fun _ => 0#32, ByteArray.empty, 0, 2)
theorem addAns_eq (h : Nat → BitVec 32) (rest : ByteArray) (len : Int) (s : ByteArray) :
    addAns h rest len s = (stG (addS h rest len s).1 (addS h rest len s).2.1 (addS h rest len s).2.2.1, (addS h rest len s).2.2.2) := by
  unfold addAns addS
  by_cases hv : validB rest len = true
  · by_cases hl : (s.size : Int) ≤ 1099511627776 - len
    · rw [if_pos hv, if_pos hl, if_pos hv, if_pos hl]
    · rw [if_pos hv, if_neg hl, if_pos hv, if_neg hl]
  · rw [if_neg hv, if_neg hv]
end Go.Proofs.YtdpgebifeaakjaaDoor
