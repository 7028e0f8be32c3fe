/- The walk of the specification's block. -/
import Derived.Test.YtdpgebifeaakjaaDoorS8
import Derived.Test.YtdpgebifeaakjaaDoorK5
namespace Go.Proofs.YtdpgebifeaakjaaDoor
set_option linter.unusedSimpArgs false
set_option linter.unusedVariables false
open Go.RowKit
attribute [local go_sem] A32.set

/-- The round numbers lie in the variable. -/
def KAt (w : World) : Prop := ∀ j, j < 64 → w.cell? ⟨0, j, none⟩ = some (U32 (roundK j))
theorem KAt.below {w w' : World} (h : KAt w) (h0 : 0 < w.heap.size) (hb : Below w.heap.size w w') : KAt w' := fun j hj => (hb.cell (p := ⟨0, j, none⟩) h0).trans (h j hj)
theorem KAt.pos {w : World} (h : KAt w) : 0 < w.heap.size := World.block_lt_of_cell? w _ (h 0 (by decide))

set_option maxHeartbeats 400000 in
theorem turn_any (x : BitVec 32) (n : Int) (h0 : 0 ≤ n) (h1 : n ≤ 32) (ha : (n64 (rotK (-n))).toNat = (32 - n).toNat) (hb : (n64 (32#64 - rotK (-n))).toNat = n.toNat) (w : World) :
    Calls Tryd.prog 112 #[U32 x, .int .i64 n] w fun e w' => e = .returned (U32 (rotS x (-n))) ∧ ∃ m, w' = w.drewN m := by
  have hr : rotS x (-n) = x >>> n.toNat ||| x <<< (32 - n).toNat := by
    unfold rotS
    rw [ha, hb, BitVec.or_comm]
  have HR := hide hr
  have hw : IntKind.i64.wrap (32 - n) = 32 - n := IntWalk.i64_in _ (by omega)
  have h2 : 0 ≤ 32 - n := by omega
  clear hr ha hb
  go_enter Tryd.func112, Tryd.ntmps112
  go_wp2_with fail
  go_quiet (fail)
  go_wp2_with fail
  go_ret
  exact ⟨by rw [HR.out]; rfl, _, rfl⟩
theorem quiet_turn {w : World} {n : Nat} (x : BitVec 32) (k : Int) (h0 : 0 ≤ k) (h1 : k ≤ 32) (ha : (n64 (rotK (-k))).toNat = (32 - k).toNat) (hb : (n64 (32#64 - rotK (-k))).toNat = k.toNat) :
    Calls Tryd.prog 112 #[U32 x, .int .i64 k] (w.drewN n) fun e w'' => e = .returned (U32 (rotS x (-k))) ∧ ∃ m, w'' = w.drewN m :=
  (turn_any x k h0 h1 ha hb (w.drewN n)).mono fun _ _ ⟨he, m, hm⟩ => ⟨he, n + m, by rw [hm, World.drewN_drewN]⟩

/-- The bytes of a word, k of them. -/
def partW (s : List (BitVec 8)) (t : Nat) : Nat → BitVec 32
  | 0 => 0#32
  | k + 1 => partW s t k <<< 8 ||| (s.getD (4 * t + k) 0#8).setWidth 32
theorem partW_four (s : List (BitVec 8)) (t : Nat) : partW s t 4 = wordAt s t := by
  simp only [partW, wordAt, BitVec.shiftLeft_or_distrib, ← BitVec.shiftLeft_add]
  simp
theorem sched_zero (s : List (BitVec 8)) : ∀ (t i : Nat), t ≤ i → sched s t i = 0#32
  | 0, _, _ => rfl
  | t + 1, i, h => by
    show (if i = t then _ else sched s t i) = _
    rw [if_neg (by omega), sched_zero s t i (by omega)]
theorem run_index_bts {P : Program} {T : TypeId} (hT : P.underlying T = some .string) (s : ByteArray) (n : Int) (k : Nat) (e : n = (k : Int)) (h : k < s.size) (w : World) :
    (Instr.index T (.string s) (.int .i64 n)).run P w = .ok (U8 ((bts s).getD k 0#8)) w := by
  rw [e]
  exact run_index_str hT s k h w

set_option maxRecDepth 100000 in
set_option maxHeartbeats 4000000 in
theorem rblock_any (h : Nat → BitVec 32) (s : ByteArray) (hs : s.size = 64) (w : World) (hK : KAt w) :
    Calls Tryd.prog 73 #[.agg (A32 8 h), .string s] w fun e w' => e = .returned (.agg (A32 8 (shaBlock roundK h (bts s)))) ∧ Below w.heap.size w w' := by
  have HS := hide hs; clear hs
  have hw0 := hK.pos
  have hbx : ∀ w, (Instr.box 61 (.agg (A32 8 h))).run Tryd.prog w = .ok (.pointer (some ⟨w.heap.size, 0, none⟩)) (w.alloc (.cells (A32 8 h) 61)) := fun w => by kernel_rfl
  go_enter Tryd.func73, Tryd.ntmps73
  go_wp2_with fail
  go_loopw [6] (fun s6 W => ∃ t : Nat, t ≤ 16 ∧ s6 = .int .i64 t ∧ Blk W w.heap.size (A32 8 h) 61 ∧ Blk W (w.heap.size + 1) (A32 8 fun _ => 0#32) 61 ∧ Blk W (w.heap.size + 1 + 1) (A32 64 (sched (bts s) t)) 123 ∧ Below w.heap.size w W) (fun s6 _ => 16 - (intOf s6).toNat)
  case atStart =>
    have h1 := (Blk.new w (A32 8 h) 61)
    have h2 := h1.alloc (.cells (A32 8 fun _ => 0#32) 61)
    have h3 := h2.alloc (.cells (A32 64 fun _ => 0#32) 123)
    have g1 := Blk.new (w.alloc (.cells (A32 8 h) 61)) (A32 8 fun _ => 0#32) 61
    have g2 := g1.alloc (.cells (A32 64 fun _ => 0#32) 123)
    have f1 := Blk.new ((w.alloc (.cells (A32 8 h) 61)).alloc (.cells (A32 8 fun _ => 0#32) 61)) (A32 64 fun _ => 0#32) 123
    have hB : Below w.heap.size w (((w.alloc (.cells (A32 8 h) 61)).alloc (.cells (A32 8 fun _ => 0#32) 61)).alloc (.cells (A32 64 fun _ => 0#32) 123)) := (((Below.refl _ _).alloc (Nat.le_refl _) _).alloc (by simp) _).alloc (by simp; omega) _
    rw [World.size_alloc] at g2
    rw [World.size_alloc, World.size_alloc] at f1
    exact ⟨0, by omega, rfl, h3, g2, f1, hB⟩
  case round =>
    obtain ⟨t, ht, rfl, hbh, hbr, hbw, hB⟩ := hrel
    by_cases h16 : t < 16
    · have h161 : (t : Int) < 16 := by omega
      have hp : (0 : Int) ≤ (t : Int) := by omega
      have hlt64 : t < 64 := by omega
      have hq : (t : Int) < 64 := by omega
      go_wp2_with fail
      go_loopw [7] (fun s7 W => ∃ k : Nat, k ≤ 4 ∧ s7 = .int .i64 k ∧ Blk W w.heap.size (A32 8 h) 61 ∧ Blk W (w.heap.size + 1) (A32 8 fun _ => 0#32) 61 ∧ Blk W (w.heap.size + 1 + 1) (A32 64 fun i => if i = t then partW (bts s) t k else sched (bts s) t i) 123 ∧ Below w.heap.size w W) (fun s7 _ => 4 - (intOf s7).toNat)
      case atStart =>
        refine ⟨0, by omega, rfl, hbh, hbr, ?_, hB⟩
        have e : (A32 64 fun i => if i = t then partW (bts s) t 0 else sched (bts s) t i) = A32 64 (sched (bts s) t) := by
          apply A32.ext
          intro i _
          try dsimp only
          by_cases e : i = t
          · rw [if_pos e, sched_zero _ _ _ (by omega)]; rfl
          · rw [if_neg e]
        rw [e]
        exact hbw
      case round =>
        clear hbh hbr hbw hB
        obtain ⟨k, hk, rfl, hbh, hbr, hbw, hB⟩ := hrel
        by_cases hk4 : k < 4
        · have hk41 : (k : Int) < 4 := by omega
          have hpk : (0 : Int) ≤ (k : Int) := by omega
          have hx := run_index_bts (P := Tryd.prog) Tryd.underlying9 s (4 * (t : Int) + (k : Int)) (4 * t + k) (by omega) (by rw [HS.out]; omega)
          have hc : wr.cell? ⟨w.heap.size + 1 + 1, t, none⟩ = some (U32 (partW (bts s) t k)) := by rw [hbw.cell, A32.get _ hlt64, if_pos rfl]
          go_wp2_with fail
          have hw0 : IntKind.i64.wrap (4 * (t : Int)) = 4 * (t : Int) := IntWalk.i64_in _ (by omega)
          have hw1 : IntKind.i64.wrap (4 * (t : Int) + (k : Int)) = 4 * (t : Int) + (k : Int) := IntWalk.i64_in _ (by omega)
          go_still_tail 14, (by kernel_rfl)
          change wpList _ _ _ _ _ wr.drew
          have hbhd := hbh.drew
          have hbrd := hbr.drew
          have hbd := hbw.drew
          have hBd := hB.drew
          generalize wr.drew = W2 at hbhd hbrd hbd hBd ⊢
          clear hbh hbr hbw hB hw0 hw1 hx hc
          have hc : W2.cell? ⟨w.heap.size + 1 + 1, t, none⟩ = some (U32 (partW (bts s) t k)) := by rw [hbd.cell, A32.get _ hlt64, if_pos rfl]
          have hf := hbd.free t
          go_wp2_with fail
          have hb2 := hbd.set t (U32 (partW (bts s) t (k + 1)))
          rw [A32.set] at hb2
          refine ⟨⟨k + 1, by omega, by go_num, hbhd.other (by simp; omega) _, hbrd.other (by simp) _, ?_, hBd.setCell (p := ⟨w.heap.size + 1 + 1, t, none⟩) (by simp; omega) _⟩, by simp [intOf]; omega⟩
          have e2 : (fun i => if i = t then partW (bts s) t (k + 1) else sched (bts s) t i) = fun i => if i = t then partW (bts s) t (k + 1) else (fun i => if i = t then partW (bts s) t k else sched (bts s) t i) i := by
            funext i
            by_cases e : i = t
            · rw [if_pos e, if_pos e]
            · rw [if_neg e, if_neg e]; exact (if_neg e).symm
          rw [e2]
          exact hb2
        · have hk41 : ¬ (k : Int) < 4 := by omega
          have hk : k = 4 := by omega
          subst hk
          go_wp2_with fail
          refine ⟨⟨t + 1, by omega, by go_num, hbh, hbr, ?_, hB⟩, by simp [intOf]; omega⟩
          have e : wNew (bts s) (sched (bts s) t) t = wordAt (bts s) t := by rw [wNew, if_pos h16]
          have e2 : sched (bts s) (t + 1) = fun i => if i = t then partW (bts s) t 4 else sched (bts s) t i := by
            funext j; rw [sched, e, partW_four]
          rw [e2]
          exact hbw
    · have h161 : ¬ (t : Int) < 16 := by omega
      obtain rfl : t = 16 := by omega
      clear ht h16
      go_wp2_with fail
      go_loopw [8] (fun s8 W => ∃ t : Nat, 16 ≤ t ∧ t ≤ 64 ∧ s8 = .int .i64 t ∧ Blk W w.heap.size (A32 8 h) 61 ∧ Blk W (w.heap.size + 1) (A32 8 fun _ => 0#32) 61 ∧ Blk W (w.heap.size + 1 + 1) (A32 64 (sched (bts s) t)) 123 ∧ Below w.heap.size w W) (fun s8 _ => 64 - (intOf s8).toNat)
      case atStart => exact ⟨16, by omega, by omega, rfl, hbh, hbr, hbw, hB⟩
      case round =>
        clear hbh hbr hbw hB h161
        obtain ⟨t, h16, ht, rfl, hbh, hbr, hbw, hB⟩ := hrel
        by_cases hlt64 : t < 64
        · have ht1 : (t : Int) < 64 := by omega
          obtain ⟨f, hfe⟩ : ∃ f, sched (bts s) t = f := ⟨_, rfl⟩
          rw [hfe] at hbw
          have HFE := hide hfe; clear hfe
          have hc1 : wr.cell? ⟨w.heap.size + 1 + 1, t - 15, none⟩ = some (U32 (f (t - 15))) := by rw [hbw.cell, A32.get _ (by omega)]
          go_wp2_with fail
          have hw0 : IntKind.i64.wrap ((t : Int) - 15) = (t : Int) - 15 := IntWalk.i64_in _ (by omega)
          have hp0 : (15 : Int) ≤ (t : Int) := by omega
          have hq0 : (t : Int) - 15 < 64 := by omega
          have hr0 : ((t : Int) - 15).toNat = t - 15 := by omega
          go_quiet ((go_at_call 112; exact quiet_turn _ _ (by decide) (by decide) (by decide) (by decide)))
          clear hc1 hw0 hp0 hq0 hr0
          replace hbh := hbh.drewN nq
          replace hbr := hbr.drewN nq
          replace hbw := hbw.drewN nq
          replace hB := below_drewN' nq hB
          generalize wr.drewN nq = X1 at hbh hbr hbw hB ⊢
          have hc1 : X1.cell? ⟨w.heap.size + 1 + 1, t - 2, none⟩ = some (U32 (f (t - 2))) := by rw [hbw.cell, A32.get _ (by omega)]
          go_wp2_with fail
          have hw0 : IntKind.i64.wrap ((t : Int) - 2) = (t : Int) - 2 := IntWalk.i64_in _ (by omega)
          have hp0 : (2 : Int) ≤ (t : Int) := by omega
          have hq0 : (t : Int) - 2 < 64 := by omega
          have hr0 : ((t : Int) - 2).toNat = t - 2 := by omega
          go_quiet ((go_at_call 112; exact quiet_turn _ _ (by decide) (by decide) (by decide) (by decide)))
          clear hc1 hw0 hp0 hq0 hr0
          replace hbh := hbh.drewN nq
          replace hbr := hbr.drewN nq
          replace hbw := hbw.drewN nq
          replace hB := below_drewN' nq hB
          generalize X1.drewN nq = W2 at hbh hbr hbw hB ⊢
          have hc1 : W2.cell? ⟨w.heap.size + 1 + 1, t - 16, none⟩ = some (U32 (f (t - 16))) := by rw [hbw.cell, A32.get _ (by omega)]
          have hc2 : W2.cell? ⟨w.heap.size + 1 + 1, t - 7, none⟩ = some (U32 (f (t - 7))) := by rw [hbw.cell, A32.get _ (by omega)]
          go_wp2_with fail
          have hw0 : IntKind.i64.wrap ((t : Int) - 16) = (t : Int) - 16 := IntWalk.i64_in _ (by omega)
          have hw1 : IntKind.i64.wrap ((t : Int) - 7) = (t : Int) - 7 := IntWalk.i64_in _ (by omega)
          have hp : (0 : Int) ≤ (t : Int) := by omega
          have hp0 : (16 : Int) ≤ (t : Int) := by omega
          have hp1 : (7 : Int) ≤ (t : Int) := by omega
          have hq0 : (t : Int) - 16 < 64 := by omega
          have hq1 : (t : Int) - 7 < 64 := by omega
          have hr0 : ((t : Int) - 16).toNat = t - 16 := by omega
          have hr1 : ((t : Int) - 7).toNat = t - 7 := by omega
          go_still_tail 15, (by kernel_rfl)
          change wpList _ _ _ _ _ W2.drew
          have hbhd := hbh.drew
          have hbrd := hbr.drew
          have hbd := hbw.drew
          have hBd := hB.drew
          generalize W2.drew = W3 at hbhd hbrd hbd hBd ⊢
          clear hbh hbr hbw hB hw0 hw1 hp hp0 hp1 hq0 hq1 hr0 hr1 hc1 hc2
          have hc : W3.cell? ⟨w.heap.size + 1 + 1, t, none⟩ = some (U32 (f t)) := by rw [hbd.cell, A32.get _ hlt64]
          have hf := hbd.free t
          go_wp2_with fail
          have hb2 := hbd.set t (U32 (wNew (bts s) f t))
          rw [A32.set] at hb2
          refine ⟨⟨t + 1, by omega, by omega, by go_num, hbhd.other (by simp; omega) _, hbrd.other (by simp) _, ?_, hBd.setCell (p := ⟨w.heap.size + 1 + 1, t, none⟩) (by simp; omega) _⟩, by simp [intOf]; omega⟩
          have e : wNew (bts s) f t = f (t - 16) + sig0 (f (t - 15)) + f (t - 7) + sig1 (f (t - 2)) := by rw [wNew, if_neg (by omega)]
          have e2 : sched (bts s) (t + 1) = fun j => if j = t then wNew (bts s) f t else f j := by
            funext j; rw [sched, HFE.out]
          rw [e2]
          rw [e] at hb2 ⊢
          exact hb2
        · have ht1 : ¬ (t : Int) < 64 := by omega
          rw [show sched (bts s) t = sched (bts s) 64 by rw [show t = 64 by omega]] at hbw
          obtain ⟨W, hWe⟩ : ∃ W, sched (bts s) 64 = W := ⟨_, rfl⟩
          rw [hWe] at hbw
          have HWE := hide hWe; clear hWe
          go_wp2_with (first | (refine wp_loadRow rfl 61 _ rfl w.heap.size rfl hbh Tryd.underlying61 rfl size61 (A32.size _ _) ?_) | (refine wp_storeRow rfl 61 _ _ rfl _ rfl rfl (Blk.new _ _ _) size61 (A32.size _ _) (A32.size _ _) (A32.one _) rfl ?_; intro W0 hu0 hb3))
          have hs0 := hB.size
          have hs1 := hbw.lt
          have hb5 := (hbh.alloc (.cells (A32 8 fun _ => 0#32) 61)).upd hu0 (by omega)
          have hbr1 := (hbr.alloc (.cells (A32 8 fun _ => 0#32) 61)).upd hu0 (by omega)
          have hbw1 := (hbw.alloc (.cells (A32 8 fun _ => 0#32) 61)).upd hu0 (by omega)
          have hB1 := hu0.below (hB.alloc hB.size (.cells (A32 8 fun _ => 0#32) 61)) hB.size
          have hBs : w.heap.size + 1 + 1 < wr.heap.size := hbw.lt
          clear hbh hbr hbw hB hu0 hs0 hs1
          obtain ⟨B1, hB1e⟩ : ∃ B1, B1 = wr.heap.size := ⟨_, rfl⟩
          rw [← hB1e] at hb3 hBs ⊢
          clear hB1e
          go_loopw [12] (fun s12 X => ∃ t : Nat, t ≤ 64 ∧ s12 = .int .i64 t ∧ Blk X w.heap.size (A32 8 h) 61 ∧ Blk X (w.heap.size + 1) (A32 8 fun _ => 0#32) 61 ∧ Blk X (w.heap.size + 1 + 1) (A32 64 W) 123 ∧ Blk X B1 (A32 8 (shaRounds roundK W t h)) 61 ∧ Below w.heap.size w X) (fun s12 _ => 64 - (intOf s12).toNat)
          case atStart => exact ⟨0, by omega, rfl, hb5, hbr1, hbw1, hb3, hB1⟩
          case round =>
            clear hb5 hbr1 hbw1 hb3 hB1
            obtain ⟨t2, ht2, rfl, hb5, hbr1, hbw1, hb3, hB1⟩ := hrel
            by_cases hl2 : t2 < 64
            · have hl21 : (t2 : Int) < 64 := by omega
              obtain ⟨v, hve⟩ : ∃ v, shaRounds roundK W t2 h = v := ⟨_, rfl⟩
              rw [hve] at hb3
              have HVE := hide hve; clear hve
              have hv0 := hb3.cell 0
              have hv4 := hb3.cell 4
              have hv5 := hb3.cell 5
              have hv6 := hb3.cell 6
              have hv7 := hb3.cell 7
              rw [A32.get _ (by omega)] at hv0 hv4 hv5 hv6 hv7
              have hkt : wr.cell? ⟨0, t2, none⟩ = some (U32 (roundK t2)) := (hK.below hw0 hB1) t2 hl2
              have hwt : wr.cell? ⟨w.heap.size + 1 + 1, t2, none⟩ = some (U32 (W t2)) := by rw [hbw1.cell, A32.get _ hl2]
              have hp : (0 : Int) ≤ (t2 : Int) := by omega
              go_wp2_with fail
              go_quiet ((go_at_call 112; exact quiet_turn _ _ (by decide) (by decide) (by decide) (by decide)))
              clear hv0 hv4 hv5 hv6 hv7 hkt hwt hp
              replace hb5 := hb5.drewN nq
              replace hbr1 := hbr1.drewN nq
              replace hbw1 := hbw1.drewN nq
              replace hb3 := hb3.drewN nq
              replace hB1 := below_drewN' nq hB1
              generalize wr.drewN nq = X1 at hb5 hbr1 hbw1 hb3 hB1 ⊢
              have hv1 := hb3.cell 1
              have hv2 := hb3.cell 2
              rw [A32.get _ (by omega)] at hv1 hv2
              go_wp2_with fail
              go_quiet ((go_at_call 112; exact quiet_turn _ _ (by decide) (by decide) (by decide) (by decide)))
              clear hv1 hv2
              replace hb5 := hb5.drewN nq
              replace hbr1 := hbr1.drewN nq
              replace hbw1 := hbw1.drewN nq
              replace hb3 := hb3.drewN nq
              replace hB1 := below_drewN' nq hB1
              generalize X1.drewN nq = X2 at hb5 hbr1 hbw1 hb3 hB1 ⊢
              have hv0 := hb3.cell 0
              have hv1 := hb3.cell 1
              have hv2 := hb3.cell 2
              have hv3 := hb3.cell 3
              have hv4 := hb3.cell 4
              have hv5 := hb3.cell 5
              have hv6 := hb3.cell 6
              rw [A32.get _ (by omega)] at hv0 hv1 hv2 hv3 hv4 hv5 hv6
              go_wp2_with (refine wp_storeRow rfl 61 _ _ rfl B1 rfl rfl hb3 size61 (A32.size _ _) (A32.size _ _) (A32.one _) rfl ?_; intro X4 hu4 hb4)
              refine ⟨⟨t2 + 1, by omega, by go_num, hb5.upd hu4 (by omega), hbr1.upd hu4 (by omega), hbw1.upd hu4 (by omega), ?_, hu4.below hB1 (by omega)⟩, by simp [intOf]; omega⟩
              refine (A32.ext ?_ : _ = A32 8 _) ▸ hb4
              intro i hi
              rw [shaRounds, HVE.out]
              match i, hi with
              | 0, _ => rfl
              | 1, _ => rfl
              | 2, _ => rfl
              | 3, _ => rfl
              | 4, _ => rfl
              | 5, _ => rfl
              | 6, _ => rfl
              | 7, _ => rfl
            · have hl21 : ¬ (t2 : Int) < 64 := by omega
              rw [show shaRounds roundK W t2 h = shaRounds roundK W 64 h by rw [show t2 = 64 by omega]] at hb3
              obtain ⟨v, hve⟩ : ∃ v, shaRounds roundK W 64 h = v := ⟨_, rfl⟩
              have HVE := hide hve
              rw [hve] at hb3
              clear hve hbw1
              go_wp2_with fail
              go_loopw [17] (fun s17 X => ∃ j : Nat, j ≤ 8 ∧ s17 = .int .i64 j ∧ Blk X w.heap.size (A32 8 fun i => if i < j then h i + v i else h i) 61 ∧ Blk X (w.heap.size + 1) (A32 8 fun _ => 0#32) 61 ∧ Blk X B1 (A32 8 v) 61 ∧ Below w.heap.size w X) (fun s17 _ => 8 - (intOf s17).toNat)
              case atStart => exact ⟨0, by omega, rfl, hb5, hbr1, hb3, hB1⟩
              case round =>
                clear hb5 hbr1 hb3 hB1
                obtain ⟨j, hj, rfl, hb5, hbr1, hb3, hB1⟩ := hrel
                by_cases hj8 : j < 8
                · have hj81 : (j : Int) < 8 := by omega
                  go_wp2_with fail
                  have hcj := hb5.cell j
                  rw [A32.get _ hj8, if_neg (Nat.lt_irrefl j)] at hcj
                  have hcv := hb3.cell j
                  rw [A32.get _ hj8] at hcv
                  have hp : (0 : Int) ≤ (j : Int) := by omega
                  go_still_tail 9, (by kernel_rfl)
                  change wpList _ _ _ _ _ wr.drew
                  replace hb5 := hb5.drew
                  replace hbr1 := hbr1.drew
                  replace hb3 := hb3.drew
                  replace hB1 := hB1.drew
                  clear hcj hcv hp
                  generalize wr.drew = X5 at hb5 hbr1 hb3 hB1 ⊢
                  have hcj := hb5.cell j
                  rw [A32.get _ hj8, if_neg (Nat.lt_irrefl j)] at hcj
                  have hf := hb5.free j
                  go_wp2_with fail
                  have hb7 := hb5.set j (U32 (h j + v j))
                  rw [A32.set, fill_step (fun i => h i + v i) h j] at hb7
                  exact ⟨⟨j + 1, by omega, by go_num, hb7, hbr1.other (by simp) _, hb3.other (by simp; omega) _, hB1.setCell (p := ⟨w.heap.size, j, none⟩) (Nat.le_refl _) _⟩, by simp [intOf]; omega⟩
                · have hj81 : ¬ (j : Int) < 8 := by omega
                  rw [A32.ext (g := shaBlock roundK h (bts s)) (fun i hi => by rw [if_pos (by omega), shaBlock, HWE.out, HVE.out])] at hb5
                  go_wp2_with (first | (refine wp_loadRow rfl 61 _ rfl w.heap.size rfl hb5 Tryd.underlying61 rfl size61 (A32.size _ _) ?_) | (refine wp_storeRow rfl 61 _ _ rfl (w.heap.size + 1) rfl rfl hbr1 size61 (A32.size _ _) (A32.size _ _) (A32.one _) rfl ?_; intro X4 hu4 hb4))
                  exact ret_row rfl (w.heap.size + 1) rfl hb4 Tryd.underlying61 rfl size61 (A32.size _ _) rfl ⟨rfl, hu4.below hB1 (by omega)⟩
end Go.Proofs.YtdpgebifeaakjaaDoor
