/- The walk of the compression function of SHA-256. -/
import Derived.Test.YtdpgebifeaakjaaDoorS7
import Derived.Test.YtdpgebifeaakjaaDoorS6
namespace Go.Proofs.YtdpgebifeaakjaaDoor
set_option linter.unusedSimpArgs false
set_option linter.unusedVariables false
open Go.RowKit
attribute [local go_sem] A32.set

set_option maxRecDepth 100000 in
set_option maxHeartbeats 4000000 in
theorem block_any (h k : Nat → BitVec 32) (rest : ByteArray) (len : Int) (b : Nat) (s : ByteArray) (hs : s.size = 64) (w : World) (hb : Blk w b (hasherC h rest len k) 128) :
    Calls Tryd.prog 111 #[.pointer (some ⟨b, 0, none⟩), .string s] w fun e w' => e = .returned (.tuple #[]) ∧ But b w w' ∧ Blk w' b (hasherC (shaBlock k h (bts s)) rest len k) 128 := by
  have HS := hide hs; clear hs
  have hlt := hb.lt
  go_enter Tryd.func111, Tryd.ntmps111
  go_wp2_with fail
  go_loopw [22] (fun s22 W => ∃ t : Nat, t ≤ 64 ∧ s22 = .int .i64 t ∧ Blk W w.heap.size (A32 64 (sched (bts s) t)) 123 ∧ Below w.heap.size w W) (fun s22 _ => 64 - (intOf s22).toNat)
  case atStart => exact ⟨0, by omega, rfl, Blk.new _ _ _, (Below.refl _ _).alloc (Nat.le_refl _) _⟩
  case round =>
    obtain ⟨t, ht, rfl, hbw, hB⟩ := hrel
    by_cases hlt64 : t < 64
    · have ht1 : (t : Int) < 64 := by omega
      by_cases h16 : t < 16
      · have h161 : (t : Int) < 16 := by omega
        have hx0 := run_index_str (P := Tryd.prog) Tryd.underlying9 s (4 * t) (by rw [HS.out]; omega)
        have hx1 := run_index_str (P := Tryd.prog) Tryd.underlying9 s (4 * t + 1) (by rw [HS.out]; omega)
        have hx2 := run_index_str (P := Tryd.prog) Tryd.underlying9 s (4 * t + 2) (by rw [HS.out]; omega)
        have hx3 := run_index_str (P := Tryd.prog) Tryd.underlying9 s (4 * t + 3) (by rw [HS.out]; omega)
        rw [show ((4 * t : Nat) : Int) = 4 * (t : Int) by omega] at hx0
        rw [show ((4 * t + 1 : Nat) : Int) = 4 * (t : Int) + 1 by omega] at hx1
        rw [show ((4 * t + 2 : Nat) : Int) = 4 * (t : Int) + 2 by omega] at hx2
        rw [show ((4 * t + 3 : Nat) : Int) = 4 * (t : Int) + 3 by omega] at hx3
        go_wp2_with fail
        have hw0 : IntKind.i64.wrap (4 * (t : Int)) = 4 * (t : Int) := IntWalk.i64_in _ (by omega)
        have hw1 : IntKind.i64.wrap (4 * (t : Int) + 1) = 4 * (t : Int) + 1 := IntWalk.i64_in _ (by omega)
        have hw2 : IntKind.i64.wrap (4 * (t : Int) + 2) = 4 * (t : Int) + 2 := IntWalk.i64_in _ (by omega)
        have hw3 : IntKind.i64.wrap (4 * (t : Int) + 3) = 4 * (t : Int) + 3 := IntWalk.i64_in _ (by omega)
        have hp : (0 : Int) ≤ (t : Int) := by omega
        go_still_tail 31, (by kernel_rfl)
        change wpList _ _ _ _ _ wr.drew
        have hbd := hbw.drew
        have hBd := hB.drew
        generalize wr.drew = W2 at hbd hBd ⊢
        clear hbw hB hw0 hw1 hw2 hw3 hp hx0 hx1 hx2 hx3
        have hc : W2.cell? ⟨w.heap.size, t, none⟩ = some (U32 (sched (bts s) t t)) := by rw [hbd.cell, A32.get _ hlt64]
        have hf := hbd.free t
        go_wp2_with fail
        have hb2 := hbd.set t (U32 (wNew (bts s) (sched (bts s) t) t))
        rw [A32.set] at hb2
        refine ⟨⟨t + 1, by omega, by go_num, ?_, hBd.setCell (p := ⟨w.heap.size, t, none⟩) (Nat.le_refl _) _⟩, by simp [intOf]; omega⟩
        have e : wNew (bts s) (sched (bts s) t) t = wordAt (bts s) t := by rw [wNew, if_pos h16]
        rw [e] at hb2
        have e2 : sched (bts s) (t + 1) = fun j => if j = t then wordAt (bts s) t else sched (bts s) t j := by
          funext j; rw [sched, e]
        rw [e2]
        exact hb2
      · have h161 : ¬ (t : Int) < 16 := by omega
        obtain ⟨f, hfe⟩ : ∃ f, sched (bts s) t = f := ⟨_, rfl⟩
        rw [hfe] at hbw
        have HFE := hide hfe; clear hfe
        have hc1 : wr.cell? ⟨w.heap.size, t - 15, none⟩ = some (U32 (f (t - 15))) := by rw [hbw.cell, A32.get _ (by omega)]
        have hc2 : wr.cell? ⟨w.heap.size, t - 2, none⟩ = some (U32 (f (t - 2))) := by rw [hbw.cell, A32.get _ (by omega)]
        go_wp2_with fail
        have hw0 : IntKind.i64.wrap ((t : Int) - 15) = (t : Int) - 15 := IntWalk.i64_in _ (by omega)
        have hw1 : IntKind.i64.wrap ((t : Int) - 2) = (t : Int) - 2 := IntWalk.i64_in _ (by omega)
        have hp0 : (15 : Int) ≤ (t : Int) := by omega
        have hp1 : (2 : Int) ≤ (t : Int) := by omega
        have hq0 : (t : Int) - 15 < 64 := by omega
        have hq1 : (t : Int) - 2 < 64 := by omega
        have hr0 : ((t : Int) - 15).toNat = t - 15 := by omega
        have hr1 : ((t : Int) - 2).toNat = t - 2 := by omega
        go_quiet (fail)
        have hbd : Blk (wr.drewN nq) w.heap.size (A32 64 f) 123 := hbw
        have hBd : Below w.heap.size w (wr.drewN nq) := ⟨hB.os, hB.tape, hB.output, hB.size, hB.block⟩
        generalize wr.drewN nq = W2 at hbd hBd ⊢
        clear hbw hB hw0 hw1 hp0 hp1 hq0 hq1 hr0 hr1 hc1 hc2
        go_wp2_with (go_at_call 129; refine (rot_any _ _ _).mono ?_; rintro e w' ⟨rfl, rfl⟩)
        have hc1 : W2.cell? ⟨w.heap.size, t - 16, none⟩ = some (U32 (f (t - 16))) := by rw [hbd.cell, A32.get _ (by omega)]
        have hc2 : W2.cell? ⟨w.heap.size, t - 7, none⟩ = some (U32 (f (t - 7))) := by rw [hbd.cell, A32.get _ (by omega)]
        have hw0 : IntKind.i64.wrap ((t : Int) - 16) = (t : Int) - 16 := IntWalk.i64_in _ (by omega)
        have hw1 : IntKind.i64.wrap ((t : Int) - 7) = (t : Int) - 7 := IntWalk.i64_in _ (by omega)
        have hp : (0 : Int) ≤ (t : Int) := by omega
        have hp0 : (16 : Int) ≤ (t : Int) := by omega
        have hp1 : (7 : Int) ≤ (t : Int) := by omega
        have hq0 : (t : Int) - 16 < 64 := by omega
        have hq1 : (t : Int) - 7 < 64 := by omega
        have hr0 : ((t : Int) - 16).toNat = t - 16 := by omega
        have hr1 : ((t : Int) - 7).toNat = t - 7 := by omega
        go_still_tail 15, (by kernel_rfl)
        change wpList _ _ _ _ _ W2.drew
        have hbe := hbd.drew
        have hBe := hBd.drew
        generalize W2.drew = W3 at hbe hBe ⊢
        clear hbd hBd hw0 hw1 hp hp0 hp1 hq0 hq1 hr0 hr1 hc1 hc2
        have hc : W3.cell? ⟨w.heap.size, t, none⟩ = some (U32 (f t)) := by rw [hbe.cell, A32.get _ hlt64]
        have hf := hbe.free t
        go_wp2_with fail
        have hb2 := hbe.set t (U32 (wNew (bts s) f t))
        rw [A32.set] at hb2
        refine ⟨⟨t + 1, by omega, by go_num, ?_, hBe.setCell (p := ⟨w.heap.size, t, none⟩) (Nat.le_refl _) _⟩, by simp [intOf]; omega⟩
        have e : wNew (bts s) f t = f (t - 16) + sig0 (f (t - 15)) + f (t - 7) + sig1 (f (t - 2)) := by rw [wNew, if_neg h16]
        have e2 : sched (bts s) (t + 1) = fun j => if j = t then wNew (bts s) f t else f j := by
          funext j; rw [sched, HFE.out]
        rw [e2]
        rw [e] at hb2 ⊢
        exact hb2
    · have h641 : ¬ (t : Int) < 64 := by omega
      rw [show sched (bts s) t = sched (bts s) 64 by rw [show t = 64 by omega]] at hbw
      obtain ⟨W, hWe⟩ : ∃ W, sched (bts s) 64 = W := ⟨_, rfl⟩
      rw [hWe] at hbw
      have HWE := hide hWe; clear hWe
      have hb1 := hb.below hB hlt
      clear hb
      have hH : (Row 8 fun i => (fun i => if i < 8 then U32 (h i) else if i = 8 then .string rest else if i = 9 then .int .i64 len else U32 (k (i - 10))) (0 + i)) = A32 8 h := Row.ext fun i hi => by
        dsimp only; rw [Nat.zero_add, if_pos hi]
      go_wp2_with (first | (refine wp_loadMid rfl 61 _ rfl b 0 rfl hb1 Tryd.underlying61 rfl size61 (by omega) hH ?_) | (refine wp_storeRow rfl 61 _ _ rfl _ rfl rfl (Blk.new _ _ _) size61 (A32.size _ _) (A32.size _ _) (A32.one _) rfl ?_; intro W0 hu0 hb3))
      have hb4 := hb1.alloc (.cells (A32 8 fun _ => 0#32) 61)
      have hb5 := hb4.upd hu0 (by have := hB.size; omega)
      have hbw1 := (hbw.alloc (.cells (A32 8 fun _ => 0#32) 61)).upd hu0 (by have := hbw.lt; omega)
      have hB1 := hu0.below (hB.alloc hB.size (.cells (A32 8 fun _ => 0#32) 61)) hB.size
      have hBs : w.heap.size < wr.heap.size := hbw.lt
      clear hb1 hb4 hbw hB hu0
      obtain ⟨B1, hB1e⟩ : ∃ B1, B1 = wr.heap.size := ⟨_, rfl⟩
      rw [← hB1e] at hb3 hBs ⊢
      clear hB1e
      go_loopw [103] (fun s103 X => ∃ t : Nat, t ≤ 64 ∧ s103 = .int .i64 t ∧ Blk X b (hasherC h rest len k) 128 ∧ Blk X w.heap.size (A32 64 W) 123 ∧ Blk X B1 (A32 8 (shaRounds k W t h)) 61 ∧ Below w.heap.size w X) (fun s103 _ => 64 - (intOf s103).toNat)
      case atStart => exact ⟨0, by omega, rfl, hb5, hbw1, hb3, hB1⟩
      case round =>
        clear hb5 hbw1 hb3 hB1
        obtain ⟨t2, ht2, rfl, hb5, hbw1, hb3, hB1⟩ := hrel
        by_cases hl2 : t2 < 64
        · have hl21 : (t2 : Int) < 64 := by omega
          obtain ⟨v, hve⟩ : ∃ v, shaRounds k W t2 h = v := ⟨_, rfl⟩
          rw [hve] at hb3
          have HVE := hide hve; clear hve
          have hv0 := hb3.cell 0
          have hv1 := hb3.cell 1
          have hv2 := hb3.cell 2
          rw [A32.get _ (by omega)] at hv0 hv1 hv2
          go_wp2_with fail
          go_quiet (fail)
          clear hv0 hv1 hv2
          replace hb5 := hb5.drewN nq
          replace hbw1 := hbw1.drewN nq
          replace hb3 := hb3.drewN nq
          replace hB1 := below_drewN' nq hB1
          generalize wr.drewN nq = X1 at hb5 hbw1 hb3 hB1 ⊢
          have hv4 := hb3.cell 4
          have hv5 := hb3.cell 5
          have hv6 := hb3.cell 6
          rw [A32.get _ (by omega)] at hv4 hv5 hv6
          go_wp2_with fail
          go_quiet (fail)
          clear hv4 hv5 hv6
          replace hb5 := hb5.drewN nq
          replace hbw1 := hbw1.drewN nq
          replace hb3 := hb3.drewN nq
          replace hB1 := below_drewN' nq hB1
          generalize X1.drewN nq = X2 at hb5 hbw1 hb3 hB1 ⊢
          have hv7 := hb3.cell 7
          rw [A32.get _ (by omega)] at hv7
          have hkt : X2.cell? ⟨b, 10 + t2, none⟩ = some (U32 (k t2)) := by
            rw [hb5.cell, hasherC, Row.get _ (by omega), if_neg (by omega), if_neg (by omega), if_neg (by omega), Nat.add_sub_cancel_left]
          have hwt : X2.cell? ⟨w.heap.size, t2, none⟩ = some (U32 (W t2)) := by rw [hbw1.cell, A32.get _ hl2]
          have hp : (0 : Int) ≤ (t2 : Int) := by omega
          go_wp2_with fail
          go_quiet ((go_at_call 129; exact quiet_left (rot_any _ _ _)))
          clear hv7 hkt hwt hp
          replace hb5 := hb5.drewN nq
          replace hbw1 := hbw1.drewN nq
          replace hb3 := hb3.drewN nq
          replace hB1 := below_drewN' nq hB1
          generalize X2.drewN nq = X3 at hb5 hbw1 hb3 hB1 ⊢
          have hv3 := hb3.cell 3
          rw [A32.get _ (by omega)] at hv3
          go_wp2_with (first | (go_at_call 129; refine (rot_any _ _ _).mono ?_; rintro e w' ⟨rfl, rfl⟩) | (refine wp_storeRow rfl 61 _ _ rfl B1 rfl rfl hb3 size61 (A32.size _ _) (A32.size _ _) (A32.one _) rfl ?_; intro X4 hu4 hb4))
          refine ⟨⟨t2 + 1, by omega, by go_num, hb5.upd hu4 (by omega), hbw1.upd hu4 (by omega), ?_, hu4.below hB1 (by omega)⟩, by simp [intOf]; omega⟩
          refine (A32.ext ?_ : _ = A32 8 _) ▸ hb4
          intro i hi
          rw [shaRounds, HVE.out]
          match i, hi with
          | 0, _ => rfl
          | 1, _ => rfl
          | 2, _ => rfl
          | 3, _ => rfl
          | 4, _ => rfl
          | 5, _ => rfl
          | 6, _ => rfl
          | 7, _ => rfl
        · have hl21 : ¬ (t2 : Int) < 64 := by omega
          rw [show shaRounds k W t2 h = shaRounds k W 64 h by rw [show t2 = 64 by omega]] at hb3
          go_wp2_with (refine wp_loadRow rfl 61 _ rfl B1 rfl hb3 Tryd.underlying61 rfl size61 (A32.size _ _) ?_)
          have hBut : But b w wr := But.of_below hB1
          obtain ⟨v, hve⟩ : ∃ v, shaRounds k W 64 h = v := ⟨_, rfl⟩
          have HVE := hide hve
          rw [hve]
          clear hve hbw1 hb3 hB1
          go_loopw [185] (fun s185 X => ∃ j : Nat, j ≤ 8 ∧ s185 = .int .i64 j ∧ Blk X b (hasherC (fun i => if i < j then h i + v i else h i) rest len k) 128 ∧ But b w X) (fun s185 _ => 8 - (intOf s185).toNat)
          case atStart => exact ⟨0, by omega, rfl, hb5, hBut⟩
          case round =>
            clear hb5 hBut
            obtain ⟨j, hj, rfl, hb5, hBut⟩ := hrel
            by_cases hj8 : j < 8
            · have hj81 : (j : Int) < 8 := by omega
              have hix := index_A32 (P := Tryd.prog) Tryd.underlying61 Tryd.sizeOf42 Tryd.isAgg42 v .i64 j hj8
              go_wp2_with fail
              have hcj := hb5.cell j
              rw [hasherC_word _ _ _ _ _ hj8, if_neg (Nat.lt_irrefl j)] at hcj
              have hp : (0 : Int) ≤ (j : Int) := by omega
              go_still_tail 13, (by kernel_rfl)
              change wpList _ _ _ _ _ wr.drew
              have hb6 := hb5.drew
              have hBut6 := hBut.drew
              generalize wr.drew = X5 at hb6 hBut6 ⊢
              clear hb5 hBut hcj hp
              have hcj := hb6.cell j
              rw [hasherC_word _ _ _ _ _ hj8, if_neg (Nat.lt_irrefl j)] at hcj
              have hf := hb6.free j
              go_wp2_with fail
              have hb7 := hb6.set j (U32 (h j + v j))
              rw [hasherC_set _ _ _ _ _ hj8, fill_step (fun i => h i + v i) h j] at hb7
              exact ⟨⟨j + 1, by omega, by go_num, hb7, hBut6.setCell (.inl rfl) _⟩, by simp [intOf]; omega⟩
            · have hj81 : ¬ (j : Int) < 8 := by omega
              rw [hasherC_ext rest len k (h' := shaBlock k h (bts s)) (fun i hi => by rw [if_pos (by omega), shaBlock, HWE.out, HVE.out])] at hb5
              go_wp2_with fail
              go_end0
              exact ⟨rfl, hBut, hb5⟩
end Go.Proofs.YtdpgebifeaakjaaDoor
