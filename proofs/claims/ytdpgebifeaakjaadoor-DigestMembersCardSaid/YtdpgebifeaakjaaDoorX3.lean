/- Texts put together for one claim: part 3. -/
import Derived.Test.YtdpgebifeaakjaaDoorProg
import Derived.WalkKit
import Derived.WalkSpells
import Derived.WalkLawsBesides
import Derived.ChangeKeysEq
import Derived.Deep.RegionHeld3
import Derived.BigQuiet
import Derived.Deep.QuietTactic
import Derived.Deep.MidRow
import Derived.StillTailTactics
import Derived.Laws.AppendOwn
import Derived.Lib.ConvBytes
import Derived.Shelf.Spec.TrailingZeros
import Derived.Laws.FloatArith
import Derived.Laws.CopyOwn
import Derived.BigRegion
import Derived.Deep.Cut
import Derived.ArgAppend
import Derived.Shelf.Strconv.Itoa0
import Derived.RangeFuncNested
import Derived.RangeFuncBound
import Derived.RangeFuncCalls
import Derived.RangeFuncLeaves
import Derived.Shelf.Abstract
import Derived.OwnWalkIn
import Derived.TacticsInMore
import Derived.LoopNIn
import Derived.LoopIn
import Derived.RangeFuncBox
import Derived.Maps.AppendAt
import Derived.Laws.OwnMore
import Derived.Laws.StructEq
import Derived.Deep.RegionHeld
import Derived.Laws.BitsLemmas
import Derived.OwnWalk
import Derived.StillTactics
import Derived.Deep.AppendLies
import Derived.Test.YtdpgebifeaakjaaDoorRows
import Derived.ProofKit
import Derived.LaidMore
import Derived.OpenShut
import Derived.Stop.Joined
import Derived.Carry
import Derived.SevenTiedAt
import Derived.Deep.Slices
import Derived.Laws.AppendOwnNone
import Derived.Defers
import Derived.Recover
import Derived.Test.YtdpgebifeaakjaaDoorX2
/- Sha-256, second part; Hex and Unhex. -/

/- The walk of the compression function of SHA-256. -/
namespace Go.Proofs.YtdpgebifeaakjaaDoor
set_option linter.unusedSimpArgs false
set_option linter.unusedVariables false
open Go.RowKit
attribute [local go_sem] A32.set

set_option maxRecDepth 100000 in
set_option maxHeartbeats 4000000 in
theorem block_any (h k : Nat → BitVec 32) (rest : ByteArray) (len : Int) (b : Nat) (s : ByteArray) (hs : s.size = 64) (w : World) (hb : Blk w b (hasherC h rest len k) 128) :
    Calls Tryd.prog 111 #[.pointer (some ⟨b, 0, none⟩), .string s] w fun e w' => e = .returned (.tuple #[]) ∧ But b w w' ∧ Blk w' b (hasherC (shaBlock k h (bts s)) rest len k) 128 := by
  have HS := hide hs; clear hs
  have hlt := hb.lt
  go_enter Tryd.func111, Tryd.ntmps111
  go_wp2_with fail
  go_loopw [22] (fun s22 W => ∃ t : Nat, t ≤ 64 ∧ s22 = .int .i64 t ∧ Blk W w.heap.size (A32 64 (sched (bts s) t)) 123 ∧ Below w.heap.size w W) (fun s22 _ => 64 - (intOf s22).toNat)
  case atStart => exact ⟨0, by omega, rfl, Blk.new _ _ _, (Below.refl _ _).alloc (Nat.le_refl _) _⟩
  case round =>
    obtain ⟨t, ht, rfl, hbw, hB⟩ := hrel
    by_cases hlt64 : t < 64
    · have ht1 : (t : Int) < 64 := by omega
      by_cases h16 : t < 16
      · have h161 : (t : Int) < 16 := by omega
        have hx0 := run_index_str (P := Tryd.prog) Tryd.underlying9 s (4 * t) (by rw [HS.out]; omega)
        have hx1 := run_index_str (P := Tryd.prog) Tryd.underlying9 s (4 * t + 1) (by rw [HS.out]; omega)
        have hx2 := run_index_str (P := Tryd.prog) Tryd.underlying9 s (4 * t + 2) (by rw [HS.out]; omega)
        have hx3 := run_index_str (P := Tryd.prog) Tryd.underlying9 s (4 * t + 3) (by rw [HS.out]; omega)
        rw [show ((4 * t : Nat) : Int) = 4 * (t : Int) by omega] at hx0
        rw [show ((4 * t + 1 : Nat) : Int) = 4 * (t : Int) + 1 by omega] at hx1
        rw [show ((4 * t + 2 : Nat) : Int) = 4 * (t : Int) + 2 by omega] at hx2
        rw [show ((4 * t + 3 : Nat) : Int) = 4 * (t : Int) + 3 by omega] at hx3
        go_wp2_with fail
        have hw0 : IntKind.i64.wrap (4 * (t : Int)) = 4 * (t : Int) := IntWalk.i64_in _ (by omega)
        have hw1 : IntKind.i64.wrap (4 * (t : Int) + 1) = 4 * (t : Int) + 1 := IntWalk.i64_in _ (by omega)
        have hw2 : IntKind.i64.wrap (4 * (t : Int) + 2) = 4 * (t : Int) + 2 := IntWalk.i64_in _ (by omega)
        have hw3 : IntKind.i64.wrap (4 * (t : Int) + 3) = 4 * (t : Int) + 3 := IntWalk.i64_in _ (by omega)
        have hp : (0 : Int) ≤ (t : Int) := by omega
        go_still_tail 31, (by kernel_rfl)
        change wpList _ _ _ _ _ wr.drew
        have hbd := hbw.drew
        have hBd := hB.drew
        generalize wr.drew = W2 at hbd hBd ⊢
        clear hbw hB hw0 hw1 hw2 hw3 hp hx0 hx1 hx2 hx3
        have hc : W2.cell? ⟨w.heap.size, t, none⟩ = some (U32 (sched (bts s) t t)) := by rw [hbd.cell, A32.get _ hlt64]
        have hf := hbd.free t
        go_wp2_with fail
        have hb2 := hbd.set t (U32 (wNew (bts s) (sched (bts s) t) t))
        rw [A32.set] at hb2
        refine ⟨⟨t + 1, by omega, by go_num, ?_, hBd.setCell (p := ⟨w.heap.size, t, none⟩) (Nat.le_refl _) _⟩, by simp [intOf]; omega⟩
        have e : wNew (bts s) (sched (bts s) t) t = wordAt (bts s) t := by rw [wNew, if_pos h16]
        rw [e] at hb2
        have e2 : sched (bts s) (t + 1) = fun j => if j = t then wordAt (bts s) t else sched (bts s) t j := by
          funext j; rw [sched, e]
        rw [e2]
        exact hb2
      · have h161 : ¬ (t : Int) < 16 := by omega
        obtain ⟨f, hfe⟩ : ∃ f, sched (bts s) t = f := ⟨_, rfl⟩
        rw [hfe] at hbw
        have HFE := hide hfe; clear hfe
        have hc1 : wr.cell? ⟨w.heap.size, t - 15, none⟩ = some (U32 (f (t - 15))) := by rw [hbw.cell, A32.get _ (by omega)]
        have hc2 : wr.cell? ⟨w.heap.size, t - 2, none⟩ = some (U32 (f (t - 2))) := by rw [hbw.cell, A32.get _ (by omega)]
        go_wp2_with fail
        have hw0 : IntKind.i64.wrap ((t : Int) - 15) = (t : Int) - 15 := IntWalk.i64_in _ (by omega)
        have hw1 : IntKind.i64.wrap ((t : Int) - 2) = (t : Int) - 2 := IntWalk.i64_in _ (by omega)
        have hp0 : (15 : Int) ≤ (t : Int) := by omega
        have hp1 : (2 : Int) ≤ (t : Int) := by omega
        have hq0 : (t : Int) - 15 < 64 := by omega
        have hq1 : (t : Int) - 2 < 64 := by omega
        have hr0 : ((t : Int) - 15).toNat = t - 15 := by omega
        have hr1 : ((t : Int) - 2).toNat = t - 2 := by omega
        go_quiet (fail)
        have hbd : Blk (wr.drewN nq) w.heap.size (A32 64 f) 123 := hbw
        have hBd : Below w.heap.size w (wr.drewN nq) := ⟨hB.os, hB.tape, hB.output, hB.size, hB.block⟩
        generalize wr.drewN nq = W2 at hbd hBd ⊢
        clear hbw hB hw0 hw1 hp0 hp1 hq0 hq1 hr0 hr1 hc1 hc2
        go_wp2_with (go_at_call 129; refine (rot_any _ _ _).mono ?_; rintro e w' ⟨rfl, rfl⟩)
        have hc1 : W2.cell? ⟨w.heap.size, t - 16, none⟩ = some (U32 (f (t - 16))) := by rw [hbd.cell, A32.get _ (by omega)]
        have hc2 : W2.cell? ⟨w.heap.size, t - 7, none⟩ = some (U32 (f (t - 7))) := by rw [hbd.cell, A32.get _ (by omega)]
        have hw0 : IntKind.i64.wrap ((t : Int) - 16) = (t : Int) - 16 := IntWalk.i64_in _ (by omega)
        have hw1 : IntKind.i64.wrap ((t : Int) - 7) = (t : Int) - 7 := IntWalk.i64_in _ (by omega)
        have hp : (0 : Int) ≤ (t : Int) := by omega
        have hp0 : (16 : Int) ≤ (t : Int) := by omega
        have hp1 : (7 : Int) ≤ (t : Int) := by omega
        have hq0 : (t : Int) - 16 < 64 := by omega
        have hq1 : (t : Int) - 7 < 64 := by omega
        have hr0 : ((t : Int) - 16).toNat = t - 16 := by omega
        have hr1 : ((t : Int) - 7).toNat = t - 7 := by omega
        go_still_tail 15, (by kernel_rfl)
        change wpList _ _ _ _ _ W2.drew
        have hbe := hbd.drew
        have hBe := hBd.drew
        generalize W2.drew = W3 at hbe hBe ⊢
        clear hbd hBd hw0 hw1 hp hp0 hp1 hq0 hq1 hr0 hr1 hc1 hc2
        have hc : W3.cell? ⟨w.heap.size, t, none⟩ = some (U32 (f t)) := by rw [hbe.cell, A32.get _ hlt64]
        have hf := hbe.free t
        go_wp2_with fail
        have hb2 := hbe.set t (U32 (wNew (bts s) f t))
        rw [A32.set] at hb2
        refine ⟨⟨t + 1, by omega, by go_num, ?_, hBe.setCell (p := ⟨w.heap.size, t, none⟩) (Nat.le_refl _) _⟩, by simp [intOf]; omega⟩
        have e : wNew (bts s) f t = f (t - 16) + sig0 (f (t - 15)) + f (t - 7) + sig1 (f (t - 2)) := by rw [wNew, if_neg h16]
        have e2 : sched (bts s) (t + 1) = fun j => if j = t then wNew (bts s) f t else f j := by
          funext j; rw [sched, HFE.out]
        rw [e2]
        rw [e] at hb2 ⊢
        exact hb2
    · have h641 : ¬ (t : Int) < 64 := by omega
      rw [show sched (bts s) t = sched (bts s) 64 by rw [show t = 64 by omega]] at hbw
      obtain ⟨W, hWe⟩ : ∃ W, sched (bts s) 64 = W := ⟨_, rfl⟩
      rw [hWe] at hbw
      have HWE := hide hWe; clear hWe
      have hb1 := hb.below hB hlt
      clear hb
      have hH : (Row 8 fun i => (fun i => if i < 8 then U32 (h i) else if i = 8 then .string rest else if i = 9 then .int .i64 len else U32 (k (i - 10))) (0 + i)) = A32 8 h := Row.ext fun i hi => by
        dsimp only; rw [Nat.zero_add, if_pos hi]
      go_wp2_with (first | (refine wp_loadMid rfl 61 _ rfl b 0 rfl hb1 Tryd.underlying61 rfl size61 (by omega) hH ?_) | (refine wp_storeRow rfl 61 _ _ rfl _ rfl rfl (Blk.new _ _ _) size61 (A32.size _ _) (A32.size _ _) (A32.one _) rfl ?_; intro W0 hu0 hb3))
      have hb4 := hb1.alloc (.cells (A32 8 fun _ => 0#32) 61)
      have hb5 := hb4.upd hu0 (by have := hB.size; omega)
      have hbw1 := (hbw.alloc (.cells (A32 8 fun _ => 0#32) 61)).upd hu0 (by have := hbw.lt; omega)
      have hB1 := hu0.below (hB.alloc hB.size (.cells (A32 8 fun _ => 0#32) 61)) hB.size
      have hBs : w.heap.size < wr.heap.size := hbw.lt
      clear hb1 hb4 hbw hB hu0
      obtain ⟨B1, hB1e⟩ : ∃ B1, B1 = wr.heap.size := ⟨_, rfl⟩
      rw [← hB1e] at hb3 hBs ⊢
      clear hB1e
      go_loopw [103] (fun s103 X => ∃ t : Nat, t ≤ 64 ∧ s103 = .int .i64 t ∧ Blk X b (hasherC h rest len k) 128 ∧ Blk X w.heap.size (A32 64 W) 123 ∧ Blk X B1 (A32 8 (shaRounds k W t h)) 61 ∧ Below w.heap.size w X) (fun s103 _ => 64 - (intOf s103).toNat)
      case atStart => exact ⟨0, by omega, rfl, hb5, hbw1, hb3, hB1⟩
      case round =>
        clear hb5 hbw1 hb3 hB1
        obtain ⟨t2, ht2, rfl, hb5, hbw1, hb3, hB1⟩ := hrel
        by_cases hl2 : t2 < 64
        · have hl21 : (t2 : Int) < 64 := by omega
          obtain ⟨v, hve⟩ : ∃ v, shaRounds k W t2 h = v := ⟨_, rfl⟩
          rw [hve] at hb3
          have HVE := hide hve; clear hve
          have hv0 := hb3.cell 0
          have hv1 := hb3.cell 1
          have hv2 := hb3.cell 2
          rw [A32.get _ (by omega)] at hv0 hv1 hv2
          go_wp2_with fail
          go_quiet (fail)
          clear hv0 hv1 hv2
          replace hb5 := hb5.drewN nq
          replace hbw1 := hbw1.drewN nq
          replace hb3 := hb3.drewN nq
          replace hB1 := below_drewN' nq hB1
          generalize wr.drewN nq = X1 at hb5 hbw1 hb3 hB1 ⊢
          have hv4 := hb3.cell 4
          have hv5 := hb3.cell 5
          have hv6 := hb3.cell 6
          rw [A32.get _ (by omega)] at hv4 hv5 hv6
          go_wp2_with fail
          go_quiet (fail)
          clear hv4 hv5 hv6
          replace hb5 := hb5.drewN nq
          replace hbw1 := hbw1.drewN nq
          replace hb3 := hb3.drewN nq
          replace hB1 := below_drewN' nq hB1
          generalize X1.drewN nq = X2 at hb5 hbw1 hb3 hB1 ⊢
          have hv7 := hb3.cell 7
          rw [A32.get _ (by omega)] at hv7
          have hkt : X2.cell? ⟨b, 10 + t2, none⟩ = some (U32 (k t2)) := by
            rw [hb5.cell, hasherC, Row.get _ (by omega), if_neg (by omega), if_neg (by omega), if_neg (by omega), Nat.add_sub_cancel_left]
          have hwt : X2.cell? ⟨w.heap.size, t2, none⟩ = some (U32 (W t2)) := by rw [hbw1.cell, A32.get _ hl2]
          have hp : (0 : Int) ≤ (t2 : Int) := by omega
          go_wp2_with fail
          go_quiet ((go_at_call 129; exact quiet_left (rot_any _ _ _)))
          clear hv7 hkt hwt hp
          replace hb5 := hb5.drewN nq
          replace hbw1 := hbw1.drewN nq
          replace hb3 := hb3.drewN nq
          replace hB1 := below_drewN' nq hB1
          generalize X2.drewN nq = X3 at hb5 hbw1 hb3 hB1 ⊢
          have hv3 := hb3.cell 3
          rw [A32.get _ (by omega)] at hv3
          go_wp2_with (first | (go_at_call 129; refine (rot_any _ _ _).mono ?_; rintro e w' ⟨rfl, rfl⟩) | (refine wp_storeRow rfl 61 _ _ rfl B1 rfl rfl hb3 size61 (A32.size _ _) (A32.size _ _) (A32.one _) rfl ?_; intro X4 hu4 hb4))
          refine ⟨⟨t2 + 1, by omega, by go_num, hb5.upd hu4 (by omega), hbw1.upd hu4 (by omega), ?_, hu4.below hB1 (by omega)⟩, by simp [intOf]; omega⟩
          refine (A32.ext ?_ : _ = A32 8 _) ▸ hb4
          intro i hi
          rw [shaRounds, HVE.out]
          match i, hi with
          | 0, _ => rfl
          | 1, _ => rfl
          | 2, _ => rfl
          | 3, _ => rfl
          | 4, _ => rfl
          | 5, _ => rfl
          | 6, _ => rfl
          | 7, _ => rfl
        · have hl21 : ¬ (t2 : Int) < 64 := by omega
          rw [show shaRounds k W t2 h = shaRounds k W 64 h by rw [show t2 = 64 by omega]] at hb3
          go_wp2_with (refine wp_loadRow rfl 61 _ rfl B1 rfl hb3 Tryd.underlying61 rfl size61 (A32.size _ _) ?_)
          have hBut : But b w wr := But.of_below hB1
          obtain ⟨v, hve⟩ : ∃ v, shaRounds k W 64 h = v := ⟨_, rfl⟩
          have HVE := hide hve
          rw [hve]
          clear hve hbw1 hb3 hB1
          go_loopw [185] (fun s185 X => ∃ j : Nat, j ≤ 8 ∧ s185 = .int .i64 j ∧ Blk X b (hasherC (fun i => if i < j then h i + v i else h i) rest len k) 128 ∧ But b w X) (fun s185 _ => 8 - (intOf s185).toNat)
          case atStart => exact ⟨0, by omega, rfl, hb5, hBut⟩
          case round =>
            clear hb5 hBut
            obtain ⟨j, hj, rfl, hb5, hBut⟩ := hrel
            by_cases hj8 : j < 8
            · have hj81 : (j : Int) < 8 := by omega
              have hix := index_A32 (P := Tryd.prog) Tryd.underlying61 Tryd.sizeOf42 Tryd.isAgg42 v .i64 j hj8
              go_wp2_with fail
              have hcj := hb5.cell j
              rw [hasherC_word _ _ _ _ _ hj8, if_neg (Nat.lt_irrefl j)] at hcj
              have hp : (0 : Int) ≤ (j : Int) := by omega
              go_still_tail 13, (by kernel_rfl)
              change wpList _ _ _ _ _ wr.drew
              have hb6 := hb5.drew
              have hBut6 := hBut.drew
              generalize wr.drew = X5 at hb6 hBut6 ⊢
              clear hb5 hBut hcj hp
              have hcj := hb6.cell j
              rw [hasherC_word _ _ _ _ _ hj8, if_neg (Nat.lt_irrefl j)] at hcj
              have hf := hb6.free j
              go_wp2_with fail
              have hb7 := hb6.set j (U32 (h j + v j))
              rw [hasherC_set _ _ _ _ _ hj8, fill_step (fun i => h i + v i) h j] at hb7
              exact ⟨⟨j + 1, by omega, by go_num, hb7, hBut6.setCell (.inl rfl) _⟩, by simp [intOf]; omega⟩
            · have hj81 : ¬ (j : Int) < 8 := by omega
              rw [hasherC_ext rest len k (h' := shaBlock k h (bts s)) (fun i hi => by rw [if_pos (by omega), shaBlock, HWE.out, HVE.out])] at hb5
              go_wp2_with fail
              go_end0
              exact ⟨rfl, hBut, hb5⟩
end Go.Proofs.YtdpgebifeaakjaaDoor

/- The walk of the hasher's method add. -/
namespace Go.Proofs.YtdpgebifeaakjaaDoor
set_option linter.unusedSimpArgs false
set_option linter.unusedVariables false
open Go.RowKit

/-- The first n blocks of a byte sequence processed. -/
def shaFold (k h : Nat → BitVec 32) (l : List (BitVec 8)) : Nat → (Nat → BitVec 32)
  | 0 => h
  | n + 1 => shaBlock k (shaFold k h l n) ((l.drop (64 * n)).take 64)
/-- All whole blocks; what is left. -/
def addH (k h : Nat → BitVec 32) (l : List (BitVec 8)) : Nat → BitVec 32 := shaFold k h l (l.length / 64)
def addRest (l : List (BitVec 8)) : List (BitVec 8) := l.drop (64 * (l.length / 64))

theorem bts_append (x y : ByteArray) : bts (x ++ y) = bts x ++ bts y := by
  simp [bts, ByteArray.data_append]
theorem bts_extract (x : ByteArray) (i j : Nat) : bts (x.extract i j) = ((bts x).drop i).take (j - i) := by
  simp [bts, ByteArray.data_extract, List.map_take, List.map_drop, List.take_drop, List.extract_eq_take_drop]

/-- The length of the string in a slot: for a loop's measure. -/
def lenOfV : Value → Nat | .string s => s.size | _ => 0

set_option maxRecDepth 20000 in
set_option maxHeartbeats 1000000 in
theorem add_any (h k : Nat → BitVec 32) (rest : ByteArray) (len : Int) (b : Nat) (s : ByteArray) (hr : rest.size ≤ 4611686018427387904) (hs : s.size ≤ 4611686018427387903) (hl0 : 0 ≤ len) (hl : len ≤ 4611686018427387904) (w : World) (hb : Blk w b (hasherC h rest len k) 128) :
    Calls Tryd.prog 71 #[.pointer (some ⟨b, 0, none⟩), .string s] w fun e w' => e = .returned (.tuple #[]) ∧ But b w w' ∧ Blk w' b (hasherC (addH k h (bts rest ++ bts s)) (strOf (addRest (bts rest ++ bts s))) (len + s.size) k) 128 := by
  have hc9 := hb.cell 9
  have hc8 := hb.cell 8
  rw [hasherC_len] at hc9
  rw [hasherC_rest] at hc8
  have hf9 := hb.free 9
  have hsum := fun w : World => run_string_add_sum (P := Tryd.prog) w rest s (by omega)
  obtain ⟨L, hL⟩ : ∃ L, bts rest ++ bts s = L := ⟨_, rfl⟩
  have hX : bts (rest ++ s) = L := by rw [bts_append, hL]
  have hXs : (rest ++ s).size ≤ 9223372036854775807 := by rw [ByteArray.size_append]; omega
  rw [hL]
  have HX := hide hX
  have HXS := hide hXs
  clear hX hXs hL
  go_enter Tryd.func71, Tryd.ntmps71
  go_wp2_with fail
  have hb1 := hb.set 9 (.int .i64 (len + s.size))
  rw [hasherC_setLen] at hb1
  have hBut := (But.refl b w).setCell (p := ⟨b, 9, none⟩) (.inl rfl) (.int .i64 (len + s.size))
  clear hc9 hc8 hf9 hsum hb
  go_loopw [1] (fun s1 W => ∃ (n : Nat) (X : ByteArray), s1 = .string X ∧ X.size ≤ 9223372036854775807 ∧ bts X = L.drop (64 * n) ∧ 64 * n ≤ L.length ∧ Blk W b (hasherC (shaFold k h L n) rest (len + s.size) k) 128 ∧ But b w W) (fun s1 _ => lenOfV s1)
  case atStart => exact ⟨0, _, rfl, HXS.out, by rw [HX.out]; rfl, by omega, hb1, hBut⟩
  case round =>
    clear hb1 hBut HX HXS
    obtain ⟨n, X, rfl, hXs, hX, hn, hb1, hBut⟩ := hrel
    have hXl : X.size = L.length - 64 * n := by rw [← bts_length, hX, List.length_drop]
    have HX := hide hX; have HXL := hide hXl; clear hX hXl
    by_cases h64 : 64 ≤ X.size
    · have h641 : (64 : Int) ≤ (X.size : Int) := by omega
      go_wp2_with fail
      have hsz : (X.extract 0 64).size = 64 := by rw [ByteArray.size_extract]; omega
      refine (block_any (shaFold k h L n) k rest (len + s.size) b (X.extract 0 64) hsz _ hb1).mono ?_
      rintro e W1 ⟨rfl, hBut1, hb2⟩
      have hBut2 := hBut.trans hBut1
      have hfold : shaBlock k (shaFold k h L n) (bts (X.extract 0 64)) = shaFold k h L (n + 1) := by
        rw [shaFold, bts_extract, HX.out, List.drop_zero, Nat.sub_zero]
      rw [hfold] at hb2
      clear hfold hsz hBut1 hBut hb1
      go_wp2_with fail
      refine ⟨⟨n + 1, _, rfl, by rw [ByteArray.size_extract]; omega, ?_, by have := HXL.out; omega, hb2, hBut2⟩, ?_⟩
      · rw [bts_extract, HX.out, List.drop_drop, List.take_of_length_le (by rw [List.length_drop]; have := HXL.out; omega), show 64 * n + 64 = 64 * (n + 1) by omega]
      · show (X.extract 64 X.size).size < X.size
        rw [ByteArray.size_extract]; omega
    · have h641 : ¬ (64 : Int) ≤ (X.size : Int) := by omega
      have hf8 := hb1.free 8
      have hc8 := hb1.cell 8
      rw [hasherC_rest] at hc8
      go_wp2_with fail
      go_end0
      have hnn : n = L.length / 64 := by have := HXL.out; omega
      have hb2 := hb1.set 8 (.string X)
      rw [hasherC_setRest] at hb2
      have hXe : X = strOf (addRest L) := by rw [← strOf_bts X, HX.out, addRest, hnn]
      rw [← hXe, addH, ← hnn]
      exact ⟨rfl, hBut.setCell (.inl rfl) _, hb2⟩
end Go.Proofs.YtdpgebifeaakjaaDoor

/- The walk of the hasher's method finished. -/
namespace Go.Proofs.YtdpgebifeaakjaaDoor
set_option linter.unusedSimpArgs false
set_option linter.unusedVariables false
open Go.RowKit
@[go_sem] theorem lit69 : (#[Value.int .u8 0, Value.int .u8 0, Value.int .u8 0, Value.int .u8 0, Value.int .u8 0, Value.int .u8 0, Value.int .u8 0, Value.int .u8 0, Value.int .u8 0, Value.int .u8 0, Value.int .u8 0, Value.int .u8 0, Value.int .u8 0, Value.int .u8 0, Value.int .u8 0, Value.int .u8 0, Value.int .u8 0, Value.int .u8 0, Value.int .u8 0, Value.int .u8 0, Value.int .u8 0, Value.int .u8 0, Value.int .u8 0, Value.int .u8 0, Value.int .u8 0, Value.int .u8 0, Value.int .u8 0, Value.int .u8 0, Value.int .u8 0, Value.int .u8 0, Value.int .u8 0, Value.int .u8 0] : Array Value) = A8 32 fun _ => 0#8 := by kernel_rfl
theorem size69 : (Tryd.prog.info? 69).map (·.size) = some 32 := by kernel_rfl
theorem size5 : (Tryd.prog.info? 5).map (·.size) = some 1 := by kernel_rfl

/-- How many bytes stand in front of the length, behind r bytes that are left. -/
def padZ (r : Nat) : Nat := if r ≤ 55 then 56 - r else 120 - r
def padCell (z : Nat) (x : BitVec 64) (j : Nat) : BitVec 8 :=
  if j = 0 then 128#8 else if j < z then 0#8 else (x >>> (56 - 8 * ((j - z : Nat) : Int)).toNat).setWidth 8
def padList (r : Nat) (x : BitVec 64) : List (BitVec 8) := (List.range (padZ r + 8)).map (padCell (padZ r) x)
def lenOfSl : Value → Nat | .slice _ n _ => n | _ => 0
/-- The bytes of a digest. -/
def digestOf (h : Nat → BitVec 32) (j : Nat) : BitVec 8 := (h (j / 4) >>> (24 - 8 * (j % 4))).setWidth 8

theorem digest_round (H : Nat → BitVec 32) (m : Nat) : ((((A8 32 fun j => if j < 4 * m then digestOf H j else 0#8).setIfInBounds (4 * m) (U8 ((H m >>> 24).setWidth 8))).setIfInBounds (4 * m + 1) (U8 ((H m >>> 16).setWidth 8))).setIfInBounds (4 * m + 2) (U8 ((H m >>> 8).setWidth 8))).setIfInBounds (4 * m + 3) (U8 ((H m).setWidth 8)) = A8 32 fun j => if j < 4 * (m + 1) then digestOf H j else 0#8 := by
  rw [A8.set, A8.set, A8.set, A8.set]
  refine A8.ext fun j hj => ?_
  by_cases e3 : j = 4 * m + 3
  · rw [if_pos e3, if_pos (by omega), digestOf, e3, show (4 * m + 3) / 4 = m by omega, show 24 - 8 * ((4 * m + 3) % 4) = 0 by omega, BitVec.ushiftRight_zero]
  · rw [if_neg e3]
    by_cases e2 : j = 4 * m + 2
    · rw [if_pos e2, if_pos (by omega), digestOf, e2, show (4 * m + 2) / 4 = m by omega, show 24 - 8 * ((4 * m + 2) % 4) = 8 by omega]
    · rw [if_neg e2]
      by_cases e1 : j = 4 * m + 1
      · rw [if_pos e1, if_pos (by omega), digestOf, e1, show (4 * m + 1) / 4 = m by omega, show 24 - 8 * ((4 * m + 1) % 4) = 16 by omega]
      · rw [if_neg e1]
        by_cases e0 : j = 4 * m
        · rw [if_pos e0, if_pos (by omega), digestOf, e0, show (4 * m) / 4 = m by omega, show 24 - 8 * ((4 * m) % 4) = 24 by omega]
        · rw [if_neg e0]
          by_cases e : j < 4 * m
          · rw [if_pos e, if_pos (by omega)]
          · rw [if_neg e, if_neg (by omega)]

set_option maxRecDepth 20000 in
set_option maxHeartbeats 8000000 in
theorem finished_any (h k : Nat → BitVec 32) (rest : ByteArray) (len : Int) (b : Nat) (hr : rest.size < 64) (hl0 : 0 ≤ len) (hl : len ≤ 4611686018427387904) (w : World) (hb : Blk w b (hasherC h rest len k) 128) :
    Calls Tryd.prog 74 #[.pointer (some ⟨b, 0, none⟩)] w fun e w' => e = .returned (.agg (A8 32 (digestOf (addH k h (bts rest ++ padList rest.size (BitVec.ofInt 64 len * 8#64)))))) ∧ But b w w' := by
  have hc9 := hb.cell 9
  rw [hasherC_len] at hc9
  have hmk : ∀ w, (Instr.makeSlice 43 (.int .i64 1) (.int .i64 128)).run Tryd.prog w = .ok (.slice (some ⟨w.heap.size, 0, none⟩) 1 128) (w.alloc (.cells (A8 128 fun _ => 0#8) 5)) := fun w => by kernel_rfl
  have hlt := hb.lt
  go_enter Tryd.func74, Tryd.ntmps74
  have hB1 := Blk.new (w.alloc (.cells (A8 32 fun _ => 0#8) 69)) (A8 128 fun _ => 0#8) 5
  rw [World.size_alloc] at hB1
  have hcp := hB1.cell 0
  have hfp := hB1.free 0
  rw [A8.get _ (by omega)] at hcp
  go_wp2_with fail
  clear hcp hfp hmk hc9
  have hW : (w.alloc (.cells (A8 32 fun _ => 0#8) 69)).alloc (.cells ((A8 128 fun _ => 0#8).setIfInBounds 0 (.int .u8 128)) 5) = (w.alloc (.cells (A8 32 fun _ => 0#8) 69)).alloc (.cells (A8 128 fun j => if j = 0 then 128#8 else 0#8) 5) := by
    rw [← A8.set]; rfl
  rw [hW]
  clear hW hB1
  have ho := (Blk.new w (A8 32 fun _ => 0#8) 69).alloc (.cells (A8 128 fun j => if j = 0 then 128#8 else 0#8) 5)
  have hp := Blk.new (w.alloc (.cells (A8 32 fun _ => 0#8) 69)) (A8 128 fun j => if j = 0 then 128#8 else 0#8) 5
  rw [World.size_alloc] at hp
  have hbb := (hb.alloc (.cells (A8 32 fun _ => 0#8) 69)).alloc (.cells (A8 128 fun j => if j = 0 then 128#8 else 0#8) 5)
  have hB : Below w.heap.size w ((w.alloc (.cells (A8 32 fun _ => 0#8) 69)).alloc (.cells (A8 128 fun j => if j = 0 then 128#8 else 0#8) 5)) := ((Below.refl _ _).alloc (Nat.le_refl _) _).alloc (by simp) _
  go_loopw [4] (fun s4 X => ∃ n : Nat, 1 ≤ n ∧ n ≤ padZ rest.size ∧ s4 = .slice (some ⟨w.heap.size + 1, 0, none⟩) n 128 ∧ Blk X b (hasherC h rest len k) 128 ∧ Blk X w.heap.size (A8 32 fun _ => 0#8) 69 ∧ Blk X (w.heap.size + 1) (A8 128 fun j => if j = 0 then 128#8 else 0#8) 5 ∧ Below w.heap.size w X) (fun s4 _ => padZ rest.size - lenOfSl s4)
  case atStart => exact ⟨1, Nat.le_refl _, by unfold padZ; split <;> omega, rfl, hbb, ho, hp, hB⟩
  case round =>
    clear hb ho hp hbb hB
    obtain ⟨n, hn1, hn, rfl, hb, ho, hp, hB⟩ := hrel
    have hc8 := hb.cell 8
    rw [hasherC_rest] at hc8
    have hzz : padZ rest.size ≤ 64 := by unfold padZ; split <;> omega
    by_cases hz : n = padZ rest.size
    · have ht : (((rest.size : Int) + (n : Int)) % 64 != 56) = false := by
        have : ((rest.size : Int) + (n : Int)) % 64 = 56 := by rw [hz]; unfold padZ; split <;> omega
        rw [this]; rfl
      have HZ := hide hz
      clear hz
      go_wp2_with fail
      have hcells : (A8 128 fun j => if j = 0 then 128#8 else 0#8) = A8 128 fun j => if j < n + 0 then padCell n (BitVec.ofInt 64 len * 8#64) j else 0#8 := A8.ext fun j hj => by
        unfold padCell
        by_cases h0 : j = 0
        · rw [if_pos h0, if_pos (by omega), if_pos h0]
        · rw [if_neg h0]
          by_cases h1 : j < n
          · rw [if_pos (by omega), if_neg h0, if_pos h1]
          · rw [if_neg (by omega)]
      rw [hcells] at hp
      clear hcells hc8
      go_loopw [4, 32] (fun s4 s32 X => ∃ i : Nat, i ≤ 8 ∧ s32 = .int .i64 i ∧ s4 = .slice (some ⟨w.heap.size + 1, 0, none⟩) (n + i) 128 ∧ Blk X b (hasherC h rest len k) 128 ∧ Blk X w.heap.size (A8 32 fun _ => 0#8) 69 ∧ Blk X (w.heap.size + 1) (A8 128 fun j => if j < n + i then padCell n (BitVec.ofInt 64 len * 8#64) j else 0#8) 5 ∧ Below w.heap.size w X) (fun _ s32 _ => 8 - (intOf s32).toNat)
      case atStart => exact ⟨0, by omega, rfl, rfl, hb, ho, hp, hB⟩
      case round =>
        clear hb ho hp hB
        obtain ⟨i, hi, rfl, rfl, hb, ho, hp, hB⟩ := hrel
        by_cases hi8 : i < 8
        · have hi81 : (i : Int) < 8 := by omega
          have hsh : (0 : Int) ≤ 56 - 8 * (i : Int) := by omega
          have hsh8 : 8 * (i : Int) ≤ 56 := by omega
          have hv : (wr.alloc (.cells #[U8 (((BitVec.ofInt 64 len * 8#64) >>> (56 - 8 * i)).setWidth 8)] 5)).cell? ⟨wr.heap.size, 0, none⟩ = some (U8 (((BitVec.ofInt 64 len * 8#64) >>> (56 - 8 * i)).setWidth 8)) := by
            rw [(Blk.new _ _ _).cell]; rfl
          have HV := hide hv; clear hv
          have hpa := hp.alloc (.cells #[U8 (((BitVec.ofInt 64 len * 8#64) >>> (56 - 8 * i)).setWidth 8)] 5)
          go_wp2_with (at_builtin; go_loud (refine wp_append1 rfl _ _ 43 rfl Tryd.underlying43 size5 (w.heap.size + 1) (n + i) 128 rfl wr.heap.size 1 rfl hpa HV.out rfl (by omega) (by omega) ?_); intro X1 hu1 hp1)
          clear hpa
          have hcells : (Row 128 fun j => if j = n + i then U8 (((BitVec.ofInt 64 len * 8#64) >>> (56 - 8 * i)).setWidth 8) else (fun j => U8 ((fun j => if j < n + i then padCell n (BitVec.ofInt 64 len * 8#64) j else 0#8) j)) j) = A8 128 fun j => if j < n + (i + 1) then padCell n (BitVec.ofInt 64 len * 8#64) j else 0#8 := Row.ext fun j hj => by
            dsimp only
            by_cases e : j = n + i
            · rw [if_pos e, if_pos (by omega), padCell, if_neg (by omega), if_neg (by omega)]
              rw [show (56 - 8 * ((j - n : Nat) : Int)).toNat = 56 - 8 * i by omega]
            · rw [if_neg e]
              by_cases e2 : j < n + i
              · rw [if_pos e2, if_pos (by omega)]
              · rw [if_neg e2, if_neg (by omega)]
          rw [hcells] at hp1
          exact ⟨⟨i + 1, by omega, by go_num, rfl, (hb.alloc _).upd hu1 (by omega), (ho.alloc _).upd hu1 (by omega), hp1, hu1.below (hB.alloc hB.size _) (by omega)⟩, by simp [intOf]; omega⟩
        · have hi81 : ¬ (i : Int) < 8 := by omega
          have hconv : (convert 43 9 (.slice (some ⟨w.heap.size + 1, 0, none⟩) (n + i) 128)).run Tryd.prog wr = .ok (.string (strOf (padList rest.size (BitVec.ofInt 64 len * 8#64)))) wr := by
            refine run_bytes_str wr 43 9 5 _ 0 128 _ (n + i) ?_ Tryd.underlying43 Tryd.underlying5 Tryd.underlying9 fun j hj => ?_
            · rw [padList, List.length_map, List.length_range, ← HZ.out]; omega
            · have hj8 : j < n + 8 := by
                rw [padList, List.length_map, List.length_range, ← HZ.out] at hj; exact hj
              have hq := hp.cell j
              rw [A8.get _ (by omega), if_pos (by omega)] at hq
              rw [Nat.zero_add, hq]
              simp [padList, ← HZ.out]
          have hpl : (strOf (padList rest.size (BitVec.ofInt 64 len * 8#64))).size ≤ 4611686018427387903 := by
            rw [size_strOf, padList, List.length_map, List.length_range]; omega
          have hbp := bts_strOf (padList rest.size (BitVec.ofInt 64 len * 8#64))
          obtain ⟨S, hS⟩ : ∃ S, strOf (padList rest.size (BitVec.ofInt 64 len * 8#64)) = S := ⟨_, rfl⟩
          rw [hS] at hconv hpl hbp
          have HBP := hide hbp
          clear hbp hS
          go_wp2_with fail
          refine (add_any h k rest len b S (by omega) hpl hl0 hl wr hb).mono ?_
          rintro e W ⟨rfl, hBut, hb2⟩
          have ho2 := ho.but hBut (by omega)
          have hH : (Row 8 fun i => (fun i => if i < 8 then U32 (addH k h (bts rest ++ bts S) i) else if i = 8 then .string (strOf (addRest (bts rest ++ bts S))) else if i = 9 then .int .i64 (len + S.size) else U32 (k (i - 10))) (0 + i)) = A32 8 (addH k h (bts rest ++ bts S)) := Row.ext fun i hi => by
            dsimp only
            rw [Nat.zero_add, if_pos hi]
          obtain ⟨H, hHe⟩ : ∃ H, addH k h (bts rest ++ bts S) = H := ⟨_, rfl⟩
          rw [hHe] at hb2 hH
          rw [HBP.out] at hHe
          have HHE := hide hHe
          clear hHe
          go_wp2_with (refine wp_loadMid rfl 61 _ rfl b 0 rfl hb2 Tryd.underlying61 rfl size61 (by omega) hH ?_)
          have hBw := (But.of_below (b := b) hB).trans hBut
          have hcells : (A8 32 fun _ => 0#8) = A8 32 fun j => if j < 4 * 0 then digestOf H j else 0#8 := A8.ext fun j hj => by
            rw [if_neg (by omega)]
          rw [hcells] at ho2
          clear hcells hH hb2 hb hB ho hp hBut hconv hpl
          go_loopw [54] (fun s54 X => ∃ i : Nat, i ≤ 8 ∧ s54 = .int .i64 i ∧ Blk X w.heap.size (A8 32 fun j => if j < 4 * i then digestOf H j else 0#8) 69 ∧ But b w X) (fun s54 _ => 8 - (intOf s54).toNat)
          case atStart => exact ⟨0, by omega, rfl, ho2, hBw⟩
          case round =>
            clear ho2 hBw
            obtain ⟨m, hm, rfl, ho, hB⟩ := hrel
            by_cases hm8 : m < 8
            · have hm81 : (m : Int) < 8 := by omega
              have hf0 := ho.free (4 * m)
              have hf1 := ho.free (4 * m + 1)
              have hf2 := ho.free (4 * m + 2)
              have hf3 := ho.free (4 * m + 3)
              have hc0 := ho.cell (4 * m)
              have hc1 := ho.cell (4 * m + 1)
              have hc2 := ho.cell (4 * m + 2)
              have hc3 := ho.cell (4 * m + 3)
              rw [A8.get _ (by omega)] at hc0 hc1 hc2 hc3
              have hlo := ho.lt
              have hix := index_A32 (P := Tryd.prog) Tryd.underlying61 Tryd.sizeOf42 Tryd.isAgg42 H .i64 m hm8
              go_wp2_with fail
              have hb4 := (((ho.set (4 * m) (U8 ((H m >>> 24).setWidth 8))).set (4 * m + 1) (U8 ((H m >>> 16).setWidth 8))).set (4 * m + 2) (U8 ((H m >>> 8).setWidth 8))).set (4 * m + 3) (U8 ((H m).setWidth 8))
              rw [digest_round] at hb4
              exact ⟨⟨m + 1, by omega, by go_num, hb4, (((hB.setCell (.inr (Nat.le_refl _)) _).setCell (.inr (Nat.le_refl _)) _).setCell (.inr (Nat.le_refl _)) _).setCell (.inr (Nat.le_refl _)) _⟩, by simp [intOf]; omega⟩
            · have hm81 : ¬ (m : Int) < 8 := by omega
              have hcells : (A8 32 fun j => if j < 4 * m then digestOf H j else 0#8) = A8 32 (digestOf H) := A8.ext fun j hj => by
                rw [if_pos (by omega)]
              rw [hcells] at ho
              go_wp2_with (first | (refine wp_loadRow rfl 69 _ rfl _ rfl ho Tryd.underlying69 rfl size69 (A8.size _ _) ?_) | (refine wp_storeRow rfl 69 _ _ rfl _ rfl rfl ho size69 (A8.size _ _) (A8.size _ _) (A8.one _) rfl ?_; intro W0 hu0 hb3))
              rw [HHE.out]
              exact ret_row rfl w.heap.size rfl hb3 Tryd.underlying69 rfl size69 (A8.size _ _) rfl ⟨rfl, hB.upd hu0 (.inr (Nat.le_refl _))⟩
    · have ht : (((rest.size : Int) + (n : Int)) % 64 != 56) = true := by
        have : ((rest.size : Int) + (n : Int)) % 64 ≠ 56 := by revert hz hn; unfold padZ; split <;> omega
        simpa using this
      have hv : (wr.alloc (.cells #[.int .u8 0] 5)).cell? ⟨wr.heap.size, 0, none⟩ = some (.int .u8 0) := by
        rw [(Blk.new _ _ _).cell]; rfl
      have HV := hide hv; clear hv
      have hn' : n < padZ rest.size := by omega
      go_wp2_with (at_builtin; go_loud (refine wp_append1 rfl _ _ 43 rfl Tryd.underlying43 size5 (w.heap.size + 1) n 128 rfl wr.heap.size 1 rfl (hp.alloc _) HV.out rfl (by omega) (by omega) ?_); intro X1 hu1 hp1)
      have hcells : (Row 128 fun j => if j = n then Value.int .u8 0 else (fun i => U8 ((fun j => if j = 0 then 128#8 else 0#8) i)) j) = A8 128 fun j => if j = 0 then 128#8 else 0#8 := Row.ext fun j hj => by
        dsimp only
        by_cases e : j = n
        · rw [if_pos e, if_neg (by omega)]; rfl
        · rw [if_neg e]
      rw [hcells] at hp1
      exact ⟨⟨n + 1, by omega, by omega, rfl, (hb.alloc _).upd hu1 (by omega), (ho.alloc _).upd hu1 (by omega), hp1, hu1.below (hB.alloc hB.size _) (by omega)⟩, by simp [lenOfSl]; omega⟩
end Go.Proofs.YtdpgebifeaakjaaDoor

/- The walk of Sum256 and of Sum: one string hashed. -/
namespace Go.Proofs.YtdpgebifeaakjaaDoor
set_option linter.unusedSimpArgs false
set_option linter.unusedVariables false
open Go.RowKit

/-- The state at the start, without the round numbers. -/
def stateC (h : Nat → BitVec 32) : Array Value := Row 10 fun i => if i < 8 then U32 (h i) else if i = 8 then .string ByteArray.empty else .int .i64 0
theorem build63 (h : Nat → BitVec 32) (w : World) : (Instr.build 63 #[(0, .agg (A32 8 h))]).run Tryd.prog w = .ok (.agg (stateC h)) w := by kernel_rfl
theorem build128 (h k : Nat → BitVec 32) (w : World) : (Instr.build 128 #[(0, .agg (stateC h)), (1, .agg (A32 64 k))]).run Tryd.prog w = .ok (.agg (hasherC h ByteArray.empty 0 k)) w := by kernel_rfl
theorem box128 (h k : Nat → BitVec 32) (w : World) : (Instr.box 128 (.agg (hasherC h ByteArray.empty 0 k))).run Tryd.prog w = .ok (.pointer (some ⟨w.heap.size, 0, none⟩)) (w.alloc (.cells (hasherC h ByteArray.empty 0 k) 128)) := by kernel_rfl

/-- The digest of a byte sequence, as the program reckons it. -/
def sha (l : List (BitVec 8)) (j : Nat) : BitVec 8 :=
  digestOf (addH roundK (addH roundK startK l) (addRest l ++ padList (addRest l).length (BitVec.ofInt 64 l.length * 8#64))) j

theorem addRest_lt (l : List (BitVec 8)) : (addRest l).length < 64 := by
  unfold addRest; rw [List.length_drop]; omega

set_option maxRecDepth 20000 in
set_option maxHeartbeats 2000000 in
theorem sum256_any (s : ByteArray) (hs : s.size ≤ 4611686018427387903) (w : World) :
    Calls Tryd.prog 43 #[.string s] w fun e w' => e = .returned (.agg (A8 32 (sha (bts s)))) ∧ Below w.heap.size w w' := by
  have c70 := constants_any
  have hb63 := build63 startK
  have hb128 := build128 startK roundK
  have hx128 := box128 startK roundK
  go_enter Tryd.func43, Tryd.ntmps43
  have ho := Blk.new w (A8 32 fun _ => 0#8) 69
  go_wp2_with fail
  refine (c70 _).mono ?_
  rintro e W ⟨rfl, hB⟩
  have hszW : w.heap.size + 1 ≤ W.heap.size := by have := hB.size; simpa using this
  have hBb : Below w.heap.size w W := ((Below.refl _ _).alloc (Nat.le_refl _) _).trans (hB.mono (by simp))
  have ho1 := ho.below hB (by simp)
  have ho2 := (ho1.alloc (.cells (A32 8 fun _ => 0#32) 61)).alloc (.cells (A32 64 fun _ => 0#32) 123)
  have h3 := (Blk.new W (A32 8 fun _ => 0#32) 61).alloc (.cells (A32 64 fun _ => 0#32) 123)
  have h4 := Blk.new (W.alloc (.cells (A32 8 fun _ => 0#32) 61)) (A32 64 fun _ => 0#32) 123
  rw [World.size_alloc] at h4
  have hBc : Below w.heap.size w ((W.alloc (.cells (A32 8 fun _ => 0#32) 61)).alloc (.cells (A32 64 fun _ => 0#32) 123)) := (hBb.alloc (by omega) _).alloc (by simp; omega) _
  clear hB ho ho1 hBb
  go_wp2_with (first
    | (refine wp_storeRow rfl 61 _ _ rfl _ rfl rfl h3 size61 (A32.size _ _) (A32.size _ _) (A32.one _) rfl ?_; intro W1 hu1 h31; have h41 := h4.upd hu1 (by omega))
    | (refine wp_storeRow rfl 123 _ _ rfl _ rfl rfl h41 size123 (A32.size _ _) (A32.size _ _) (A32.one _) rfl ?_; intro W2 hu2 h42; have h32 := h31.upd hu2 (by omega))
    | (refine wp_loadRow rfl 61 _ rfl _ rfl h32 Tryd.underlying61 rfl size61 (A32.size _ _) ?_)
    | (refine wp_loadRow rfl 123 _ rfl _ rfl h42 Tryd.underlying123 rfl size123 (A32.size _ _) ?_))
  have hBd := hu2.below (hu1.below hBc (by omega)) (by omega)
  have hsz2 : w.heap.size ≤ W2.heap.size := hBd.size
  have ho3 := ((ho2.upd hu1 (by omega)).upd hu2 (by omega)).alloc (.cells (hasherC startK ByteArray.empty 0 roundK) 128)
  have hh := Blk.new W2 (hasherC startK ByteArray.empty 0 roundK) 128
  have hlt := ho3.lt
  have hlt2 := ((ho2.upd hu1 (by omega)).upd hu2 (by omega)).lt
  refine (add_any startK roundK ByteArray.empty 0 W2.heap.size s (by decide) hs (by omega) (by omega) _ hh).mono ?_
  rintro e W3 ⟨rfl, hBut3, hh3⟩
  have hBe : Below w.heap.size w W3 := hBut3.onto (hBd.alloc hsz2 _) hsz2 (by simp; omega)
  have ho4 := ho3.but hBut3 (by omega)
  clear ho3 ho2 hh h3 h4 hBc hBd
  go_wp2_with fail
  have hemp : bts ByteArray.empty = [] := rfl
  rw [hemp, List.nil_append] at hh3
  refine (finished_any _ roundK _ _ _ (by rw [size_strOf]; exact addRest_lt _) (by omega) (by omega) _ hh3).mono ?_
  rintro e W4 ⟨rfl, hBut4⟩
  have hBf : Below w.heap.size w W4 := hBut4.onto hBe hsz2 (hBe.size)
  have ho5 := ho4.but hBut4 (by omega)
  clear ho4 hh3
  go_wp2_with (first | (refine wp_storeRow rfl 69 _ _ rfl _ rfl rfl ho5 size69 (A8.size _ _) (A8.size _ _) (A8.one _) rfl ?_; intro W5 hu5 ho6))
  refine ret_row rfl w.heap.size rfl ho6 Tryd.underlying69 rfl size69 (A8.size _ _) rfl ⟨?_, hu5.below hBf (by omega)⟩
  rw [bts_strOf, size_strOf, ← bts_length s]
  try rfl

@[go_sem] theorem lit23 : (#[Value.int .u8 0, Value.int .u8 0, Value.int .u8 0, Value.int .u8 0, Value.int .u8 0, Value.int .u8 0, Value.int .u8 0, Value.int .u8 0, Value.int .u8 0, Value.int .u8 0, Value.int .u8 0, Value.int .u8 0, Value.int .u8 0, Value.int .u8 0, Value.int .u8 0, Value.int .u8 0] : Array Value) = A8 16 fun _ => 0#8 := by kernel_rfl
theorem size23 : (Tryd.prog.info? 23).map (·.size) = some 16 := by kernel_rfl
set_option maxRecDepth 20000 in
set_option maxHeartbeats 2000000 in
theorem sum_any (s : ByteArray) (hs : s.size ≤ 4611686018427387903) (w : World) :
    Calls Tryd.prog 61 #[.string s] w fun e w' => e = .returned (.agg (A8 16 (sha (bts s)))) ∧ Below w.heap.size w w' := by
  have c43 := sum256_any s hs
  generalize sha (bts s) = d at c43 ⊢
  go_enter Tryd.func61, Tryd.ntmps61
  have ho := Blk.new w (A8 16 fun _ => 0#8) 23
  go_wp2_with fail
  refine (c43 _).mono ?_
  rintro e W ⟨rfl, hB⟩
  have hszW : w.heap.size + 1 ≤ W.heap.size := by have := hB.size; simpa using this
  have hBb : Below w.heap.size w W := ((Below.refl _ _).alloc (Nat.le_refl _) _).trans (hB.mono (by simp))
  have ho1 := ho.below hB (by simp)
  have ho2 := ho1.alloc (.cells (A8 32 fun _ => 0#8) 69)
  have h3 := Blk.new W (A8 32 fun _ => 0#8) 69
  go_wp2_with (refine wp_storeRow rfl 69 _ _ rfl _ rfl rfl h3 size69 (A8.size _ _) (A8.size _ _) (A8.one _) rfl ?_; intro W1 hu1 h31; have ho3 := ho2.upd hu1 (by omega))
  have hs1 := sliceAt_arr_all (P := Tryd.prog) Tryd.underlying23 Tryd.sizeOf5 ⟨w.heap.size, 0, none⟩
  have hs2 := sliceAt_arr_all (P := Tryd.prog) Tryd.underlying69 Tryd.sizeOf5 ⟨W.heap.size, 0, none⟩
  go_still_tail 2, (by kernel_rfl)
  change wpList _ _ _ _ _ W1.drew
  have ho4 := ho3.drew
  have h32 := h31.drew
  have hBc : Below w.heap.size w W1.drew := (hu1.below (hBb.alloc (by omega) _) (by omega)).drew
  have hlt := ho1.lt
  generalize W1.drew = W2 at ho4 h32 hBc ⊢
  clear ho ho1 ho2 ho3 h3 h31 hB hBb hu1
  refine wpList_copy_own rfl _ _ 43 43 rfl 5 Tryd.underlying43 size5 w.heap.size 0 16 16 ⟨W.heap.size, 0, none⟩ 32 32 rfl rfl (A8 16 fun _ => 0#8) 23 ho4 (A8 16 d).toList ?_ ?_ ?_ ?_ ?_
  · rw [Array.length_toList, A8.size]; rfl
  · intro j v hj
    rw [Array.getElem?_toList] at hj
    have hj16 : j < 16 := by
      have := (Array.getElem?_eq_some_iff.1 hj).1
      rwa [A8.size] at this
    rw [A8.get _ hj16] at hj
    rw [Addr.add_lit, h32.cell, Nat.zero_add, A8.get _ (by omega)]
    exact hj
  · rw [Array.length_toList, A8.size, A8.size]; decide
  · intro v hv
    have := Array.all_eq_true'.1 (A8.one (n := 16) d) v (by simpa using hv)
    exact this
  have hcells : (((A8 16 fun _ => 0#8).toList.take 0) ++ ((A8 16 d).toList ++ (A8 16 fun _ => 0#8).toList.drop (0 + (A8 16 d).toList.length))).toArray = A8 16 d := by
    rw [List.take_zero, List.nil_append, List.drop_eq_nil_of_le (by rw [Array.length_toList, Array.length_toList, A8.size, A8.size]; decide), List.append_nil, Array.toArray_toList]
  rw [hcells]
  have ho5 := ho4.setRow (A8 16 d)
  have hu2 := Upd.setRow W2 w.heap.size (A8 16 d)
  generalize W2.setRow w.heap.size (A8 16 d) = W3 at ho5 hu2 ⊢
  have hBd := hu2.below hBc (Nat.le_refl _)
  clear hcells ho4 h32 hBc hu2
  go_wp2_with (first
    | (refine wp_loadRow rfl 23 _ rfl _ rfl ho5 Tryd.underlying23 rfl size23 (A8.size _ _) ?_)
    | (refine wp_storeRow rfl 23 _ _ rfl _ rfl rfl ho5 size23 (A8.size _ _) (A8.size _ _) (A8.one _) rfl ?_; intro W4 hu3 ho6))
  exact ret_row rfl w.heap.size rfl ho6 Tryd.underlying23 rfl size23 (A8.size _ _) rfl ⟨rfl, hu3.below hBd (Nat.le_refl _)⟩
end Go.Proofs.YtdpgebifeaakjaaDoor

/- The walk of Hex: a digest in hexadecimal. -/
namespace Go.Proofs.YtdpgebifeaakjaaDoor
set_option linter.unusedSimpArgs false
set_option linter.unusedVariables false
open Go.RowKit

/-- A digit's letter. -/
def hexDig (x : BitVec 8) : BitVec 8 := if x.toNat < 10 then 48#8 + x else 87#8 + x
/-- The letters of a digest. -/
def hexCell (d : Nat → BitVec 8) (j : Nat) : BitVec 8 := if j % 2 = 0 then hexDig (d (j / 2) / 16#8) else hexDig (d (j / 2) % 16#8)
def hexList (d : Nat → BitVec 8) : List (BitVec 8) := (List.range 32).map (hexCell d)

theorem hexDig_q : ∀ (x : BitVec 8), x.toNat < 16 → byteAt ⟨#[48, 49, 50, 51, 52, 53, 54, 55, 56, 57, 97, 98, 99, 100, 101, 102]⟩ x.toNat = hexDig x := by decide +kernel
theorem run_index_strK {P : Program} {T : TypeId} (hT : P.underlying T = some .string) (s : ByteArray) (q : IntKind) (k : Nat) (h : k < s.size) (w : World) :
    (Instr.index T (.string s) (.int q (k : Int))).run P w = .ok (U8 (byteAt s k)) w := by
  have e : byteAt s k = (s[k]'h).toBitVec := by
    have hl : k < (bts s).length := by rw [bts_length]; exact h
    simp only [byteAt, List.getD_eq_getElem?_getD, List.getElem?_eq_getElem hl, Option.getD_some]
    simp only [bts, List.getElem_map]; rfl
  rw [e]
  simp [Instr.index, go_sem, run_underlying hT, h]
  rfl
theorem index_digits (x : BitVec 8) (h : x.toNat < 16) (w : World) :
    (Instr.index 9 (.string ⟨#[48, 49, 50, 51, 52, 53, 54, 55, 56, 57, 97, 98, 99, 100, 101, 102]⟩) (.int .u8 (n8 x))).run Tryd.prog w = .ok (U8 (hexDig x)) w := by
  have := run_index_strK (P := Tryd.prog) (T := 9) Tryd.underlying9 ⟨#[48, 49, 50, 51, 52, 53, 54, 55, 56, 57, 97, 98, 99, 100, 101, 102]⟩ .u8 x.toNat h w
  rw [hexDig_q x h] at this
  exact this
theorem box23 (d : Nat → BitVec 8) (w : World) : (Instr.box 23 (.agg (A8 16 d))).run Tryd.prog w = .ok (.pointer (some ⟨w.heap.size, 0, none⟩)) (w.alloc (.cells (A8 16 d) 23)) := by kernel_rfl
theorem div16 (x : BitVec 8) : (x / 16#8).toNat < 16 := by have := x.isLt; rw [BitVec.toNat_udiv]; show x.toNat / 16 < 16; omega
theorem mod16 (x : BitVec 8) : (x % 16#8).toNat < 16 := by rw [BitVec.toNat_umod]; exact Nat.mod_lt _ (by decide)

theorem hex_round (d : Nat → BitVec 8) (m : Nat) : ((A8 32 fun j => if j < 2 * m then hexCell d j else 0#8).setIfInBounds (2 * m) (U8 (hexDig (d m / 16#8)))).setIfInBounds (2 * m + 1) (U8 (hexDig (d m % 16#8))) = A8 32 fun j => if j < 2 * (m + 1) then hexCell d j else 0#8 := by
  rw [A8.set, A8.set]
  refine A8.ext fun j hj => ?_
  by_cases e1 : j = 2 * m + 1
  · rw [if_pos e1, if_pos (by omega), hexCell, e1, if_neg (by omega), show (2 * m + 1) / 2 = m by omega]
  · rw [if_neg e1]
    by_cases e0 : j = 2 * m
    · rw [if_pos e0, if_pos (by omega), hexCell, e0, if_pos (by omega), show (2 * m) / 2 = m by omega]
    · rw [if_neg e0]
      by_cases e : j < 2 * m
      · rw [if_pos e, if_pos (by omega)]
      · rw [if_neg e, if_neg (by omega)]

set_option maxRecDepth 20000 in
set_option maxHeartbeats 2000000 in
theorem hex_any (d : Nat → BitVec 8) (w : World) :
    Calls Tryd.prog 20 #[.agg (A8 16 d)] w fun e w' => e = .returned (.string (strOf (hexList d))) ∧ Below w.heap.size w w' := by
  have hbx := box23 d
  have hB0 : Below w.heap.size w ((w.alloc (.cells (A8 16 d) 23)).alloc (.cells (A8 32 fun _ => 0#8) 69)) := ((Below.refl _ _).alloc (Nat.le_refl _) _).alloc (by simp) _
  have h1 := (Blk.new w (A8 16 d) 23).alloc (.cells (A8 32 fun _ => 0#8) 69)
  have h3 := Blk.new (w.alloc (.cells (A8 16 d) 23)) (A8 32 fun _ => 0#8) 69
  rw [World.size_alloc] at h3
  go_enter Tryd.func20, Tryd.ntmps20
  go_wp2_with (refine wp_loadRow rfl 23 _ rfl _ rfl h1 Tryd.underlying23 rfl size23 (A8.size _ _) ?_)
  have hcells : (A8 32 fun _ => 0#8) = A8 32 fun j => if j < 2 * 0 then hexCell d j else 0#8 := A8.ext fun j hj => by
    rw [if_neg (by omega)]
  rw [hcells] at h3
  clear h1 hcells hbx
  go_loopw [7] (fun s7 W => ∃ m : Nat, m ≤ 16 ∧ s7 = .int .i64 m ∧ Blk W (w.heap.size + 1) (A8 32 fun j => if j < 2 * m then hexCell d j else 0#8) 69 ∧ Below w.heap.size w W) (fun s7 _ => 16 - (intOf s7).toNat)
  case atStart => exact ⟨0, by omega, rfl, h3, hB0⟩
  case round =>
    clear h3 hB0
    obtain ⟨m, hm, rfl, h3, hB⟩ := hrel
    by_cases hm8 : m < 16
    · have hm81 : (m : Int) < 16 := by omega
      have hix := index_A8 (P := Tryd.prog) Tryd.underlying23 Tryd.sizeOf5 Tryd.isAgg5 d .i64 m hm8
      have hi1 := index_digits (d m / 16#8) (div16 _)
      have hi2 := index_digits (d m % 16#8) (mod16 _)
      have hf0 := h3.free (2 * m)
      have hf1 := h3.free (2 * m + 1)
      have hc0 := h3.cell (2 * m)
      have hc1 := h3.cell (2 * m + 1)
      rw [A8.get _ (by omega)] at hc0 hc1
      have hw0 : IntKind.i64.wrap (2 * (m : Int)) = 2 * (m : Int) := IntWalk.i64_in _ (by omega)
      have hw1 : IntKind.i64.wrap (2 * (m : Int) + 1) = 2 * (m : Int) + 1 := IntWalk.i64_in _ (by omega)
      have hp : (0 : Int) ≤ 2 * (m : Int) := by omega
      have hp0 : 2 * (m : Int) < 32 := by omega
      have hp1 : 2 * (m : Int) + 1 < 32 := by omega
      have hp2 : (0 : Int) ≤ 2 * (m : Int) + 1 := by omega
      go_wp2_with fail
      obtain ⟨x, hx⟩ : ∃ x, d m = x := ⟨_, rfl⟩
      rw [hx] at hi1 hi2 ⊢
      have HX := hide hx
      clear hx
      go_region
      have h4 := ((h3.set (2 * m) (U8 (hexDig (x / 16#8)))).set (2 * m + 1) (U8 (hexDig (x % 16#8)))).drew
      rw [← HX.out, hex_round, HX.out] at h4
      have hB4 := ((hB.setCell (p := ⟨w.heap.size + 1, 2 * m, none⟩) (by simp) (U8 (hexDig (x / 16#8)))).setCell (p := ⟨w.heap.size + 1, 2 * m + 1, none⟩) (by simp) (U8 (hexDig (x % 16#8)))).drew
      clear hi1 hi2 hf0 hf1 hc0 hc1 hw0 hw1 hp hp0 hp1 hp2 hix
      go_wp2_with fail
      exact ⟨⟨m + 1, by omega, by go_num, h4, hB4⟩, by simp [intOf]; omega⟩
    · have hm81 : ¬ (m : Int) < 16 := by omega
      have hs := sliceAt_arr_all (P := Tryd.prog) Tryd.underlying69 Tryd.sizeOf5 ⟨w.heap.size + 1, 0, none⟩
      have hconv : (convert 43 9 (.slice (some ⟨w.heap.size + 1, 0, none⟩) 32 32)).run Tryd.prog wr = .ok (.string (strOf (hexList d))) wr := by
        refine run_bytes_str wr 43 9 5 _ 0 32 _ 32 ?_ Tryd.underlying43 Tryd.underlying5 Tryd.underlying9 fun j hj => ?_
        · rw [hexList, List.length_map, List.length_range]
        · have hj8 : j < 32 := by
            rw [hexList, List.length_map, List.length_range] at hj; exact hj
          have hq := h3.cell j
          rw [A8.get _ (by omega), if_pos (by omega)] at hq
          rw [Nat.zero_add, hq]
          simp [hexList]
      go_wp2_with fail
      go_ret
      exact ⟨rfl, hB⟩
end Go.Proofs.YtdpgebifeaakjaaDoor

/- The walk of Unhex. -/
namespace Go.Proofs.YtdpgebifeaakjaaDoor
set_option linter.unusedSimpArgs false
set_option linter.unusedVariables false
open Go.RowKit

/-- Is it a hexadecimal digit. -/
def isDig (c : BitVec 8) : Bool := (48 ≤ c.toNat && c.toNat ≤ 57) || (97 ≤ c.toNat && c.toNat ≤ 102)
/-- What a digit stands for. -/
def dig (c : BitVec 8) : BitVec 8 := if c.toNat ≤ 57 then c - 48#8 else c - 87#8
/-- The digest behind k digits. -/
def unhexAt (s : ByteArray) : Nat → Nat → BitVec 8
  | 0 => fun _ => 0#8
  | k + 1 => fun j => if j = k / 2 then (unhexAt s k (k / 2) <<< 4) ||| dig (byteAt s k) else unhexAt s k j
def okHex (s : ByteArray) : Prop := s.size = 32 ∧ ∀ i, i < 32 → isDig (byteAt s i) = true
instance (s : ByteArray) : Decidable (okHex s) := by unfold okHex; infer_instance
def unhexV (s : ByteArray) : Value := if okHex s then .tuple #[.agg (A8 16 (unhexAt s 32)), .int .i64 0] else .tuple #[.agg (A8 16 fun _ => 0#8), .int .i64 2]

theorem build23 (w : World) : (Instr.build 23 #[]).run Tryd.prog w = .ok (.agg (A8 16 fun _ => 0#8)) w := by kernel_rfl
theorem n8_val (x : BitVec 8) : n8 x = (x.toNat : Int) := rfl

theorem unhex_step (s : ByteArray) (k : Nat) (x : BitVec 8) (hx : x = dig (byteAt s k)) :
    (A8 16 (unhexAt s k)).setIfInBounds (k / 2) (U8 ((unhexAt s k (k / 2) <<< 4) ||| x)) = A8 16 (unhexAt s (k + 1)) := by
  rw [A8.set, hx]
  rfl
theorem isDig_num {c : BitVec 8} (h1 : (48 : Int) ≤ n8 c) (h2 : n8 c ≤ (57 : Int)) : isDig c = true ∧ c - 48#8 = dig c := by
  rw [n8_val] at h1 h2
  exact ⟨by simp [isDig]; omega, by rw [dig, if_pos (by omega)]⟩
theorem isDig_let {c : BitVec 8} (h1 : (97 : Int) ≤ n8 c) (h2 : n8 c ≤ (102 : Int)) : isDig c = true ∧ c - 87#8 = dig c := by
  rw [n8_val] at h1 h2
  exact ⟨by simp [isDig]; omega, by rw [dig, if_neg (by omega)]⟩
theorem isDig_none {c : BitVec 8} (h1 : ¬ ((48 : Int) ≤ n8 c ∧ n8 c ≤ (57 : Int))) (h2 : ¬ ((97 : Int) ≤ n8 c ∧ n8 c ≤ (102 : Int))) : isDig c = false := by
  rw [n8_val] at h1 h2
  simp [isDig]; omega

set_option maxRecDepth 20000 in
set_option maxHeartbeats 4000000 in
theorem unhex_any (s : ByteArray) (hs : s.size ≤ 9223372036854775807) (w : World) :
    Calls Tryd.prog 18 #[.string s] w fun e w' => e = .returned (unhexV s) ∧ Below w.heap.size w w' := by
  have hbd := build23
  have h2 := Blk.new w (A8 16 fun _ => 0#8) 23
  have hB0 : Below w.heap.size w (w.alloc (.cells (A8 16 fun _ => 0#8) 23)) := (Below.refl _ _).alloc (Nat.le_refl _) _
  by_cases h32 : s.size = 32
  · have HZ := hide h32
    have hz1 : (s.size : Int) = 32 := by omega
    clear h32
    go_enter Tryd.func18, Tryd.ntmps18
    go_wp2_with fail
    clear hz1
    have hcells : (A8 16 fun _ => 0#8) = A8 16 (unhexAt s 0) := rfl
    rw [hcells] at h2
    clear hcells
    go_loopw [12] (fun s12 W => ∃ k : Nat, k ≤ 32 ∧ s12 = .int .i64 k ∧ (∀ i, i < k → isDig (byteAt s i) = true) ∧ Blk W w.heap.size (A8 16 (unhexAt s k)) 23 ∧ Below w.heap.size w W) (fun s12 _ => 32 - (intOf s12).toNat)
    case atStart => exact ⟨0, by omega, rfl, fun i hi => absurd hi (by omega), h2, hB0⟩
    case round =>
      clear h2 hB0
      obtain ⟨k, hk, rfl, hall, h2, hB⟩ := hrel
      by_cases hk32 : k < 32
      · have hk1 : (k : Int) < 32 := by omega
        have hix := run_index_str (P := Tryd.prog) (T := 9) Tryd.underlying9 s k (by rw [HZ.out]; exact hk32)
        obtain ⟨c, hc⟩ : ∃ c, byteAt s k = c := ⟨_, rfl⟩
        rw [hc] at hix
        have HC := hide hc
        have HALL := hide hall
        clear hc hall
        have hcell := h2.cell (k / 2)
        rw [A8.get _ (by omega)] at hcell
        have hfree := h2.free (k / 2)
        have hbad : isDig c = false → ¬ okHex s := fun h e => by
          have := e.2 k hk32
          rw [HC.out, h] at this
          exact Bool.noConfusion this
        have HBAD := hide hbad
        clear hbad
        have hnext : ∀ x, isDig c = true ∧ x = dig c → (∀ i, i < k + 1 → isDig (byteAt s i) = true) ∧ Blk (wr.setCell ⟨w.heap.size, k / 2, none⟩ (U8 ((unhexAt s k (k / 2) <<< 4) ||| x))) w.heap.size (A8 16 (unhexAt s (k + 1))) 23 := fun x hx => by
          refine ⟨fun i hi => ?_, ?_⟩
          · by_cases e : i = k
            · rw [e, HC.out]; exact hx.1
            · exact HALL.out i (by omega)
          · have h4 := h2.set (k / 2) (U8 ((unhexAt s k (k / 2) <<< 4) ||| x))
            rw [unhex_step s k x (by rw [HC.out]; exact hx.2)] at h4
            exact h4
        have HN := hide hnext
        clear hnext
        by_cases hnum : (48 : Int) ≤ n8 c ∧ n8 c ≤ (57 : Int)
        · obtain ⟨h48, h57⟩ := hnum
          have hq := HN.out _ (isDig_num h48 h57)
          have HQ := hide hq; clear hq
          go_wp2_with fail
          exact ⟨⟨k + 1, by omega, by go_num, HQ.out.1, HQ.out.2, hB.setCell (Nat.le_refl _) _⟩, by simp [intOf]; omega⟩
        · by_cases hlet : (97 : Int) ≤ n8 c ∧ n8 c ≤ (102 : Int)
          · obtain ⟨h97, h102⟩ := hlet
            have hq := HN.out _ (isDig_let h97 h102)
            have HQ := hide hq; clear hq
            have h48 : (48 : Int) ≤ n8 c := by omega
            have h57 : ¬ n8 c ≤ (57 : Int) := by omega
            go_wp2_with fail
            exact ⟨⟨k + 1, by omega, by go_num, HQ.out.1, HQ.out.2, hB.setCell (Nat.le_refl _) _⟩, by simp [intOf]; omega⟩
          · have hno := HBAD.out (isDig_none hnum hlet)
            have HNO := hide hno
            clear hno
            by_cases h48 : (48 : Int) ≤ n8 c
            · have h57 : ¬ n8 c ≤ (57 : Int) := fun e => hnum ⟨h48, e⟩
              by_cases h97 : (97 : Int) ≤ n8 c
              · have h102 : ¬ n8 c ≤ (102 : Int) := fun e => hlet ⟨h97, e⟩
                clear hnum hlet
                go_wp2_with (refine wp_storeRow rfl 23 _ _ rfl _ rfl rfl h2 size23 (A8.size _ _) (A8.size _ _) (A8.one _) rfl ?_; intro W0 hu0 hb3)
                refine ret_row_tmp rfl w.heap.size rfl rfl (run_loadVar_Blk hb3 Tryd.underlying23 rfl size23 (A8.size _ _)) rfl ⟨?_, hu0.below hB (Nat.le_refl _)⟩
                rw [unhexV, if_neg HNO.out]
                rfl
              · clear hnum hlet
                go_wp2_with (refine wp_storeRow rfl 23 _ _ rfl _ rfl rfl h2 size23 (A8.size _ _) (A8.size _ _) (A8.one _) rfl ?_; intro W0 hu0 hb3)
                refine ret_row_tmp rfl w.heap.size rfl rfl (run_loadVar_Blk hb3 Tryd.underlying23 rfl size23 (A8.size _ _)) rfl ⟨?_, hu0.below hB (Nat.le_refl _)⟩
                rw [unhexV, if_neg HNO.out]
                rfl
            · have h97 : ¬ (97 : Int) ≤ n8 c := by omega
              clear hnum hlet
              go_wp2_with (refine wp_storeRow rfl 23 _ _ rfl _ rfl rfl h2 size23 (A8.size _ _) (A8.size _ _) (A8.one _) rfl ?_; intro W0 hu0 hb3)
              refine ret_row_tmp rfl w.heap.size rfl rfl (run_loadVar_Blk hb3 Tryd.underlying23 rfl size23 (A8.size _ _)) rfl ⟨?_, hu0.below hB (Nat.le_refl _)⟩
              rw [unhexV, if_neg HNO.out]
              rfl
      · have hk1 : ¬ (k : Int) < 32 := by omega
        have hyes : okHex s := ⟨HZ.out, fun i hi => hall i (by omega)⟩
        have hk32' : k = 32 := by omega
        have HY := hide hyes
        have HK := hide hk32'
        clear hyes hk32' hall
        go_wp2_with (first | (refine wp_loadRow rfl 23 _ rfl _ rfl h2 Tryd.underlying23 rfl size23 (A8.size _ _) ?_) | (refine wp_storeRow rfl 23 _ _ rfl _ rfl rfl h2 size23 (A8.size _ _) (A8.size _ _) (A8.one _) rfl ?_; intro W0 hu0 hb3))
        refine ret_row_tmp rfl w.heap.size rfl rfl (run_loadVar_Blk hb3 Tryd.underlying23 rfl size23 (A8.size _ _)) rfl ⟨?_, hu0.below hB (Nat.le_refl _)⟩
        rw [unhexV, if_pos HY.out, HK.out]
        rfl
  · have hz1 : ¬ (s.size : Int) = 32 := by omega
    have hno : ¬ okHex s := fun e => h32 e.1
    have HNO := hide hno
    clear h32 hno
    go_enter Tryd.func18, Tryd.ntmps18
    go_wp2_with (refine wp_storeRow rfl 23 _ _ rfl _ rfl rfl h2 size23 (A8.size _ _) (A8.size _ _) (A8.one _) rfl ?_; intro W0 hu0 hb3)
    refine ret_row_tmp rfl w.heap.size rfl rfl (run_loadVar_Blk hb3 Tryd.underlying23 rfl size23 (A8.size _ _)) rfl ⟨?_, hu0.below hB0 (Nat.le_refl _)⟩
    rw [unhexV, if_neg HNO.out]
    rfl
end Go.Proofs.YtdpgebifeaakjaaDoor

/- The specification of the block function; Add and End. -/

/- The walk of the specification's block. -/
namespace Go.Proofs.YtdpgebifeaakjaaDoor
set_option linter.unusedSimpArgs false
set_option linter.unusedVariables false
open Go.RowKit
attribute [local go_sem] A32.set

/-- The round numbers lie in the variable. -/
def KAt (w : World) : Prop := ∀ j, j < 64 → w.cell? ⟨0, j, none⟩ = some (U32 (roundK j))
theorem KAt.below {w w' : World} (h : KAt w) (h0 : 0 < w.heap.size) (hb : Below w.heap.size w w') : KAt w' := fun j hj => (hb.cell (p := ⟨0, j, none⟩) h0).trans (h j hj)
theorem KAt.pos {w : World} (h : KAt w) : 0 < w.heap.size := World.block_lt_of_cell? w _ (h 0 (by decide))

set_option maxHeartbeats 400000 in
theorem turn_any (x : BitVec 32) (n : Int) (h0 : 0 ≤ n) (h1 : n ≤ 32) (ha : (n64 (rotK (-n))).toNat = (32 - n).toNat) (hb : (n64 (32#64 - rotK (-n))).toNat = n.toNat) (w : World) :
    Calls Tryd.prog 112 #[U32 x, .int .i64 n] w fun e w' => e = .returned (U32 (rotS x (-n))) ∧ ∃ m, w' = w.drewN m := by
  have hr : rotS x (-n) = x >>> n.toNat ||| x <<< (32 - n).toNat := by
    unfold rotS
    rw [ha, hb, BitVec.or_comm]
  have HR := hide hr
  have hw : IntKind.i64.wrap (32 - n) = 32 - n := IntWalk.i64_in _ (by omega)
  have h2 : 0 ≤ 32 - n := by omega
  clear hr ha hb
  go_enter Tryd.func112, Tryd.ntmps112
  go_wp2_with fail
  go_quiet (fail)
  go_wp2_with fail
  go_ret
  exact ⟨by rw [HR.out]; rfl, _, rfl⟩
theorem quiet_turn {w : World} {n : Nat} (x : BitVec 32) (k : Int) (h0 : 0 ≤ k) (h1 : k ≤ 32) (ha : (n64 (rotK (-k))).toNat = (32 - k).toNat) (hb : (n64 (32#64 - rotK (-k))).toNat = k.toNat) :
    Calls Tryd.prog 112 #[U32 x, .int .i64 k] (w.drewN n) fun e w'' => e = .returned (U32 (rotS x (-k))) ∧ ∃ m, w'' = w.drewN m :=
  (turn_any x k h0 h1 ha hb (w.drewN n)).mono fun _ _ ⟨he, m, hm⟩ => ⟨he, n + m, by rw [hm, World.drewN_drewN]⟩

/-- The bytes of a word, k of them. -/
def partW (s : List (BitVec 8)) (t : Nat) : Nat → BitVec 32
  | 0 => 0#32
  | k + 1 => partW s t k <<< 8 ||| (s.getD (4 * t + k) 0#8).setWidth 32
theorem partW_four (s : List (BitVec 8)) (t : Nat) : partW s t 4 = wordAt s t := by
  simp only [partW, wordAt, BitVec.shiftLeft_or_distrib, ← BitVec.shiftLeft_add]
  simp
theorem sched_zero (s : List (BitVec 8)) : ∀ (t i : Nat), t ≤ i → sched s t i = 0#32
  | 0, _, _ => rfl
  | t + 1, i, h => by
    show (if i = t then _ else sched s t i) = _
    rw [if_neg (by omega), sched_zero s t i (by omega)]
theorem run_index_bts {P : Program} {T : TypeId} (hT : P.underlying T = some .string) (s : ByteArray) (n : Int) (k : Nat) (e : n = (k : Int)) (h : k < s.size) (w : World) :
    (Instr.index T (.string s) (.int .i64 n)).run P w = .ok (U8 ((bts s).getD k 0#8)) w := by
  rw [e]
  exact run_index_str hT s k h w

set_option maxRecDepth 100000 in
set_option maxHeartbeats 4000000 in
theorem rblock_any (h : Nat → BitVec 32) (s : ByteArray) (hs : s.size = 64) (w : World) (hK : KAt w) :
    Calls Tryd.prog 73 #[.agg (A32 8 h), .string s] w fun e w' => e = .returned (.agg (A32 8 (shaBlock roundK h (bts s)))) ∧ Below w.heap.size w w' := by
  have HS := hide hs; clear hs
  have hw0 := hK.pos
  have hbx : ∀ w, (Instr.box 61 (.agg (A32 8 h))).run Tryd.prog w = .ok (.pointer (some ⟨w.heap.size, 0, none⟩)) (w.alloc (.cells (A32 8 h) 61)) := fun w => by kernel_rfl
  go_enter Tryd.func73, Tryd.ntmps73
  go_wp2_with fail
  go_loopw [6] (fun s6 W => ∃ t : Nat, t ≤ 16 ∧ s6 = .int .i64 t ∧ Blk W w.heap.size (A32 8 h) 61 ∧ Blk W (w.heap.size + 1) (A32 8 fun _ => 0#32) 61 ∧ Blk W (w.heap.size + 1 + 1) (A32 64 (sched (bts s) t)) 123 ∧ Below w.heap.size w W) (fun s6 _ => 16 - (intOf s6).toNat)
  case atStart =>
    have h1 := (Blk.new w (A32 8 h) 61)
    have h2 := h1.alloc (.cells (A32 8 fun _ => 0#32) 61)
    have h3 := h2.alloc (.cells (A32 64 fun _ => 0#32) 123)
    have g1 := Blk.new (w.alloc (.cells (A32 8 h) 61)) (A32 8 fun _ => 0#32) 61
    have g2 := g1.alloc (.cells (A32 64 fun _ => 0#32) 123)
    have f1 := Blk.new ((w.alloc (.cells (A32 8 h) 61)).alloc (.cells (A32 8 fun _ => 0#32) 61)) (A32 64 fun _ => 0#32) 123
    have hB : Below w.heap.size w (((w.alloc (.cells (A32 8 h) 61)).alloc (.cells (A32 8 fun _ => 0#32) 61)).alloc (.cells (A32 64 fun _ => 0#32) 123)) := (((Below.refl _ _).alloc (Nat.le_refl _) _).alloc (by simp) _).alloc (by simp; omega) _
    rw [World.size_alloc] at g2
    rw [World.size_alloc, World.size_alloc] at f1
    exact ⟨0, by omega, rfl, h3, g2, f1, hB⟩
  case round =>
    obtain ⟨t, ht, rfl, hbh, hbr, hbw, hB⟩ := hrel
    by_cases h16 : t < 16
    · have h161 : (t : Int) < 16 := by omega
      have hp : (0 : Int) ≤ (t : Int) := by omega
      have hlt64 : t < 64 := by omega
      have hq : (t : Int) < 64 := by omega
      go_wp2_with fail
      go_loopw [7] (fun s7 W => ∃ k : Nat, k ≤ 4 ∧ s7 = .int .i64 k ∧ Blk W w.heap.size (A32 8 h) 61 ∧ Blk W (w.heap.size + 1) (A32 8 fun _ => 0#32) 61 ∧ Blk W (w.heap.size + 1 + 1) (A32 64 fun i => if i = t then partW (bts s) t k else sched (bts s) t i) 123 ∧ Below w.heap.size w W) (fun s7 _ => 4 - (intOf s7).toNat)
      case atStart =>
        refine ⟨0, by omega, rfl, hbh, hbr, ?_, hB⟩
        have e : (A32 64 fun i => if i = t then partW (bts s) t 0 else sched (bts s) t i) = A32 64 (sched (bts s) t) := by
          apply A32.ext
          intro i _
          try dsimp only
          by_cases e : i = t
          · rw [if_pos e, sched_zero _ _ _ (by omega)]; rfl
          · rw [if_neg e]
        rw [e]
        exact hbw
      case round =>
        clear hbh hbr hbw hB
        obtain ⟨k, hk, rfl, hbh, hbr, hbw, hB⟩ := hrel
        by_cases hk4 : k < 4
        · have hk41 : (k : Int) < 4 := by omega
          have hpk : (0 : Int) ≤ (k : Int) := by omega
          have hx := run_index_bts (P := Tryd.prog) Tryd.underlying9 s (4 * (t : Int) + (k : Int)) (4 * t + k) (by omega) (by rw [HS.out]; omega)
          have hc : wr.cell? ⟨w.heap.size + 1 + 1, t, none⟩ = some (U32 (partW (bts s) t k)) := by rw [hbw.cell, A32.get _ hlt64, if_pos rfl]
          go_wp2_with fail
          have hw0 : IntKind.i64.wrap (4 * (t : Int)) = 4 * (t : Int) := IntWalk.i64_in _ (by omega)
          have hw1 : IntKind.i64.wrap (4 * (t : Int) + (k : Int)) = 4 * (t : Int) + (k : Int) := IntWalk.i64_in _ (by omega)
          go_still_tail 14, (by kernel_rfl)
          change wpList _ _ _ _ _ wr.drew
          have hbhd := hbh.drew
          have hbrd := hbr.drew
          have hbd := hbw.drew
          have hBd := hB.drew
          generalize wr.drew = W2 at hbhd hbrd hbd hBd ⊢
          clear hbh hbr hbw hB hw0 hw1 hx hc
          have hc : W2.cell? ⟨w.heap.size + 1 + 1, t, none⟩ = some (U32 (partW (bts s) t k)) := by rw [hbd.cell, A32.get _ hlt64, if_pos rfl]
          have hf := hbd.free t
          go_wp2_with fail
          have hb2 := hbd.set t (U32 (partW (bts s) t (k + 1)))
          rw [A32.set] at hb2
          refine ⟨⟨k + 1, by omega, by go_num, hbhd.other (by simp; omega) _, hbrd.other (by simp) _, ?_, hBd.setCell (p := ⟨w.heap.size + 1 + 1, t, none⟩) (by simp; omega) _⟩, by simp [intOf]; omega⟩
          have e2 : (fun i => if i = t then partW (bts s) t (k + 1) else sched (bts s) t i) = fun i => if i = t then partW (bts s) t (k + 1) else (fun i => if i = t then partW (bts s) t k else sched (bts s) t i) i := by
            funext i
            by_cases e : i = t
            · rw [if_pos e, if_pos e]
            · rw [if_neg e, if_neg e]; exact (if_neg e).symm
          rw [e2]
          exact hb2
        · have hk41 : ¬ (k : Int) < 4 := by omega
          have hk : k = 4 := by omega
          subst hk
          go_wp2_with fail
          refine ⟨⟨t + 1, by omega, by go_num, hbh, hbr, ?_, hB⟩, by simp [intOf]; omega⟩
          have e : wNew (bts s) (sched (bts s) t) t = wordAt (bts s) t := by rw [wNew, if_pos h16]
          have e2 : sched (bts s) (t + 1) = fun i => if i = t then partW (bts s) t 4 else sched (bts s) t i := by
            funext j; rw [sched, e, partW_four]
          rw [e2]
          exact hbw
    · have h161 : ¬ (t : Int) < 16 := by omega
      obtain rfl : t = 16 := by omega
      clear ht h16
      go_wp2_with fail
      go_loopw [8] (fun s8 W => ∃ t : Nat, 16 ≤ t ∧ t ≤ 64 ∧ s8 = .int .i64 t ∧ Blk W w.heap.size (A32 8 h) 61 ∧ Blk W (w.heap.size + 1) (A32 8 fun _ => 0#32) 61 ∧ Blk W (w.heap.size + 1 + 1) (A32 64 (sched (bts s) t)) 123 ∧ Below w.heap.size w W) (fun s8 _ => 64 - (intOf s8).toNat)
      case atStart => exact ⟨16, by omega, by omega, rfl, hbh, hbr, hbw, hB⟩
      case round =>
        clear hbh hbr hbw hB h161
        obtain ⟨t, h16, ht, rfl, hbh, hbr, hbw, hB⟩ := hrel
        by_cases hlt64 : t < 64
        · have ht1 : (t : Int) < 64 := by omega
          obtain ⟨f, hfe⟩ : ∃ f, sched (bts s) t = f := ⟨_, rfl⟩
          rw [hfe] at hbw
          have HFE := hide hfe; clear hfe
          have hc1 : wr.cell? ⟨w.heap.size + 1 + 1, t - 15, none⟩ = some (U32 (f (t - 15))) := by rw [hbw.cell, A32.get _ (by omega)]
          go_wp2_with fail
          have hw0 : IntKind.i64.wrap ((t : Int) - 15) = (t : Int) - 15 := IntWalk.i64_in _ (by omega)
          have hp0 : (15 : Int) ≤ (t : Int) := by omega
          have hq0 : (t : Int) - 15 < 64 := by omega
          have hr0 : ((t : Int) - 15).toNat = t - 15 := by omega
          go_quiet ((go_at_call 112; exact quiet_turn _ _ (by decide) (by decide) (by decide) (by decide)))
          clear hc1 hw0 hp0 hq0 hr0
          replace hbh := hbh.drewN nq
          replace hbr := hbr.drewN nq
          replace hbw := hbw.drewN nq
          replace hB := below_drewN' nq hB
          generalize wr.drewN nq = X1 at hbh hbr hbw hB ⊢
          have hc1 : X1.cell? ⟨w.heap.size + 1 + 1, t - 2, none⟩ = some (U32 (f (t - 2))) := by rw [hbw.cell, A32.get _ (by omega)]
          go_wp2_with fail
          have hw0 : IntKind.i64.wrap ((t : Int) - 2) = (t : Int) - 2 := IntWalk.i64_in _ (by omega)
          have hp0 : (2 : Int) ≤ (t : Int) := by omega
          have hq0 : (t : Int) - 2 < 64 := by omega
          have hr0 : ((t : Int) - 2).toNat = t - 2 := by omega
          go_quiet ((go_at_call 112; exact quiet_turn _ _ (by decide) (by decide) (by decide) (by decide)))
          clear hc1 hw0 hp0 hq0 hr0
          replace hbh := hbh.drewN nq
          replace hbr := hbr.drewN nq
          replace hbw := hbw.drewN nq
          replace hB := below_drewN' nq hB
          generalize X1.drewN nq = W2 at hbh hbr hbw hB ⊢
          have hc1 : W2.cell? ⟨w.heap.size + 1 + 1, t - 16, none⟩ = some (U32 (f (t - 16))) := by rw [hbw.cell, A32.get _ (by omega)]
          have hc2 : W2.cell? ⟨w.heap.size + 1 + 1, t - 7, none⟩ = some (U32 (f (t - 7))) := by rw [hbw.cell, A32.get _ (by omega)]
          go_wp2_with fail
          have hw0 : IntKind.i64.wrap ((t : Int) - 16) = (t : Int) - 16 := IntWalk.i64_in _ (by omega)
          have hw1 : IntKind.i64.wrap ((t : Int) - 7) = (t : Int) - 7 := IntWalk.i64_in _ (by omega)
          have hp : (0 : Int) ≤ (t : Int) := by omega
          have hp0 : (16 : Int) ≤ (t : Int) := by omega
          have hp1 : (7 : Int) ≤ (t : Int) := by omega
          have hq0 : (t : Int) - 16 < 64 := by omega
          have hq1 : (t : Int) - 7 < 64 := by omega
          have hr0 : ((t : Int) - 16).toNat = t - 16 := by omega
          have hr1 : ((t : Int) - 7).toNat = t - 7 := by omega
          go_still_tail 15, (by kernel_rfl)
          change wpList _ _ _ _ _ W2.drew
          have hbhd := hbh.drew
          have hbrd := hbr.drew
          have hbd := hbw.drew
          have hBd := hB.drew
          generalize W2.drew = W3 at hbhd hbrd hbd hBd ⊢
          clear hbh hbr hbw hB hw0 hw1 hp hp0 hp1 hq0 hq1 hr0 hr1 hc1 hc2
          have hc : W3.cell? ⟨w.heap.size + 1 + 1, t, none⟩ = some (U32 (f t)) := by rw [hbd.cell, A32.get _ hlt64]
          have hf := hbd.free t
          go_wp2_with fail
          have hb2 := hbd.set t (U32 (wNew (bts s) f t))
          rw [A32.set] at hb2
          refine ⟨⟨t + 1, by omega, by omega, by go_num, hbhd.other (by simp; omega) _, hbrd.other (by simp) _, ?_, hBd.setCell (p := ⟨w.heap.size + 1 + 1, t, none⟩) (by simp; omega) _⟩, by simp [intOf]; omega⟩
          have e : wNew (bts s) f t = f (t - 16) + sig0 (f (t - 15)) + f (t - 7) + sig1 (f (t - 2)) := by rw [wNew, if_neg (by omega)]
          have e2 : sched (bts s) (t + 1) = fun j => if j = t then wNew (bts s) f t else f j := by
            funext j; rw [sched, HFE.out]
          rw [e2]
          rw [e] at hb2 ⊢
          exact hb2
        · have ht1 : ¬ (t : Int) < 64 := by omega
          rw [show sched (bts s) t = sched (bts s) 64 by rw [show t = 64 by omega]] at hbw
          obtain ⟨W, hWe⟩ : ∃ W, sched (bts s) 64 = W := ⟨_, rfl⟩
          rw [hWe] at hbw
          have HWE := hide hWe; clear hWe
          go_wp2_with (first | (refine wp_loadRow rfl 61 _ rfl w.heap.size rfl hbh Tryd.underlying61 rfl size61 (A32.size _ _) ?_) | (refine wp_storeRow rfl 61 _ _ rfl _ rfl rfl (Blk.new _ _ _) size61 (A32.size _ _) (A32.size _ _) (A32.one _) rfl ?_; intro W0 hu0 hb3))
          have hs0 := hB.size
          have hs1 := hbw.lt
          have hb5 := (hbh.alloc (.cells (A32 8 fun _ => 0#32) 61)).upd hu0 (by omega)
          have hbr1 := (hbr.alloc (.cells (A32 8 fun _ => 0#32) 61)).upd hu0 (by omega)
          have hbw1 := (hbw.alloc (.cells (A32 8 fun _ => 0#32) 61)).upd hu0 (by omega)
          have hB1 := hu0.below (hB.alloc hB.size (.cells (A32 8 fun _ => 0#32) 61)) hB.size
          have hBs : w.heap.size + 1 + 1 < wr.heap.size := hbw.lt
          clear hbh hbr hbw hB hu0 hs0 hs1
          obtain ⟨B1, hB1e⟩ : ∃ B1, B1 = wr.heap.size := ⟨_, rfl⟩
          rw [← hB1e] at hb3 hBs ⊢
          clear hB1e
          go_loopw [12] (fun s12 X => ∃ t : Nat, t ≤ 64 ∧ s12 = .int .i64 t ∧ Blk X w.heap.size (A32 8 h) 61 ∧ Blk X (w.heap.size + 1) (A32 8 fun _ => 0#32) 61 ∧ Blk X (w.heap.size + 1 + 1) (A32 64 W) 123 ∧ Blk X B1 (A32 8 (shaRounds roundK W t h)) 61 ∧ Below w.heap.size w X) (fun s12 _ => 64 - (intOf s12).toNat)
          case atStart => exact ⟨0, by omega, rfl, hb5, hbr1, hbw1, hb3, hB1⟩
          case round =>
            clear hb5 hbr1 hbw1 hb3 hB1
            obtain ⟨t2, ht2, rfl, hb5, hbr1, hbw1, hb3, hB1⟩ := hrel
            by_cases hl2 : t2 < 64
            · have hl21 : (t2 : Int) < 64 := by omega
              obtain ⟨v, hve⟩ : ∃ v, shaRounds roundK W t2 h = v := ⟨_, rfl⟩
              rw [hve] at hb3
              have HVE := hide hve; clear hve
              have hv0 := hb3.cell 0
              have hv4 := hb3.cell 4
              have hv5 := hb3.cell 5
              have hv6 := hb3.cell 6
              have hv7 := hb3.cell 7
              rw [A32.get _ (by omega)] at hv0 hv4 hv5 hv6 hv7
              have hkt : wr.cell? ⟨0, t2, none⟩ = some (U32 (roundK t2)) := (hK.below hw0 hB1) t2 hl2
              have hwt : wr.cell? ⟨w.heap.size + 1 + 1, t2, none⟩ = some (U32 (W t2)) := by rw [hbw1.cell, A32.get _ hl2]
              have hp : (0 : Int) ≤ (t2 : Int) := by omega
              go_wp2_with fail
              go_quiet ((go_at_call 112; exact quiet_turn _ _ (by decide) (by decide) (by decide) (by decide)))
              clear hv0 hv4 hv5 hv6 hv7 hkt hwt hp
              replace hb5 := hb5.drewN nq
              replace hbr1 := hbr1.drewN nq
              replace hbw1 := hbw1.drewN nq
              replace hb3 := hb3.drewN nq
              replace hB1 := below_drewN' nq hB1
              generalize wr.drewN nq = X1 at hb5 hbr1 hbw1 hb3 hB1 ⊢
              have hv1 := hb3.cell 1
              have hv2 := hb3.cell 2
              rw [A32.get _ (by omega)] at hv1 hv2
              go_wp2_with fail
              go_quiet ((go_at_call 112; exact quiet_turn _ _ (by decide) (by decide) (by decide) (by decide)))
              clear hv1 hv2
              replace hb5 := hb5.drewN nq
              replace hbr1 := hbr1.drewN nq
              replace hbw1 := hbw1.drewN nq
              replace hb3 := hb3.drewN nq
              replace hB1 := below_drewN' nq hB1
              generalize X1.drewN nq = X2 at hb5 hbr1 hbw1 hb3 hB1 ⊢
              have hv0 := hb3.cell 0
              have hv1 := hb3.cell 1
              have hv2 := hb3.cell 2
              have hv3 := hb3.cell 3
              have hv4 := hb3.cell 4
              have hv5 := hb3.cell 5
              have hv6 := hb3.cell 6
              rw [A32.get _ (by omega)] at hv0 hv1 hv2 hv3 hv4 hv5 hv6
              go_wp2_with (refine wp_storeRow rfl 61 _ _ rfl B1 rfl rfl hb3 size61 (A32.size _ _) (A32.size _ _) (A32.one _) rfl ?_; intro X4 hu4 hb4)
              refine ⟨⟨t2 + 1, by omega, by go_num, hb5.upd hu4 (by omega), hbr1.upd hu4 (by omega), hbw1.upd hu4 (by omega), ?_, hu4.below hB1 (by omega)⟩, by simp [intOf]; omega⟩
              refine (A32.ext ?_ : _ = A32 8 _) ▸ hb4
              intro i hi
              rw [shaRounds, HVE.out]
              match i, hi with
              | 0, _ => rfl
              | 1, _ => rfl
              | 2, _ => rfl
              | 3, _ => rfl
              | 4, _ => rfl
              | 5, _ => rfl
              | 6, _ => rfl
              | 7, _ => rfl
            · have hl21 : ¬ (t2 : Int) < 64 := by omega
              rw [show shaRounds roundK W t2 h = shaRounds roundK W 64 h by rw [show t2 = 64 by omega]] at hb3
              obtain ⟨v, hve⟩ : ∃ v, shaRounds roundK W 64 h = v := ⟨_, rfl⟩
              have HVE := hide hve
              rw [hve] at hb3
              clear hve hbw1
              go_wp2_with fail
              go_loopw [17] (fun s17 X => ∃ j : Nat, j ≤ 8 ∧ s17 = .int .i64 j ∧ Blk X w.heap.size (A32 8 fun i => if i < j then h i + v i else h i) 61 ∧ Blk X (w.heap.size + 1) (A32 8 fun _ => 0#32) 61 ∧ Blk X B1 (A32 8 v) 61 ∧ Below w.heap.size w X) (fun s17 _ => 8 - (intOf s17).toNat)
              case atStart => exact ⟨0, by omega, rfl, hb5, hbr1, hb3, hB1⟩
              case round =>
                clear hb5 hbr1 hb3 hB1
                obtain ⟨j, hj, rfl, hb5, hbr1, hb3, hB1⟩ := hrel
                by_cases hj8 : j < 8
                · have hj81 : (j : Int) < 8 := by omega
                  go_wp2_with fail
                  have hcj := hb5.cell j
                  rw [A32.get _ hj8, if_neg (Nat.lt_irrefl j)] at hcj
                  have hcv := hb3.cell j
                  rw [A32.get _ hj8] at hcv
                  have hp : (0 : Int) ≤ (j : Int) := by omega
                  go_still_tail 9, (by kernel_rfl)
                  change wpList _ _ _ _ _ wr.drew
                  replace hb5 := hb5.drew
                  replace hbr1 := hbr1.drew
                  replace hb3 := hb3.drew
                  replace hB1 := hB1.drew
                  clear hcj hcv hp
                  generalize wr.drew = X5 at hb5 hbr1 hb3 hB1 ⊢
                  have hcj := hb5.cell j
                  rw [A32.get _ hj8, if_neg (Nat.lt_irrefl j)] at hcj
                  have hf := hb5.free j
                  go_wp2_with fail
                  have hb7 := hb5.set j (U32 (h j + v j))
                  rw [A32.set, fill_step (fun i => h i + v i) h j] at hb7
                  exact ⟨⟨j + 1, by omega, by go_num, hb7, hbr1.other (by simp) _, hb3.other (by simp; omega) _, hB1.setCell (p := ⟨w.heap.size, j, none⟩) (Nat.le_refl _) _⟩, by simp [intOf]; omega⟩
                · have hj81 : ¬ (j : Int) < 8 := by omega
                  rw [A32.ext (g := shaBlock roundK h (bts s)) (fun i hi => by rw [if_pos (by omega), shaBlock, HWE.out, HVE.out])] at hb5
                  go_wp2_with (first | (refine wp_loadRow rfl 61 _ rfl w.heap.size rfl hb5 Tryd.underlying61 rfl size61 (A32.size _ _) ?_) | (refine wp_storeRow rfl 61 _ _ rfl (w.heap.size + 1) rfl rfl hbr1 size61 (A32.size _ _) (A32.size _ _) (A32.one _) rfl ?_; intro X4 hu4 hb4))
                  exact ret_row rfl (w.heap.size + 1) rfl hb4 Tryd.underlying61 rfl size61 (A32.size _ _) rfl ⟨rfl, hu4.below hB1 (by omega)⟩
end Go.Proofs.YtdpgebifeaakjaaDoor

/- States of a digest: what is valid, and Start. -/
namespace Go.Proofs.YtdpgebifeaakjaaDoor
set_option linter.unusedSimpArgs false
set_option linter.unusedVariables false
open Go.RowKit

/-- A state: eight words, the rest, the length. -/
def stG (h : Nat → BitVec 32) (rest : ByteArray) (len : Int) : Array Value := Row 10 fun i => if i < 8 then U32 (h i) else if i = 8 then .string rest else .int .i64 len
theorem stG.size (h : Nat → BitVec 32) (rest : ByteArray) (len : Int) : (stG h rest len).size = 10 := Row.size _ _
theorem stG.one (h : Nat → BitVec 32) (rest : ByteArray) (len : Int) : (stG h rest len).all (·.oneCell') = true := Row.all fun i hi => by
  by_cases h1 : i < 8
  · simp [h1]; rfl
  · by_cases h2 : i = 8
    · simp [h2]; rfl
    · simp [h1, h2]; rfl
theorem stG.rest (h : Nat → BitVec 32) (rest : ByteArray) (len : Int) : (stG h rest len)[8]? = some (.string rest) := by
  rw [stG, Row.get _ (by omega), if_neg (by omega), if_pos rfl]
theorem stG.len (h : Nat → BitVec 32) (rest : ByteArray) (len : Int) : (stG h rest len)[9]? = some (.int .i64 len) := by
  rw [stG, Row.get _ (by omega), if_neg (by omega), if_neg (by omega)]
theorem size63 : (Tryd.prog.info? 63).map (·.size) = some 10 := by kernel_rfl
def validB (rest : ByteArray) (len : Int) : Bool := decide (0 ≤ len) && decide (len ≤ 1099511627776) && ((rest.size : Int) == len % 64)

set_option maxRecDepth 20000 in
set_option maxHeartbeats 400000 in
theorem rvalid_any (h : Nat → BitVec 32) (rest : ByteArray) (len : Int) (hr : rest.size ≤ maxLen) (w : World) :
    Calls Tryd.prog 72 #[.agg (stG h rest len)] w fun e w' => e = .returned (.bool (validB rest len)) ∧ Below w.heap.size w w' := by
  have hbx : ∀ w, (Instr.box 63 (.agg (stG h rest len))).run Tryd.prog w = .ok (.pointer (some ⟨w.heap.size, 0, none⟩)) (w.alloc (.cells (stG h rest len) 63)) := fun w => by kernel_rfl
  have hn := Blk.new w (stG h rest len) 63
  have h8 := hn.cell 8
  have h9 := hn.cell 9
  rw [stG.rest] at h8
  rw [stG.len] at h9
  have hB : Below w.heap.size w (w.alloc (.cells (stG h rest len) 63)) := (Below.refl _ _).alloc (Nat.le_refl _) _
  clear hn
  unfold validB
  go_enter Tryd.func72, Tryd.ntmps72
  by_cases h0 : 0 ≤ len
  · by_cases h1 : len ≤ 1099511627776
    · go_wp2_with fail
      go_ret
      refine ⟨?_, hB⟩
      rw [show decide (0 ≤ len) = true from decide_eq_true h0, show decide (len ≤ 1099511627776) = true from decide_eq_true h1]
      rfl
    · go_wp2_with fail
      go_ret
      refine ⟨?_, hB⟩
      rw [show decide (len ≤ 1099511627776) = false from decide_eq_false (by omega), Bool.false_and]
      rfl
  · go_wp2_with fail
    go_ret
    refine ⟨?_, hB⟩
    rw [show decide (0 ≤ len) = false from decide_eq_false (by omega), Bool.false_and, Bool.false_and]
    rfl

theorem build63g (h : Nat → BitVec 32) (w : World) : (Instr.build 63 #[(0, .agg (A32 8 h))]).run Tryd.prog w = .ok (.agg (stG h ByteArray.empty 0)) w := by kernel_rfl
theorem box63g (h : Nat → BitVec 32) (rest : ByteArray) (len : Int) (w : World) : (Instr.box 63 (.agg (stG h rest len))).run Tryd.prog w = .ok (.pointer (some ⟨w.heap.size, 0, none⟩)) (w.alloc (.cells (stG h rest len) 63)) := by kernel_rfl
@[go_sem] theorem lit63 : (#[Value.int .u32 0, Value.int .u32 0, Value.int .u32 0, Value.int .u32 0, Value.int .u32 0, Value.int .u32 0, Value.int .u32 0, Value.int .u32 0, Value.string ByteArray.empty, Value.int .i64 0] : Array Value) = stG (fun _ => 0#32) ByteArray.empty 0 := by kernel_rfl
@[go_sem] theorem lit63b : (#[Value.int .u32 0, Value.int .u32 0, Value.int .u32 0, Value.int .u32 0, Value.int .u32 0, Value.int .u32 0, Value.int .u32 0, Value.int .u32 0, Value.string { data := #[] }, Value.int .i64 0] : Array Value) = stG (fun _ => 0#32) ByteArray.empty 0 := by kernel_rfl

end Go.Proofs.YtdpgebifeaakjaaDoor

/- The walk of Add. -/
namespace Go.Proofs.YtdpgebifeaakjaaDoor
set_option linter.unusedSimpArgs false
set_option linter.unusedVariables false
open Go.RowKit

theorem validB_facts {rest : ByteArray} {len : Int} (h : validB rest len = true) : 0 ≤ len ∧ len ≤ 1099511627776 ∧ (rest.size : Int) = len % 64 := by
  unfold validB at h
  rw [Bool.and_eq_true, Bool.and_eq_true] at h
  obtain ⟨⟨h0, h1⟩, h2⟩ := h
  exact ⟨of_decide_eq_true h0, of_decide_eq_true h1, eq_of_beq h2⟩

end Go.Proofs.YtdpgebifeaakjaaDoor

/- The walk of End. -/
namespace Go.Proofs.YtdpgebifeaakjaaDoor
set_option linter.unusedSimpArgs false
set_option linter.unusedVariables false
open Go.RowKit

/-- What End answers. -/
def endAns (h : Nat → BitVec 32) (rest : ByteArray) (len : Int) : (Nat → BitVec 8) × Int :=
  if validB rest len = true then (digestOf (addH roundK h (bts rest ++ padList rest.size (BitVec.ofInt 64 len * 8#64))), 0) else (fun _ => 0#8, 2)

end Go.Proofs.YtdpgebifeaakjaaDoor

/- The specification's Add: what it answers, and steps. -/
namespace Go.Proofs.YtdpgebifeaakjaaDoor
set_option linter.unusedSimpArgs false
set_option linter.unusedVariables false
open Go.RowKit

theorem exec_build {P : Program} {o : Oper} {w : World} (ρ : Operand → Value) (t : TypeId) (parts : Array (Nat × Operand)) (ho : o.op = .build t parts)
    (vals : Array (Nat × Value)) (hv : parts.toList.map (fun p => (p.1, ρ p.2)) = vals.toList) (v : Value) (hrun : ∀ w, (Instr.build t vals).run P w = .ok v w) :
    (execOp ρ o).run P w = .ok (.value v) w := by
  have e : (parts.map fun (i, x) => (i, ρ x)) = vals := by
    rw [← Array.toList_inj, Array.toList_map]
    exact hv
  unfold execOp
  simp only [ho, Sem.run_bind, e, hrun, Result.andThen_ok, Sem.run_pure]
theorem wpo_loadRow {P : Program} {o : Oper} {a : Act} {w : World} {K : Act → World → Prop} {Q : Exit → Act → World → Prop} (ty : TypeId) (x : Operand) (ho : o.op = .load ty x)
    (b : Nat) (hx : a.eval x = .pointer (some ⟨b, 0, none⟩)) {C : Array Value}
    (hrun : (loadVar ty ⟨b, 0, none⟩).run P w = .ok (.agg C) w)
    (h : K (a.put o.dst (.agg C)) w) : Oper.wp P o a w K Q := by
  unfold Oper.wp execOp
  simp only [ho, hx, Instr.loadAt, Instr.sureAddr, Sem.run_bind, Sem.run_pure, Result.andThen_ok, hrun]
  exact h
/-- A state and an error, in a struct. -/
def stE (h : Nat → BitVec 32) (rest : ByteArray) (len e : Int) : Array Value := Row 11 fun i => if i < 8 then U32 (h i) else if i = 8 then .string rest else if i = 9 then .int .i64 len else .int .i64 e
theorem stE.size (h : Nat → BitVec 32) (rest : ByteArray) (len e : Int) : (stE h rest len e).size = 11 := Row.size _ _
theorem stE.one (h : Nat → BitVec 32) (rest : ByteArray) (len e : Int) : (stE h rest len e).all (·.oneCell') = true := Row.all fun i hi => by
  by_cases h1 : i < 8
  · simp [h1]; rfl
  · by_cases h2 : i = 8
    · simp [h2]; rfl
    · by_cases h3 : i = 9
      · simp [h3]; rfl
      · simp [h1, h2, h3]; rfl
theorem size67 : (Tryd.prog.info? 67).map (·.size) = some 11 := by kernel_rfl
theorem build67e (e : Int) (w : World) : (Instr.build 67 #[(1, .int .i64 e)]).run Tryd.prog w = .ok (.agg (stE (fun _ => 0#32) ByteArray.empty 0 e)) w := by kernel_rfl
theorem build67 (h : Nat → BitVec 32) (rest : ByteArray) (len : Int) (w : World) : (Instr.build 67 #[(0, .agg (stG h rest len))]).run Tryd.prog w = .ok (.agg (stE h rest len 0)) w := by kernel_rfl
theorem build63f (h : Nat → BitVec 32) (rest : ByteArray) (len : Int) (w : World) : (Instr.build 63 #[(0, .agg (A32 8 h)), (1, .string rest), (2, .int .i64 len)]).run Tryd.prog w = .ok (.agg (stG h rest len)) w := by kernel_rfl
@[go_sem] theorem lit67 : (#[Value.int .u32 0, Value.int .u32 0, Value.int .u32 0, Value.int .u32 0, Value.int .u32 0, Value.int .u32 0, Value.int .u32 0, Value.int .u32 0, Value.string ByteArray.empty, Value.int .i64 0, Value.int .i64 0] : Array Value) = stE (fun _ => 0#32) ByteArray.empty 0 0 := by kernel_rfl
@[go_sem] theorem lit67b : (#[Value.int .u32 0, Value.int .u32 0, Value.int .u32 0, Value.int .u32 0, Value.int .u32 0, Value.int .u32 0, Value.int .u32 0, Value.int .u32 0, Value.string { data := #[] }, Value.int .i64 0, Value.int .i64 0] : Array Value) = stE (fun _ => 0#32) ByteArray.empty 0 0 := by kernel_rfl

/-- What Add answers, in parts. -/
def addS (h : Nat → BitVec 32) (rest : ByteArray) (len : Int) (s : ByteArray) : (Nat → BitVec 32) × ByteArray × Int × Int :=
  if validB rest len = true then
    if (s.size : Int) ≤ 1099511627776 - len then (addH roundK h (bts rest ++ bts s), strOf (addRest (bts rest ++ bts s)), len + s.size, 0)
    else (fun _ => 0#32, ByteArray.empty, 0, 3)
  else (fun _ => 0#32, ByteArray.empty, 0, 2)
end Go.Proofs.YtdpgebifeaakjaaDoor

