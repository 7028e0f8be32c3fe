/- Texts put together for one claim: part 4. -/
import Derived.Test.YtdpgebifeaakjaaDoorProg
import Derived.WalkKit
import Derived.WalkSpells
import Derived.WalkLawsBesides
import Derived.ChangeKeysEq
import Derived.Deep.RegionHeld3
import Derived.BigQuiet
import Derived.Deep.QuietTactic
import Derived.Deep.MidRow
import Derived.StillTailTactics
import Derived.Laws.AppendOwn
import Derived.Lib.ConvBytes
import Derived.Shelf.Spec.TrailingZeros
import Derived.Laws.FloatArith
import Derived.Laws.CopyOwn
import Derived.BigRegion
import Derived.Deep.Cut
import Derived.ArgAppend
import Derived.Shelf.Strconv.Itoa0
import Derived.RangeFuncNested
import Derived.RangeFuncBound
import Derived.RangeFuncCalls
import Derived.RangeFuncLeaves
import Derived.Shelf.Abstract
import Derived.OwnWalkIn
import Derived.TacticsInMore
import Derived.LoopNIn
import Derived.LoopIn
import Derived.RangeFuncBox
import Derived.Maps.AppendAt
import Derived.Laws.OwnMore
import Derived.Laws.StructEq
import Derived.Deep.RegionHeld
import Derived.Laws.BitsLemmas
import Derived.OwnWalk
import Derived.StillTactics
import Derived.Deep.AppendLies
import Derived.Test.YtdpgebifeaakjaaDoorRows
import Derived.ProofKit
import Derived.LaidMore
import Derived.OpenShut
import Derived.Stop.Joined
import Derived.Carry
import Derived.SevenTiedAt
import Derived.Deep.Slices
import Derived.Laws.AppendOwnNone
import Derived.Defers
import Derived.Recover
import Derived.Test.YtdpgebifeaakjaaDoorX3
/- Crc; append. -/

/- The walks of the CRC functions. -/
namespace Go.Proofs.YtdpgebifeaakjaaDoor
set_option linter.unusedSimpArgs false
set_option linter.unusedVariables false
open Go.RowKit

/-- One step of the CRC register. -/
def crcBit (c : BitVec 32) : BitVec 32 := if c &&& 1#32 == 1#32 then c >>> 1 ^^^ 0xedb88320#32 else c >>> 1
/-- n steps. -/
def crcBits : Nat → BitVec 32 → BitVec 32
  | 0, c => c
  | n + 1, c => crcBit (crcBits n c)
def crcTab (i : Nat) : BitVec 32 := crcBits 8 (BitVec.ofNat 32 i)

set_option maxHeartbeats 400000 in
theorem bit_any (c : BitVec 32) (w : World) :
    Calls Tryd.prog 100 #[U32 c] w fun e w' => e = .returned (U32 (crcBit c)) ∧ w = w' := by
  go_enter Tryd.func100, Tryd.ntmps100
  go_wp2
  · go_ret; have h : (c &&& 1#32 == 1#32) = true := by assumption
    exact ⟨by rw [crcBit, if_pos h]; rfl, rfl⟩
  · go_ret; have h : (c &&& 1#32 == 1#32) = false := by assumption
    exact ⟨by rw [crcBit, if_neg (by rw [h]; decide)]; rfl, rfl⟩

set_option maxRecDepth 20000
theorem size119 : (Tryd.prog.info? 119).map (·.size) = some 256 := by kernel_rfl
theorem zero119 : Tryd.zeroCells119 = A32 256 fun _ => 0#32 := by kernel_rfl

set_option maxHeartbeats 400000 in
theorem table_any (w : World) :
    Calls Tryd.prog 67 #[] w fun e w' => e = .returned (.agg (A32 256 crcTab)) ∧ Below w.heap.size w w' := by
  go_enter Tryd.func67, Tryd.ntmps67
  go_wp2
  go_loopw [2, 3] (fun s2 s3 W => ∃ k : Nat, k ≤ 256 ∧ s3 = .int .i64 k ∧ Blk W w.heap.size (A32 256 fun i => if i < k then crcTab i else 0#32) 119 ∧ Below w.heap.size w W) (fun _ s3 _ => 256 - (intOf s3).toNat)
  case atStart => exact ⟨0, by omega, rfl, by rw [zero119]; exact Blk.new _ _ _, (Below.refl _ _).alloc (Nat.le_refl _) _⟩
  case round =>
    obtain ⟨k, hk, rfl, hb, hB⟩ := hrel
    by_cases hlt : k < 256
    · have hc : wr.cell? ⟨w.heap.size, k, none⟩ = some (U32 0#32) := by rw [hb.cell, A32.get _ hlt, if_neg (by omega)]
      have hf := hb.free k
      have hlt1 : (k : Int) < 256 := by omega
      go_wp2
      go_loop [2, 8] (fun s2 s8 => ∃ j : Nat, j ≤ 8 ∧ s8 = .int .i64 j ∧ s2 = U32 (crcBits j (BitVec.ofNat 32 k))) (fun _ s8 => 8 - (intOf s8).toNat)
      case atStart => exact ⟨0, by omega, rfl, rfl⟩
      case round =>
        obtain ⟨j, hj, rfl, rfl⟩ := hrel
        by_cases hj8 : j < 8
        · have hj1 : (j : Int) < 8 := by omega
          go_wp2_with (go_at_call 100; refine (bit_any _ _).mono ?_; rintro e w' ⟨rfl, rfl⟩)
          go_round
          case rel => exact ⟨j + 1, by omega, by go_num, rfl⟩
          case measure => simp [intOf]; omega
        · obtain rfl : j = 8 := by omega
          go_wp2_with fail
          go_roundw
          case rel =>
            refine ⟨k + 1, by omega, by go_num, ?_, hB.setCell (p := ⟨w.heap.size, k, none⟩) (Nat.le_refl _) _⟩
            have hb' := hb.set k (U32 (crcBits 8 (BitVec.ofNat 32 k)))
            rw [A32.set] at hb'
            refine (A32.ext ?_ : _ = A32 256 _) ▸ hb'
            intro i hi
            by_cases e : i = k
            · subst e; rw [if_pos rfl, if_pos (by omega)]; rfl
            · rw [if_neg e]; by_cases h : i < k
              · rw [if_pos h, if_pos (by omega)]
              · rw [if_neg h, if_neg (by omega)]
          case measure => simp [intOf]; omega
    · obtain rfl : k = 256 := by omega
      go_wp2_with (first | (refine wp_loadRow rfl 119 _ rfl _ rfl hb Tryd.underlying119 rfl size119 (A32.size _ _) ?_) | (refine wp_storeRow rfl 119 _ _ rfl _ rfl rfl hb size119 (A32.size _ _) (A32.size _ _) (A32.one _) rfl ?_; intro W1 hu hb1))
      refine ret_row rfl w.heap.size rfl hb1 Tryd.underlying119 rfl size119 (A32.size _ _) rfl ⟨?_, hu.below hB (Nat.le_refl _)⟩
      rw [A32.ext (g := crcTab)]
      intro i hi; rw [if_pos hi]

/-- One byte of the CRC. -/
def crcByte (c : BitVec 32) (b : BitVec 8) : BitVec 32 := crcTab ((n8 (c.setWidth 8 ^^^ b)).toNat) ^^^ c >>> 8
def crcExt (c : BitVec 32) (l : List (BitVec 8)) : BitVec 32 := ~~~(l.foldl crcByte (~~~c))

set_option maxHeartbeats 400000 in
theorem extend_any (c : BitVec 32) (s : ByteArray) (w : World) (hs : s.size ≤ maxLen) :
    Calls Tryd.prog 33 #[U32 c, .string s] w fun e w' => e = .returned (U32 (crcExt c (bts s))) ∧ Below w.heap.size w w' := by
  unfold maxLen at hs
  go_enter Tryd.func33, Tryd.ntmps33
  go_wp2_with (first | (go_at_call 67; refine (table_any _).mono ?_; rintro e w1 ⟨rfl, hB⟩) | (refine wp_storeRow rfl 119 _ _ rfl _ rfl rfl (Blk.new _ _ _) size119 (A32.size _ _) (by rw [zero119]; exact A32.size _ _) (A32.one _) rfl ?_; intro W1 hu hb1))
  have hB1 : Below w.heap.size w W1 := hu.below (hB.alloc hB.size _) hB.size
  go_loop [6, 13] (fun s6 s13 => ∃ k : Nat, k ≤ s.size ∧ s13 = .int .i64 k ∧ s6 = U32 (((bts s).take k).foldl crcByte (~~~c))) (fun _ s13 => s.size - (intOf s13).toNat)
  case atStart => exact ⟨0, by omega, rfl, rfl⟩
  case round =>
    obtain ⟨k, hk, rfl, rfl⟩ := hrel
    by_cases hlt : k < s.size
    · have hix := run_index_str (P := Tryd.prog) Tryd.underlying9 s k hlt
      have hx : ∀ x : BitVec 8, W1.cell? ⟨w1.heap.size, (n8 x).toNat, none⟩ = some (U32 (crcTab (n8 x).toNat)) := fun x => by rw [hb1.cell, A32.get _ (show (n8 x).toNat < 256 from x.isLt)]
      have hlt1 : (k : Int) < (s.size : Int) := by omega
      go_wp2_with fail
      go_round
      case rel => exact ⟨k + 1, by omega, by go_num, by rw [bts_take_succ s k hlt, List.foldl_append]; rfl⟩
      case measure => simp [intOf]; omega
    · obtain rfl : k = s.size := by omega
      go_wp2_with fail
      go_ret
      refine ⟨?_, hB1⟩
      rw [← bts_length, List.take_length]; rfl

end Go.Proofs.YtdpgebifeaakjaaDoor

/- The walks of the CRC functions: the matrices, Combine, Patch, Zeros, Force. -/
namespace Go.Proofs.YtdpgebifeaakjaaDoor
set_option linter.unusedSimpArgs false
set_option linter.unusedVariables false
open Go.RowKit

/-- A linear map applied. -/
def matGo (m : Nat → BitVec 32) : Nat → Nat → BitVec 32 → BitVec 32 → BitVec 32
  | 0, _, _, x => x
  | n + 1, i, c, x => matGo m n (i + 1) (c >>> 1) (if c &&& 1#32 == 1#32 then x ^^^ m i else x)
def matOf (m : Nat → BitVec 32) (c : BitVec 32) : BitVec 32 := matGo m 32 0 c 0#32
def matAfter (m n : Nat → BitVec 32) (i : Nat) : BitVec 32 := matOf m (n i)
def matUnit (i : Nat) : BitVec 32 := 1#32 <<< i
theorem matGo_zero (m : Nat → BitVec 32) (n : Nat) : ∀ i x, matGo m n i 0#32 x = x := by
  induction n with
  | zero => intro i x; rfl
  | succ n ih => intro i x; simp only [matGo]; exact ih (i + 1) x

theorem size155 : (Tryd.prog.info? 155).map (·.size) = some 32 := by kernel_rfl
@[go_sem high] theorem zero155 (w : World) : (zeroValue 155).run Tryd.prog w = .ok (.agg (A32 32 fun _ => 0#32)) w := by kernel_rfl

@[go_sem] theorem lit155 : (#[Value.int .u32 0, Value.int .u32 0, Value.int .u32 0, Value.int .u32 0, Value.int .u32 0, Value.int .u32 0, Value.int .u32 0, Value.int .u32 0, Value.int .u32 0, Value.int .u32 0, Value.int .u32 0, Value.int .u32 0, Value.int .u32 0, Value.int .u32 0, Value.int .u32 0, Value.int .u32 0, Value.int .u32 0, Value.int .u32 0, Value.int .u32 0, Value.int .u32 0, Value.int .u32 0, Value.int .u32 0, Value.int .u32 0, Value.int .u32 0, Value.int .u32 0, Value.int .u32 0, Value.int .u32 0, Value.int .u32 0, Value.int .u32 0, Value.int .u32 0, Value.int .u32 0, Value.int .u32 0] : Array Value) = A32 32 fun _ => 0#32 := by kernel_rfl

theorem shr_lt (c : BitVec 32) (n : Nat) (h : c.toNat < 2 ^ (n + 1)) : (c >>> 1).toNat < 2 ^ n := by
  rw [BitVec.toNat_ushiftRight, Nat.shiftRight_eq_div_pow]
  rw [Nat.pow_succ] at h; omega

set_option maxHeartbeats 400000 in
theorem of_any (m : Nat → BitVec 32) (c : BitVec 32) (w : World) :
    Calls Tryd.prog 103 #[.agg (A32 32 m), U32 c] w fun e w' => e = .returned (U32 (matOf m c)) ∧ Below w.heap.size w w' := by
  go_enter Tryd.func103, Tryd.ntmps103
  go_wp2_with fail
  go_loop [1, 5, 6] (fun s1 s5 s6 => ∃ (k n : Nat) (y x : BitVec 32), k + n = 32 ∧ y.toNat < 2 ^ n ∧ s6 = .int .i64 k ∧ s1 = U32 y ∧ s5 = U32 x ∧ matGo m n k y x = matOf m c) (fun _ _ s6 => 32 - (intOf s6).toNat)
  case atStart => exact ⟨0, 32, c, 0#32, rfl, c.isLt, rfl, rfl, rfl, rfl⟩
  case round =>
    obtain ⟨k, n, y, x, hkn, hy, rfl, rfl, rfl, hm⟩ := hrel
    by_cases hy0 : y = 0#32
    · subst hy0
      rw [matGo_zero] at hm
      have HM := hide hm; clear hm
      go_wp2_with fail
      go_ret
      exact ⟨retU32 HM.out, (Below.refl _ _).alloc (Nat.le_refl _) _⟩
    · have hy1 : (y != 0#32) = true := by simpa using hy0
      obtain ⟨n, rfl⟩ : ∃ n', n = n' + 1 := by
        cases n with
        | zero => exact absurd (BitVec.eq_of_toNat_eq (by simpa using hy)) hy0
        | succ n => exact ⟨n, rfl⟩
      have hb := Blk.new w (A32 32 m) 155
      have hk : k < 32 := by omega
      have hk1 : (k : Int) < 32 := by omega
      have hc : (w.alloc (.cells (A32 32 m) 155)).cell? ⟨w.heap.size, k, none⟩ = some (U32 (m k)) := by rw [hb.cell, A32.get _ hk]
      clear hb
      have HM := hide hm; clear hm
      have HN := hide hkn; clear hkn
      have HY := hide hy; clear hy hy0
      go_wp2_with fail
      · have h : (y &&& 1#32 == 1#32) = true := by assumption
        have hm := HM.out
        rw [matGo, if_pos h] at hm
        exact ⟨⟨k + 1, n, _, _, by have := HN.out; omega, shr_lt _ _ HY.out, by go_num, rfl, rfl, hm⟩, by simp [intOf]; omega⟩
      · have h : (y &&& 1#32 == 1#32) = false := by assumption
        have hm := HM.out
        rw [matGo, if_neg (by rw [h]; decide)] at hm
        exact ⟨⟨k + 1, n, _, _, by have := HN.out; omega, shr_lt _ _ HY.out, by go_num, rfl, rfl, hm⟩, by simp [intOf]; omega⟩

def countedB (n : Int) : Bool := decide (0 ≤ n ∧ n ≤ 1099511627776)
theorem counted_any (n : Int) (w : World) :
    Calls Tryd.prog 64 #[.int .i64 n] w fun e w' => e = .returned (.bool (countedB n)) ∧ w = w' := by
  by_cases h0 : 0 ≤ n
  · by_cases h1 : n ≤ 1099511627776
    · go_enter Tryd.func64, Tryd.ntmps64
      go_wp2_with fail
      go_ret
      exact ⟨by rw [countedB, decide_eq_true ⟨h0, h1⟩]; rfl, rfl⟩
    · go_enter Tryd.func64, Tryd.ntmps64
      go_wp2_with fail
      go_ret
      exact ⟨by rw [countedB, decide_eq_false (by omega)]; rfl, rfl⟩
  · go_enter Tryd.func64, Tryd.ntmps64
    go_wp2_with fail
    go_ret
    exact ⟨by rw [countedB, decide_eq_false (by omega)]; rfl, rfl⟩

set_option maxHeartbeats 400000 in
theorem unit_any (w : World) :
    Calls Tryd.prog 102 #[] w fun e w' => e = .returned (.agg (A32 32 matUnit)) ∧ Below w.heap.size w w' := by
  go_enter Tryd.func102, Tryd.ntmps102
  go_wp2_with fail
  go_loopw [2] (fun s2 W => ∃ k : Nat, k ≤ 32 ∧ s2 = .int .i64 k ∧ Blk W w.heap.size (A32 32 fun i => if i < k then matUnit i else 0#32) 155 ∧ Below w.heap.size w W) (fun s2 _ => 32 - (intOf s2).toNat)
  case atStart => exact ⟨0, by omega, rfl, Blk.new _ _ _, (Below.refl _ _).alloc (Nat.le_refl _) _⟩
  case round =>
    obtain ⟨k, hk, rfl, hb, hB⟩ := hrel
    by_cases hlt : k < 32
    · have hc : wr.cell? ⟨w.heap.size, k, none⟩ = some (U32 0#32) := by rw [hb.cell, A32.get _ hlt, if_neg (by omega)]
      have hf := hb.free k
      have hlt1 : (k : Int) < 32 := by omega
      go_wp2_with fail
      have hb' := hb.set k (U32 (matUnit k))
      rw [A32.set] at hb'
      refine ⟨⟨k + 1, by omega, by go_num, ?_, hB.setCell (p := ⟨w.heap.size, k, none⟩) (Nat.le_refl _) _⟩, by simp [intOf]; omega⟩
      refine (A32.ext ?_ : _ = A32 32 _) ▸ hb'
      intro i hi
      by_cases e : i = k
      · subst e; rw [if_pos rfl, if_pos (by omega)]
      · rw [if_neg e]; by_cases h : i < k
        · rw [if_pos h, if_pos (by omega)]
        · rw [if_neg h, if_neg (by omega)]
    · obtain rfl : k = 32 := by omega
      go_wp2_with (first | (refine wp_loadRow rfl 155 _ rfl _ rfl hb Tryd.underlying155 rfl size155 (A32.size _ _) ?_) | (refine wp_storeRow rfl 155 _ _ rfl _ rfl rfl hb size155 (A32.size _ _) (A32.size _ _) (A32.one _) rfl ?_; intro W1 hu hb1))
      refine ret_row rfl w.heap.size rfl hb1 Tryd.underlying155 rfl size155 (A32.size _ _) rfl ⟨?_, hu.below hB (Nat.le_refl _)⟩
      rw [A32.ext (g := matUnit)]
      intro i hi; rw [if_pos hi]

end Go.Proofs.YtdpgebifeaakjaaDoor

/- The walks of the CRC functions: the product of two matrices, and the shift. -/
namespace Go.Proofs.YtdpgebifeaakjaaDoor
set_option linter.unusedSimpArgs false
set_option linter.unusedVariables false
open Go.RowKit

set_option maxHeartbeats 400000 in
theorem after_any (m n : Nat → BitVec 32) (w : World) :
    Calls Tryd.prog 101 #[.agg (A32 32 m), .agg (A32 32 n)] w fun e w' => e = .returned (.agg (A32 32 (matAfter m n))) ∧ Below w.heap.size w w' := by
  go_enter Tryd.func101, Tryd.ntmps101
  have hb1 := (((Blk.new w (A32 32 m) 155).alloc (.cells (A32 32 n) 155)).alloc (.cells (A32 32 fun _ => 0#32) 155))
  have hb2 := ((Blk.new (w.alloc (.cells (A32 32 m) 155)) (A32 32 n) 155).alloc (.cells (A32 32 fun _ => 0#32) 155))
  have hb3 := (Blk.new ((w.alloc (.cells (A32 32 m) 155)).alloc (.cells (A32 32 n) 155)) (A32 32 fun _ => 0#32) 155)
  have hB := (((Below.refl w.heap.size w).alloc (Nat.le_refl _) (.cells (A32 32 m) 155)).alloc (by simp) (.cells (A32 32 n) 155)).alloc (by simp; omega) (.cells (A32 32 fun _ => 0#32) 155)
  rw [World.size_alloc] at hb2
  rw [World.size_alloc, World.size_alloc] at hb3
  go_wp2_with (refine wp_loadRow rfl 155 _ rfl _ rfl hb2 Tryd.underlying155 rfl size155 (A32.size _ _) ?_)
  go_loopw [8] (fun s8 W => ∃ k : Nat, k ≤ 32 ∧ s8 = .int .i64 k ∧ Blk W w.heap.size (A32 32 m) 155 ∧ Blk W (w.heap.size + 1 + 1) (A32 32 fun i => if i < k then matAfter m n i else 0#32) 155 ∧ Below w.heap.size w W) (fun s8 _ => 32 - (intOf s8).toNat)
  case atStart => exact ⟨0, by omega, rfl, hb1, hb3, hB⟩
  case round =>
    clear hb1 hb2 hb3 hB
    obtain ⟨k, hk, rfl, hb1, hb3, hB⟩ := hrel
    by_cases hlt : k < 32
    · have hix := index_A32 (P := Tryd.prog) Tryd.underlying155 Tryd.sizeOf42 Tryd.isAgg42 n .i64 k hlt
      have hlt1 : (k : Int) < 32 := by omega
      go_wp2_with (first | (refine wp_loadRow rfl 155 _ rfl _ rfl hb1 Tryd.underlying155 rfl size155 (A32.size _ _) ?_) | (go_at_call 103; refine (of_any _ _ _).mono ?_; rintro e W1 ⟨rfl, hB1⟩; have hb31 := hb3.below hB1 hb3.lt; have hb11 := hb1.below hB1 hb1.lt; have hB2 := hB.trans (hB1.mono hB.size); have hc : W1.cell? ⟨w.heap.size + 1 + 1, k, none⟩ = some (U32 0#32) := (by rw [hb31.cell, A32.get _ hlt, if_neg (by omega)]); have hf := hb31.free k))
      have hb32 := hb31.set k (U32 (matAfter m n k))
      rw [A32.step] at hb32
      exact ⟨⟨k + 1, by omega, by go_num, hb11.other (by simp; omega) _, hb32, hB2.setCell (p := ⟨w.heap.size + 1 + 1, k, none⟩) (by simp; omega) _⟩, by simp [intOf]; omega⟩
    · obtain rfl : k = 32 := by omega
      go_wp2_with (first | (refine wp_loadRow rfl 155 _ rfl _ rfl hb3 Tryd.underlying155 rfl size155 (A32.size _ _) ?_) | (refine wp_storeRow rfl 155 _ _ rfl _ rfl rfl hb3 size155 (A32.size _ _) (A32.size _ _) (A32.one _) rfl ?_; intro W1 hu hb4))
      refine ret_row rfl (w.heap.size + 1 + 1) rfl hb4 Tryd.underlying155 rfl size155 (A32.size _ _) rfl ⟨?_, hu.below hB (by omega)⟩
      rw [A32.ext (fill_all _ _)]

/-- The shift of a word by n bytes: the loop, and the whole. -/
def shiftGo : Nat → Nat → (Nat → BitVec 32) → (Nat → BitVec 32) → (Nat → BitVec 32)
  | 0, _, _, all => all
  | f + 1, n, step, all => if n = 0 then all else shiftGo f (n / 2) (matAfter step step) (if n % 2 = 1 then matAfter step all else all)
def step0 (i : Nat) : BitVec 32 := crcBit (1#32 <<< i)
def sq (m : Nat → BitVec 32) : Nat → BitVec 32 := matAfter m m
def shiftAll (n : Nat) : Nat → BitVec 32 := shiftGo 64 n (sq (sq (sq step0))) matUnit
def crcShift (c : BitVec 32) (n : Nat) : BitVec 32 := if eqRow 32 (shiftAll n) matUnit then c else matOf (shiftAll n) c

theorem size42 : (Tryd.prog.info? 42).map (·.size) = some 1 := by kernel_rfl
def sqN : Nat → (Nat → BitVec 32)
  | 0 => step0
  | n + 1 => sq (sqN n)

theorem and1_i64 (m : Nat) (h : m < 2 ^ 63) : bits .and .i64 (m : Int) 1 = ((m % 2 : Nat) : Int) := by
  have e : (BitVec.ofInt 64 (m : Int) &&& BitVec.ofInt 64 1).toNat = m % 2 := by
    rw [BitVec.toNat_and]
    have e1 : (BitVec.ofInt 64 (m : Int)).toNat = m := by
      rw [BitVec.toNat_ofInt, ← Int.natCast_emod, Int.toNat_natCast, Nat.mod_eq_of_lt (by omega)]
    have e2 : (BitVec.ofInt 64 1).toNat = 1 := by decide
    rw [e1, e2, Nat.and_one_is_mod]
  show IntKind.i64.wrap ((BitVec.ofInt 64 (m : Int) &&& BitVec.ofInt 64 1).toNat : Int) = _
  rw [e, IntWalk.i64_in _ (by omega)]

set_option maxHeartbeats 1000000 in
theorem shift_any (c : BitVec 32) (n : Nat) (hn : n < 2 ^ 63) (w : World) :
    Calls Tryd.prog 65 #[U32 c, .int .i64 n] w fun e w' => e = .returned (U32 (crcShift c n)) ∧ Below w.heap.size w w' := by
  have hn1 : (n : Int) ≤ 9223372036854775807 := by omega
  go_enter Tryd.func65, Tryd.ntmps65
  go_wp2_with (refine wp_storeRow rfl 155 _ _ rfl _ rfl rfl (Blk.new _ _ _) size155 (A32.size _ _) (A32.size _ _) (A32.one _) rfl ?_; intro W0 hu0 hb0)
  have hB0 : Below w.heap.size w W0 := hu0.below ((Below.refl _ _).alloc (Nat.le_refl _) _) (Nat.le_refl _)
  clear hu0
  go_loopw [9] (fun s9 W => ∃ k : Nat, k ≤ 32 ∧ s9 = .int .i64 k ∧ Blk W w.heap.size (A32 32 fun i => if i < k then step0 i else 0#32) 155 ∧ Below w.heap.size w W) (fun s9 _ => 32 - (intOf s9).toNat)
  case atStart => exact ⟨0, by omega, rfl, hb0, hB0⟩
  case round =>
    clear hb0 hB0
    obtain ⟨k, hk, rfl, hb, hB⟩ := hrel
    by_cases hlt : k < 32
    · have hlt1 : (k : Int) < 32 := by omega
      have hc : wr.cell? ⟨w.heap.size, k, none⟩ = some (U32 0#32) := by rw [hb.cell, A32.get _ hlt, if_neg (by omega)]
      have hf := hb.free k
      go_wp2_with (go_at_call 100; refine (bit_any _ _).mono ?_; rintro e w' ⟨rfl, rfl⟩)
      have hb' := hb.set k (U32 (step0 k))
      rw [A32.step] at hb'
      exact ⟨⟨k + 1, by omega, by go_num, hb', hB.setCell (p := ⟨w.heap.size, k, none⟩) (Nat.le_refl _) _⟩, by simp [intOf]; omega⟩
    · rw [A32.ext (fun i hi => if_pos (by omega)) (g := step0)] at hb
      have hlt1 : ¬ (k : Int) < 32 := by omega
      clear hlt hk W0
      go_wp2_with fail
      go_loopw [18] (fun s18 W => ∃ j : Nat, j ≤ 3 ∧ s18 = .int .i64 j ∧ Blk W w.heap.size (A32 32 (sqN j)) 155 ∧ Below w.heap.size w W) (fun s18 _ => 3 - (intOf s18).toNat)
      case atStart => exact ⟨0, by omega, rfl, hb, hB⟩
      case round =>
        clear hb hB
        obtain ⟨j, hj, rfl, hb, hB⟩ := hrel
        by_cases hlt : j < 3
        · have hlt1 : (j : Int) < 3 := by omega
          go_wp2_with (first | (refine wp_loadRow rfl 155 _ rfl _ rfl hb Tryd.underlying155 rfl size155 (A32.size _ _) ?_) | (go_at_call 101; refine (after_any _ _ _).mono ?_; rintro e W1 ⟨rfl, hB1⟩; have hb1 := hb.below hB1 hb.lt; have hB2 := hB.trans (hB1.mono hB.size)) | (refine wp_storeRow rfl 155 _ _ rfl _ rfl rfl hb1 size155 (A32.size _ _) (A32.size _ _) (A32.one _) rfl ?_; intro W2 hu2 hb2))
          exact ⟨⟨j + 1, by omega, by go_num, hb2, hu2.below hB2 (Nat.le_refl _)⟩, by simp [intOf]; omega⟩
        · have hlt2 : ¬ (j : Int) < 3 := by omega
          rw [show sqN j = sqN 3 by rw [show j = 3 by omega]] at hb
          clear hlt hj
          go_wp2_with (first | (go_at_call 102; refine (unit_any _).mono ?_; rintro e W1 ⟨rfl, hB1⟩; have hb1 := (hb.below hB1 hb.lt).alloc (.cells (A32 32 fun _ => 0#32) 155); have hB2 := (hB.trans (hB1.mono hB.size)).alloc (by have := hB.size; have := hB1.size; omega) (.cells (A32 32 fun _ => 0#32) 155); have hsz := hb.lt; have hsz1 := hB1.size) | (refine wp_storeRow rfl 155 _ _ rfl _ rfl rfl (Blk.new _ _ _) size155 (A32.size _ _) (A32.size _ _) (A32.one _) rfl ?_; intro W2 hu2 hb2))
          obtain ⟨B1, hB1e⟩ : ∃ B1, B1 = W1.heap.size := ⟨_, rfl⟩
          rw [← hB1e] at hb2 hu2 hsz1 ⊢
          have hlt1 : w.heap.size < B1 := by omega
          have hb3 := hb1.upd hu2 (by omega)
          have hB3 := hu2.below hB2 (by omega)
          clear hb1 hB2 hu2 hb hB hB1e hsz hsz1
          go_loopw [1] (fun s1 W => ∃ (f m : Nat) (st all : Nat → BitVec 32), s1 = .int .i64 m ∧ m ≤ n ∧ m < 2 ^ f ∧ Blk W w.heap.size (A32 32 st) 155 ∧ Blk W B1 (A32 32 all) 155 ∧ Below w.heap.size w W ∧ shiftGo f m st all = shiftAll n) (fun s1 _ => (intOf s1).toNat)
          case atStart => exact ⟨64, n, _, _, rfl, Nat.le_refl _, by omega, hb3, hb2, hB3, rfl⟩
          case round =>
            clear hb3 hb2 hB3
            obtain ⟨f, m, st, all, rfl, hm, hf, hb1, hb2, hB, hS⟩ := hrel
            have HS := hide hS; clear hS
            have HF := hide hf; clear hf
            by_cases hm0 : 0 < m
            · have hm1 : (0 : Int) < m := by omega
              have hm2 : (m : Int) ≤ 9223372036854775807 := by omega
              obtain ⟨f, rfl⟩ : ∃ f', f = f' + 1 := by
                cases f with
                | zero => have := HF.out; omega
                | succ f => exact ⟨f, rfl⟩
              have hS := HS.out
              rw [shiftGo, if_neg (by omega)] at hS
              by_cases hodd : m % 2 = 1
              · have hbit : (bits BinOp.and IntKind.i64 (m : Int) 1 == 1) = true := by rw [and1_i64 m (by omega), hodd]; rfl
                rw [if_pos hodd] at hS
                have HS2 := hide hS; clear hS hodd
                go_wp2_with (first | (refine wp_loadRow rfl 155 _ rfl w.heap.size rfl hb1 Tryd.underlying155 rfl size155 (A32.size _ _) ?_) | (refine wp_loadRow rfl 155 _ rfl B1 rfl hb2 Tryd.underlying155 rfl size155 (A32.size _ _) ?_) | (go_at_call 101; refine (after_any _ _ _).mono ?_; rintro e W1 ⟨rfl, hB1⟩; replace hb1 := hb1.below hB1 hb1.lt; replace hb2 := hb2.below hB1 hb2.lt; replace hB := hB.trans (hB1.mono hB.size); clear hB1) | (refine wp_storeRow rfl 155 _ _ rfl B1 rfl rfl hb2 size155 (A32.size _ _) (A32.size _ _) (A32.one _) rfl ?_; intro W2 hu hb3; replace hb1 := hb1.upd hu (by omega); replace hB := hu.below hB (by omega); clear hb2; have hb2 := hb3; clear hb3 hu) | (refine wp_storeRow rfl 155 _ _ rfl w.heap.size rfl rfl hb1 size155 (A32.size _ _) (A32.size _ _) (A32.one _) rfl ?_; intro W2 hu hb3; replace hb2 := hb2.upd hu (by omega); replace hB := hu.below hB (by omega); clear hb1; have hb1 := hb3; clear hb3 hu))
                exact ⟨⟨f, m / 2, _, _, by go_num, by omega, by have := HF.out; omega, hb1, hb2, hB, HS2.out⟩, by simp [intOf]; omega⟩
              · have hbit : (bits BinOp.and IntKind.i64 (m : Int) 1 == 1) = false := by rw [and1_i64 m (by omega), show m % 2 = 0 by omega]; rfl
                rw [if_neg hodd] at hS
                have HS2 := hide hS; clear hS hodd
                go_wp2_with (first | (refine wp_loadRow rfl 155 _ rfl w.heap.size rfl hb1 Tryd.underlying155 rfl size155 (A32.size _ _) ?_) | (refine wp_loadRow rfl 155 _ rfl B1 rfl hb2 Tryd.underlying155 rfl size155 (A32.size _ _) ?_) | (go_at_call 101; refine (after_any _ _ _).mono ?_; rintro e W1 ⟨rfl, hB1⟩; replace hb1 := hb1.below hB1 hb1.lt; replace hb2 := hb2.below hB1 hb2.lt; replace hB := hB.trans (hB1.mono hB.size); clear hB1) | (refine wp_storeRow rfl 155 _ _ rfl B1 rfl rfl hb2 size155 (A32.size _ _) (A32.size _ _) (A32.one _) rfl ?_; intro W2 hu hb3; replace hb1 := hb1.upd hu (by omega); replace hB := hu.below hB (by omega); clear hb2; have hb2 := hb3; clear hb3 hu) | (refine wp_storeRow rfl 155 _ _ rfl w.heap.size rfl rfl hb1 size155 (A32.size _ _) (A32.size _ _) (A32.one _) rfl ?_; intro W2 hu hb3; replace hb2 := hb2.upd hu (by omega); replace hB := hu.below hB (by omega); clear hb1; have hb1 := hb3; clear hb3 hu))
                exact ⟨⟨f, m / 2, _, _, by go_num, by omega, by have := HF.out; omega, hb1, hb2, hB, HS2.out⟩, by simp [intOf]; omega⟩
            · have hm1 : ¬ (0 : Int) < m := by omega
              have hall : all = shiftAll n := by
                have h := HS.out
                rw [show m = 0 by omega] at h
                cases f with
                | zero => exact h
                | succ f => rw [shiftGo, if_pos rfl] at h; exact h
              have HA := hide hall; clear hall
              have hgd : Tryd.prog.eqGuardType Tryd.prog.depth 155 = false := by kernel_rfl
              obtain ⟨b, hbe⟩ : ∃ b, eqRow 32 all matUnit = b := ⟨_, rfl⟩
              have heq := eql_A32 (P := Tryd.prog) Tryd.underlying155 size42 Tryd.isAgg42 Tryd.underlying42 all matUnit
              rw [hbe] at heq
              have HBE := hide hbe; clear hbe
              go_wp2_with fail
              refine wp_region_held_drew (S := fun W => Blk W B1 (A32 32 all) 155) (by kernel_rfl) hb2.drew (fun hS => ?_)
              refine wpAnyH_take (i := 0) (v := .agg (A32 32 all)) rfl (by kernel_rfl) (by kernel_rfl) (by kernel_rfl) (fun _ _ _ h => h) (Or.inl ⟨by rfl, fun W hW => run_exec_loadRow _ 155 _ rfl B1 rfl hW Tryd.underlying155 rfl size155 (A32.size _ _)⟩) hS ?_
              refine wpAnyH_ready (rs := [1]) (by kernel_rfl) (by simp) ?_
              refine AllReadyH.cons rfl (fun K hK => ?_) AllReadyH.nil
              go_simp
              refine (unit_any _).mono ?_
              rintro e W1 ⟨rfl, hB1'⟩
              have hB1 : Below wr.heap.size wr W1 := below_undrew hB1'
              clear hB1'
              refine hK.out _ _ (hb2.below hB1 hb2.lt) (fun hb3 => ?_)
              refine wpAnyH_ready (rs := [2]) (by kernel_rfl) (by simp) ?_
              refine AllReadyH.cons rfl (fun K hK => ?_) AllReadyH.nil
              go_simp
              refine hK.out _ _ hb3 (fun _ => ?_)
              refine wpAnyH_done (by kernel_rfl) ?_ _
              have hB2 : Below w.heap.size w W1 := hB.trans (hB1.mono hB.size)
              cases b
              · go_wp2_with (first | (refine wp_loadRow rfl 155 _ rfl B1 rfl hb3 Tryd.underlying155 rfl size155 (A32.size _ _) ?_) | (go_at_call 103; refine (of_any _ _ _).mono ?_; rintro e W3 ⟨rfl, hB3⟩))
                go_ret
                exact ⟨retU32 (by rw [crcShift, ← HA.out, if_neg (by rw [HBE.out]; decide)]), hB2.trans (hB3.mono hB2.size)⟩
              · go_wp2_with fail
                go_ret
                exact ⟨retU32 (by rw [crcShift, ← HA.out, if_pos HBE.out]), hB2⟩
end Go.Proofs.YtdpgebifeaakjaaDoor

/- The walks of the CRC functions: CRC, Zeros, Combine, Patch, Force. -/
namespace Go.Proofs.YtdpgebifeaakjaaDoor
set_option linter.unusedSimpArgs false
set_option linter.unusedVariables false
open Go.RowKit

def crc (l : List (BitVec 8)) : BitVec 32 := crcExt 0#32 l

set_option maxHeartbeats 400000 in
theorem crc_any (s : ByteArray) (w : World) (hs : s.size ≤ maxLen) :
    Calls Tryd.prog 25 #[.string s] w fun e w' => e = .returned (U32 (crc (bts s))) ∧ Below w.heap.size w w' := by
  go_enter Tryd.func25, Tryd.ntmps25
  go_wp2_with (go_at_call 33; refine (extend_any 0#32 _ _ hs).mono ?_; rintro e W ⟨rfl, hB⟩)
  go_ret
  exact ⟨rfl, hB⟩

/-- A word and an error, as the calls return them. -/
def pairV (x : BitVec 32 × Int) : Value := .tuple #[U32 x.1, .int .i64 x.2]
def combineS (a b : BitVec 32) (n : Int) : BitVec 32 × Int := if countedB n = true then (crcShift a n.toNat ^^^ b, 0) else (0#32, 1)
def patchS (c : BitVec 32) (n : Int) (s t : List (BitVec 8)) : BitVec 32 × Int :=
  if s.length = t.length ∧ countedB n = true then (c ^^^ crcShift (crc s ^^^ crc t) n.toNat, 0) else (0#32, 1)

set_option maxHeartbeats 400000 in
theorem combine_any (a b : BitVec 32) (n : Int) (w : World) :
    Calls Tryd.prog 27 #[U32 a, U32 b, .int .i64 n] w fun e w' => e = .returned (pairV (combineS a b n)) ∧ Below w.heap.size w w' := by
  cases hc : countedB n
  · have HC := hide hc
    go_enter Tryd.func27, Tryd.ntmps27
    go_wp2_with (go_at_call 64; refine (counted_any _ _).mono ?_; rintro e W ⟨rfl, rfl⟩)
    go_ret2
    exact ⟨by rw [combineS, if_neg (by rw [HC.out]; decide)]; rfl, Below.refl _ _⟩
  · have hn : 0 ≤ n ∧ n ≤ 1099511627776 := by simpa [countedB] using hc
    obtain ⟨m, rfl⟩ := Int.eq_ofNat_of_zero_le hn.1
    have HC := hide hc
    go_enter Tryd.func27, Tryd.ntmps27
    go_wp2_with (first | (go_at_call 64; refine (counted_any _ _).mono ?_; rintro e W ⟨rfl, rfl⟩) | (go_at_call 65; refine (shift_any _ _ (by omega) _).mono ?_; rintro e W ⟨rfl, hB⟩))
    go_ret2
    exact ⟨by rw [combineS, if_pos HC.out]; rfl, hB⟩

set_option maxHeartbeats 800000 in
theorem patch_any (c : BitVec 32) (n : Int) (s t : ByteArray) (w : World) (hs : s.size ≤ maxLen) (ht : t.size ≤ maxLen) :
    Calls Tryd.prog 28 #[U32 c, .int .i64 n, .string s, .string t] w fun e w' => e = .returned (pairV (patchS c n (bts s) (bts t))) ∧ Below w.heap.size w w' := by
  by_cases hst : s.size = t.size
  · have hb : (((s.size : Nat) : Int) != ((t.size : Nat) : Int)) = false := by simp [hst]
    have HST := hide hst; clear hst
    cases hc : countedB n
    · have HC := hide hc
      go_enter Tryd.func28, Tryd.ntmps28
      go_wp2_with (go_at_call 64; refine (counted_any _ _).mono ?_; rintro e W ⟨rfl, rfl⟩)
      go_ret2
      exact ⟨by rw [patchS, if_neg (fun h => by rw [HC.out] at h; exact absurd h.2 (by decide))]; rfl, Below.refl _ _⟩
    · have hn : 0 ≤ n ∧ n ≤ 1099511627776 := by simpa [countedB] using hc
      obtain ⟨m, rfl⟩ := Int.eq_ofNat_of_zero_le hn.1
      have HC := hide hc
      go_enter Tryd.func28, Tryd.ntmps28
      go_wp2_with (first | (go_at_call 64; refine (counted_any _ _).mono ?_; rintro e W ⟨rfl, rfl⟩) | (go_at_call 65; refine (shift_any _ _ (by omega) _).mono ?_; rintro e W3 ⟨rfl, hB3⟩) | (go_at_call_of 25 s; refine (crc_any s _ hs).mono ?_; rintro e W1 ⟨rfl, hB1⟩) | (go_at_call_of 25 t; refine (crc_any t _ ht).mono ?_; rintro e W2 ⟨rfl, hB2⟩))
      go_ret2
      have h2 := hB1.trans (hB2.mono hB1.size)
      exact ⟨by rw [patchS, if_pos ⟨by rw [bts_length, bts_length]; exact HST.out, HC.out⟩]; rfl, h2.trans (hB3.mono h2.size)⟩
  · have hb : (((s.size : Nat) : Int) != ((t.size : Nat) : Int)) = true := by simp; omega
    have HST := hide hst; clear hst
    go_enter Tryd.func28, Tryd.ntmps28
    go_wp2_with fail
    go_ret2
    exact ⟨by rw [patchS, if_neg (fun h => HST.out (by rw [← bts_length, ← bts_length]; exact h.1))]; rfl, Below.refl _ _⟩

/-- The register followed back by n bits. -/
def crcBack : Nat → BitVec 32 → BitVec 32
  | 0, c => c
  | n + 1, c => let d := crcBack n c; if d >>> 31 == 1#32 then (d ^^^ 0xedb88320#32) <<< 1 ||| 1#32 else d <<< 1
def forceW (c t : BitVec 32) : BitVec 32 := crcBack 32 (~~~t) ^^^ ~~~c
def wordBytes (x : BitVec 32) : List (BitVec 8) := [x.setWidth 8, (x >>> 8).setWidth 8, (x >>> 16).setWidth 8, (x >>> 24).setWidth 8]
set_option maxRecDepth 20000 in
set_option maxHeartbeats 800000 in
theorem force_any (c t : BitVec 32) (w : World) :
    Calls Tryd.prog 35 #[U32 c, U32 t] w fun e w' => e = .returned (.string (strOf (wordBytes (forceW c t)))) ∧ Below w.heap.size w w' := by
  go_enter Tryd.func35, Tryd.ntmps35
  go_wp2_with fail
  go_loop [5, 8] (fun s5 s8 => ∃ k : Nat, k ≤ 32 ∧ s8 = .int .i64 k ∧ s5 = U32 (crcBack k (~~~t))) (fun _ s8 => 32 - (intOf s8).toNat)
  case atStart => exact ⟨0, by omega, rfl, rfl⟩
  case round =>
    obtain ⟨k, hk, rfl, rfl⟩ := hrel
    by_cases hlt : k < 32
    · have hlt1 : (k : Int) < 32 := by omega
      go_wp2_with fail
      · have h : (crcBack k (~~~t) >>> 31 == 1#32) = true := by assumption
        exact ⟨⟨k + 1, by omega, by go_num, by simp only [crcBack]; rw [if_pos h]⟩, by simp [intOf]; omega⟩
      · have h : (crcBack k (~~~t) >>> 31 == 1#32) = false := by assumption
        exact ⟨⟨k + 1, by omega, by go_num, by simp only [crcBack]; rw [if_neg (by rw [h]; decide)]⟩, by simp [intOf]; omega⟩
    · have hlt1 : ¬ (k : Int) < 32 := by omega
      have HK := hide (show k = 32 by omega)
      have hcv : ∀ x0 x1 x2 x3 : BitVec 8, (convert 43 9 (.slice (some ⟨w.heap.size, 0, none⟩) 4 4)).run Tryd.prog (w.alloc (.cells #[U8 x0, U8 x1, U8 x2, U8 x3] 5)) = .ok (.string (strOf [x0, x1, x2, x3])) (w.alloc (.cells #[U8 x0, U8 x1, U8 x2, U8 x3] 5)) := fun x0 x1 x2 x3 =>
        run_bytes_str _ 43 9 5 w.heap.size 0 4 [x0, x1, x2, x3] 4 rfl Tryd.underlying43 Tryd.underlying5 Tryd.underlying9 (fun j hj => by
          rw [(Blk.new w #[U8 x0, U8 x1, U8 x2, U8 x3] 5).cell, Nat.zero_add]
          match j, hj with
          | 0, _ => rfl
          | 1, _ => rfl
          | 2, _ => rfl
          | 3, _ => rfl)
      go_wp2_with fail
      go_ret
      refine ⟨?_, (Below.refl _ _).alloc (Nat.le_refl _) _⟩
      have hf : forceW c t = crcBack k (~~~t) ^^^ ~~~c := by rw [forceW, show crcBack 32 = crcBack k by rw [HK.out]]
      rw [hf]
      simp [wordBytes]
end Go.Proofs.YtdpgebifeaakjaaDoor

/- The plain law of the shift: what the matrices reckon is so many steps of the register. No program in sight. -/
namespace Go.Proofs.YtdpgebifeaakjaaDoor
set_option linter.unusedSimpArgs false
set_option linter.unusedVariables false
open Go.RowKit

/-- The lowest bit's test. -/
theorem low_test (c : BitVec 32) : (c &&& 1#32 == 1#32) = c.getLsbD 0 := by
  have h : (c &&& 1#32).toNat = c.toNat % 2 := by rw [BitVec.toNat_and]; exact Nat.and_one_is_mod _
  have g : c.getLsbD 0 = decide (c.toNat % 2 = 1) := by simp [BitVec.getLsbD, Nat.testBit_zero]
  rw [g]
  by_cases e : c.toNat % 2 = 1
  · have : c &&& 1#32 = 1#32 := BitVec.eq_of_toNat_eq (by rw [h, e]; rfl)
    simp [this, e]
  · have : c &&& 1#32 ≠ 1#32 := fun h' => e (by rw [← h, h']; rfl)
    simp [this, e]

def Lin (f : BitVec 32 → BitVec 32) : Prop := ∀ x y, f (x ^^^ y) = f x ^^^ f y
theorem Lin.zero {f : BitVec 32 → BitVec 32} (h : Lin f) : f 0#32 = 0#32 := by
  have := h 0#32 0#32
  rw [BitVec.xor_self, BitVec.xor_self] at this
  exact this
theorem Lin.comp {f g : BitVec 32 → BitVec 32} (hf : Lin f) (hg : Lin g) : Lin (fun x => f (g x)) := fun x y => by
  show f (g (x ^^^ y)) = _
  rw [hg, hf]
theorem Lin.id : Lin (fun x => x) := fun _ _ => rfl

theorem crcBit_eq (c : BitVec 32) : crcBit c = c >>> 1 ^^^ (if c.getLsbD 0 then 0xedb88320#32 else 0#32) := by
  unfold crcBit
  rw [low_test]
  cases c.getLsbD 0 <;> simp
theorem xor4 (a b c d : BitVec 32) : (a ^^^ b) ^^^ (c ^^^ d) = (a ^^^ c) ^^^ (b ^^^ d) := by
  rw [BitVec.xor_assoc, BitVec.xor_assoc, ← BitVec.xor_assoc b c d, BitVec.xor_comm b c, BitVec.xor_assoc]
theorem crcBit_lin : Lin crcBit := by
  intro x y
  have key : (if (x.getLsbD 0 ^^ y.getLsbD 0) then 0xedb88320#32 else 0#32) = (if x.getLsbD 0 then 0xedb88320#32 else 0#32) ^^^ (if y.getLsbD 0 then 0xedb88320#32 else 0#32) := by
    cases x.getLsbD 0 <;> cases y.getLsbD 0 <;> simp
  rw [crcBit_eq, crcBit_eq, crcBit_eq, BitVec.ushiftRight_xor_distrib, BitVec.getLsbD_xor, key, xor4]
theorem crcBits_lin : ∀ n, Lin (crcBits n)
  | 0 => Lin.id
  | n + 1 => crcBit_lin.comp (crcBits_lin n)

theorem split_low (c : BitVec 32) (i : Nat) : c <<< i = ((c >>> 1) <<< (i + 1)) ^^^ (if c.getLsbD 0 then 1#32 <<< i else 0#32) := by
  apply BitVec.eq_of_getLsbD_eq
  intro j hj
  rw [BitVec.getLsbD_xor, BitVec.getLsbD_shiftLeft, BitVec.getLsbD_shiftLeft, BitVec.getLsbD_ushiftRight]
  have hb : (if c.getLsbD 0 = true then 1#32 <<< i else 0#32).getLsbD j = (c.getLsbD 0 && decide (j = i)) := by
    cases c.getLsbD 0
    · simp
    · simp only [if_true, Bool.true_and, BitVec.getLsbD_shiftLeft, hj, decide_true]
      by_cases e : j = i
      · subst e; simp
      · by_cases l : j < i
        · simp [l, e]
        · have : j - i ≠ 0 := by omega
          simp [l, e, BitVec.getLsbD_one, this]
  rw [hb]
  simp only [hj, decide_true, Bool.true_and]
  by_cases e : j = i
  · subst e
    simp
  · by_cases l : j < i
    · have l2 : j < i + 1 := by omega
      simp [l, l2, e]
    · have l2 : ¬ j < i + 1 := by omega
      have l3 : 1 + (j - (i + 1)) = j - i := by omega
      simp [l, l2, e, l3]

/-- The matrix m is the map f. -/
structure Rep (m : Nat → BitVec 32) (f : BitVec 32 → BitVec 32) : Prop where
  lin : Lin f
  at_ : ∀ i, i < 32 → m i = f (1#32 <<< i)
theorem Rep.go {m : Nat → BitVec 32} {f : BitVec 32 → BitVec 32} (h : Rep m f) : ∀ (n i : Nat) (c x : BitVec 32), n + i = 32 → matGo m n i c x = x ^^^ f (c <<< i)
  | 0, i, c, x, e => by
    have : c <<< i = 0#32 := by
      rw [show i = 32 by omega]
      exact BitVec.shiftLeft_eq_zero (by decide)
    rw [matGo, this, h.lin.zero, BitVec.xor_zero]
  | n + 1, i, c, x, e => by
    rw [matGo, Rep.go h n (i + 1) _ _ (by omega), split_low c i, h.lin, low_test]
    cases c.getLsbD 0
    · simp [h.lin.zero]
    · simp only [if_true]
      rw [h.at_ i (by omega), BitVec.xor_assoc, BitVec.xor_comm (f (1#32 <<< i))]
theorem Rep.of {m : Nat → BitVec 32} {f : BitVec 32 → BitVec 32} (h : Rep m f) (c : BitVec 32) : matOf m c = f c := by
  rw [matOf, h.go 32 0 c 0#32 (by decide), BitVec.zero_xor, BitVec.shiftLeft_zero]
theorem Rep.after {m n : Nat → BitVec 32} {f g : BitVec 32 → BitVec 32} (h : Rep m f) (k : Rep n g) : Rep (matAfter m n) (fun x => f (g x)) :=
  ⟨h.lin.comp k.lin, fun i hi => by rw [matAfter, h.of, k.at_ i hi]⟩
theorem Rep.unit : Rep matUnit (fun x => x) := ⟨Lin.id, fun _ _ => rfl⟩
theorem Rep.step : Rep step0 (crcBits 1) := ⟨crcBits_lin 1, fun _ _ => rfl⟩
theorem crcBits_add (a b : Nat) (x : BitVec 32) : crcBits (a + b) x = crcBits a (crcBits b x) := by
  induction a with
  | zero => rw [Nat.zero_add]; rfl
  | succ a ih => rw [Nat.succ_add]; show crcBit (crcBits (a + b) x) = crcBit (crcBits a (crcBits b x)); rw [ih]
theorem Rep.congr {m : Nat → BitVec 32} {f g : BitVec 32 → BitVec 32} (h : Rep m f) (e : ∀ x, f x = g x) : Rep m g := by
  have : f = g := funext e
  exact this ▸ h
theorem Rep.sq {m : Nat → BitVec 32} {a : Nat} (h : Rep m (crcBits a)) : Rep (Go.Proofs.YtdpgebifeaakjaaDoor.sq m) (crcBits (2 * a)) :=
  (h.after h).congr fun x => by rw [Nat.two_mul, crcBits_add]
theorem Rep.shiftGo : ∀ (f n : Nat) (step all : Nat → BitVec 32) (a b : Nat), n < 2 ^ f → Rep step (crcBits a) → Rep all (crcBits b) → Rep (Go.Proofs.YtdpgebifeaakjaaDoor.shiftGo f n step all) (crcBits (a * n + b))
  | 0, n, step, all, a, b, hn, h, k => by
    have : n = 0 := by simpa using hn
    subst this
    rw [Go.Proofs.YtdpgebifeaakjaaDoor.shiftGo, Nat.mul_zero, Nat.zero_add]
    exact k
  | f + 1, n, step, all, a, b, hn, h, k => by
    rw [Go.Proofs.YtdpgebifeaakjaaDoor.shiftGo]
    by_cases h0 : n = 0
    · rw [if_pos h0, h0, Nat.mul_zero, Nat.zero_add]; exact k
    · rw [if_neg h0]
      have hn2 : n / 2 < 2 ^ f := by rw [Nat.pow_succ] at hn; omega
      have hs : Rep (matAfter step step) (crcBits (2 * a)) := h.sq
      by_cases h1 : n % 2 = 1
      · rw [if_pos h1]
        have hk : Rep (matAfter step all) (crcBits (a + b)) := (h.after k).congr fun x => by rw [crcBits_add]
        have := Rep.shiftGo f (n / 2) _ _ (2 * a) (a + b) hn2 hs hk
        have e : 2 * a * (n / 2) + (a + b) = a * n + b := by
          have : n = 2 * (n / 2) + 1 := by omega
          calc 2 * a * (n / 2) + (a + b) = a * (2 * (n / 2) + 1) + b := by rw [Nat.mul_add, Nat.mul_one, Nat.mul_comm 2 a, Nat.mul_assoc]; omega
            _ = a * n + b := by rw [← this]
        rw [e] at this
        exact this
      · rw [if_neg h1]
        have := Rep.shiftGo f (n / 2) _ _ (2 * a) b hn2 hs k
        have e : 2 * a * (n / 2) + b = a * n + b := by
          have : n = 2 * (n / 2) := by omega
          calc 2 * a * (n / 2) + b = a * (2 * (n / 2)) + b := by rw [Nat.mul_comm 2 a, Nat.mul_assoc]
            _ = a * n + b := by rw [← this]
        rw [e] at this
        exact this
theorem shiftAll_rep (n : Nat) (hn : n < 2 ^ 64) : Rep (shiftAll n) (crcBits (8 * n)) := by
  have h8 : Rep (Go.Proofs.YtdpgebifeaakjaaDoor.sq (Go.Proofs.YtdpgebifeaakjaaDoor.sq (Go.Proofs.YtdpgebifeaakjaaDoor.sq step0))) (crcBits 8) := Rep.step.sq.sq.sq
  exact Rep.shiftGo 64 n _ _ 8 0 hn h8 Rep.unit
/-- The shift by n bytes is 8 n steps of the register. -/
theorem crcShift_eq (c : BitVec 32) (n : Nat) (hn : n < 2 ^ 64) : crcShift c n = crcBits (8 * n) c := by
  have h := shiftAll_rep n hn
  unfold crcShift
  by_cases e : eqRow 32 (shiftAll n) matUnit = true
  · rw [if_pos e]
    have hu : Rep matUnit (crcBits (8 * n)) := ⟨h.lin, fun i hi => by rw [← h.at_ i hi, (eqRow_iff 32 _ _).1 e i hi]⟩
    rw [← hu.of c, Rep.unit.of c]
  · rw [if_neg e, h.of c]
end Go.Proofs.YtdpgebifeaakjaaDoor

/- The plain law of the CRC register: a byte is eight steps; linear; a burst of at most 32 bits turns it. No program in sight. -/
namespace Go.Proofs.YtdpgebifeaakjaaDoor
set_option linter.unusedSimpArgs false
set_option linter.unusedVariables false

end Go.Proofs.YtdpgebifeaakjaaDoor

/- The plain laws of CRC-32: byte sequences one behind the other, zeros, exclusive or, replacement. No program in sight. -/
namespace Go.Proofs.YtdpgebifeaakjaaDoor
set_option linter.unusedSimpArgs false
set_option linter.unusedVariables false

end Go.Proofs.YtdpgebifeaakjaaDoor

/- The walk of xor: the exclusive or of two byte sequences. -/
namespace Go.Proofs.YtdpgebifeaakjaaDoor
set_option linter.unusedSimpArgs false
set_option linter.unusedVariables false
open Go.RowKit

end Go.Proofs.YtdpgebifeaakjaaDoor

/- One byte appended to a slice of bytes of the call's own, whether a conversion made it or not. -/
namespace Go.Proofs.YtdpgebifeaakjaaDoor
set_option linter.unusedSimpArgs false
set_option linter.unusedVariables false
open Go.RowKit

/-- v is a slice of the bytes l, in a block behind base. -/
def Rw (W : World) (base : Nat) (v : Value) (l : List (BitVec 8)) : Prop :=
  ∃ g cap C fz, v = .slice (some ⟨g, 0, none⟩) l.length cap ∧ base ≤ g ∧ l.length ≤ cap ∧ W.heap[g]? = some (.cells C 5 fz) ∧ C.size = cap ∧ (fz = (0, 0) ∨ cap ≤ fz.1) ∧ ∀ j, j < l.length → C[j]? = some (U8 (l.getD j 0#8))
theorem Rw.below {W W' : World} {base : Nat} {v : Value} {l : List (BitVec 8)} (h : Rw W base v l) (hb : Below W.heap.size W W') : Rw W' base v l := by
  obtain ⟨g, cap, C, fz, h1, h2, h3, h4, h5⟩ := h
  exact ⟨g, cap, C, fz, h1, h2, h3, (hb.block g (Array.getElem?_eq_some_iff.1 h4).1).trans h4, h5⟩
theorem Rw.drew {W : World} {base : Nat} {v : Value} {l : List (BitVec 8)} (h : Rw W base v l) : Rw W.drew base v l := h
theorem Rw.alloc {W : World} {base : Nat} {v : Value} {l : List (BitVec 8)} (h : Rw W base v l) (o : Obj) : Rw (W.alloc o) base v l := h.below ((Below.refl _ _).alloc (Nat.le_refl _) o)
theorem Rw.conv (w : World) (s : ByteArray) : Rw (Lib.bytesWorld w 5 s) w.heap.size (.slice (some ⟨w.heap.size, 0, none⟩) s.size (grownCap w s.size 0 5)) (bts s) := by
  have hge := grownCap_ge w s.size 0 5
  have hz : (Lib.bytesCells w 5 s).size = grownCap w s.size 0 5 := by
    have e : s.data.size = s.size := rfl
    simp [Lib.bytesCells, e]
    omega
  refine ⟨w.heap.size, grownCap w s.size 0 5, _, _, by rw [bts_length], Nat.le_refl _, by rw [bts_length]; exact hge, Lib.bytesWorld_at_new w 5 s, hz, .inr (by rw [hz]; exact Nat.le_refl _), fun j hj => ?_⟩
  obtain ⟨C, h1, h2, h3⟩ := Byt.new w s
  rw [Lib.bytesWorld_at_new] at h1
  have h4 : C = Lib.bytesCells w 5 s := by
    have := Option.some.inj h1
    injection this with a b c
    exact a.symm
  rw [← h4, h3 j (by rw [bts_length] at hj; exact hj)]
  rfl
theorem wp_append_rw {P : Program} {ops : Array Oper} {rest : List Oper} {o : Oper} {a : Act} {w : World} {Q : Exit → Act → World → Prop} (hgd : o.guard = none)
    (s x : Operand) (t : TypeId) (hop : o.op = Op.call { callee := Callee.builtin Builtin.append, args := #[s, x], argTypes := #[t, t] })
    (ht : P.underlying t = some (.slice 5)) (hi1 : (P.info? 5).map (fun i => (i.zero, i.size, i.bytes)) = some (some (.int .u8 0), 1, 1))
    {v : Value} {base : Nat} {l : List (BitVec 8)} (hs : a.eval s = v) (hrow : Rw w base v l) (bx c : Nat) (hx : a.eval x = .slice (some ⟨bx, 0, none⟩) 1 c) {y : BitVec 8} (hy : w.cell? ⟨bx, 0, none⟩ = some (U8 y))
    (hlen : l.length ≤ 1000000) (hbase : base ≤ w.heap.size)
    (h : ∀ v' w', Rw w' base v' (l ++ [y]) → Below base w w' → wpList P ops Q rest (a.put o.dst v') w') :
    wpList P ops Q (o :: rest) a w := by
  obtain ⟨i0, hi, hz0, hz1, hz2⟩ := info_parts hi1
  obtain ⟨g, cap, C, fz, rfl, hg, hlc, hC, hCs, hfz, hcell⟩ := hrow
  have hcl : ∀ j, w.cell? ⟨g, j, none⟩ = C[j]? := fun j => by simp [World.cell?, hC]
  refine wpList_append_arg w hgd s x t hop 5 i0 (.int .u8 0) 1 1 ht hi hz0 hz1 hz2 rfl (by omega) g 0 l.length cap (l.map U8) hs (by simp) (fun j u hj => ?_) ⟨bx, 0, none⟩ 1 c [U8 y] hx rfl (fun j u hj => ?_) (by simp [Value.oneCell']) (fun hr j hj => ?_) (by unfold maxLen; omega) (by omega) (fun hr => ?_) (fun hr v' w' hown hgr => ?_)
  · rw [List.getElem?_map, Option.map_eq_some_iff] at hj
    obtain ⟨z, hz, rfl⟩ := hj
    have hjl : j < l.length := (List.getElem?_eq_some_iff.1 hz).1
    rw [Nat.zero_add, hcl, hcell j hjl, List.getD, hz]
    rfl
  · match j, hj with
    | 0, hj =>
      have hj' : U8 y = u := by simpa using hj
      subst hj'
      rw [Addr.add_zero']; exact hy
  · have hj0 : j = 0 := by simpa using hj
    subst hj0
    rw [hcl]
    refine ⟨by simp; omega, ?_⟩
    rcases hfz with rfl | hfz
    · simp [World.frozen?, hC]
    · obtain ⟨lo, hi'⟩ := fz
      simp only [World.frozen?, hC]
      have : lo ≥ cap := hfz
      simp
      omega
  · have e : w.setCells g (0 + l.length * 1) [U8 y] = w.setCell ⟨g, l.length, none⟩ (U8 y) := by
      rw [World.setCells, World.setCells, Nat.zero_add, Nat.mul_one]
    rw [e]
    refine h _ _ ⟨g, cap, C.setIfInBounds l.length (U8 y), fz, by simp, hg, by simp; omega, by simp [World.setCell, Array.getElem?_modify, hC], by simpa using hCs, hfz, fun j hj => ?_⟩ ((Below.refl base w).setCell (p := ⟨g, l.length, none⟩) hg _)
    rw [List.length_append] at hj
    rw [Array.getElem?_setIfInBounds]
    by_cases e : l.length = j
    · subst e
      rw [if_pos rfl, if_pos (by omega)]
      simp [List.getD]
    · have hj2 : j < l.length := by simp at hj; omega
      rw [if_neg e, hcell j hj2]
      simp [List.getD, List.getElem?_append_left hj2]
  · obtain ⟨hl, ⟨_, hn⟩ | ⟨g', cap', cur, rfl, hb', hh, h1, h2, h3, h4⟩⟩ := hown
    · omega
    · refine h _ _ ⟨g', cap', cur, (0, 0), by simp, by omega, by simp; omega, hh, by omega, .inl rfl, fun j hj => ?_⟩ ((Below.refl base w).grown hgr hbase (fun q e => by cases e))
      have e : (cur.toList.take ((l.length + 1) * 1))[j]? = (l.map U8 ++ [U8 y])[j]? := by rw [h4]
      rw [List.length_append] at hj
      have hj1 : j < l.length + 1 := by simpa using hj
      rw [List.getElem?_take_of_lt (by omega), Array.getElem?_toList] at e
      rw [e]
      have e3 : l.map U8 ++ [U8 y] = (l ++ [y]).map U8 := by simp
      rw [e3, List.getElem?_map, List.getD, List.getElem?_eq_getElem (by simp; omega)]
      rfl
end Go.Proofs.YtdpgebifeaakjaaDoor

/- Bits; the iterator cover; regions in a round; counting ones. -/

/- The walks of bits.Len and bits.TrailingZeros: after the library's own contracts, at this program. -/
namespace Go.Proofs.YtdpgebifeaakjaaDoor
set_option linter.unusedSimpArgs false
set_option linter.unusedVariables false
open Go.RowKit

theorem len8_at (k : Nat) (h : k < Lib.len8tab.size) : (Lib.len8tab[k]).toNat = Lib.bitLen k ∧ Lib.bitLen k ≤ 8 := by
  have h' : k < 256 := by rw [Lib.len8tab_size] at h; exact h
  have e := Lib.len8_of (k : Int) (by omega) (by omega)
  rw [Lib.len8, Int.toNat_natCast, getElem?_pos Lib.len8tab k h, Option.getD_some] at e
  exact ⟨Int.ofNat.inj e, Lib.bitLen_le8 ⟨k, h'⟩⟩

theorem lt64 (n : Nat) (h : (n : Int) ≤ 18446744073709551615) : n < 2 ^ 64 := by
  have : (2:Nat) ^ 64 = 18446744073709551616 := rfl
  omega
theorem d1 (n a : Nat) : ((n : Int) / (a : Int)).toNat = n / a := by rw [← Int.natCast_ediv, Int.toNat_natCast]
theorem d2 (n a b : Nat) : ((n : Int) / (a : Int) / (b : Int)).toNat = n / (a * b) := by
  rw [← Int.natCast_ediv, ← Int.natCast_ediv, Int.toNat_natCast, Nat.div_div_eq_div_mul]
theorem d3 (n a b c : Nat) : ((n : Int) / (a : Int) / (b : Int) / (c : Int)).toNat = n / (a * b * c) := by
  rw [← Int.natCast_ediv, ← Int.natCast_ediv, ← Int.natCast_ediv, Int.toNat_natCast, Nat.div_div_eq_div_mul, Nat.div_div_eq_div_mul, Nat.mul_assoc]
theorem wrap_sum (k b : Nat) (hk : k ≤ 56) (hb : b ≤ 8) : wrap64 ((k : Int) + wrap64 (b : Int)) = ((k + b : Nat) : Int) := by
  have e1 : wrap64 (b : Int) = b := by unfold wrap64; omega
  rw [e1]
  unfold wrap64; omega
theorem len_fin (k q n : Nat) (m : Nat) (e : m = n / q) (h : m < Lib.len8tab.size) (hq : q = 2 ^ k) (hk : k ≤ 56) (hn : n < 2 ^ 64) (hge : q ≤ n) :
    wrap64 ((k : Int) + wrap64 ((Lib.len8tab[m]'h).toNat : Int)) = (Lib.bitLen n : Int) := by
  obtain ⟨l1, l2⟩ := len8_at m h
  rw [l1, wrap_sum k _ hk l2, Lib.bitLen_shift k n (hq ▸ hge) hn, e, hq]
theorem len_fin0 (n m : Nat) (e : m = n) (h : m < Lib.len8tab.size) :
    wrap64 (wrap64 ((Lib.len8tab[m]'h).toNat : Int)) = (Lib.bitLen n : Int) := by
  subst e
  obtain ⟨l1, l2⟩ := len8_at m h
  rw [l1]
  have e1 : wrap64 (Lib.bitLen m : Int) = Lib.bitLen m := by unfold wrap64; omega
  rw [e1, e1]

set_option maxHeartbeats 4000000 in
set_option maxRecDepth 100000 in
theorem len64_any (x : Int) (w : World) (h0 : 0 ≤ x) (h1 : x ≤ 18446744073709551615) :
    Calls Tryd.prog 121 #[.int .u64 x] w fun e w' => e = .returned (.int .i64 (Lib.bitLen x.toNat)) ∧ w' = w := by
  have t9 := Tryd.underlying9
  have hz := Lib.len8tab_size
  go_enter Tryd.func121, Tryd.ntmps121
  go_wp2
  all_goals (go_ret; refine ⟨congrArg Ending.returned (congrArg (Value.int IntKind.i64) ?_), rfl⟩)
  all_goals obtain ⟨n, rfl⟩ : ∃ n : Nat, x = n := ⟨x.toNat, by omega⟩
  all_goals have h1' : n < 2 ^ 64 := lt64 n h1
  · exact len_fin 56 72057594037927936 n _ (d3 n 4294967296 65536 256) _ rfl (by decide) h1' (by omega)
  · exact len_fin 48 281474976710656 n _ (d2 n 4294967296 65536) _ rfl (by decide) h1' (by omega)
  · exact len_fin 40 1099511627776 n _ (d2 n 4294967296 256) _ rfl (by decide) h1' (by omega)
  · exact len_fin 32 4294967296 n _ (d1 n 4294967296) _ rfl (by decide) h1' (by omega)
  · exact len_fin 24 16777216 n _ (d2 n 65536 256) _ rfl (by decide) h1' (by omega)
  · exact len_fin 16 65536 n _ (d1 n 65536) _ rfl (by decide) h1' (by omega)
  · exact len_fin 8 256 n _ (d1 n 256) _ rfl (by decide) h1' (by omega)
  · exact len_fin0 n _ (Int.toNat_natCast n) _

set_option maxHeartbeats 4000000 in
set_option maxRecDepth 100000 in
theorem len_any (x : Int) (w : World) (h0 : 0 ≤ x) (h1 : x ≤ 18446744073709551615) :
    Calls Tryd.prog 98 #[.int .u64 x] w fun e w' => e = .returned (.int .i64 (Lib.bitLen x.toNat)) ∧ w' = w := by
  have c := len64_any x w h0 h1
  have hw : IntKind.u64.wrap x = x := by rw [IntKind.wrap_u64]; omega
  go_enter Tryd.func98, Tryd.ntmps98
  go_wp2_with (go_at_call 121; refine c.mono ?_; rintro e w' ⟨rfl, hw'⟩; rw [hw'])
  go_ret
  exact ⟨rfl, rfl⟩
end Go.Proofs.YtdpgebifeaakjaaDoor

/- The walk of bits.TrailingZeros: after the library's own contract, at this program. -/
namespace Go.Proofs.YtdpgebifeaakjaaDoor
set_option linter.unusedSimpArgs false
set_option linter.unusedVariables false
open Go.RowKit

set_option maxHeartbeats 1000000 in
set_option maxRecDepth 20000 in
theorem tz64_core (x k idx : Nat) (w : World) (hx0 : ((x : Int) == 0) = false)
    (key : IntKind.u64.wrap (bits BinOp.and IntKind.u64 (x : Int) (IntKind.u64.wrap (-(x : Int))) * 285870213051353865) / 288230376151711744 = (idx : Int))
    (hi : idx < 64) (hk : k < 64) (hcell : w.cell? ⟨3, idx, none⟩ = some (.int .u8 k)) :
    Calls Tryd.prog 123 #[.int .u64 x] w fun e w' => e = .returned (.int .i64 k) ∧ w' = w := by
  go_enter Tryd.func123, Tryd.ntmps123
  go_wp2_with (simp only [key])
  go_ret
  exact ⟨rfl, rfl⟩

set_option maxHeartbeats 1000000 in
set_option maxRecDepth 20000 in
theorem tz64_zero' (w : World) :
    Calls Tryd.prog 123 #[.int .u64 0] w fun e w' => e = .returned (.int .i64 64) ∧ w' = w := by
  go_enter Tryd.func123, Tryd.ntmps123
  go_wp2
  go_ret
  exact ⟨rfl, rfl⟩

theorem tz64_any (x : Nat) (hx : x < 18446744073709551616) (w : World) (hT : TabAt 3 Lib.deBruijn64tab w) :
    Calls Tryd.prog 123 #[.int .u64 x] w fun e w' => e = .returned (.int .i64 (Lib.ctz 64 x)) ∧ w' = w := by
  by_cases hx0 : x = 0
  · subst hx0
    exact tz64_zero' w
  · obtain ⟨hlow, hk⟩ := Lib.lowest_bit 64 x hx0 hx
    obtain ⟨hi, htab⟩ := Lib.deBruijn64_at _ hk
    have hcell := hT _ hi
    rw [htab] at hcell
    exact tz64_core x _ _ w (by simp; omega) (tz64_key x _ hx hx0 hlow) hi hk hcell

theorem tz_any (x : Nat) (hx : x < 18446744073709551616) (w : World) (hT : TabAt 3 Lib.deBruijn64tab w) :
    Calls Tryd.prog 99 #[.int .u64 x] w fun e w' => e = .returned (.int .i64 (Lib.ctz 64 x)) ∧ w' = w := by
  have c64 := tz64_any x hx w hT
  have hw : IntKind.u64.wrap (x : Int) = (x : Int) := by rw [IntKind.wrap_u64]; omega
  go_enter Tryd.func99, Tryd.ntmps99
  go_wp2_with (go_at_call 123; refine c64.mono ?_; rintro e w' ⟨rfl, hw'⟩; rw [hw'])
  go_ret
  exact ⟨rfl, rfl⟩
end Go.Proofs.YtdpgebifeaakjaaDoor

/- A range over an iterator that counts in a cell of its own: the contract, and the law for a body that always goes on. -/
namespace Go.Proofs.YtdpgebifeaakjaaDoor
set_option linter.unusedSimpArgs false
set_option linter.unusedVariables false
open Go.RowKit

variable {F : Fence} {n : Nat} {P : Program}

/-- Blocks of the set lie as they lay. -/
def KeepsB (K : Nat → Prop) (W W' : World) : Prop := ∀ k, K k → W'.heap[k]? = W.heap[k]?
theorem KeepsB.refl (K : Nat → Prop) (W : World) : KeepsB K W W := fun _ _ => rfl
theorem KeepsB.trans {K : Nat → Prop} {A B C : World} (h : KeepsB K A B) (k : KeepsB K B C) : KeepsB K A C := fun i hi => (k i hi).trans (h i hi)

/-- The iterator, at captured values lb, hands on xs, in its order; its own counter lies in block Ba; the blocks K must be kept by each round. -/
def SeqC {α : Type} (F : Fence) (n : Nat) (P : Program) (gf : Nat) (lb : Array Value) (encs : α → Array Value) (Ba : Nat) (K : Nat → Prop) (xs : List α) (w : World) : Prop :=
  ∀ (l : Nat) (J : List α → World → Prop) (W : World), Below w.heap.size w W → (∀ s W v, J s W → J s (W.setCell ⟨Ba, 0, none⟩ v)) →
    (∀ pre x W1, J pre W1 → (∃ post, xs = pre ++ x :: post) → YieldAt F (n - 1) P l (encs x) W1 fun e W' => e = .returned (.bool true) ∧ J (pre ++ [x]) W' ∧ KeepsB K W1 W') →
    J [] W →
    CallsIn F n P gf (#[.func (.yield l) #[] #[]] ++ lb) W fun e W' => (∃ v, e = .returned v) ∧ J xs W'

/-- What a step of the loop's own may turn: the iterator's counter; what is no cells, from B on. -/
structure OwnC {β : Type} (B Ba : Nat) (I : β → World → Prop) : Prop where
  own : OwnFrom B I
  set : ∀ s W v, I s W → I s (W.setCell ⟨Ba, 0, none⟩ v)

theorem OwnC.putObj {β : Type} {B Ba : Nat} {I : β → World → Prop} (h : OwnC B Ba I) {s : β} {W : World} {l : Nat} {o : Obj} (o' : Obj) (hs : I s W) (hB : B ≤ l) (hl : W.heap[l]? = some o) (ho : o.isCells = false) : I s (W.putObj l o') :=
  h.own.putObj o' hs hB hl ho
theorem OwnC.alloc {β : Type} {B Ba : Nat} {I : β → World → Prop} (h : OwnC B Ba I) {s : β} {W : World} (o : Obj) (hs : I s W) : I s (W.alloc o) := h.own.alloc o hs
theorem grownBy_setCell (W : World) (a : Addr) (v : Value) : W.grownBy (W.setCell a v) (some a.block) :=
  ⟨rfl, rfl, rfl, by simp [World.setCell], fun k _ hk => Below.heap_setCell _ _ _ _ (fun e => hk (by rw [e]))⟩
theorem OwnC.setCell {β : Type} {B Ba : Nat} {I : β → World → Prop} (h : OwnC B Ba I) {s : β} {W : World} (v : Value) (hs : I s W) : I s (W.setCell ⟨Ba, 0, none⟩ v) := h.set s W v hs

/-- How the body of a round ends: it goes on. -/
def onPost {α : Type} (B : Nat) (K : Nat → Prop) (I : List α → World → Prop) (xs : List α) (W : World) : Exit → Act → World → Prop
  | .normal, _, W' => KeepsFrom B W W' ∧ KeepsB K W W' ∧ I xs W'
  | _, _, _ => False

theorem wpIn_rangeC {α : Type} {g : Operand} {ps : Array Tmp} {assign body : Code} {Q : Exit → Act → World → Prop} {a : Act} {w : World}
    (hro : F.round = none) (h1 : 1 ≤ n) {gf : Nat} {lb : Array Value} (hg : a.eval g = .func (.func gf) #[] lb) (hFg : F.fn gf) (eg : ∀ args w, (callFunc gf args).run P w = .ok (.enter gf args) w)
    {encs : α → Array Value} {Ba : Nat} {K : Nat → Prop} {xs : List α} (hseq : SeqC F (n - 1) P gf lb encs Ba K xs w) (hBa : Ba < w.heap.size) (hK : ∀ k, K k → k < w.heap.size)
    (hps : ∀ x, (encs x).size = ps.size)
    (I : List α → World → Prop) (hI : OwnC w.heap.size Ba I) (h0 : I [] w) (Ax : α → Act → World → Prop) (hAx : ∀ x a', OwnC w.heap.size Ba (fun (_ : Unit) W => Ax x a' W))
    (hassign : ∀ (l : Nat) (pre : List α) (x : α) (W : World) (C : Act → World → Prop), I pre W → (∃ post, xs = pre ++ x :: post) →
      (∀ a' W', KeepsFrom w.heap.size W W' → KeepsB K W W' → I pre W' → Ax x a' W' → C a' W') →
      assign.wpIn (F.inRound l) (n - 1 - 1) P (Exit.then C (fun _ _ _ => False)) { tmps := (ps.zip (encs x)).foldl (fun t (p, v) => t.setIfInBounds p v) a.tmps, defers := [] } W)
    (hbody : ∀ (l : Nat) (pre : List α) (x : α) (a' : Act) (W : World), I pre W → Ax x a' W → (∃ post, xs = pre ++ x :: post) →
      body.wpIn (F.inRound l) (n - 1 - 1) P (onPost w.heap.size K I (pre ++ [x]) W) a' W)
    (hdone : ∀ (D : Nat) (W : World), w.heap.size ≤ D → I xs W → W.heap[D]? = some (.deferred (some [])) → Q .normal { a with defers := { target := .collected D, args := #[] } :: a.defers } W) :
    (Code.rangeFunc g ps assign body).wpIn F n P Q a w := by
  refine wpIn_rangeFunc fun fn hfn => ?_
  rw [hro]
  obtain ⟨rec, hrec⟩ : ∃ rec : LoopState → Option Code → Loop, rec = fun st pe => { state := st, pending := pe, fn, tmps := a.tmps, params := ps, assign, body, defers := w.heap.size } := ⟨_, rfl⟩
  obtain ⟨W1, hW1⟩ : ∃ W1, (w.alloc (.deferred (some []))).alloc (.loop (rec .ready none)) = W1 := ⟨_, rfl⟩
  have hL1 : W1.heap[w.heap.size + 1]? = some (.loop (rec .ready none)) := by
    rw [← hW1]; have := World.alloc_heap_new (w.alloc (.deferred (some []))) (.loop (rec .ready none)); rwa [World.size_alloc] at this
  have hD1 : W1.heap[w.heap.size]? = some (.deferred (some [])) := by
    rw [← hW1]; exact (Below.heap_alloc _ _ _ (by simp)).trans (World.alloc_heap_new w _)
  have hI1 : I [] W1 := by rw [← hW1]; exact hI.alloc _ (hI.alloc _ h0)
  have hb1 : Below w.heap.size w W1 := by
    rw [← hW1]; exact ((Below.refl _ w).alloc (Nat.le_refl _) _).alloc (by simp) _
  have other : ∀ (W : World) (k : Nat), w.heap.size ≤ k → ∀ v, (W.setCell ⟨Ba, 0, none⟩ v).heap[k]? = W.heap[k]? := fun W k hk v => Below.heap_setCell _ _ _ _ (by simp; omega)
  have hKb : ∀ (W : World) (o' : Obj), KeepsB K W (W.putObj (w.heap.size + 1) o') := fun W o' k hk => World.putObj_heap_other (by have := hK k hk; omega)
  refine ⟨w.heap.size + 1, [{ target := .collected w.heap.size, args := #[] }], W1, { target := .fn (.func gf) lb, args := #[.func (.yield (w.heap.size + 1)) #[] #[]] }, W1, gf,
    #[.func (.yield (w.heap.size + 1)) #[] #[]] ++ lb, W1, ?_, ?_, ?_, ?_, fun _ => h1, ?_⟩
  · rw [← hW1, hrec]; exact run_enterLoop_outer _ _ _ _ _
  · simp only [resolve, hg]
    simp [go_sem]
  · intro f' hf'; simp [Target.leads] at hf'; subst hf'; exact hFg
  · simp [invoke, go_sem, eg]
  refine (hseq (w.heap.size + 1)
    (fun pre W => I pre W ∧ W.heap[w.heap.size + 1]? = some (.loop (rec .ready none)) ∧ W.heap[w.heap.size]? = some (.deferred (some [])))
    W1 hb1 (fun s W v hs => ⟨hI.setCell v hs.1, (other W _ (by omega) v).trans hs.2.1, (other W _ (Nat.le_refl _) v).trans hs.2.2⟩) ?_ ⟨hI1, hL1, hD1⟩).mono ?_
  · rintro pre x W ⟨hi, hl, hk⟩ hx
    have hy := run_yield (P := P) (args := encs x) hl (by rw [hrec]; exact hps x)
    rw [hrec] at hy
    refine ⟨fn, _, assign, body, hy, roundIn_of_wpIn hfn (hassign _ pre x W _ hi hx ?_)⟩
    clear hy
    intro a' Wa hkf hkk hia hax
    have hl' := hkf.same _ _ (by omega) hl rfl
    have hk' := hkf.same _ _ (Nat.le_refl _) hk rfl
    have hlt : w.heap.size + 1 < Wa.heap.size := (Array.getElem?_eq_some_iff.1 hl').1
    refine ⟨_, run_beginRound hl' (by rw [hrec]), ?_⟩
    obtain ⟨Wb, hWb⟩ : ∃ Wb, Wa.putObj (w.heap.size + 1) (.loop { rec .ready none with state := .busy }) = Wb := ⟨_, rfl⟩
    rw [hWb]
    have hlb : Wb.heap[w.heap.size + 1]? = some (.loop { rec .ready none with state := .busy }) := by rw [← hWb]; exact World.putObj_heap_same hlt
    have hkb : Wb.heap[w.heap.size]? = some (.deferred (some [])) := by rw [← hWb]; exact (World.putObj_heap_other (by omega)).trans hk'
    have hib : I pre Wb := by rw [← hWb]; exact hI.putObj _ hia (by omega) hl' rfl
    have haxb : Ax x a' Wb := by rw [← hWb]; exact (hAx x a').putObj (s := ()) _ hax (by omega) hl' rfl
    have hkkb : KeepsB K W Wb := by rw [← hWb]; exact hkk.trans (hKb _ _)
    refine wpIn_mono (hbody _ pre x a' Wb hib haxb hx) ?_
    rintro e a3 W3 hp
    cases e with
    | normal =>
      obtain ⟨hk3, hkk3, hi3⟩ := hp
      have hl3 := hk3.same _ _ (by omega) hlb rfl
      have hd3 := hk3.same _ _ (Nat.le_refl _) hkb rfl
      have hr := run_endRound (P := P) none hl3
      rw [hrec] at hr
      refine ⟨_, _, hr, rfl, ⟨hI.putObj _ hi3 (by omega) hl3 rfl, ?_, (World.putObj_heap_other (by omega)).trans hd3⟩, (hkkb.trans hkk3).trans (hKb _ _)⟩
      rw [World.putObj_heap_same (Array.getElem?_eq_some_iff.1 hl3).1, hrec]
      rfl
    | ret => exact hp.elim
    | exit id => exact hp.elim
    | goto t => exact hp.elim
    | panic ch => exact hp.elim
    | outgrown => exact hp.elim
  · rintro e W2 ⟨⟨v, rfl⟩, hi, hl, hk⟩
    have hr := run_endLoop (P := P) hl (by rw [hrec]; simp)
    have hpe : (rec .ready none).pending = none := by rw [hrec]
    rw [hpe] at hr
    exact ⟨none, _, hr, hdone _ _ (Nat.le_refl _) (hI.putObj _ hi (by omega) hl rfl) ((World.putObj_heap_other (by omega)).trans hk)⟩
end Go.Proofs.YtdpgebifeaakjaaDoor

/- The walk of cover's iterator. -/
namespace Go.Proofs.YtdpgebifeaakjaaDoor
set_option linter.unusedSimpArgs false
set_option linter.unusedVariables false
open Go.RowKit
attribute [local go_sem] Oper.semAt_some

/-- The size of the first block of the cover of the leaves from a to b - 1. -/
def stepN (a b : Nat) : Nat := if 0 < a then min (2 ^ (Lib.bitLen (b - a) - 1)) (2 ^ Lib.ctz 64 a) else 2 ^ (Lib.bitLen (b - a) - 1)
def coverF : Nat → Nat → Nat → List (Nat × Nat)
  | 0, _, _ => []
  | f + 1, a, b => if a < b then (a, stepN a b) :: coverF f (a + stepN a b) b else []
def coverL (a b : Nat) : List (Nat × Nat) := coverF (b - a) a b

theorem stepN_pos (a b : Nat) : 0 < stepN a b := by
  have h1 : 0 < 2 ^ (Lib.bitLen (b - a) - 1) := Nat.two_pow_pos _
  have h2 : 0 < 2 ^ Lib.ctz 64 a := Nat.two_pow_pos _
  unfold stepN
  split <;> omega
theorem coverF_fuel : ∀ (f a b : Nat), b - a ≤ f → coverF f a b = coverL a b
  | 0, a, b, h => by rw [coverL, show b - a = 0 by omega]
  | f + 1, a, b, h => by
    by_cases hab : a < b
    · have hp := stepN_pos a b
      obtain ⟨g, hg⟩ : ∃ g, b - a = g + 1 := ⟨b - a - 1, by omega⟩
      rw [coverL, hg, coverF, coverF, if_pos hab, if_pos hab, coverF_fuel f _ b (by omega), coverF_fuel g _ b (by omega)]
    · rw [coverF, if_neg hab, coverL, show b - a = 0 by omega, coverF]
theorem coverL_cons {a b : Nat} (h : a < b) : coverL a b = (a, stepN a b) :: coverL (a + stepN a b) b := by
  have hp := stepN_pos a b
  obtain ⟨g, hg⟩ : ∃ g, b - a = g + 1 := ⟨b - a - 1, by omega⟩
  rw [coverL, hg, coverF, if_pos h, coverF_fuel g _ b (by omega)]
theorem coverL_nil {a b : Nat} (h : ¬ a < b) : coverL a b = [] := by
  rw [coverL, show b - a = 0 by omega]; rfl

def blockV (x : Nat × Nat) : Array Value := #[.agg #[.int .i64 x.1, .int .i64 x.2]]
theorem lenU (x : BitVec 64) (w : World) : Calls Tryd.prog 98 #[U64 x] w fun e w' => e = .returned (.int .i64 (Lib.bitLen x.toNat)) ∧ w' = w := by
  have h := x.isLt
  have := len_any (x.toNat : Int) w (by omega) (by omega)
  rw [Int.toNat_natCast] at this
  exact this
theorem tzU (x : BitVec 64) (w : World) (hT : TabAt 3 Lib.deBruijn64tab w) : Calls Tryd.prog 99 #[U64 x] w fun e w' => e = .returned (.int .i64 (Lib.ctz 64 x.toNat)) ∧ w' = w :=
  tz_any x.toNat x.isLt w hT

theorem bitLenAux_spec : ∀ (f x : Nat), 0 < x → x < 2 ^ f → 1 ≤ Lib.bitLenAux f x ∧ 2 ^ (Lib.bitLenAux f x - 1) ≤ x ∧ x < 2 ^ Lib.bitLenAux f x
  | 0, x, h, h' => by simp at h'; omega
  | f + 1, x, h, h' => by
    rw [Lib.bitLenAux, if_neg (by omega)]
    by_cases h1 : x / 2 = 0
    · rw [h1]
      have : Lib.bitLenAux f 0 = 0 := by cases f <;> rfl
      rw [this]
      have hx : x = 1 := by omega
      subst hx
      decide
    · obtain ⟨i1, i2, i3⟩ := bitLenAux_spec f (x / 2) (by omega) (by rw [Nat.pow_succ] at h'; omega)
      obtain ⟨g, hg⟩ : ∃ g, Lib.bitLenAux f (x / 2) = g + 1 := ⟨Lib.bitLenAux f (x / 2) - 1, by omega⟩
      rw [hg] at i2 i3 ⊢
      rw [Nat.add_sub_cancel] at i2
      rw [show 1 + (g + 1) - 1 = g + 1 by omega, show 1 + (g + 1) = (g + 1) + 1 by omega, Nat.pow_succ 2 (g + 1), Nat.pow_succ]
      rw [Nat.pow_succ] at i3
      omega
theorem bitLen_spec (x : Nat) (h : 0 < x) (h' : x < 2 ^ 64) : 1 ≤ Lib.bitLen x ∧ 2 ^ (Lib.bitLen x - 1) ≤ x ∧ x < 2 ^ Lib.bitLen x := bitLenAux_spec 64 x h h'
theorem bitLen_le (x k : Nat) (h : 0 < x) (h' : x < 2 ^ k) (hk : k ≤ 64) : Lib.bitLen x ≤ k := by
  obtain ⟨h1, h2, h3⟩ := bitLen_spec x h (Nat.lt_of_lt_of_le h' (Nat.pow_le_pow_right (by decide) hk))
  apply Classical.byContradiction
  intro hn
  have : 2 ^ k ≤ 2 ^ (Lib.bitLen x - 1) := Nat.pow_le_pow_right (by decide) (by omega)
  omega

theorem stepN_le (a b : Nat) (h : a < b) (hb : b ≤ 1099511627776) : stepN a b ≤ b - a := by
  obtain ⟨h1, h2, h3⟩ := bitLen_spec (b - a) (by omega) (by have : (2:Nat) ^ 64 = 18446744073709551616 := rfl; omega)
  unfold stepN
  split <;> omega

theorem ctz_le (c : Nat) (h : 0 < c) (hc : c ≤ 1099511627776) : 2 ^ Lib.ctz 64 c ≤ c := by
  have hx : c < 2 ^ 64 := by have : (2:Nat) ^ 64 = 18446744073709551616 := rfl; omega
  obtain ⟨m, h1, h2⟩ := Lib.ctzFrom_spec 64 c h hx
  rw [Lib.ctz, if_neg (by omega)]
  have : 2 ^ Lib.ctzFrom 64 c * 1 ≤ 2 ^ Lib.ctzFrom 64 c * (2 * m + 1) := Nat.mul_le_mul_left _ (by omega)
  omega

theorem wrap_pow (q p : Nat) (h : 2 ^ q = p) (hp : p ≤ 1099511627776) : wrap64 ((2 : Int) ^ q) = (p : Int) := by
  have e : ((2 : Int) ^ q) = ((2 ^ q : Nat) : Int) := by simp
  rw [e, h]
  unfold wrap64
  omega
theorem ctz_lt (c : Nat) (h : 0 < c) (hc : c ≤ 1099511627776) : Lib.ctz 64 c < 64 :=
  (Lib.lowest_bit 64 c (by omega) (Nat.lt_of_le_of_lt hc (by decide))).2
theorem ofNat_toNat (c : Nat) (hc : c ≤ 1099511627776) : (BitVec.ofNat 64 c).toNat = c := by
  rw [BitVec.toNat_ofNat]; exact Nat.mod_eq_of_lt (Nat.lt_of_le_of_lt hc (by decide))
theorem diff_toNat (b c : Nat) (h : c ≤ b) (hb : b ≤ 1099511627776) : (BitVec.ofInt 64 ((b : Int) - (c : Int))).toNat = b - c := by
  rw [show (b : Int) - (c : Int) = ((b - c : Nat) : Int) by omega, BitVec.ofInt_natCast]
  exact ofNat_toNat _ (by omega)
theorem len_facts (b c : Nat) (h : c < b) (hb : b ≤ 1099511627776) : 1 ≤ Lib.bitLen (b - c) ∧ Lib.bitLen (b - c) ≤ 41 ∧ 2 ^ (Lib.bitLen (b - c) - 1) ≤ b - c := by
  have hx : b - c < 2 ^ 64 := Nat.lt_of_le_of_lt (Nat.le_trans (Nat.sub_le _ _) hb) (by decide)
  have s := bitLen_spec (b - c) (by omega) hx
  exact ⟨s.1, bitLen_le _ 41 (by omega) (Nat.lt_of_le_of_lt (Nat.le_trans (Nat.sub_le _ _) hb) (by decide)) (by decide), s.2.1⟩

theorem sum_le (c p b : Nat) (h : c + p ≤ b) (hb : b ≤ 1099511627776) : (c : Int) + (p : Int) ≤ 1099511627776 := by omega
def cellN (W : World) (b : Nat) : Nat := match W.cell? ⟨b, 0, none⟩ with
  | some (.int _ x) => x.toNat
  | _ => 0

theorem wrap_small (c p : Nat) (h : (c : Int) + (p : Int) ≤ 1099511627776) : wrap64 ((c : Int) + (p : Int)) = (c : Int) + (p : Int) := by unfold wrap64; omega
theorem sub_lt (b c p : Nat) (h : c + p ≤ b) (hp : 0 < p) : b - (c + p) < b - c := by omega
theorem cellN_Blk {W : World} {b e : Nat} {k : IntKind} {x : Nat} (h : Blk W b #[.int k x] e) : cellN W b = x := by
  rw [cellN, h.cell 0]
  exact Int.toNat_natCast x

set_option maxRecDepth 100000 in
set_option maxHeartbeats 1000000 in
theorem cover_stops (n : Nat) (hn : 1 ≤ n) (Ba Bb : Nat) (a b : Nat) (hab : a ≤ b) (hb : b ≤ 1099511627776) (w : World) (hne : Ba ≠ Bb) (hA : Blk w Ba #[.int .i64 a] 3) (hB : Blk w Bb #[.int .i64 b] 3) (hT : TabAt 3 Lib.deBruijn64tab w) (h3 : Ba ≠ 3) (h3l : 3 < w.heap.size) :
    SeqC Fence.wide n Tryd.prog 97 #[.pointer (some ⟨Ba, 0, none⟩), .pointer (some ⟨Bb, 0, none⟩)] blockV Ba (fun k => k = Ba ∨ k = Bb ∨ k = 3) (coverL a b) w := by
  intro l J W hW hJ hY h0
  have hA0 := hA.below hW hA.lt
  have hB0 := hB.below hW hB.lt
  have hT0 : TabAt 3 Lib.deBruijn64tab W := fun j hj => (hW.cell (p := ⟨3, j, none⟩) h3l).trans (hT j hj)
  refine callsIn_of_wp Tryd.func97 rfl trivial ?_ rfl
  simp only [Tryd.ntmps97, List.size_toArray, List.length_cons, List.length_nil, Nat.reduceAdd, Nat.reduceSub, Array.replicate_succ, Array.replicate_zero, List.push_toArray, List.append_toArray, List.nil_append, List.cons_append]
  gi_wp2
  gi_loopw [4] (fun _ wr => ∃ (pre : List (Nat × Nat)) (c : Nat), c ≤ b ∧ coverL a b = pre ++ coverL c b ∧ Blk wr Ba #[.int .i64 c] 3 ∧ Blk wr Bb #[.int .i64 b] 3 ∧ TabAt 3 Lib.deBruijn64tab wr ∧ J pre wr)
    (fun _ wr => b - cellN wr Ba)
  case atStart => exact ⟨[], a, hab, rfl, hA0, hB0, hT0, h0⟩
  case round =>
    obtain ⟨pre, c, hc, hx, hA1, hB1, hT1, hJ1⟩ := hrel
    clear hA0 hB0 hT0 h0
    have CN := hide (cellN_Blk hA1)
    have ca := hA1.cell 0
    have cb := hB1.cell 0
    by_cases hlt : c < b
    · have hlt1 : (c : Int) < (b : Int) := by omega
      simp at ca cb
      have el := diff_toNat b c hc hb
      obtain ⟨hq1, hq2, hpow⟩ := len_facts b c hlt hb
      have hl := lenU (BitVec.ofInt 64 ((b : Int) - (c : Int))) wr
      rw [el] at hl
      have hst : stepN c b = if 0 < c then min (2 ^ (Lib.bitLen (b - c) - 1)) (2 ^ Lib.ctz 64 c) else 2 ^ (Lib.bitLen (b - c) - 1) := rfl
      generalize Lib.bitLen (b - c) = q at hq1 hq2 hl hst hpow
      clear el
      have hb1 : 2 ^ (q - 1) ≤ b - c := hpow
      obtain ⟨p1, hp1⟩ : ∃ p, 2 ^ (q - 1) = p := ⟨_, rfl⟩
      have HW1 := hide (wrap_pow (q - 1) p1 hp1 (by omega))
      have hpos1 : 0 < p1 := by rw [← hp1]; exact Nat.two_pow_pos _
      rw [hp1] at hst hb1
      have HP1 := hide hp1
      clear hp1 hpow
      have hq3 : (1 : Int) ≤ (q : Int) := by omega
      have hq4 : (q : Int) ≤ 41 := by omega
      by_cases hc0 : 0 < c
      · have hc01 : (0 : Int) < (c : Int) := by omega
        have hz1 : 2 ^ Lib.ctz 64 c ≤ c := ctz_le c hc0 (by omega)
        have htz := tzU (BitVec.ofNat 64 c) wr hT1
        have ec := ofNat_toNat c (by omega)
        rw [ec] at htz
        have hzl := ctz_lt c hc0 (by omega)
        rw [if_pos hc0] at hst
        generalize Lib.ctz 64 c = z at hz1 htz hzl hst
        obtain ⟨p2, hp2⟩ : ∃ p, 2 ^ z = p := ⟨_, rfl⟩
        have HW2 := hide (wrap_pow z p2 hp2 (by omega))
        have hpos2 : 0 < p2 := by rw [← hp2]; exact Nat.two_pow_pos _
        rw [hp2] at hst hz1
        have HP2 := hide hp2
        clear hp2 ec
        have hz3 : (z : Int) < 64 := by omega
        by_cases h12 : p1 ≤ p2
        · have h121 : (p1 : Int) ≤ (p2 : Int) := Int.ofNat_le.2 h12
          have hmin : min (p1 : Int) (p2 : Int) = (p1 : Int) := Int.min_eq_left h121
          have hst' : stepN c b = p1 := hst.trans (Nat.min_eq_left h12)
          have hle : c + p1 ≤ b := by rw [← hst']; have := stepN_le c b hlt hb; omega
          have hpp : 0 < p1 := by rw [← hst']; exact stepN_pos c b
          have hx2 : coverL a b = pre ++ (c, p1) :: coverL (c + p1) b := by rw [hx, coverL_cons hlt, hst']
          obtain ⟨fn, tmps, assign, body, hy, hR⟩ := hY pre (c, p1) wr hJ1 ⟨_, hx2⟩
          dsimp only [blockV] at hy
          have HN := hide (And.intro hle hx2)
          have HP := hide hpp
          have HS := hide (sum_le c p1 b hle hb)
          clear hst' hle hx2 hpp hst
          have hw1 := HW1.out
          gi_wp2
          refine ⟨trivial, callsIn_wide.2 (hl.mono ?_)⟩
          rintro e w' ⟨rfl, hw'⟩
          rw [hw']
          clear hl hw'
          gi_wp2
          refine ⟨trivial, callsIn_wide.2 (htz.mono ?_)⟩
          rintro e w' ⟨rfl, hw'⟩
          rw [hw']
          clear htz hw'
          have hw2 := HW2.out
          gi_wp2
          refine hR.mono ?_
          rintro e W3 ⟨rfl, hJ3, hk3⟩
          have hA3 : Blk W3 Ba #[.int .i64 c] 3 := (hk3 Ba (.inl rfl)).trans hA1
          have hB3 : Blk W3 Bb #[.int .i64 b] 3 := (hk3 Bb (.inr (.inl rfl))).trans hB1
          have hT3 : TabAt 3 Lib.deBruijn64tab W3 := fun j hj => (World.cell?_of_block (hk3 3 (.inr (.inr rfl)))).trans (hT1 j hj)
          have ca3 := hA3.cell 0
          have fa3 := hA3.free 0
          simp at ca3
          have hs1 : (c : Int) + (p1 : Int) ≤ 1099511627776 := HS.out
          clear hw1 hw2 hR hy ca cb hY hB1 hA1 hT1
          gi_wp2
          have hA4 : Blk (W3.setCell ⟨Ba, 0, none⟩ (.int .i64 ((c : Int) + (p1 : Int)))) Ba #[.int .i64 ((c + p1 : Nat) : Int)] 3 := hA3.set 0 (.int .i64 ((c : Int) + (p1 : Int)))
          refine ⟨⟨pre ++ [(c, p1)], c + p1, HN.out.1, by rw [List.append_assoc]; exact HN.out.2, hA4, hB3.other (Ne.symm hne) _, fun j hj => (World.cell?_of_block (Below.heap_setCell _ _ _ _ (Ne.symm h3))).trans (hT3 j hj), hJ _ _ _ hJ3⟩, ?_⟩
          rw [cellN_Blk hA4, CN.out]
          exact sub_lt b c p1 HN.out.1 HP.out
        · have h121 : (p2 : Int) ≤ (p1 : Int) := Int.ofNat_le.2 (Nat.le_of_not_le h12)
          have hmin : min (p1 : Int) (p2 : Int) = (p2 : Int) := Int.min_eq_right h121
          have hst' : stepN c b = p2 := hst.trans (Nat.min_eq_right (Nat.le_of_not_le h12))
          have hle : c + p2 ≤ b := by rw [← hst']; have := stepN_le c b hlt hb; omega
          have hpp : 0 < p2 := by rw [← hst']; exact stepN_pos c b
          have hx2 : coverL a b = pre ++ (c, p2) :: coverL (c + p2) b := by rw [hx, coverL_cons hlt, hst']
          obtain ⟨fn, tmps, assign, body, hy, hR⟩ := hY pre (c, p2) wr hJ1 ⟨_, hx2⟩
          dsimp only [blockV] at hy
          have HN := hide (And.intro hle hx2)
          have HP := hide hpp
          have HS := hide (sum_le c p2 b hle hb)
          clear hst' hle hx2 hpp hst
          have hw1 := HW1.out
          gi_wp2
          refine ⟨trivial, callsIn_wide.2 (hl.mono ?_)⟩
          rintro e w' ⟨rfl, hw'⟩
          rw [hw']
          clear hl hw'
          gi_wp2
          refine ⟨trivial, callsIn_wide.2 (htz.mono ?_)⟩
          rintro e w' ⟨rfl, hw'⟩
          rw [hw']
          clear htz hw'
          have hw2 := HW2.out
          gi_wp2
          refine hR.mono ?_
          rintro e W3 ⟨rfl, hJ3, hk3⟩
          have hA3 : Blk W3 Ba #[.int .i64 c] 3 := (hk3 Ba (.inl rfl)).trans hA1
          have hB3 : Blk W3 Bb #[.int .i64 b] 3 := (hk3 Bb (.inr (.inl rfl))).trans hB1
          have hT3 : TabAt 3 Lib.deBruijn64tab W3 := fun j hj => (World.cell?_of_block (hk3 3 (.inr (.inr rfl)))).trans (hT1 j hj)
          have ca3 := hA3.cell 0
          have fa3 := hA3.free 0
          simp at ca3
          have hs1 : (c : Int) + (p2 : Int) ≤ 1099511627776 := HS.out
          clear hw1 hw2 hR hy ca cb hY hB1 hA1 hT1
          gi_wp2
          have hA4 : Blk (W3.setCell ⟨Ba, 0, none⟩ (.int .i64 ((c : Int) + (p2 : Int)))) Ba #[.int .i64 ((c + p2 : Nat) : Int)] 3 := hA3.set 0 (.int .i64 ((c : Int) + (p2 : Int)))
          refine ⟨⟨pre ++ [(c, p2)], c + p2, HN.out.1, by rw [List.append_assoc]; exact HN.out.2, hA4, hB3.other (Ne.symm hne) _, fun j hj => (World.cell?_of_block (Below.heap_setCell _ _ _ _ (Ne.symm h3))).trans (hT3 j hj), hJ _ _ _ hJ3⟩, ?_⟩
          rw [cellN_Blk hA4, CN.out]
          exact sub_lt b c p2 HN.out.1 HP.out
      · have hc01 : ¬ (0 : Int) < (c : Int) := fun h => hc0 (Int.ofNat_lt.1 h)
        rw [if_neg hc0] at hst
        have hst' : stepN c b = p1 := hst
        have hle : c + p1 ≤ b := by rw [← hst']; have := stepN_le c b hlt hb; omega
        have hpp : 0 < p1 := by rw [← hst']; exact stepN_pos c b
        have hx2 : coverL a b = pre ++ (c, p1) :: coverL (c + p1) b := by rw [hx, coverL_cons hlt, hst']
        obtain ⟨fn, tmps, assign, body, hy, hR⟩ := hY pre (c, p1) wr hJ1 ⟨_, hx2⟩
        dsimp only [blockV] at hy
        have HN := hide (And.intro hle hx2)
        have HP := hide hpp
        have HS := hide (sum_le c p1 b hle hb)
        clear hst' hle hx2 hpp hst
        have hw1 := HW1.out
        gi_wp2
        refine ⟨trivial, callsIn_wide.2 (hl.mono ?_)⟩
        rintro e w' ⟨rfl, hw'⟩
        rw [hw']
        clear hl hw'
        gi_wp2
        refine hR.mono ?_
        rintro e W3 ⟨rfl, hJ3, hk3⟩
        have hA3 : Blk W3 Ba #[.int .i64 c] 3 := (hk3 Ba (.inl rfl)).trans hA1
        have hB3 : Blk W3 Bb #[.int .i64 b] 3 := (hk3 Bb (.inr (.inl rfl))).trans hB1
        have hT3 : TabAt 3 Lib.deBruijn64tab W3 := fun j hj => (World.cell?_of_block (hk3 3 (.inr (.inr rfl)))).trans (hT1 j hj)
        have ca3 := hA3.cell 0
        have fa3 := hA3.free 0
        simp at ca3
        have hs1 : (c : Int) + (p1 : Int) ≤ 1099511627776 := HS.out
        clear hw1 hR hy ca cb hY hB1 hA1 hT1
        gi_wp2
        have hA4 : Blk (W3.setCell ⟨Ba, 0, none⟩ (.int .i64 ((c : Int) + (p1 : Int)))) Ba #[.int .i64 ((c + p1 : Nat) : Int)] 3 := hA3.set 0 (.int .i64 ((c : Int) + (p1 : Int)))
        rw [HW1.out, wrap_small c p1 hs1]
        refine ⟨⟨pre ++ [(c, p1)], c + p1, HN.out.1, by rw [List.append_assoc]; exact HN.out.2, hA4, hB3.other (Ne.symm hne) _, fun j hj => (World.cell?_of_block (Below.heap_setCell _ _ _ _ (Ne.symm h3))).trans (hT3 j hj), hJ _ _ _ hJ3⟩, ?_⟩
        rw [cellN_Blk hA4, CN.out]
        exact sub_lt b c p1 HN.out.1 HP.out
    · have hlt1 : ¬ (c : Int) < (b : Int) := fun h => hlt (Int.ofNat_lt.1 h)
      have hfin : coverL a b = pre := by rw [hx, coverL_nil hlt, List.append_nil]
      simp at ca cb
      gi_wp2
      go_end0
      refine ⟨⟨_, rfl⟩, ?_⟩
      rw [coverL_nil hlt, List.append_nil]
      exact hJ1
end Go.Proofs.YtdpgebifeaakjaaDoor

/- The walks of cover and of Cover. -/
namespace Go.Proofs.YtdpgebifeaakjaaDoor
set_option linter.unusedSimpArgs false
set_option linter.unusedVariables false
open Go.RowKit
attribute [local go_sem] Oper.semAt_some

theorem info106 : (Tryd.prog.info? 106).map (fun i => (i.zero, i.size, i.bytes)) = some (some (.agg #[.int .i64 0, .int .i64 0]), 2, 16) := by kernel_rfl

set_option maxHeartbeats 1000000 in
theorem cover_fn (a b : Int) (w : World) :
    Calls Tryd.prog 62 #[.int .i64 a, .int .i64 b] w fun e w' => e = .returned (.func (.func 97) #[] #[.pointer (some ⟨w.heap.size, 0, none⟩), .pointer (some ⟨w.heap.size + 1, 0, none⟩)]) ∧ w' = (w.alloc (.cells #[.int .i64 a] 3)).alloc (.cells #[.int .i64 b] 3) := by
  have hmf : ∀ w x y, (Instr.makeFunc (.func 97) #[] #[x, y]).run Tryd.prog w = .ok (.func (.func 97) #[] #[x, y]) w := fun _ _ _ => by kernel_rfl
  go_enter Tryd.func62, Tryd.ntmps62
  go_wp2_with fail
  go_ret
  exact ⟨rfl, rfl⟩

def cellsOf : List (Nat × Nat) → List Value
  | [] => []
  | x :: l => .int .i64 x.1 :: .int .i64 x.2 :: cellsOf l
theorem cellsOf_snoc : ∀ (l : List (Nat × Nat)) (x : Nat × Nat), cellsOf (l ++ [x]) = cellsOf l ++ [.int .i64 x.1, .int .i64 x.2]
  | [], _ => rfl
  | y :: l, x => by simp [cellsOf, cellsOf_snoc l x]
theorem coverF_length : ∀ (f a b : Nat), (coverF f a b).length ≤ f
  | 0, _, _ => Nat.le_refl _
  | f + 1, a, b => by
    rw [coverF]
    split
    · have := coverF_length f (a + stepN a b) b
      simp; omega
    · simp
theorem coverL_length (a b : Nat) : (coverL a b).length ≤ b - a := coverF_length _ _ _

theorem cells_two_new (W : World) (u v : Value) (t : Nat) : ∀ j c, [u, v][j]? = some c → (W.alloc (.cells #[u, v] t)).cell? ((⟨W.heap.size, 0, none⟩ : Addr).add j) = some c := by
  intro j c hj
  rw [Addr.add_lit, (Blk.new W #[u, v] t).cell, Nat.zero_add]
  simpa using hj

/-- Between two rounds: the result's cell holds a slice that owns the blocks that have come; the counter's cell is a cell still. -/
def CoverI (n₀ : Nat) (w : World) (pre : List (Nat × Nat)) (W : World) : Prop :=
  (∃ v, Boxed W n₀ 33 v ∧ W.ownsRow n₀ 106 2 v pre.length (cellsOf pre)) ∧ (∃ x, Boxed W (n₀ + 1) 3 x) ∧ (∃ x, Boxed W (n₀ + 1 + 1) 3 x) ∧ Below n₀ w W
theorem ownsRow_other {W : World} {base e size n g : Nat} {v : Value} {xs : List Value} {cs : Array Value} {t : Nat} (h : W.ownsRow base e size v n xs) (hg : W.heap[g]? = some (.cells cs t (0, 0))) (hne : t ≠ e) : v.ownBlock = none ∨ v.ownBlock ≠ some g := by
  rcases h.2 with ⟨rfl, _⟩ | ⟨g', cap, cur, rfl, _, hgb, _⟩
  · exact .inl rfl
  · refine .inr fun e' => ?_
    obtain rfl : g' = g := by simpa [Value.ownBlock] using e'
    rw [hgb] at hg
    cases hg
    exact hne rfl
theorem coverI_own1 (n₀ : Nat) : Own (fun (pre : List (Nat × Nat)) W => ∃ v, Boxed W n₀ 33 v ∧ W.ownsRow n₀ 106 2 v pre.length (cellsOf pre)) := by
  intro s W W' row hs hg hr
  obtain ⟨v, h1, h2⟩ := hs
  obtain ⟨v', h1', h2', _⟩ := holdsRow_own n₀ n₀ 33 106 2 (fun pre : List (Nat × Nat) => pre.length) cellsOf (fun _ _ => True) s W W' row ⟨v, h1, h2, trivial⟩ hg hr
  exact ⟨v', h1', h2'⟩
theorem coverI_own2 (k : Nat) : Own (fun (_ : List (Nat × Nat)) W => ∃ x, Boxed W k 3 x) := by
  intro s W W' row hs hg hr
  obtain ⟨x, hx⟩ := hs
  exact ⟨x, hx.kept hg (fun e' => by obtain ⟨o, ho, hc⟩ := hr _ e'.symm; rw [show W.heap[k]? = _ from hx] at ho; cases ho; cases hc)⟩
theorem coverI_own (n₀ B : Nat) (w : World) (hw : n₀ ≤ w.heap.size) (hB : n₀ ≤ B) : OwnC B (n₀ + 1) (CoverI n₀ w) := by
  refine ⟨OwnFrom.and (Own.from (coverI_own1 n₀) _) (OwnFrom.and (Own.from (coverI_own2 (n₀ + 1)) _) (OwnFrom.and (Own.from (coverI_own2 (n₀ + 1 + 1)) _) (ownFrom_below hw hB))), ?_⟩
  rintro s W v ⟨⟨u, h1, h2⟩, ⟨x, hx⟩, ⟨y, hy⟩, hb⟩
  have hg := grownBy_setCell W ⟨n₀ + 1, 0, none⟩ v
  exact ⟨⟨u, h1.kept hg (by simp), h2.kept hg (ownsRow_other h2 hx (by decide))⟩, ⟨v, hx.set v⟩, ⟨y, hy.kept hg (by simp)⟩, hb.setCell (p := ⟨n₀ + 1, 0, none⟩) (by simp) v⟩

/-- The loop's own variable: a cell of two, new in each round. -/
def CoverA (n₀ : Nat) (a b : Value) (f p q : Value) (x : Nat × Nat) (a' : Act) (W : World) : Prop :=
  ∃ B, n₀ + 1 < B ∧ Blk W B #[.int .i64 x.1, .int .i64 x.2] 106 ∧
    a' = { tmps := #[a, b, p, q, .pointer (some ⟨n₀, 0, none⟩), .int .i64 0, .pointer (some ⟨B, 0, none⟩), a, .bool false, .bool false, a, b, .bool false, .bool false, .bool false, b, .bool false, .bool false, a, b, f, .agg #[.int .i64 x.1, .int .i64 x.2], undef, undef, undef, undef, undef], defers := [] }

theorem coverA_own (n₀ B0 : Nat) (a b f p q : Value) (x : Nat × Nat) (a' : Act) : OwnC B0 (n₀ + 1) (fun (_ : Unit) W => CoverA n₀ a b f p q x a' W) := by
  refine ⟨fun s W W' row hs hg hr => ?_, fun s W v hs => ?_⟩
  · obtain ⟨B, h1, h2, h3⟩ := hs
    refine ⟨B, h1, (hg.block B (Array.getElem?_eq_some_iff.1 h2).1 fun e => ?_).trans h2, h3⟩
    obtain ⟨_, o, ho, hc⟩ := hr _ e.symm
    rw [show W.heap[B]? = _ from h2] at ho
    cases ho
    cases hc
  · obtain ⟨B, h1, h2, h3⟩ := hs
    exact ⟨B, h1, h2.other (by simp; omega) _, h3⟩

theorem ownsRow_slice {W : World} {base e size n : Nat} {v : Value} {xs : List Value} (h : W.ownsRow base e size v n xs) : ∃ p k c, v = .slice p k c := by
  rcases h.2 with ⟨rfl, _⟩ | ⟨g, cap, cur, rfl, _⟩
  · exact ⟨_, _, _, rfl⟩
  · exact ⟨_, _, _, rfl⟩
/-- A block of another type lies as it lay behind an append. -/
theorem grown_same {W w1 : World} {tmp : Obj} {base g n k : Nat} {v x u : Value} {xs : List Value} (hrow : W.ownsRow base 106 2 v n xs) (hg : Boxed W g 3 x) (hgrow : (W.alloc tmp).grownBy w1 v.ownBlock) (hk : g ≠ k) :
    (w1.setCell ⟨k, 0, none⟩ u).heap[g]? = W.heap[g]? := by
  have h0 : Boxed (W.alloc tmp) g 3 x := Blk.alloc hg tmp
  rw [Below.heap_setCell _ _ _ _ hk]
  have h1 := hgrow.block g h0.lt (by
    rcases ownsRow_other hrow hg (by decide) with h | h
    · rw [h]; simp
    · exact fun e => h e.symm)
  rw [h1]
  exact (show (W.alloc tmp).heap[g]? = _ from h0).trans (show W.heap[g]? = _ from hg).symm

set_option maxRecDepth 100000 in
set_option maxHeartbeats 2000000 in
theorem cover_ok (a b : Nat) (hab : a ≤ b) (hb : b ≤ 1099511627776) (w : World) (hT : TabAt 3 Lib.deBruijn64tab w) (h3l : 3 < w.heap.size) :
    Calls Tryd.prog 22 #[.int .i64 a, .int .i64 b] w fun e w' => ∃ v, e = .returned (.tuple #[v, .int .i64 0]) ∧ w'.ownsRow w.heap.size 106 2 v (coverL a b).length (cellsOf (coverL a b)) ∧ Below w.heap.size w w' := by
  have h0 : ¬ (a : Int) < 0 := by omega
  have h1 : ¬ (b : Int) < (a : Int) := by omega
  have h2 : ¬ (1099511627776 : Int) < (b : Int) := by omega
  have hz : (0 : Int) ≤ (a : Int) := by omega
  obtain ⟨i0, hi, hz0, hz1, hz2⟩ := info_parts info106
  refine (callsIn_wide (n := 3)).1 ?_
  refine callsIn_of_wp_marks Tryd.func22 rfl trivial ?_ rfl
  simp only [Tryd.ntmps22, List.size_toArray, List.length_cons, List.length_nil, Nat.reduceAdd, Nat.reduceSub, Array.replicate_succ, Array.replicate_zero, List.push_toArray, List.append_toArray, List.nil_append, List.cons_append]
  gi_wp2
  refine ⟨trivial, callsIn_wide.2 ((cover_fn _ _ _).mono ?_)⟩
  rintro e w' ⟨rfl, rfl⟩
  rw [World.size_alloc]
  gi_wp2
  obtain ⟨W0, hW0⟩ : ∃ W0, ((w.alloc (.cells #[.slice none 0 0] 33)).alloc (.cells #[.int .i64 a] 3)).alloc (.cells #[.int .i64 b] 3) = W0 := ⟨_, rfl⟩
  have hs0 : W0.heap.size = w.heap.size + 3 := by rw [← hW0]; simp
  have hB0 : Below w.heap.size w W0 := by rw [← hW0]; exact (((Below.refl _ w).alloc (Nat.le_refl _) _).alloc (by simp) _).alloc (by simp; omega) _
  have hR0 : Boxed W0 w.heap.size 33 (.slice none 0 0) := by rw [← hW0]; exact ((Blk.new w #[.slice none 0 0] 33).alloc _).alloc _
  have hA0 : Blk W0 (w.heap.size + 1) #[.int .i64 a] 3 := by
    rw [← hW0]
    have := Blk.new (w.alloc (.cells #[.slice none 0 0] 33)) #[.int .i64 a] 3
    rw [World.size_alloc] at this
    exact this.alloc _
  have hb0 : Blk W0 (w.heap.size + 1 + 1) #[.int .i64 b] 3 := by
    rw [← hW0]
    have := Blk.new ((w.alloc (.cells #[.slice none 0 0] 33)).alloc (.cells #[.int .i64 a] 3)) #[.int .i64 b] 3
    rw [World.size_alloc, World.size_alloc] at this
    exact this
  have hT0 : TabAt 3 Lib.deBruijn64tab W0 := fun j hj => (hB0.cell (p := ⟨3, j, none⟩) h3l).trans (hT j hj)
  rw [hW0]
  clear hW0
  have hseq := cover_stops (3 - 1) (by decide) (w.heap.size + 1) (w.heap.size + 1 + 1) a b hab hb W0 (by omega) hA0 hb0 hT0 (by omega) (by omega)
  refine wpIn_rangeC (gf := 97) (lb := #[.pointer (some ⟨w.heap.size + 1, 0, none⟩), .pointer (some ⟨w.heap.size + 1 + 1, 0, none⟩)]) rfl (by decide) rfl trivial (enters_of Tryd.func97 (by kernel_rfl) rfl)
    hseq (by omega) (by rintro k (rfl | rfl | rfl) <;> omega) (fun _ => rfl)
    (CoverI w.heap.size w) (coverI_own _ _ _ (Nat.le_refl _) (by omega)) ⟨⟨_, hR0, World.ownsRow_nil _ _ _ _⟩, ⟨_, hA0⟩, ⟨_, hb0⟩, hB0⟩
    (CoverA w.heap.size (.int .i64 a) (.int .i64 b) (.func (.func 97) #[] #[.pointer (some ⟨w.heap.size + 1, 0, none⟩), .pointer (some ⟨w.heap.size + 1 + 1, 0, none⟩)]) undef undef) (fun _ _ => coverA_own _ _ _ _ _ _ _ _ _) ?assign ?body ?done
  case assign =>
    rintro l pre x W C hI hx hC
    have hN := Blk.new W #[.int .i64 0, .int .i64 0] 106
    have hn0 := hN.cell 0
    have hn1 := hN.cell 1
    have hnf0 := hN.free 0
    have hnf1 := hN.free 1
    simp at hn0 hn1
    dsimp only [blockV]
    gi_wp2
    have hsz := hI.2.2.1
    obtain ⟨y2, hy2⟩ := hsz
    exact hC _ _ ((KeepsOthers.alloc _ _).from _) (fun k hk => Below.heap_alloc _ _ _ (by rcases hk with rfl | rfl | rfl <;> have := hy2.lt <;> omega)) ((coverI_own _ W0.heap.size _ (Nat.le_refl _) (by omega)).alloc _ hI) ⟨W.heap.size, by have := hy2.lt; omega, Blk.new _ _ _, rfl⟩
  case body =>
    rintro l pre x a' W ⟨⟨v, hv, hrow⟩, ⟨y, hy⟩, ⟨y2, hy2⟩, hB⟩ ⟨B, hBl, hX, rfl⟩ ⟨post, hx⟩
    have hc := hv.cell
    have hx0 := hX.cell 0
    have hx1 := hX.cell 1
    simp at hx0 hx1
    have hlen : pre.length + 1 ≤ 1099511627776 := by
      have h1 := coverL_length a b
      rw [hx] at h1
      simp at h1
      omega
    have hml : pre.length + 1 ≤ maxLen := by unfold maxLen; omega
    gi_wp2_with (gi_at_builtin; refine wpListIn_append_own _ rfl _ _ 33 rfl w.heap.size 106 i0 (.agg #[.int .i64 0, .int .i64 0]) 2 16 Tryd.underlying33 hi hz0 hz1 hz2 rfl (by decide) _ _ _ rfl (hrow.alloc _) ⟨W.heap.size, 0, none⟩ 1 1 [.int .i64 x.1, .int .i64 x.2] rfl rfl (cells_two_new _ _ _ _) (by simp [Value.oneCell']) hml (by omega) (by have := hB.size; simp; omega) ?_; intro v' w1 hown' hgrow _; obtain ⟨g', cap', rfl⟩ := ownsRow_succ hown'; obtain ⟨hv1, hv2, hr2, hk2, hb2⟩ := hv.appended (by decide) hrow hB.size (Nat.le_refl _) hown' hgrow; have hc1 := hv1.cell; have hf1 := hv1.frozen)
    have k1 := grown_same (u := .slice (some ⟨g', 0, none⟩) (pre.length + 1) cap') hrow hy hgrow (k := w.heap.size) (by omega)
    have k2 := grown_same (u := .slice (some ⟨g', 0, none⟩) (pre.length + 1) cap') hrow hy2 hgrow (k := w.heap.size) (by omega)
    refine ⟨hk2.from _, ?_, ⟨_, hv2, ?_⟩, ⟨y, k1.trans hy⟩, ⟨y2, k2.trans hy2⟩, hB.trans hb2⟩
    · rintro k (rfl | rfl | rfl)
      · exact k1
      · exact k2
      · exact hb2.block 3 h3l
    · rw [cellsOf_snoc, List.length_append]
      exact hr2
  case done =>
    rintro D W hD ⟨⟨v, hv, hrow⟩, ⟨y, hy⟩, ⟨y2, hy2⟩, hB⟩ hK
    have hc := hv.cell
    have hf := hv.frozen
    obtain ⟨vp, vn, vc, rfl⟩ := ownsRow_slice hrow
    gi_wp2
    have hDn : D ≠ w.heap.size := by omega
    have hK' : (W.setCell ⟨w.heap.size, 0, none⟩ (.slice vp vn vc)).heap[D]? = some (.deferred (some [])) := (Below.heap_setCell _ _ _ _ hDn).trans hK
    have hrow' := hrow.kept (grownBy_setCell W ⟨w.heap.size, 0, none⟩ (.slice vp vn vc)) (ownsRow_other hrow hv (by decide))
    have hv' := hv.set (.slice vp vn vc)
    have hB' := hB.setCell (p := ⟨w.heap.size, 0, none⟩) (Nat.le_refl _) (.slice vp vn vc)
    have hv2 : Boxed ((W.setCell ⟨w.heap.size, 0, none⟩ (.slice vp vn vc)).putObj D (.deferred none)) w.heap.size 33 (.slice vp vn vc) := (World.putObj_heap_other (Ne.symm hDn)).trans hv'
    have hc2 := hv2.cell
    refine ⟨by simp, .inl ⟨_, _, rfl, run_takeDeferred hK', ?_⟩⟩
    refine ⟨.tuple #[.slice vp vn vc, .int .i64 0], ?_, .slice vp vn vc, rfl, ownsRow_putObj hrow' _ hK' rfl, hB'.trans ⟨rfl, rfl, rfl, by simp, fun k hk => World.putObj_heap_other (by omega)⟩⟩
    rw [results_cell_tmp rfl]
    generalize (W.setCell ⟨w.heap.size, 0, none⟩ (.slice vp vn vc)).putObj D (.deferred none) = W' at hc2 ⊢
    have hld : (loadVar 33 ⟨w.heap.size, 0, none⟩).run Tryd.prog W' = .ok (.slice vp vn vc) W' := by go_simp
    have hau : (asAddr (.pointer (some ⟨w.heap.size, 0, none⟩))).run Tryd.prog W' = .ok ⟨w.heap.size, 0, none⟩ W' := rfl
    show ((Sem.run Tryd.prog (asAddr (.pointer (some ⟨w.heap.size, 0, none⟩))) W').andThen _) = _
    rw [hau]
    show ((Sem.run Tryd.prog (loadVar 33 ⟨w.heap.size, 0, none⟩) W').andThen _) = _
    rw [hld]
    rfl
end Go.Proofs.YtdpgebifeaakjaaDoor

/- Cover's refusals; the walk of Blocks. -/
namespace Go.Proofs.YtdpgebifeaakjaaDoor
set_option linter.unusedSimpArgs false
set_option linter.unusedVariables false
open Go.RowKit

theorem neq_block (a b c d : Int) (w : World) : (binOp .neq 106 (.agg #[.int .i64 a, .int .i64 b]) (.agg #[.int .i64 c, .int .i64 d])).run Tryd.prog w = .ok (.bool (!(a == c && b == d))) w := by
  have hf : Tryd.prog.fieldsOf 106 = #[{ name := "At", type := 3, offset := 0, embedded := false, tag := "", pkgPath := "", byteOffset := 0 }, { name := "Size", type := 3, offset := 1, embedded := false, tag := "", pkgPath := "", byteOffset := 8 }] := by
    simp [Program.fieldsOf, Tryd.underlying106]
  rw [run_neq_struct, run_equalIn_struct _ _ _ _ _ (by rw [hf]; exact Tryd.underlying106) Tryd.stoodInHeld106, hf]
  have p1 : ∀ (x y : Int) (w : World), (part 3 #[.int .i64 x, .int .i64 y] 0).run Tryd.prog w = .ok (.int .i64 x) w := fun _ _ _ => by kernel_rfl
  have p2 : ∀ (x y : Int) (w : World), (part 3 #[.int .i64 x, .int .i64 y] 1).run Tryd.prog w = .ok (.int .i64 y) w := fun _ _ _ => by kernel_rfl
  have q : ∀ (x y : Int) (w : World), (Op.equalIn 9999 3 (.int .i64 x) (.int .i64 y)).run Tryd.prog w = .ok (x == y) w := fun x y w => run_equalIn_int w 9998 3 .i64 _ x y Tryd.underlying3
  by_cases h1 : a = c
  · by_cases h2 : b = d
    · simp [Op.eqFields, p1, p2, q, h1, h2]
    · simp [Op.eqFields, p1, p2, q, h1, h2]
  · simp [Op.eqFields, p1, p2, q, h1]

theorem drewN_twice (w : World) (k n : Nat) : ∃ k', (w.drewN k).drewN n = w.drewN k' := by
  exact ⟨k + n, World.drewN_drewN w k n⟩

/-- A slice of blocks, as it lies. -/
def SlB (W : World) (u : Value) (l : List (Nat × Nat)) : Prop :=
  ∃ p c, u = .slice p l.length c ∧ ∀ j x, l[j]? = some x → ∃ g o, p = some ⟨g, o, none⟩ ∧ W.cell? ⟨g, o + j * 2, none⟩ = some (.int .i64 x.1) ∧ W.cell? ⟨g, o + j * 2 + 1, none⟩ = some (.int .i64 x.2)
set_option maxRecDepth 100000 in
set_option maxHeartbeats 1000000 in
theorem blocks_any (u v : Value) (l m : List (Nat × Nat)) (w : World) (hu : SlB w u l) (hv : SlB w v m) (hl : l.length ≤ 1099511627776) :
    Calls Tryd.prog 24 #[u, v] w fun e w' => e = .returned (.bool (decide (l = m))) ∧ ∃ k, w' = w.drewN k := by
  obtain ⟨p, c, rfl, hu⟩ := hu
  obtain ⟨q, d, rfl, hv⟩ := hv
  have HU := hide hu
  have HV := hide hv
  clear hu hv
  by_cases hlm : l.length = m.length
  · have hlm1 : (l.length : Int) = (m.length : Int) := by omega
    go_enter Tryd.func24, Tryd.ntmps24
    go_wp2_with fail
    go_loopw [5] (fun s5 W => ∃ j : Nat, j ≤ l.length ∧ s5 = .int .i64 j ∧ (∀ i, i < j → l[i]? = m[i]?) ∧ ∃ k, W = w.drewN k) (fun s5 _ => l.length - (intOf s5).toNat)
    case atStart => exact ⟨0, by omega, rfl, fun i hi => absurd hi (by omega), 0, rfl⟩
    case round =>
      obtain ⟨j, hj, rfl, hall, k, rfl⟩ := hrel
      have HALL := hide hall
      clear hall
      by_cases hjl : j < l.length
      · have hj1 : (j : Int) < (l.length : Int) := by omega
        have hj2 : (j : Int) < (m.length : Int) := by omega
        have hj3 : j < m.length := by omega
        obtain ⟨x, hx⟩ : ∃ x, l[j]? = some x := ⟨_, List.getElem?_eq_getElem hjl⟩
        obtain ⟨y, hy⟩ : ∃ y, m[j]? = some y := ⟨_, List.getElem?_eq_getElem hj3⟩
        obtain ⟨g, o, rfl, hx1, hx2⟩ := HU.out j x hx
        obtain ⟨g', o', rfl, hy1, hy2⟩ := HV.out j y hy
        have HX := hide hx
        have HY := hide hy
        clear hx hy
        go_wp2_with fail
        have hnb := neq_block x.1 x.2 y.1 y.2
        by_cases hxy : x = y
        · have hbb : (!((x.1 : Int) == (y.1 : Int) && (x.2 : Int) == (y.2 : Int))) = false := by rw [hxy]; simp
          rw [hbb] at hnb
          have HXY := hide hxy
          clear hxy hbb
          go_quiet (fail)
          have hw : ∃ k', (w.drewN k).drewN nq = w.drewN k' := drewN_twice w k nq
          obtain ⟨k', hk'⟩ := hw
          rw [hk']
          clear hk' hnb
          go_wp2_with fail
          refine ⟨⟨j + 1, by omega, by go_num, fun i hi => ?_, k', rfl⟩, by simp [intOf]; omega⟩
          by_cases e : i = j
          · rw [e, HX.out, HY.out, HXY.out]
          · exact HALL.out i (by omega)
        · have hbb : (!((x.1 : Int) == (y.1 : Int) && (x.2 : Int) == (y.2 : Int))) = true := by
            by_cases e : x.1 = y.1
            · have e2 : x.2 ≠ y.2 := fun e2 => hxy (Prod.ext e e2)
              simp [e, Int.ofNat_inj, e2]
            · simp [Int.ofNat_inj, e]
          rw [hbb] at hnb
          have hd : decide (l = m) = false := by
            rw [decide_eq_false_iff_not]
            intro e
            have h1 := HX.out
            rw [e, HY.out] at h1
            exact hxy (Option.some.inj h1).symm
          have HD := hide hd
          clear hxy hbb hd
          go_quiet (fail)
          have hw : ∃ k', (w.drewN k).drewN nq = w.drewN k' := drewN_twice w k nq
          obtain ⟨k', hk'⟩ := hw
          rw [hk']
          clear hk' hnb
          go_wp2_with fail
          go_ret
          exact ⟨by rw [HD.out]; rfl, k', rfl⟩
      · have hj1 : ¬ (j : Int) < (l.length : Int) := by omega
        have hd : decide (l = m) = true := by
          rw [decide_eq_true_iff]
          apply List.ext_getElem?
          intro i
          by_cases hi : i < j
          · exact HALL.out i hi
          · rw [List.getElem?_eq_none (by omega), List.getElem?_eq_none (by omega)]
        have HD := hide hd
        clear hd
        go_wp2_with fail
        go_ret
        exact ⟨by rw [HD.out]; rfl, k, rfl⟩
  · have hlm1 : ¬ (l.length : Int) = (m.length : Int) := by omega
    have hd : decide (l = m) = false := by
      rw [decide_eq_false_iff_not]
      exact fun e => hlm (by rw [e])
    have HD := hide hd
    clear hd
    go_enter Tryd.func24, Tryd.ntmps24
    go_wp2_with fail
    go_ret
    exact ⟨by rw [HD.out]; rfl, 0, rfl⟩
end Go.Proofs.YtdpgebifeaakjaaDoor

/- The blocks of a cover lie in its range. -/
namespace Go.Proofs.YtdpgebifeaakjaaDoor
set_option linter.unusedSimpArgs false
set_option linter.unusedVariables false

theorem coverF_mem : ∀ (f a b : Nat), b ≤ 1099511627776 → ∀ x, x ∈ coverF f a b → a ≤ x.1 ∧ 0 < x.2 ∧ x.1 + x.2 ≤ b
  | 0, a, b, _, x, hx => by rw [coverF] at hx; cases hx
  | f + 1, a, b, hb, x, hx => by
    rw [coverF] at hx
    by_cases h : a < b
    · rw [if_pos h, List.mem_cons] at hx
      have h1 := stepN_le a b h hb
      have h2 := stepN_pos a b
      rcases hx with rfl | hx
      · exact ⟨Nat.le_refl _, h2, by show a + stepN a b ≤ b; omega⟩
      · have := coverF_mem f (a + stepN a b) b hb x hx
        omega
    · rw [if_neg h] at hx; cases hx
theorem coverL_mem (a b : Nat) (hb : b ≤ 1099511627776) : ∀ x, x ∈ coverL a b → a ≤ x.1 ∧ 0 < x.2 ∧ x.1 + x.2 ≤ b := coverF_mem _ a b hb
end Go.Proofs.YtdpgebifeaakjaaDoor

/- A region that draws its order, in a round of a range over a function: its steps as outside of one. -/
namespace Go.Proofs.YtdpgebifeaakjaaDoor
set_option linter.unusedSimpArgs false
set_option linter.unusedVariables false

theorem rowsIn_round {l n : Nat} {P : Program} {row : String} {args : Array Value} {w : World} {R : Value → World → Prop} (h : Rows P row args w R) : RowsIn (Fence.wide.inRound l) n P row args w R := by
  intro c cs _
  obtain ⟨v, w', r, s⟩ := h c cs
  exact ⟨v, w', r, stepsIn_wide.2 s⟩
def noDefer (o : Oper) : Bool := match o.op with
  | .defer _ => false
  | _ => true
theorem noDefer_spec {o : Oper} (h : noDefer o = true) : ∀ c, o.op ≠ .defer c := by
  intro c e
  unfold noDefer at h
  rw [e] at h
  cases h
theorem operIn_of_wp {l n : Nat} {P : Program} {Q : Exit → Act → World → Prop} {o : Oper} {a : Act} {w : World} {K : Act → World → Prop} (hd : ∀ c, o.op ≠ .defer c) (h : o.wp P a w K Q) : o.wpIn (Fence.wide.inRound l) n P a w K Q := by
  refine ⟨fun f _ => trivial, ?_⟩
  unfold Oper.wp at h
  rw [Fence.inRound_round, Oper.semAt_some _ _ _ hd]
  generalize (execOp a.eval o).run P w = r at h ⊢
  cases r with
  | ok x w' =>
    cases x
    case value v => exact h
    case skip => exact h
    case defer d => exact h
    case enter f args => exact ⟨fun e => (by cases e), callsIn_wide.2 h⟩
    case row row args => exact ⟨fun e => (by cases e), rowsIn_round h⟩
    all_goals exact h.elim
  | halt x w' =>
    cases x
    case panic v => exact h
    all_goals exact h.elim
theorem wpOpsIn_of_wp {l n : Nat} {P : Program} {ops : Array Oper} {Q : Exit → Act → World → Prop} (hl : ¬ LetsOut Q) (hd : ∀ (i : Nat) (o : Oper), ops[i]? = some o → ∀ c, o.op ≠ .defer c) :
    ∀ (is : List Nat) (a : Act) (w : World), wpOps P ops Q is a w → wpOpsIn (Fence.wide.inRound l) n P ops Q is a w
  | [], a, w, h => h
  | i :: is, a, w, h => by
    unfold wpOps at h
    unfold wpOpsIn
    cases ho : ops[i]? with
    | none =>
      rw [ho] at h
      exact wpOpsIn_of_wp hl hd is a w h
    | some o =>
      rw [ho] at h
      dsimp only at h ⊢
      by_cases hw : Region.wanted o (yielded ops a.tmps) = true
      · rw [if_pos hw] at h ⊢
        rcases h with h | h
        · exact Oper.wpIn_mono (fun a w h => wpOpsIn_of_wp hl hd is a w h) (operIn_of_wp (hd i o ho) h)
        · exact absurd h.2 hl
      · rw [if_neg hw] at h ⊢
        exact ⟨fun f _ => trivial, wpOpsIn_of_wp hl hd is _ w h⟩
/-- A region that draws its order, in a round. -/
theorem wpIn_region_held_drew {l n : Nat} {P : Program} {ops : Array Oper} {Q : Exit → Act → World → Prop} {S : World → Prop} {id : Nat} {a : Act} {w : World} (hm : P.follows .mixedOrders = true) (hd : ops.all noDefer = true) (hl : ¬ LetsOut Q) (hS : S w.drew)
    (h : S w.drew → wpAnyH P .any ops Q S ops.size (Array.replicate ops.size false) a w.drew) : (Code.region id ops true).wpIn (Fence.wide.inRound l) n P Q a w := by
  refine wpIn_region_draw fun t => ?_
  refine wpOpsIn_of_wp hl (fun i o ho c => noDefer_spec (Array.all_eq_true_iff_forall_mem.1 hd o (Array.mem_of_getElem? ho)) c) _ _ _ ?_
  simp only [Region.schedule, hm, Bool.true_or, if_true]
  exact wpAny_sound ops.size t _ a _ (wpAny_of_held _ _ _ _ (h hS))
end Go.Proofs.YtdpgebifeaakjaaDoor

/- Counting ones: the parallel sum of a word's bits, and the number of blocks of a cover. -/
namespace Go.Proofs.YtdpgebifeaakjaaDoor
set_option linter.unusedSimpArgs false
set_option linter.unusedVariables false

def s1 (r : Nat) : Nat := ((r / 2) &&& 85) + (r &&& 85)
def s2 (r : Nat) : Nat := ((r / 4) &&& 51) + (r &&& 51)
theorem ctz_ge (c j : Nat) (hc : 0 < c) (hc2 : c ≤ 1099511627776) (h : 2 ^ j ∣ c) : j ≤ Lib.ctz 64 c := by
  have hx : c < 2 ^ 64 := by have : (2:Nat) ^ 64 = 18446744073709551616 := rfl; omega
  obtain ⟨m, h1, h2⟩ := Lib.ctzFrom_spec 64 c hc hx
  rw [Lib.ctz, if_neg (by omega)]
  apply Classical.byContradiction
  intro hn
  obtain ⟨d, hd⟩ : ∃ d, j = Lib.ctzFrom 64 c + 1 + d := ⟨j - Lib.ctzFrom 64 c - 1, by omega⟩
  obtain ⟨e, he⟩ := h
  rw [hd, Nat.pow_add, Nat.pow_succ] at he
  have hp : 0 < 2 ^ Lib.ctzFrom 64 c := Nat.two_pow_pos _
  have h3 : 2 ^ Lib.ctzFrom 64 c * (2 * m + 1) = 2 ^ Lib.ctzFrom 64 c * (2 * (2 ^ d * e)) := by
    have : c = 2 ^ Lib.ctzFrom 64 c * (2 * (2 ^ d * e)) := by
      refine he.trans ?_
      simp only [Nat.mul_assoc]
    exact h1.symm.trans this
  have h4 := Nat.eq_of_mul_eq_mul_left hp h3
  omega
end Go.Proofs.YtdpgebifeaakjaaDoor

/- The walk of bits.OnesCount. -/
namespace Go.Proofs.YtdpgebifeaakjaaDoor
set_option linter.unusedSimpArgs false
set_option linter.unusedVariables false
open Go.RowKit

end Go.Proofs.YtdpgebifeaakjaaDoor

