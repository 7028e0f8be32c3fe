/- Crc; append. -/
import Derived.Test.YtdpgebifeaakjaaDoorMA
import Derived.ArgAppend

/- The walks of the CRC functions. -/
namespace Go.Proofs.YtdpgebifeaakjaaDoor
set_option linter.unusedSimpArgs false
set_option linter.unusedVariables false
open Go.RowKit

/-- One step of the CRC register. -/
def crcBit (c : BitVec 32) : BitVec 32 := if c &&& 1#32 == 1#32 then c >>> 1 ^^^ 0xedb88320#32 else c >>> 1
/-- n steps. -/
def crcBits : Nat → BitVec 32 → BitVec 32
  | 0, c => c
  | n + 1, c => crcBit (crcBits n c)
def crcTab (i : Nat) : BitVec 32 := crcBits 8 (BitVec.ofNat 32 i)

set_option maxHeartbeats 400000 in
theorem bit_any (c : BitVec 32) (w : World) :
    Calls Tryd.prog 100 #[U32 c] w fun e w' => e = .returned (U32 (crcBit c)) ∧ w = w' := by
  go_enter Tryd.func100, Tryd.ntmps100
  go_wp2
  · go_ret; have h : (c &&& 1#32 == 1#32) = true := by assumption
    exact ⟨by rw [crcBit, if_pos h]; rfl, rfl⟩
  · go_ret; have h : (c &&& 1#32 == 1#32) = false := by assumption
    exact ⟨by rw [crcBit, if_neg (by rw [h]; decide)]; rfl, rfl⟩

set_option maxRecDepth 20000
theorem size119 : (Tryd.prog.info? 119).map (·.size) = some 256 := by kernel_rfl
theorem zero119 : Tryd.zeroCells119 = A32 256 fun _ => 0#32 := by kernel_rfl

set_option maxHeartbeats 400000 in
theorem table_any (w : World) :
    Calls Tryd.prog 67 #[] w fun e w' => e = .returned (.agg (A32 256 crcTab)) ∧ Below w.heap.size w w' := by
  go_enter Tryd.func67, Tryd.ntmps67
  go_wp2
  go_loopw [2, 3] (fun s2 s3 W => ∃ k : Nat, k ≤ 256 ∧ s3 = .int .i64 k ∧ Blk W w.heap.size (A32 256 fun i => if i < k then crcTab i else 0#32) 119 ∧ Below w.heap.size w W) (fun _ s3 _ => 256 - (intOf s3).toNat)
  case atStart => exact ⟨0, by omega, rfl, by rw [zero119]; exact Blk.new _ _ _, (Below.refl _ _).alloc (Nat.le_refl _) _⟩
  case round =>
    obtain ⟨k, hk, rfl, hb, hB⟩ := hrel
    by_cases hlt : k < 256
    · have hc : wr.cell? ⟨w.heap.size, k, none⟩ = some (U32 0#32) := by rw [hb.cell, A32.get _ hlt, if_neg (by omega)]
      have hf := hb.free k
      have hlt1 : (k : Int) < 256 := by omega
      go_wp2
      go_loop [2, 8] (fun s2 s8 => ∃ j : Nat, j ≤ 8 ∧ s8 = .int .i64 j ∧ s2 = U32 (crcBits j (BitVec.ofNat 32 k))) (fun _ s8 => 8 - (intOf s8).toNat)
      case atStart => exact ⟨0, by omega, rfl, rfl⟩
      case round =>
        obtain ⟨j, hj, rfl, rfl⟩ := hrel
        by_cases hj8 : j < 8
        · have hj1 : (j : Int) < 8 := by omega
          go_wp2_with (go_at_call 100; refine (bit_any _ _).mono ?_; rintro e w' ⟨rfl, rfl⟩)
          go_round
          case rel => exact ⟨j + 1, by omega, by go_num, rfl⟩
          case measure => simp [intOf]; omega
        · obtain rfl : j = 8 := by omega
          go_wp2_with fail
          go_roundw
          case rel =>
            refine ⟨k + 1, by omega, by go_num, ?_, hB.setCell (p := ⟨w.heap.size, k, none⟩) (Nat.le_refl _) _⟩
            have hb' := hb.set k (U32 (crcBits 8 (BitVec.ofNat 32 k)))
            rw [A32.set] at hb'
            refine (A32.ext ?_ : _ = A32 256 _) ▸ hb'
            intro i hi
            by_cases e : i = k
            · subst e; rw [if_pos rfl, if_pos (by omega)]; rfl
            · rw [if_neg e]; by_cases h : i < k
              · rw [if_pos h, if_pos (by omega)]
              · rw [if_neg h, if_neg (by omega)]
          case measure => simp [intOf]; omega
    · obtain rfl : k = 256 := by omega
      go_wp2_with (first | (refine wp_loadRow rfl 119 _ rfl _ rfl hb Tryd.underlying119 rfl size119 (A32.size _ _) ?_) | (refine wp_storeRow rfl 119 _ _ rfl _ rfl rfl hb size119 (A32.size _ _) (A32.size _ _) (A32.one _) rfl ?_; intro W1 hu hb1))
      refine ret_row rfl w.heap.size rfl hb1 Tryd.underlying119 rfl size119 (A32.size _ _) rfl ⟨?_, hu.below hB (Nat.le_refl _)⟩
      rw [A32.ext (g := crcTab)]
      intro i hi; rw [if_pos hi]

/-- One byte of the CRC. -/
def crcByte (c : BitVec 32) (b : BitVec 8) : BitVec 32 := crcTab ((n8 (c.setWidth 8 ^^^ b)).toNat) ^^^ c >>> 8
def crcExt (c : BitVec 32) (l : List (BitVec 8)) : BitVec 32 := ~~~(l.foldl crcByte (~~~c))

set_option maxHeartbeats 400000 in
theorem extend_any (c : BitVec 32) (s : ByteArray) (w : World) (hs : s.size ≤ maxLen) :
    Calls Tryd.prog 33 #[U32 c, .string s] w fun e w' => e = .returned (U32 (crcExt c (bts s))) ∧ Below w.heap.size w w' := by
  unfold maxLen at hs
  go_enter Tryd.func33, Tryd.ntmps33
  go_wp2_with (first | (go_at_call 67; refine (table_any _).mono ?_; rintro e w1 ⟨rfl, hB⟩) | (refine wp_storeRow rfl 119 _ _ rfl _ rfl rfl (Blk.new _ _ _) size119 (A32.size _ _) (by rw [zero119]; exact A32.size _ _) (A32.one _) rfl ?_; intro W1 hu hb1))
  have hB1 : Below w.heap.size w W1 := hu.below (hB.alloc hB.size _) hB.size
  go_loop [6, 13] (fun s6 s13 => ∃ k : Nat, k ≤ s.size ∧ s13 = .int .i64 k ∧ s6 = U32 (((bts s).take k).foldl crcByte (~~~c))) (fun _ s13 => s.size - (intOf s13).toNat)
  case atStart => exact ⟨0, by omega, rfl, rfl⟩
  case round =>
    obtain ⟨k, hk, rfl, rfl⟩ := hrel
    by_cases hlt : k < s.size
    · have hix := run_index_str (P := Tryd.prog) Tryd.underlying9 s k hlt
      have hx : ∀ x : BitVec 8, W1.cell? ⟨w1.heap.size, (n8 x).toNat, none⟩ = some (U32 (crcTab (n8 x).toNat)) := fun x => by rw [hb1.cell, A32.get _ (show (n8 x).toNat < 256 from x.isLt)]
      have hlt1 : (k : Int) < (s.size : Int) := by omega
      go_wp2_with fail
      go_round
      case rel => exact ⟨k + 1, by omega, by go_num, by rw [bts_take_succ s k hlt, List.foldl_append]; rfl⟩
      case measure => simp [intOf]; omega
    · obtain rfl : k = s.size := by omega
      go_wp2_with fail
      go_ret
      refine ⟨?_, hB1⟩
      rw [← bts_length, List.take_length]; rfl

end Go.Proofs.YtdpgebifeaakjaaDoor

/- The walks of the CRC functions: the matrices, Combine, Patch, Zeros, Force. -/
namespace Go.Proofs.YtdpgebifeaakjaaDoor
set_option linter.unusedSimpArgs false
set_option linter.unusedVariables false
open Go.RowKit

/-- A linear map applied. -/
def matGo (m : Nat → BitVec 32) : Nat → Nat → BitVec 32 → BitVec 32 → BitVec 32
  | 0, _, _, x => x
  | n + 1, i, c, x => matGo m n (i + 1) (c >>> 1) (if c &&& 1#32 == 1#32 then x ^^^ m i else x)
def matOf (m : Nat → BitVec 32) (c : BitVec 32) : BitVec 32 := matGo m 32 0 c 0#32
def matAfter (m n : Nat → BitVec 32) (i : Nat) : BitVec 32 := matOf m (n i)
def matUnit (i : Nat) : BitVec 32 := 1#32 <<< i
theorem matGo_zero (m : Nat → BitVec 32) (n : Nat) : ∀ i x, matGo m n i 0#32 x = x := by
  induction n with
  | zero => intro i x; rfl
  | succ n ih => intro i x; simp only [matGo]; exact ih (i + 1) x

theorem size155 : (Tryd.prog.info? 155).map (·.size) = some 32 := by kernel_rfl
@[go_sem high] theorem zero155 (w : World) : (zeroValue 155).run Tryd.prog w = .ok (.agg (A32 32 fun _ => 0#32)) w := by kernel_rfl

@[go_sem] theorem lit155 : (#[Value.int .u32 0, Value.int .u32 0, Value.int .u32 0, Value.int .u32 0, Value.int .u32 0, Value.int .u32 0, Value.int .u32 0, Value.int .u32 0, Value.int .u32 0, Value.int .u32 0, Value.int .u32 0, Value.int .u32 0, Value.int .u32 0, Value.int .u32 0, Value.int .u32 0, Value.int .u32 0, Value.int .u32 0, Value.int .u32 0, Value.int .u32 0, Value.int .u32 0, Value.int .u32 0, Value.int .u32 0, Value.int .u32 0, Value.int .u32 0, Value.int .u32 0, Value.int .u32 0, Value.int .u32 0, Value.int .u32 0, Value.int .u32 0, Value.int .u32 0, Value.int .u32 0, Value.int .u32 0] : Array Value) = A32 32 fun _ => 0#32 := by kernel_rfl

theorem shr_lt (c : BitVec 32) (n : Nat) (h : c.toNat < 2 ^ (n + 1)) : (c >>> 1).toNat < 2 ^ n := by
  rw [BitVec.toNat_ushiftRight, Nat.shiftRight_eq_div_pow]
  rw [Nat.pow_succ] at h; omega

set_option maxHeartbeats 400000 in
theorem of_any (m : Nat → BitVec 32) (c : BitVec 32) (w : World) :
    Calls Tryd.prog 103 #[.agg (A32 32 m), U32 c] w fun e w' => e = .returned (U32 (matOf m c)) ∧ Below w.heap.size w w' := by
  go_enter Tryd.func103, Tryd.ntmps103
  go_wp2_with fail
  go_loop [1, 5, 6] (fun s1 s5 s6 => ∃ (k n : Nat) (y x : BitVec 32), k + n = 32 ∧ y.toNat < 2 ^ n ∧ s6 = .int .i64 k ∧ s1 = U32 y ∧ s5 = U32 x ∧ matGo m n k y x = matOf m c) (fun _ _ s6 => 32 - (intOf s6).toNat)
  case atStart => exact ⟨0, 32, c, 0#32, rfl, c.isLt, rfl, rfl, rfl, rfl⟩
  case round =>
    obtain ⟨k, n, y, x, hkn, hy, rfl, rfl, rfl, hm⟩ := hrel
    by_cases hy0 : y = 0#32
    · subst hy0
      rw [matGo_zero] at hm
      have HM := hide hm; clear hm
      go_wp2_with fail
      go_ret
      exact ⟨retU32 HM.out, (Below.refl _ _).alloc (Nat.le_refl _) _⟩
    · have hy1 : (y != 0#32) = true := by simpa using hy0
      obtain ⟨n, rfl⟩ : ∃ n', n = n' + 1 := by
        cases n with
        | zero => exact absurd (BitVec.eq_of_toNat_eq (by simpa using hy)) hy0
        | succ n => exact ⟨n, rfl⟩
      have hb := Blk.new w (A32 32 m) 155
      have hk : k < 32 := by omega
      have hk1 : (k : Int) < 32 := by omega
      have hc : (w.alloc (.cells (A32 32 m) 155)).cell? ⟨w.heap.size, k, none⟩ = some (U32 (m k)) := by rw [hb.cell, A32.get _ hk]
      clear hb
      have HM := hide hm; clear hm
      have HN := hide hkn; clear hkn
      have HY := hide hy; clear hy hy0
      go_wp2_with fail
      · have h : (y &&& 1#32 == 1#32) = true := by assumption
        have hm := HM.out
        rw [matGo, if_pos h] at hm
        exact ⟨⟨k + 1, n, _, _, by have := HN.out; omega, shr_lt _ _ HY.out, by go_num, rfl, rfl, hm⟩, by simp [intOf]; omega⟩
      · have h : (y &&& 1#32 == 1#32) = false := by assumption
        have hm := HM.out
        rw [matGo, if_neg (by rw [h]; decide)] at hm
        exact ⟨⟨k + 1, n, _, _, by have := HN.out; omega, shr_lt _ _ HY.out, by go_num, rfl, rfl, hm⟩, by simp [intOf]; omega⟩

def countedB (n : Int) : Bool := decide (0 ≤ n ∧ n ≤ 1099511627776)
theorem counted_any (n : Int) (w : World) :
    Calls Tryd.prog 64 #[.int .i64 n] w fun e w' => e = .returned (.bool (countedB n)) ∧ w = w' := by
  by_cases h0 : 0 ≤ n
  · by_cases h1 : n ≤ 1099511627776
    · go_enter Tryd.func64, Tryd.ntmps64
      go_wp2_with fail
      go_ret
      exact ⟨by rw [countedB, decide_eq_true ⟨h0, h1⟩]; rfl, rfl⟩
    · go_enter Tryd.func64, Tryd.ntmps64
      go_wp2_with fail
      go_ret
      exact ⟨by rw [countedB, decide_eq_false (by omega)]; rfl, rfl⟩
  · go_enter Tryd.func64, Tryd.ntmps64
    go_wp2_with fail
    go_ret
    exact ⟨by rw [countedB, decide_eq_false (by omega)]; rfl, rfl⟩

set_option maxHeartbeats 400000 in
theorem unit_any (w : World) :
    Calls Tryd.prog 102 #[] w fun e w' => e = .returned (.agg (A32 32 matUnit)) ∧ Below w.heap.size w w' := by
  go_enter Tryd.func102, Tryd.ntmps102
  go_wp2_with fail
  go_loopw [2] (fun s2 W => ∃ k : Nat, k ≤ 32 ∧ s2 = .int .i64 k ∧ Blk W w.heap.size (A32 32 fun i => if i < k then matUnit i else 0#32) 155 ∧ Below w.heap.size w W) (fun s2 _ => 32 - (intOf s2).toNat)
  case atStart => exact ⟨0, by omega, rfl, Blk.new _ _ _, (Below.refl _ _).alloc (Nat.le_refl _) _⟩
  case round =>
    obtain ⟨k, hk, rfl, hb, hB⟩ := hrel
    by_cases hlt : k < 32
    · have hc : wr.cell? ⟨w.heap.size, k, none⟩ = some (U32 0#32) := by rw [hb.cell, A32.get _ hlt, if_neg (by omega)]
      have hf := hb.free k
      have hlt1 : (k : Int) < 32 := by omega
      go_wp2_with fail
      have hb' := hb.set k (U32 (matUnit k))
      rw [A32.set] at hb'
      refine ⟨⟨k + 1, by omega, by go_num, ?_, hB.setCell (p := ⟨w.heap.size, k, none⟩) (Nat.le_refl _) _⟩, by simp [intOf]; omega⟩
      refine (A32.ext ?_ : _ = A32 32 _) ▸ hb'
      intro i hi
      by_cases e : i = k
      · subst e; rw [if_pos rfl, if_pos (by omega)]
      · rw [if_neg e]; by_cases h : i < k
        · rw [if_pos h, if_pos (by omega)]
        · rw [if_neg h, if_neg (by omega)]
    · obtain rfl : k = 32 := by omega
      go_wp2_with (first | (refine wp_loadRow rfl 155 _ rfl _ rfl hb Tryd.underlying155 rfl size155 (A32.size _ _) ?_) | (refine wp_storeRow rfl 155 _ _ rfl _ rfl rfl hb size155 (A32.size _ _) (A32.size _ _) (A32.one _) rfl ?_; intro W1 hu hb1))
      refine ret_row rfl w.heap.size rfl hb1 Tryd.underlying155 rfl size155 (A32.size _ _) rfl ⟨?_, hu.below hB (Nat.le_refl _)⟩
      rw [A32.ext (g := matUnit)]
      intro i hi; rw [if_pos hi]

end Go.Proofs.YtdpgebifeaakjaaDoor

/- The walks of the CRC functions: the product of two matrices, and the shift. -/
namespace Go.Proofs.YtdpgebifeaakjaaDoor
set_option linter.unusedSimpArgs false
set_option linter.unusedVariables false
open Go.RowKit

set_option maxHeartbeats 400000 in
theorem after_any (m n : Nat → BitVec 32) (w : World) :
    Calls Tryd.prog 101 #[.agg (A32 32 m), .agg (A32 32 n)] w fun e w' => e = .returned (.agg (A32 32 (matAfter m n))) ∧ Below w.heap.size w w' := by
  go_enter Tryd.func101, Tryd.ntmps101
  have hb1 := (((Blk.new w (A32 32 m) 155).alloc (.cells (A32 32 n) 155)).alloc (.cells (A32 32 fun _ => 0#32) 155))
  have hb2 := ((Blk.new (w.alloc (.cells (A32 32 m) 155)) (A32 32 n) 155).alloc (.cells (A32 32 fun _ => 0#32) 155))
  have hb3 := (Blk.new ((w.alloc (.cells (A32 32 m) 155)).alloc (.cells (A32 32 n) 155)) (A32 32 fun _ => 0#32) 155)
  have hB := (((Below.refl w.heap.size w).alloc (Nat.le_refl _) (.cells (A32 32 m) 155)).alloc (by simp) (.cells (A32 32 n) 155)).alloc (by simp; omega) (.cells (A32 32 fun _ => 0#32) 155)
  rw [World.size_alloc] at hb2
  rw [World.size_alloc, World.size_alloc] at hb3
  go_wp2_with (refine wp_loadRow rfl 155 _ rfl _ rfl hb2 Tryd.underlying155 rfl size155 (A32.size _ _) ?_)
  go_loopw [8] (fun s8 W => ∃ k : Nat, k ≤ 32 ∧ s8 = .int .i64 k ∧ Blk W w.heap.size (A32 32 m) 155 ∧ Blk W (w.heap.size + 1 + 1) (A32 32 fun i => if i < k then matAfter m n i else 0#32) 155 ∧ Below w.heap.size w W) (fun s8 _ => 32 - (intOf s8).toNat)
  case atStart => exact ⟨0, by omega, rfl, hb1, hb3, hB⟩
  case round =>
    clear hb1 hb2 hb3 hB
    obtain ⟨k, hk, rfl, hb1, hb3, hB⟩ := hrel
    by_cases hlt : k < 32
    · have hix := index_A32 (P := Tryd.prog) Tryd.underlying155 Tryd.sizeOf42 Tryd.isAgg42 n .i64 k hlt
      have hlt1 : (k : Int) < 32 := by omega
      go_wp2_with (first | (refine wp_loadRow rfl 155 _ rfl _ rfl hb1 Tryd.underlying155 rfl size155 (A32.size _ _) ?_) | (go_at_call 103; refine (of_any _ _ _).mono ?_; rintro e W1 ⟨rfl, hB1⟩; have hb31 := hb3.below hB1 hb3.lt; have hb11 := hb1.below hB1 hb1.lt; have hB2 := hB.trans (hB1.mono hB.size); have hc : W1.cell? ⟨w.heap.size + 1 + 1, k, none⟩ = some (U32 0#32) := (by rw [hb31.cell, A32.get _ hlt, if_neg (by omega)]); have hf := hb31.free k))
      have hb32 := hb31.set k (U32 (matAfter m n k))
      rw [A32.step] at hb32
      exact ⟨⟨k + 1, by omega, by go_num, hb11.other (by simp; omega) _, hb32, hB2.setCell (p := ⟨w.heap.size + 1 + 1, k, none⟩) (by simp; omega) _⟩, by simp [intOf]; omega⟩
    · obtain rfl : k = 32 := by omega
      go_wp2_with (first | (refine wp_loadRow rfl 155 _ rfl _ rfl hb3 Tryd.underlying155 rfl size155 (A32.size _ _) ?_) | (refine wp_storeRow rfl 155 _ _ rfl _ rfl rfl hb3 size155 (A32.size _ _) (A32.size _ _) (A32.one _) rfl ?_; intro W1 hu hb4))
      refine ret_row rfl (w.heap.size + 1 + 1) rfl hb4 Tryd.underlying155 rfl size155 (A32.size _ _) rfl ⟨?_, hu.below hB (by omega)⟩
      rw [A32.ext (fill_all _ _)]

/-- The shift of a word by n bytes: the loop, and the whole. -/
def shiftGo : Nat → Nat → (Nat → BitVec 32) → (Nat → BitVec 32) → (Nat → BitVec 32)
  | 0, _, _, all => all
  | f + 1, n, step, all => if n = 0 then all else shiftGo f (n / 2) (matAfter step step) (if n % 2 = 1 then matAfter step all else all)
def step0 (i : Nat) : BitVec 32 := crcBit (1#32 <<< i)
def sq (m : Nat → BitVec 32) : Nat → BitVec 32 := matAfter m m
def shiftAll (n : Nat) : Nat → BitVec 32 := shiftGo 64 n (sq (sq (sq step0))) matUnit
def crcShift (c : BitVec 32) (n : Nat) : BitVec 32 := if eqRow 32 (shiftAll n) matUnit then c else matOf (shiftAll n) c

theorem size42 : (Tryd.prog.info? 42).map (·.size) = some 1 := by kernel_rfl
def sqN : Nat → (Nat → BitVec 32)
  | 0 => step0
  | n + 1 => sq (sqN n)

theorem and1_i64 (m : Nat) (h : m < 2 ^ 63) : bits .and .i64 (m : Int) 1 = ((m % 2 : Nat) : Int) := by
  have e : (BitVec.ofInt 64 (m : Int) &&& BitVec.ofInt 64 1).toNat = m % 2 := by
    rw [BitVec.toNat_and]
    have e1 : (BitVec.ofInt 64 (m : Int)).toNat = m := by
      rw [BitVec.toNat_ofInt, ← Int.natCast_emod, Int.toNat_natCast, Nat.mod_eq_of_lt (by omega)]
    have e2 : (BitVec.ofInt 64 1).toNat = 1 := by decide
    rw [e1, e2, Nat.and_one_is_mod]
  show IntKind.i64.wrap ((BitVec.ofInt 64 (m : Int) &&& BitVec.ofInt 64 1).toNat : Int) = _
  rw [e, IntWalk.i64_in _ (by omega)]

set_option maxHeartbeats 1000000 in
theorem shift_any (c : BitVec 32) (n : Nat) (hn : n < 2 ^ 63) (w : World) :
    Calls Tryd.prog 65 #[U32 c, .int .i64 n] w fun e w' => e = .returned (U32 (crcShift c n)) ∧ Below w.heap.size w w' := by
  have hn1 : (n : Int) ≤ 9223372036854775807 := by omega
  go_enter Tryd.func65, Tryd.ntmps65
  go_wp2_with (refine wp_storeRow rfl 155 _ _ rfl _ rfl rfl (Blk.new _ _ _) size155 (A32.size _ _) (A32.size _ _) (A32.one _) rfl ?_; intro W0 hu0 hb0)
  have hB0 : Below w.heap.size w W0 := hu0.below ((Below.refl _ _).alloc (Nat.le_refl _) _) (Nat.le_refl _)
  clear hu0
  go_loopw [9] (fun s9 W => ∃ k : Nat, k ≤ 32 ∧ s9 = .int .i64 k ∧ Blk W w.heap.size (A32 32 fun i => if i < k then step0 i else 0#32) 155 ∧ Below w.heap.size w W) (fun s9 _ => 32 - (intOf s9).toNat)
  case atStart => exact ⟨0, by omega, rfl, hb0, hB0⟩
  case round =>
    clear hb0 hB0
    obtain ⟨k, hk, rfl, hb, hB⟩ := hrel
    by_cases hlt : k < 32
    · have hlt1 : (k : Int) < 32 := by omega
      have hc : wr.cell? ⟨w.heap.size, k, none⟩ = some (U32 0#32) := by rw [hb.cell, A32.get _ hlt, if_neg (by omega)]
      have hf := hb.free k
      go_wp2_with (go_at_call 100; refine (bit_any _ _).mono ?_; rintro e w' ⟨rfl, rfl⟩)
      have hb' := hb.set k (U32 (step0 k))
      rw [A32.step] at hb'
      exact ⟨⟨k + 1, by omega, by go_num, hb', hB.setCell (p := ⟨w.heap.size, k, none⟩) (Nat.le_refl _) _⟩, by simp [intOf]; omega⟩
    · rw [A32.ext (fun i hi => if_pos (by omega)) (g := step0)] at hb
      have hlt1 : ¬ (k : Int) < 32 := by omega
      clear hlt hk W0
      go_wp2_with fail
      go_loopw [18] (fun s18 W => ∃ j : Nat, j ≤ 3 ∧ s18 = .int .i64 j ∧ Blk W w.heap.size (A32 32 (sqN j)) 155 ∧ Below w.heap.size w W) (fun s18 _ => 3 - (intOf s18).toNat)
      case atStart => exact ⟨0, by omega, rfl, hb, hB⟩
      case round =>
        clear hb hB
        obtain ⟨j, hj, rfl, hb, hB⟩ := hrel
        by_cases hlt : j < 3
        · have hlt1 : (j : Int) < 3 := by omega
          go_wp2_with (first | (refine wp_loadRow rfl 155 _ rfl _ rfl hb Tryd.underlying155 rfl size155 (A32.size _ _) ?_) | (go_at_call 101; refine (after_any _ _ _).mono ?_; rintro e W1 ⟨rfl, hB1⟩; have hb1 := hb.below hB1 hb.lt; have hB2 := hB.trans (hB1.mono hB.size)) | (refine wp_storeRow rfl 155 _ _ rfl _ rfl rfl hb1 size155 (A32.size _ _) (A32.size _ _) (A32.one _) rfl ?_; intro W2 hu2 hb2))
          exact ⟨⟨j + 1, by omega, by go_num, hb2, hu2.below hB2 (Nat.le_refl _)⟩, by simp [intOf]; omega⟩
        · have hlt2 : ¬ (j : Int) < 3 := by omega
          rw [show sqN j = sqN 3 by rw [show j = 3 by omega]] at hb
          clear hlt hj
          go_wp2_with (first | (go_at_call 102; refine (unit_any _).mono ?_; rintro e W1 ⟨rfl, hB1⟩; have hb1 := (hb.below hB1 hb.lt).alloc (.cells (A32 32 fun _ => 0#32) 155); have hB2 := (hB.trans (hB1.mono hB.size)).alloc (by have := hB.size; have := hB1.size; omega) (.cells (A32 32 fun _ => 0#32) 155); have hsz := hb.lt; have hsz1 := hB1.size) | (refine wp_storeRow rfl 155 _ _ rfl _ rfl rfl (Blk.new _ _ _) size155 (A32.size _ _) (A32.size _ _) (A32.one _) rfl ?_; intro W2 hu2 hb2))
          obtain ⟨B1, hB1e⟩ : ∃ B1, B1 = W1.heap.size := ⟨_, rfl⟩
          rw [← hB1e] at hb2 hu2 hsz1 ⊢
          have hlt1 : w.heap.size < B1 := by omega
          have hb3 := hb1.upd hu2 (by omega)
          have hB3 := hu2.below hB2 (by omega)
          clear hb1 hB2 hu2 hb hB hB1e hsz hsz1
          go_loopw [1] (fun s1 W => ∃ (f m : Nat) (st all : Nat → BitVec 32), s1 = .int .i64 m ∧ m ≤ n ∧ m < 2 ^ f ∧ Blk W w.heap.size (A32 32 st) 155 ∧ Blk W B1 (A32 32 all) 155 ∧ Below w.heap.size w W ∧ shiftGo f m st all = shiftAll n) (fun s1 _ => (intOf s1).toNat)
          case atStart => exact ⟨64, n, _, _, rfl, Nat.le_refl _, by omega, hb3, hb2, hB3, rfl⟩
          case round =>
            clear hb3 hb2 hB3
            obtain ⟨f, m, st, all, rfl, hm, hf, hb1, hb2, hB, hS⟩ := hrel
            have HS := hide hS; clear hS
            have HF := hide hf; clear hf
            by_cases hm0 : 0 < m
            · have hm1 : (0 : Int) < m := by omega
              have hm2 : (m : Int) ≤ 9223372036854775807 := by omega
              obtain ⟨f, rfl⟩ : ∃ f', f = f' + 1 := by
                cases f with
                | zero => have := HF.out; omega
                | succ f => exact ⟨f, rfl⟩
              have hS := HS.out
              rw [shiftGo, if_neg (by omega)] at hS
              by_cases hodd : m % 2 = 1
              · have hbit : (bits BinOp.and IntKind.i64 (m : Int) 1 == 1) = true := by rw [and1_i64 m (by omega), hodd]; rfl
                rw [if_pos hodd] at hS
                have HS2 := hide hS; clear hS hodd
                go_wp2_with (first | (refine wp_loadRow rfl 155 _ rfl w.heap.size rfl hb1 Tryd.underlying155 rfl size155 (A32.size _ _) ?_) | (refine wp_loadRow rfl 155 _ rfl B1 rfl hb2 Tryd.underlying155 rfl size155 (A32.size _ _) ?_) | (go_at_call 101; refine (after_any _ _ _).mono ?_; rintro e W1 ⟨rfl, hB1⟩; replace hb1 := hb1.below hB1 hb1.lt; replace hb2 := hb2.below hB1 hb2.lt; replace hB := hB.trans (hB1.mono hB.size); clear hB1) | (refine wp_storeRow rfl 155 _ _ rfl B1 rfl rfl hb2 size155 (A32.size _ _) (A32.size _ _) (A32.one _) rfl ?_; intro W2 hu hb3; replace hb1 := hb1.upd hu (by omega); replace hB := hu.below hB (by omega); clear hb2; have hb2 := hb3; clear hb3 hu) | (refine wp_storeRow rfl 155 _ _ rfl w.heap.size rfl rfl hb1 size155 (A32.size _ _) (A32.size _ _) (A32.one _) rfl ?_; intro W2 hu hb3; replace hb2 := hb2.upd hu (by omega); replace hB := hu.below hB (by omega); clear hb1; have hb1 := hb3; clear hb3 hu))
                exact ⟨⟨f, m / 2, _, _, by go_num, by omega, by have := HF.out; omega, hb1, hb2, hB, HS2.out⟩, by simp [intOf]; omega⟩
              · have hbit : (bits BinOp.and IntKind.i64 (m : Int) 1 == 1) = false := by rw [and1_i64 m (by omega), show m % 2 = 0 by omega]; rfl
                rw [if_neg hodd] at hS
                have HS2 := hide hS; clear hS hodd
                go_wp2_with (first | (refine wp_loadRow rfl 155 _ rfl w.heap.size rfl hb1 Tryd.underlying155 rfl size155 (A32.size _ _) ?_) | (refine wp_loadRow rfl 155 _ rfl B1 rfl hb2 Tryd.underlying155 rfl size155 (A32.size _ _) ?_) | (go_at_call 101; refine (after_any _ _ _).mono ?_; rintro e W1 ⟨rfl, hB1⟩; replace hb1 := hb1.below hB1 hb1.lt; replace hb2 := hb2.below hB1 hb2.lt; replace hB := hB.trans (hB1.mono hB.size); clear hB1) | (refine wp_storeRow rfl 155 _ _ rfl B1 rfl rfl hb2 size155 (A32.size _ _) (A32.size _ _) (A32.one _) rfl ?_; intro W2 hu hb3; replace hb1 := hb1.upd hu (by omega); replace hB := hu.below hB (by omega); clear hb2; have hb2 := hb3; clear hb3 hu) | (refine wp_storeRow rfl 155 _ _ rfl w.heap.size rfl rfl hb1 size155 (A32.size _ _) (A32.size _ _) (A32.one _) rfl ?_; intro W2 hu hb3; replace hb2 := hb2.upd hu (by omega); replace hB := hu.below hB (by omega); clear hb1; have hb1 := hb3; clear hb3 hu))
                exact ⟨⟨f, m / 2, _, _, by go_num, by omega, by have := HF.out; omega, hb1, hb2, hB, HS2.out⟩, by simp [intOf]; omega⟩
            · have hm1 : ¬ (0 : Int) < m := by omega
              have hall : all = shiftAll n := by
                have h := HS.out
                rw [show m = 0 by omega] at h
                cases f with
                | zero => exact h
                | succ f => rw [shiftGo, if_pos rfl] at h; exact h
              have HA := hide hall; clear hall
              have hgd : Tryd.prog.eqGuardType Tryd.prog.depth 155 = false := by kernel_rfl
              obtain ⟨b, hbe⟩ : ∃ b, eqRow 32 all matUnit = b := ⟨_, rfl⟩
              have heq := eql_A32 (P := Tryd.prog) Tryd.underlying155 size42 Tryd.isAgg42 Tryd.underlying42 all matUnit
              rw [hbe] at heq
              have HBE := hide hbe; clear hbe
              go_wp2_with fail
              refine wp_region_held_drew (S := fun W => Blk W B1 (A32 32 all) 155) (by kernel_rfl) hb2.drew (fun hS => ?_)
              refine wpAnyH_take (i := 0) (v := .agg (A32 32 all)) rfl (by kernel_rfl) (by kernel_rfl) (by kernel_rfl) (fun _ _ _ h => h) (Or.inl ⟨by rfl, fun W hW => run_exec_loadRow _ 155 _ rfl B1 rfl hW Tryd.underlying155 rfl size155 (A32.size _ _)⟩) hS ?_
              refine wpAnyH_ready (rs := [1]) (by kernel_rfl) (by simp) ?_
              refine AllReadyH.cons rfl (fun K hK => ?_) AllReadyH.nil
              go_simp
              refine (unit_any _).mono ?_
              rintro e W1 ⟨rfl, hB1'⟩
              have hB1 : Below wr.heap.size wr W1 := below_undrew hB1'
              clear hB1'
              refine hK.out _ _ (hb2.below hB1 hb2.lt) (fun hb3 => ?_)
              refine wpAnyH_ready (rs := [2]) (by kernel_rfl) (by simp) ?_
              refine AllReadyH.cons rfl (fun K hK => ?_) AllReadyH.nil
              go_simp
              refine hK.out _ _ hb3 (fun _ => ?_)
              refine wpAnyH_done (by kernel_rfl) ?_ _
              have hB2 : Below w.heap.size w W1 := hB.trans (hB1.mono hB.size)
              cases b
              · go_wp2_with (first | (refine wp_loadRow rfl 155 _ rfl B1 rfl hb3 Tryd.underlying155 rfl size155 (A32.size _ _) ?_) | (go_at_call 103; refine (of_any _ _ _).mono ?_; rintro e W3 ⟨rfl, hB3⟩))
                go_ret
                exact ⟨retU32 (by rw [crcShift, ← HA.out, if_neg (by rw [HBE.out]; decide)]), hB2.trans (hB3.mono hB2.size)⟩
              · go_wp2_with fail
                go_ret
                exact ⟨retU32 (by rw [crcShift, ← HA.out, if_pos HBE.out]), hB2⟩
end Go.Proofs.YtdpgebifeaakjaaDoor

/- The walks of the CRC functions: CRC, Zeros, Combine, Patch, Force. -/
namespace Go.Proofs.YtdpgebifeaakjaaDoor
set_option linter.unusedSimpArgs false
set_option linter.unusedVariables false
open Go.RowKit

def crc (l : List (BitVec 8)) : BitVec 32 := crcExt 0#32 l

set_option maxHeartbeats 400000 in
theorem crc_any (s : ByteArray) (w : World) (hs : s.size ≤ maxLen) :
    Calls Tryd.prog 25 #[.string s] w fun e w' => e = .returned (U32 (crc (bts s))) ∧ Below w.heap.size w w' := by
  go_enter Tryd.func25, Tryd.ntmps25
  go_wp2_with (go_at_call 33; refine (extend_any 0#32 _ _ hs).mono ?_; rintro e W ⟨rfl, hB⟩)
  go_ret
  exact ⟨rfl, hB⟩

/-- A word and an error, as the calls return them. -/
def pairV (x : BitVec 32 × Int) : Value := .tuple #[U32 x.1, .int .i64 x.2]
def combineS (a b : BitVec 32) (n : Int) : BitVec 32 × Int := if countedB n = true then (crcShift a n.toNat ^^^ b, 0) else (0#32, 1)
def zerosS (a : BitVec 32) (n : Int) : BitVec 32 × Int := if countedB n = true then (~~~crcShift (~~~a) n.toNat, 0) else (0#32, 1)
def patchS (c : BitVec 32) (n : Int) (s t : List (BitVec 8)) : BitVec 32 × Int :=
  if s.length = t.length ∧ countedB n = true then (c ^^^ crcShift (crc s ^^^ crc t) n.toNat, 0) else (0#32, 1)

set_option maxHeartbeats 400000 in
theorem combine_any (a b : BitVec 32) (n : Int) (w : World) :
    Calls Tryd.prog 27 #[U32 a, U32 b, .int .i64 n] w fun e w' => e = .returned (pairV (combineS a b n)) ∧ Below w.heap.size w w' := by
  cases hc : countedB n
  · have HC := hide hc
    go_enter Tryd.func27, Tryd.ntmps27
    go_wp2_with (go_at_call 64; refine (counted_any _ _).mono ?_; rintro e W ⟨rfl, rfl⟩)
    go_ret2
    exact ⟨by rw [combineS, if_neg (by rw [HC.out]; decide)]; rfl, Below.refl _ _⟩
  · have hn : 0 ≤ n ∧ n ≤ 1099511627776 := by simpa [countedB] using hc
    obtain ⟨m, rfl⟩ := Int.eq_ofNat_of_zero_le hn.1
    have HC := hide hc
    go_enter Tryd.func27, Tryd.ntmps27
    go_wp2_with (first | (go_at_call 64; refine (counted_any _ _).mono ?_; rintro e W ⟨rfl, rfl⟩) | (go_at_call 65; refine (shift_any _ _ (by omega) _).mono ?_; rintro e W ⟨rfl, hB⟩))
    go_ret2
    exact ⟨by rw [combineS, if_pos HC.out]; rfl, hB⟩

set_option maxHeartbeats 400000 in
theorem zeros_any (a : BitVec 32) (n : Int) (w : World) :
    Calls Tryd.prog 26 #[U32 a, .int .i64 n] w fun e w' => e = .returned (pairV (zerosS a n)) ∧ Below w.heap.size w w' := by
  cases hc : countedB n
  · have HC := hide hc
    go_enter Tryd.func26, Tryd.ntmps26
    go_wp2_with (go_at_call 64; refine (counted_any _ _).mono ?_; rintro e W ⟨rfl, rfl⟩)
    go_ret2
    exact ⟨by rw [zerosS, if_neg (by rw [HC.out]; decide)]; rfl, Below.refl _ _⟩
  · have hn : 0 ≤ n ∧ n ≤ 1099511627776 := by simpa [countedB] using hc
    obtain ⟨m, rfl⟩ := Int.eq_ofNat_of_zero_le hn.1
    have HC := hide hc
    go_enter Tryd.func26, Tryd.ntmps26
    go_wp2_with (first | (go_at_call 64; refine (counted_any _ _).mono ?_; rintro e W ⟨rfl, rfl⟩) | (go_at_call 65; refine (shift_any _ _ (by omega) _).mono ?_; rintro e W ⟨rfl, hB⟩))
    go_ret2
    exact ⟨by rw [zerosS, if_pos HC.out]; rfl, hB⟩

set_option maxHeartbeats 800000 in
theorem patch_any (c : BitVec 32) (n : Int) (s t : ByteArray) (w : World) (hs : s.size ≤ maxLen) (ht : t.size ≤ maxLen) :
    Calls Tryd.prog 28 #[U32 c, .int .i64 n, .string s, .string t] w fun e w' => e = .returned (pairV (patchS c n (bts s) (bts t))) ∧ Below w.heap.size w w' := by
  by_cases hst : s.size = t.size
  · have hb : (((s.size : Nat) : Int) != ((t.size : Nat) : Int)) = false := by simp [hst]
    have HST := hide hst; clear hst
    cases hc : countedB n
    · have HC := hide hc
      go_enter Tryd.func28, Tryd.ntmps28
      go_wp2_with (go_at_call 64; refine (counted_any _ _).mono ?_; rintro e W ⟨rfl, rfl⟩)
      go_ret2
      exact ⟨by rw [patchS, if_neg (fun h => by rw [HC.out] at h; exact absurd h.2 (by decide))]; rfl, Below.refl _ _⟩
    · have hn : 0 ≤ n ∧ n ≤ 1099511627776 := by simpa [countedB] using hc
      obtain ⟨m, rfl⟩ := Int.eq_ofNat_of_zero_le hn.1
      have HC := hide hc
      go_enter Tryd.func28, Tryd.ntmps28
      go_wp2_with (first | (go_at_call 64; refine (counted_any _ _).mono ?_; rintro e W ⟨rfl, rfl⟩) | (go_at_call 65; refine (shift_any _ _ (by omega) _).mono ?_; rintro e W3 ⟨rfl, hB3⟩) | (go_at_call_of 25 s; refine (crc_any s _ hs).mono ?_; rintro e W1 ⟨rfl, hB1⟩) | (go_at_call_of 25 t; refine (crc_any t _ ht).mono ?_; rintro e W2 ⟨rfl, hB2⟩))
      go_ret2
      have h2 := hB1.trans (hB2.mono hB1.size)
      exact ⟨by rw [patchS, if_pos ⟨by rw [bts_length, bts_length]; exact HST.out, HC.out⟩]; rfl, h2.trans (hB3.mono h2.size)⟩
  · have hb : (((s.size : Nat) : Int) != ((t.size : Nat) : Int)) = true := by simp; omega
    have HST := hide hst; clear hst
    go_enter Tryd.func28, Tryd.ntmps28
    go_wp2_with fail
    go_ret2
    exact ⟨by rw [patchS, if_neg (fun h => HST.out (by rw [← bts_length, ← bts_length]; exact h.1))]; rfl, Below.refl _ _⟩

/-- The register followed back by n bits. -/
def crcBack : Nat → BitVec 32 → BitVec 32
  | 0, c => c
  | n + 1, c => let d := crcBack n c; if d >>> 31 == 1#32 then (d ^^^ 0xedb88320#32) <<< 1 ||| 1#32 else d <<< 1
def forceW (c t : BitVec 32) : BitVec 32 := crcBack 32 (~~~t) ^^^ ~~~c
def wordBytes (x : BitVec 32) : List (BitVec 8) := [x.setWidth 8, (x >>> 8).setWidth 8, (x >>> 16).setWidth 8, (x >>> 24).setWidth 8]
set_option maxRecDepth 20000 in
set_option maxHeartbeats 800000 in
theorem force_any (c t : BitVec 32) (w : World) :
    Calls Tryd.prog 35 #[U32 c, U32 t] w fun e w' => e = .returned (.string (strOf (wordBytes (forceW c t)))) ∧ Below w.heap.size w w' := by
  go_enter Tryd.func35, Tryd.ntmps35
  go_wp2_with fail
  go_loop [5, 8] (fun s5 s8 => ∃ k : Nat, k ≤ 32 ∧ s8 = .int .i64 k ∧ s5 = U32 (crcBack k (~~~t))) (fun _ s8 => 32 - (intOf s8).toNat)
  case atStart => exact ⟨0, by omega, rfl, rfl⟩
  case round =>
    obtain ⟨k, hk, rfl, rfl⟩ := hrel
    by_cases hlt : k < 32
    · have hlt1 : (k : Int) < 32 := by omega
      go_wp2_with fail
      · have h : (crcBack k (~~~t) >>> 31 == 1#32) = true := by assumption
        exact ⟨⟨k + 1, by omega, by go_num, by simp only [crcBack]; rw [if_pos h]⟩, by simp [intOf]; omega⟩
      · have h : (crcBack k (~~~t) >>> 31 == 1#32) = false := by assumption
        exact ⟨⟨k + 1, by omega, by go_num, by simp only [crcBack]; rw [if_neg (by rw [h]; decide)]⟩, by simp [intOf]; omega⟩
    · have hlt1 : ¬ (k : Int) < 32 := by omega
      have HK := hide (show k = 32 by omega)
      have hcv : ∀ x0 x1 x2 x3 : BitVec 8, (convert 43 9 (.slice (some ⟨w.heap.size, 0, none⟩) 4 4)).run Tryd.prog (w.alloc (.cells #[U8 x0, U8 x1, U8 x2, U8 x3] 5)) = .ok (.string (strOf [x0, x1, x2, x3])) (w.alloc (.cells #[U8 x0, U8 x1, U8 x2, U8 x3] 5)) := fun x0 x1 x2 x3 =>
        run_bytes_str _ 43 9 5 w.heap.size 0 4 [x0, x1, x2, x3] 4 rfl Tryd.underlying43 Tryd.underlying5 Tryd.underlying9 (fun j hj => by
          rw [(Blk.new w #[U8 x0, U8 x1, U8 x2, U8 x3] 5).cell, Nat.zero_add]
          match j, hj with
          | 0, _ => rfl
          | 1, _ => rfl
          | 2, _ => rfl
          | 3, _ => rfl)
      go_wp2_with fail
      go_ret
      refine ⟨?_, (Below.refl _ _).alloc (Nat.le_refl _) _⟩
      have hf : forceW c t = crcBack k (~~~t) ^^^ ~~~c := by rw [forceW, show crcBack 32 = crcBack k by rw [HK.out]]
      rw [hf]
      simp [wordBytes]
end Go.Proofs.YtdpgebifeaakjaaDoor

/- The plain law of the shift: what the matrices reckon is so many steps of the register. No program in sight. -/
namespace Go.Proofs.YtdpgebifeaakjaaDoor
set_option linter.unusedSimpArgs false
set_option linter.unusedVariables false
open Go.RowKit

/-- The lowest bit's test. -/
theorem low_test (c : BitVec 32) : (c &&& 1#32 == 1#32) = c.getLsbD 0 := by
  have h : (c &&& 1#32).toNat = c.toNat % 2 := by rw [BitVec.toNat_and]; exact Nat.and_one_is_mod _
  have g : c.getLsbD 0 = decide (c.toNat % 2 = 1) := by simp [BitVec.getLsbD, Nat.testBit_zero]
  rw [g]
  by_cases e : c.toNat % 2 = 1
  · have : c &&& 1#32 = 1#32 := BitVec.eq_of_toNat_eq (by rw [h, e]; rfl)
    simp [this, e]
  · have : c &&& 1#32 ≠ 1#32 := fun h' => e (by rw [← h, h']; rfl)
    simp [this, e]

def Lin (f : BitVec 32 → BitVec 32) : Prop := ∀ x y, f (x ^^^ y) = f x ^^^ f y
theorem Lin.zero {f : BitVec 32 → BitVec 32} (h : Lin f) : f 0#32 = 0#32 := by
  have := h 0#32 0#32
  rw [BitVec.xor_self, BitVec.xor_self] at this
  exact this
theorem Lin.comp {f g : BitVec 32 → BitVec 32} (hf : Lin f) (hg : Lin g) : Lin (fun x => f (g x)) := fun x y => by
  show f (g (x ^^^ y)) = _
  rw [hg, hf]
theorem Lin.id : Lin (fun x => x) := fun _ _ => rfl

theorem crcBit_eq (c : BitVec 32) : crcBit c = c >>> 1 ^^^ (if c.getLsbD 0 then 0xedb88320#32 else 0#32) := by
  unfold crcBit
  rw [low_test]
  cases c.getLsbD 0 <;> simp
theorem xor4 (a b c d : BitVec 32) : (a ^^^ b) ^^^ (c ^^^ d) = (a ^^^ c) ^^^ (b ^^^ d) := by
  rw [BitVec.xor_assoc, BitVec.xor_assoc, ← BitVec.xor_assoc b c d, BitVec.xor_comm b c, BitVec.xor_assoc]
theorem crcBit_lin : Lin crcBit := by
  intro x y
  have key : (if (x.getLsbD 0 ^^ y.getLsbD 0) then 0xedb88320#32 else 0#32) = (if x.getLsbD 0 then 0xedb88320#32 else 0#32) ^^^ (if y.getLsbD 0 then 0xedb88320#32 else 0#32) := by
    cases x.getLsbD 0 <;> cases y.getLsbD 0 <;> simp
  rw [crcBit_eq, crcBit_eq, crcBit_eq, BitVec.ushiftRight_xor_distrib, BitVec.getLsbD_xor, key, xor4]
theorem crcBits_lin : ∀ n, Lin (crcBits n)
  | 0 => Lin.id
  | n + 1 => crcBit_lin.comp (crcBits_lin n)

theorem split_low (c : BitVec 32) (i : Nat) : c <<< i = ((c >>> 1) <<< (i + 1)) ^^^ (if c.getLsbD 0 then 1#32 <<< i else 0#32) := by
  apply BitVec.eq_of_getLsbD_eq
  intro j hj
  rw [BitVec.getLsbD_xor, BitVec.getLsbD_shiftLeft, BitVec.getLsbD_shiftLeft, BitVec.getLsbD_ushiftRight]
  have hb : (if c.getLsbD 0 = true then 1#32 <<< i else 0#32).getLsbD j = (c.getLsbD 0 && decide (j = i)) := by
    cases c.getLsbD 0
    · simp
    · simp only [if_true, Bool.true_and, BitVec.getLsbD_shiftLeft, hj, decide_true]
      by_cases e : j = i
      · subst e; simp
      · by_cases l : j < i
        · simp [l, e]
        · have : j - i ≠ 0 := by omega
          simp [l, e, BitVec.getLsbD_one, this]
  rw [hb]
  simp only [hj, decide_true, Bool.true_and]
  by_cases e : j = i
  · subst e
    simp
  · by_cases l : j < i
    · have l2 : j < i + 1 := by omega
      simp [l, l2, e]
    · have l2 : ¬ j < i + 1 := by omega
      have l3 : 1 + (j - (i + 1)) = j - i := by omega
      simp [l, l2, e, l3]

/-- The matrix m is the map f. -/
structure Rep (m : Nat → BitVec 32) (f : BitVec 32 → BitVec 32) : Prop where
  lin : Lin f
  at_ : ∀ i, i < 32 → m i = f (1#32 <<< i)
theorem Rep.go {m : Nat → BitVec 32} {f : BitVec 32 → BitVec 32} (h : Rep m f) : ∀ (n i : Nat) (c x : BitVec 32), n + i = 32 → matGo m n i c x = x ^^^ f (c <<< i)
  | 0, i, c, x, e => by
    have : c <<< i = 0#32 := by
      rw [show i = 32 by omega]
      exact BitVec.shiftLeft_eq_zero (by decide)
    rw [matGo, this, h.lin.zero, BitVec.xor_zero]
  | n + 1, i, c, x, e => by
    rw [matGo, Rep.go h n (i + 1) _ _ (by omega), split_low c i, h.lin, low_test]
    cases c.getLsbD 0
    · simp [h.lin.zero]
    · simp only [if_true]
      rw [h.at_ i (by omega), BitVec.xor_assoc, BitVec.xor_comm (f (1#32 <<< i))]
theorem Rep.of {m : Nat → BitVec 32} {f : BitVec 32 → BitVec 32} (h : Rep m f) (c : BitVec 32) : matOf m c = f c := by
  rw [matOf, h.go 32 0 c 0#32 (by decide), BitVec.zero_xor, BitVec.shiftLeft_zero]
theorem Rep.after {m n : Nat → BitVec 32} {f g : BitVec 32 → BitVec 32} (h : Rep m f) (k : Rep n g) : Rep (matAfter m n) (fun x => f (g x)) :=
  ⟨h.lin.comp k.lin, fun i hi => by rw [matAfter, h.of, k.at_ i hi]⟩
theorem Rep.unit : Rep matUnit (fun x => x) := ⟨Lin.id, fun _ _ => rfl⟩
theorem Rep.step : Rep step0 (crcBits 1) := ⟨crcBits_lin 1, fun _ _ => rfl⟩
theorem crcBits_add (a b : Nat) (x : BitVec 32) : crcBits (a + b) x = crcBits a (crcBits b x) := by
  induction a with
  | zero => rw [Nat.zero_add]; rfl
  | succ a ih => rw [Nat.succ_add]; show crcBit (crcBits (a + b) x) = crcBit (crcBits a (crcBits b x)); rw [ih]
theorem Rep.congr {m : Nat → BitVec 32} {f g : BitVec 32 → BitVec 32} (h : Rep m f) (e : ∀ x, f x = g x) : Rep m g := by
  have : f = g := funext e
  exact this ▸ h
theorem Rep.sq {m : Nat → BitVec 32} {a : Nat} (h : Rep m (crcBits a)) : Rep (Go.Proofs.YtdpgebifeaakjaaDoor.sq m) (crcBits (2 * a)) :=
  (h.after h).congr fun x => by rw [Nat.two_mul, crcBits_add]
theorem Rep.shiftGo : ∀ (f n : Nat) (step all : Nat → BitVec 32) (a b : Nat), n < 2 ^ f → Rep step (crcBits a) → Rep all (crcBits b) → Rep (Go.Proofs.YtdpgebifeaakjaaDoor.shiftGo f n step all) (crcBits (a * n + b))
  | 0, n, step, all, a, b, hn, h, k => by
    have : n = 0 := by simpa using hn
    subst this
    rw [Go.Proofs.YtdpgebifeaakjaaDoor.shiftGo, Nat.mul_zero, Nat.zero_add]
    exact k
  | f + 1, n, step, all, a, b, hn, h, k => by
    rw [Go.Proofs.YtdpgebifeaakjaaDoor.shiftGo]
    by_cases h0 : n = 0
    · rw [if_pos h0, h0, Nat.mul_zero, Nat.zero_add]; exact k
    · rw [if_neg h0]
      have hn2 : n / 2 < 2 ^ f := by rw [Nat.pow_succ] at hn; omega
      have hs : Rep (matAfter step step) (crcBits (2 * a)) := h.sq
      by_cases h1 : n % 2 = 1
      · rw [if_pos h1]
        have hk : Rep (matAfter step all) (crcBits (a + b)) := (h.after k).congr fun x => by rw [crcBits_add]
        have := Rep.shiftGo f (n / 2) _ _ (2 * a) (a + b) hn2 hs hk
        have e : 2 * a * (n / 2) + (a + b) = a * n + b := by
          have : n = 2 * (n / 2) + 1 := by omega
          calc 2 * a * (n / 2) + (a + b) = a * (2 * (n / 2) + 1) + b := by rw [Nat.mul_add, Nat.mul_one, Nat.mul_comm 2 a, Nat.mul_assoc]; omega
            _ = a * n + b := by rw [← this]
        rw [e] at this
        exact this
      · rw [if_neg h1]
        have := Rep.shiftGo f (n / 2) _ _ (2 * a) b hn2 hs k
        have e : 2 * a * (n / 2) + b = a * n + b := by
          have : n = 2 * (n / 2) := by omega
          calc 2 * a * (n / 2) + b = a * (2 * (n / 2)) + b := by rw [Nat.mul_comm 2 a, Nat.mul_assoc]
            _ = a * n + b := by rw [← this]
        rw [e] at this
        exact this
theorem shiftAll_rep (n : Nat) (hn : n < 2 ^ 64) : Rep (shiftAll n) (crcBits (8 * n)) := by
  have h8 : Rep (Go.Proofs.YtdpgebifeaakjaaDoor.sq (Go.Proofs.YtdpgebifeaakjaaDoor.sq (Go.Proofs.YtdpgebifeaakjaaDoor.sq step0))) (crcBits 8) := Rep.step.sq.sq.sq
  exact Rep.shiftGo 64 n _ _ 8 0 hn h8 Rep.unit
/-- The shift by n bytes is 8 n steps of the register. -/
theorem crcShift_eq (c : BitVec 32) (n : Nat) (hn : n < 2 ^ 64) : crcShift c n = crcBits (8 * n) c := by
  have h := shiftAll_rep n hn
  unfold crcShift
  by_cases e : eqRow 32 (shiftAll n) matUnit = true
  · rw [if_pos e]
    have hu : Rep matUnit (crcBits (8 * n)) := ⟨h.lin, fun i hi => by rw [← h.at_ i hi, (eqRow_iff 32 _ _).1 e i hi]⟩
    rw [← hu.of c, Rep.unit.of c]
  · rw [if_neg e, h.of c]
end Go.Proofs.YtdpgebifeaakjaaDoor

/- The plain law of the CRC register: a byte is eight steps; linear; a burst of at most 32 bits turns it. No program in sight. -/
namespace Go.Proofs.YtdpgebifeaakjaaDoor
set_option linter.unusedSimpArgs false
set_option linter.unusedVariables false

/-- So many steps of a register whose low bits are clear are a shift. -/
theorem crcBits_shr : ∀ (n : Nat) (x : BitVec 32), (∀ i, i < n → x.getLsbD i = false) → crcBits n x = x >>> n
  | 0, x, _ => by rw [BitVec.ushiftRight_zero]; rfl
  | n + 1, x, h => by
    show crcBit (crcBits n x) = _
    rw [crcBits_shr n x fun i hi => h i (by omega), crcBit_eq, BitVec.getLsbD_ushiftRight, Nat.add_zero, h n (by omega), BitVec.shiftRight_add]
    simp
theorem low_ofNat (c : BitVec 32) (b : BitVec 8) : BitVec.ofNat 32 (n8 (c.setWidth 8 ^^^ b)).toNat = (c.setWidth 8 ^^^ b).setWidth 32 := by
  apply BitVec.eq_of_toNat_eq
  rw [BitVec.toNat_ofNat, BitVec.toNat_setWidth]
  rfl
/-- One byte is eight steps. -/
theorem crcByte_eq (c : BitVec 32) (b : BitVec 8) : crcByte c b = crcBits 8 (c ^^^ b.setWidth 32) := by
  have e : c ^^^ b.setWidth 32 = (c.setWidth 8 ^^^ b).setWidth 32 ^^^ ((c >>> 8) <<< 8) := by
    apply BitVec.eq_of_getLsbD_eq
    intro i hi
    simp only [BitVec.getLsbD_xor, BitVec.getLsbD_setWidth, BitVec.getLsbD_shiftLeft, BitVec.getLsbD_ushiftRight]
    by_cases h8 : i < 8
    · simp [h8, hi]
    · have h9 : 8 + (i - 8) = i := by omega
      have hb : b.getLsbD i = false := BitVec.getLsbD_of_ge _ _ (by omega)
      simp [h8, hi, h9, hb]
  have e2 : crcBits 8 ((c >>> 8) <<< 8) = c >>> 8 := by
    rw [crcBits_shr 8 _ fun i hi => by rw [BitVec.getLsbD_shiftLeft]; simp [hi]]
    apply BitVec.eq_of_getLsbD_eq
    intro i hi
    simp only [BitVec.getLsbD_shiftLeft, BitVec.getLsbD_ushiftRight]
    by_cases h : 8 + i < 32
    · have h8 : ¬ 8 + i < 8 := by omega
      simp [h, h8, Nat.add_sub_cancel_left]
    · have : c.getLsbD (8 + i) = false := BitVec.getLsbD_of_ge _ _ (by omega)
      simp [h, this]
  rw [e, crcBits_lin 8, e2, crcByte, crcTab, low_ofNat]
/-- The register behind a byte sequence. -/
def reg (c : BitVec 32) (l : List (BitVec 8)) : BitVec 32 := l.foldl crcByte c
theorem reg_nil (c : BitVec 32) : reg c [] = c := rfl
theorem reg_cons (c : BitVec 32) (b : BitVec 8) (l : List (BitVec 8)) : reg c (b :: l) = reg (crcByte c b) l := rfl
theorem reg_append (c : BitVec 32) (x y : List (BitVec 8)) : reg c (x ++ y) = reg (reg c x) y := List.foldl_append
theorem crcExt_reg (c : BitVec 32) (l : List (BitVec 8)) : crcExt c l = ~~~reg (~~~c) l := rfl
theorem crc_reg (l : List (BitVec 8)) : crc l = ~~~reg (~~~0#32) l := rfl
theorem setWidth_xor (a b : BitVec 8) : (a ^^^ b).setWidth 32 = a.setWidth 32 ^^^ b.setWidth 32 := by
  apply BitVec.eq_of_getLsbD_eq
  intro i hi
  simp
theorem crcByte_xor (c d : BitVec 32) (a b : BitVec 8) : crcByte (c ^^^ d) (a ^^^ b) = crcByte c a ^^^ crcByte d b := by
  rw [crcByte_eq, crcByte_eq, crcByte_eq, setWidth_xor, xor4, crcBits_lin 8]
theorem crcByte_left (c d : BitVec 32) (a : BitVec 8) : crcByte (c ^^^ d) a = crcByte c a ^^^ crcBits 8 d := by
  have h := crcByte_xor c d a 0#8
  rw [BitVec.xor_zero] at h
  rw [h, crcByte_eq d]
  simp
theorem reg_left : ∀ (l : List (BitVec 8)) (c d : BitVec 32), reg (c ^^^ d) l = reg c l ^^^ crcBits (8 * l.length) d
  | [], c, d => rfl
  | b :: l, c, d => by
    rw [reg_cons, reg_cons, crcByte_left, reg_left l, ← crcBits_add]
    rfl
theorem reg_xor : ∀ (x y : List (BitVec 8)) (c d : BitVec 32), x.length = y.length → reg (c ^^^ d) (List.zipWith (· ^^^ ·) x y) = reg c x ^^^ reg d y
  | [], [], c, d, _ => rfl
  | a :: x, b :: y, c, d, h => by
    rw [List.zipWith_cons_cons, reg_cons, reg_cons, reg_cons, crcByte_xor, reg_xor x y _ _ (by simpa using h)]
  | [], b :: y, c, d, h => by simp at h
  | a :: x, [], c, d, h => by simp at h
theorem crcBits_zero (n : Nat) : crcBits n 0#32 = 0#32 := (crcBits_lin n).zero
theorem reg_zeros : ∀ n : Nat, reg 0#32 (List.replicate n 0#8) = 0#32
  | 0 => rfl
  | n + 1 => by
    rw [List.replicate_succ, reg_cons, crcByte_eq]
    have : crcBits 8 (0#32 ^^^ BitVec.setWidth 32 0#8) = 0#32 := by decide +kernel
    rw [this, reg_zeros n]
theorem one_at (n i : Nat) (hn : n < 32) : (1#32 <<< n).getLsbD i = decide (i = n) := by
  rw [BitVec.getLsbD_shiftLeft]
  by_cases e : i = n
  · subst e; simp [hn]
  · by_cases l : i < n
    · simp [l, e]
    · have : i - n ≠ 0 := by omega
      simp [l, e, BitVec.getLsbD_one, this]
theorem crcBits_one (n : Nat) (hn : n < 32) : crcBits n (1#32 <<< n) = 1#32 := by
  rw [crcBits_shr n _ fun i hi => by rw [one_at n i hn]; simp; omega]
  apply BitVec.eq_of_getLsbD_eq
  intro i hi
  rw [BitVec.getLsbD_ushiftRight, one_at n _ hn, BitVec.getLsbD_one]
  by_cases e : i = 0
  · subst e; simp
  · have : ¬ n + i = n := by omega
    simp [e]
/-- A bit of a byte sequence turned. -/
def flipL (l : List (BitVec 8)) (n : Nat) : List (BitVec 8) := l.set (n / 8) (l.getD (n / 8) 0#8 ^^^ (1#8 <<< (n % 8)))
theorem flipL_length (l : List (BitVec 8)) (n : Nat) : (flipL l n).length = l.length := List.length_set
theorem bit_wide (n : Nat) (h : n < 8) : (1#8 <<< n).setWidth 32 = 1#32 <<< n := by
  match n, h with
  | 0, _ => decide
  | 1, _ => decide
  | 2, _ => decide
  | 3, _ => decide
  | 4, _ => decide
  | 5, _ => decide
  | 6, _ => decide
  | 7, _ => decide
theorem reg_flip : ∀ (l : List (BitVec 8)) (n : Nat) (c : BitVec 32), n < 8 * l.length → reg c (flipL l n) = reg c l ^^^ crcBits (8 * l.length - n) 1#32
  | [], n, c, h => by simp at h
  | b :: l, n, c, h => by
    by_cases h8 : n < 8
    · have e0 : n / 8 = 0 := by omega
      have e1 : n % 8 = n := by omega
      have e2 : flipL (b :: l) n = (b ^^^ (1#8 <<< n)) :: l := by rw [flipL, e0, e1]; rfl
      have e3 : crcByte c (b ^^^ (1#8 <<< n)) = crcByte c b ^^^ crcBits 8 (1#32 <<< n) := by
        have := crcByte_xor c 0#32 b (1#8 <<< n)
        rw [BitVec.xor_zero] at this
        rw [this, crcByte_eq 0#32, BitVec.zero_xor, bit_wide n h8]
      have e4 : crcBits 8 (1#32 <<< n) = crcBits (8 - n) 1#32 := by
        rw [show (8 : Nat) = (8 - n) + n by omega, crcBits_add, crcBits_one n (by omega), show 8 - n + n - n = 8 - n by omega]
      rw [e2, reg_cons, e3, e4, reg_left, ← crcBits_add, reg_cons]
      rw [List.length_cons, show 8 * l.length + (8 - n) = 8 * (l.length + 1) - n by omega]
    · have e0 : n / 8 = (n - 8) / 8 + 1 := by omega
      have e1 : n % 8 = (n - 8) % 8 := by omega
      have e2 : flipL (b :: l) n = b :: flipL l (n - 8) := by rw [flipL, e0, e1]; rfl
      rw [e2, reg_cons, reg_flip l (n - 8) _ (by simp at h; omega), reg_cons, List.length_cons, show 8 * l.length - (n - 8) = 8 * (l.length + 1) - n by omega]
theorem crcBit_inj (x : BitVec 32) (h : crcBit x = 0#32) : x = 0#32 := by
  rw [crcBit_eq] at h
  have h31 := congrArg (fun y => BitVec.getLsbD y 31) h
  have hlow : x.getLsbD 0 = false := by
    cases hx : x.getLsbD 0 with
    | false => rfl
    | true =>
      rw [hx] at h31
      have hx32 : x.getLsbD 32 = false := BitVec.getLsbD_of_ge _ _ (by omega)
      simp only [BitVec.getLsbD_xor, BitVec.getLsbD_ushiftRight, if_true] at h31
      rw [show 1 + 31 = 32 from rfl, hx32] at h31
      exact absurd h31 (by decide)
  rw [hlow] at h
  have h' : x >>> 1 = 0#32 := by simpa using h
  apply BitVec.eq_of_getLsbD_eq
  intro i hi
  cases i with
  | zero => rw [hlow]; simp
  | succ i =>
    have := congrArg (fun y => BitVec.getLsbD y i) h'
    simp only [BitVec.getLsbD_ushiftRight] at this
    rw [Nat.add_comm] at this
    rw [this]; simp
theorem crcBits_inj : ∀ (n : Nat) (x : BitVec 32), crcBits n x = 0#32 → x = 0#32
  | 0, _, h => h
  | n + 1, x, h => crcBits_inj n x (crcBit_inj _ h)
/-- Bits turned, as the statement does it. -/
def burst (l : List (BitVec 8)) (first : Nat) (bits : BitVec 32) : Nat → List (BitVec 8)
  | 0 => l
  | k + 1 => if bits.getLsbD k then flipL (burst l first bits k) (first + k) else burst l first bits k
theorem burst_length (l : List (BitVec 8)) (first : Nat) (bits : BitVec 32) : ∀ k, (burst l first bits k).length = l.length
  | 0 => rfl
  | k + 1 => by
    rw [burst]
    cases bits.getLsbD k
    · exact burst_length l first bits k
    · rw [if_pos rfl, flipL_length, burst_length l first bits k]
theorem burst_reg (l : List (BitVec 8)) (first : Nat) (bits c : BitVec 32) : ∀ k, k ≤ 32 → first + k ≤ 8 * l.length →
    ∃ W : BitVec 32, (∀ i, k ≤ i → W.getLsbD i = false) ∧ reg c (burst l first bits k) = reg c l ^^^ crcBits (8 * l.length - first) W ∧ (W = 0#32 → burst l first bits k = l)
  | 0, _, _ => ⟨0#32, fun i _ => by simp, by rw [crcBits_zero, BitVec.xor_zero]; rfl, fun _ => rfl⟩
  | k + 1, hk, hl => by
    obtain ⟨W, h1, h2, h3⟩ := burst_reg l first bits c k (by omega) (by omega)
    rw [burst]
    cases bits.getLsbD k
    · exact ⟨W, fun i hi => h1 i (by omega), h2, h3⟩
    · rw [if_pos rfl]
      refine ⟨W ^^^ (1#32 <<< k), fun i hi => ?_, ?_, fun h => ?_⟩
      · rw [BitVec.getLsbD_xor, h1 i (by omega), one_at k i (by omega)]
        simp; omega
      · rw [reg_flip _ _ _ (by rw [burst_length]; omega), h2, crcBits_lin, burst_length, BitVec.xor_assoc]
        congr 2
        rw [show 8 * l.length - first = (8 * l.length - (first + k)) + k by omega, crcBits_add _ k (1#32 <<< k), crcBits_one k (by omega)]
      · have := congrArg (fun y => BitVec.getLsbD y k) h
        simp only [BitVec.getLsbD_xor] at this
        rw [h1 k (Nat.le_refl _), one_at k k (by omega)] at this
        simp at this
/-- A burst of at most 32 bits turns the CRC-32, or nothing. -/
theorem burst_law (l : List (BitVec 8)) (first : Nat) (bits : BitVec 32) (k : Nat) (hk : k ≤ 32) (hl : first + k ≤ 8 * l.length) :
    burst l first bits k = l ∨ crc (burst l first bits k) ≠ crc l := by
  obtain ⟨W, _, h2, h3⟩ := burst_reg l first bits (~~~0#32) k hk hl
  by_cases hW : W = 0#32
  · exact .inl (h3 hW)
  · refine .inr fun h => hW ?_
    rw [crc_reg, crc_reg, h2] at h
    have h' : reg (~~~0#32) l ^^^ crcBits (8 * l.length - first) W = reg (~~~0#32) l := by
      have := congrArg (fun y => ~~~y) h
      simpa using this
    apply crcBits_inj (8 * l.length - first)
    have h4 := congrArg (fun y => reg (~~~0#32) l ^^^ y) h'
    simp only [← BitVec.xor_assoc, BitVec.xor_self, BitVec.zero_xor] at h4
    exact h4
end Go.Proofs.YtdpgebifeaakjaaDoor

/- The plain laws of CRC-32: byte sequences one behind the other, zeros, exclusive or, replacement. No program in sight. -/
namespace Go.Proofs.YtdpgebifeaakjaaDoor
set_option linter.unusedSimpArgs false
set_option linter.unusedVariables false

theorem not_eq (a : BitVec 32) : ~~~a = a ^^^ ~~~0#32 := by
  rw [show (~~~0#32) = BitVec.allOnes 32 by decide, BitVec.xor_allOnes]
theorem reg_split (c : BitVec 32) (l : List (BitVec 8)) : reg c l = crcBits (8 * l.length) c ^^^ reg 0#32 l := by
  have := reg_left l 0#32 c
  rw [BitVec.zero_xor] at this
  rw [this, BitVec.xor_comm]
theorem crc_split (l : List (BitVec 8)) : crc l = crcBits (8 * l.length) (~~~0#32) ^^^ reg 0#32 l ^^^ ~~~0#32 := by
  rw [crc_reg, not_eq, reg_split]
theorem xor_self_mid (a b c : BitVec 32) : a ^^^ b ^^^ (b ^^^ c) = a ^^^ c := by
  rw [BitVec.xor_assoc, ← BitVec.xor_assoc b b c, BitVec.xor_self, BitVec.zero_xor]
/-- The CRC of two byte sequences, one behind the other. -/
theorem crc_append (x y : List (BitVec 8)) : crc (x ++ y) = crcBits (8 * y.length) (crc x) ^^^ crc y := by
  have h1 : crc (x ++ y) = crcBits (8 * y.length) (reg (~~~0#32) x) ^^^ reg 0#32 y ^^^ ~~~0#32 := by
    rw [crc_reg, not_eq, reg_append, reg_split]
  have h2 : crcBits (8 * y.length) (crc x) = crcBits (8 * y.length) (reg (~~~0#32) x) ^^^ crcBits (8 * y.length) (~~~0#32) := by
    rw [crc_reg x, not_eq (reg _ x), crcBits_lin]
  rw [h1, h2, crc_split y, BitVec.xor_assoc (crcBits _ (~~~0#32)), xor_self_mid, BitVec.xor_assoc]
/-- Extend goes on where a CRC has ended. -/
theorem crcExt_append (c : BitVec 32) (x y : List (BitVec 8)) : crcExt (crcExt c x) y = crcExt c (x ++ y) := by
  rw [crcExt_reg, crcExt_reg, crcExt_reg, reg_append, BitVec.not_not]
theorem crcExt_nil (c : BitVec 32) : crcExt c [] = c := by
  rw [crcExt_reg, reg_nil, BitVec.not_not]
/-- So many zero bytes behind. -/
theorem crc_zeros (x : List (BitVec 8)) (n : Nat) : crc (x ++ List.replicate n 0#8) = ~~~crcBits (8 * n) (~~~crc x) := by
  rw [crc_reg, reg_append, reg_split, reg_zeros, BitVec.xor_zero, List.length_replicate, crc_reg, BitVec.not_not]
theorem xor_off (a b o : BitVec 32) : (a ^^^ o) ^^^ (b ^^^ o) = a ^^^ b := by
  rw [xor4, BitVec.xor_self, BitVec.xor_zero]
/-- The CRC of the exclusive or of three byte sequences. -/
theorem crc_xor3 (x y z : List (BitVec 8)) (h1 : x.length = y.length) (h2 : y.length = z.length) :
    crc (List.zipWith (· ^^^ ·) (List.zipWith (· ^^^ ·) x y) z) = crc x ^^^ crc y ^^^ crc z := by
  have e : (~~~0#32) = (~~~0#32) ^^^ (~~~0#32) ^^^ (~~~0#32) := by decide
  have h := reg_xor (List.zipWith (· ^^^ ·) x y) z ((~~~0#32) ^^^ (~~~0#32)) (~~~0#32) (by simp; omega)
  rw [reg_xor x y _ _ h1, ← e] at h
  rw [crc_reg, crc_reg, crc_reg, crc_reg, h, not_eq, not_eq (reg _ x), not_eq (reg _ y), not_eq (reg _ z), xor_off, BitVec.xor_assoc]
/-- The middle of three byte sequences replaced. -/
theorem crc_patch (x y y' z : List (BitVec 8)) (h : y.length = y'.length) :
    crc (x ++ y ++ z) ^^^ crcBits (8 * z.length) (crc y ^^^ crc y') = crc (x ++ y' ++ z) := by
  rw [crc_append (x ++ y), crc_append (x ++ y'), crc_append x y, crc_append x y', crcBits_lin, crcBits_lin, crcBits_lin, ← h]
  generalize crcBits (8 * z.length) (crcBits (8 * y.length) (crc x)) = p
  generalize crcBits (8 * z.length) (crc y) = q
  generalize crcBits (8 * z.length) (crc y') = r
  rw [BitVec.xor_assoc p, BitVec.xor_assoc p, BitVec.xor_assoc p, BitVec.xor_comm q (crc z), BitVec.xor_assoc (crc z), ← BitVec.xor_assoc q q, BitVec.xor_self, BitVec.zero_xor, BitVec.xor_comm (crc z)]
end Go.Proofs.YtdpgebifeaakjaaDoor

/- The walk of xor: the exclusive or of two byte sequences. -/
namespace Go.Proofs.YtdpgebifeaakjaaDoor
set_option linter.unusedSimpArgs false
set_option linter.unusedVariables false
open Go.RowKit

theorem byteAt_get (s : ByteArray) (j : Nat) (h : j < s.size) : byteAt s j = (bts s)[j]'(by rw [bts_length]; exact h) := by
  have h' : j < (bts s).length := by rw [bts_length]; exact h
  simp [byteAt, h']
theorem xor_list (x y : ByteArray) (h : x.size = y.size) : (List.range x.size).map (fun j => byteAt x j ^^^ byteAt y j) = List.zipWith (· ^^^ ·) (bts x) (bts y) := by
  apply List.ext_getElem
  · simp [bts_length, h]
  · intro i h1 h2
    have hi : i < x.size := by simpa using h1
    simp [byteAt_get x i hi, byteAt_get y i (h ▸ hi)]

set_option maxRecDepth 20000 in
set_option maxHeartbeats 2000000 in
theorem xor_any (x y : ByteArray) (hxy : x.size = y.size) (hs : x.size ≤ maxLen) (w : World) :
    Calls Tryd.prog 37 #[.string x, .string y] w fun e w' => e = .returned (.string (strOf (List.zipWith (· ^^^ ·) (bts x) (bts y)))) ∧ Below w.heap.size w w' := by
  unfold maxLen at hs
  have hcv := Lib.run_convert_string_bytes (P := Tryd.prog) w 9 43 5 x (u := .string) Tryd.underlying9 Tryd.underlying43 Tryd.underlying5
  have hby := Byt.new w x
  have hB0 := below_bytesWorld w 5 x
  generalize Lib.bytesWorld w 5 x = W0 at hcv hby hB0
  generalize grownCap w x.size 0 5 = cap at hcv
  have HXY := hide hxy
  have HXL := hide (xor_list x y hxy)
  clear hxy
  go_enter Tryd.func37, Tryd.ntmps37
  go_wp2_with fail
  clear hcv
  go_loopw [6] (fun s6 W => ∃ k : Nat, k ≤ x.size ∧ s6 = .int .i64 k ∧ Byt W w.heap.size x.size (fun j => if j < k then byteAt x j ^^^ byteAt y j else byteAt x j) ∧ Below w.heap.size w W) (fun s6 _ => x.size - (intOf s6).toNat)
  case atStart => exact ⟨0, by omega, rfl, hby.congr fun j hj => by simp, hB0⟩
  case round =>
    clear hby hB0
    obtain ⟨k, hk, rfl, hby, hB⟩ := hrel
    by_cases hlt : k < x.size
    · have hlt1 : (k : Int) < (x.size : Int) := by omega
      have hix := run_index_str (P := Tryd.prog) Tryd.underlying9 y k (by rw [← HXY.out]; exact hlt)
      have hc := hby.cell hlt
      rw [if_neg (Nat.lt_irrefl k)] at hc
      have hf := hby.free hlt
      have hp : (0 : Int) ≤ (k : Int) := by omega
      go_wp2_with fail
      go_region
      clear hc hf hix
      go_wp2_with fail
      refine ⟨⟨k + 1, by omega, by go_num, ((hby.set hlt (byteAt x k ^^^ byteAt y k)).drew).congr fun j hj => ?_, (hB.setCell (p := ⟨w.heap.size, k, none⟩) (Nat.le_refl _) _).drew⟩, by simp [intOf]; omega⟩
      by_cases e : j = k
      · subst e; rw [if_pos rfl, if_pos (by omega)]
      · rw [if_neg e]
        by_cases l : j < k
        · rw [if_pos l, if_pos (by omega)]
        · rw [if_neg l, if_neg (by omega)]
    · have hlt1 : ¬ (k : Int) < (x.size : Int) := by omega
      have hby' : Byt wr w.heap.size x.size (fun j => byteAt x j ^^^ byteAt y j) := hby.congr fun j hj => by rw [if_pos (by omega)]
      have hcv2 := hby'.str (P := Tryd.prog) cap 43 9 Tryd.underlying43 Tryd.underlying5 Tryd.underlying9
      rw [HXL.out] at hcv2
      clear hby hby'
      go_wp2_with fail
      go_ret
      exact ⟨rfl, hB⟩
end Go.Proofs.YtdpgebifeaakjaaDoor

/- One byte appended to a slice of bytes of the call's own, whether a conversion made it or not. -/
namespace Go.Proofs.YtdpgebifeaakjaaDoor
set_option linter.unusedSimpArgs false
set_option linter.unusedVariables false
open Go.RowKit

/-- v is a slice of the bytes l, in a block behind base. -/
def Rw (W : World) (base : Nat) (v : Value) (l : List (BitVec 8)) : Prop :=
  ∃ g cap C fz, v = .slice (some ⟨g, 0, none⟩) l.length cap ∧ base ≤ g ∧ l.length ≤ cap ∧ W.heap[g]? = some (.cells C 5 fz) ∧ C.size = cap ∧ (fz = (0, 0) ∨ cap ≤ fz.1) ∧ ∀ j, j < l.length → C[j]? = some (U8 (l.getD j 0#8))
theorem Rw.below {W W' : World} {base : Nat} {v : Value} {l : List (BitVec 8)} (h : Rw W base v l) (hb : Below W.heap.size W W') : Rw W' base v l := by
  obtain ⟨g, cap, C, fz, h1, h2, h3, h4, h5⟩ := h
  exact ⟨g, cap, C, fz, h1, h2, h3, (hb.block g (Array.getElem?_eq_some_iff.1 h4).1).trans h4, h5⟩
theorem Rw.drew {W : World} {base : Nat} {v : Value} {l : List (BitVec 8)} (h : Rw W base v l) : Rw W.drew base v l := h
theorem Rw.alloc {W : World} {base : Nat} {v : Value} {l : List (BitVec 8)} (h : Rw W base v l) (o : Obj) : Rw (W.alloc o) base v l := h.below ((Below.refl _ _).alloc (Nat.le_refl _) o)
theorem Rw.conv (w : World) (s : ByteArray) : Rw (Lib.bytesWorld w 5 s) w.heap.size (.slice (some ⟨w.heap.size, 0, none⟩) s.size (grownCap w s.size 0 5)) (bts s) := by
  have hge := grownCap_ge w s.size 0 5
  have hz : (Lib.bytesCells w 5 s).size = grownCap w s.size 0 5 := by
    have e : s.data.size = s.size := rfl
    simp [Lib.bytesCells, e]
    omega
  refine ⟨w.heap.size, grownCap w s.size 0 5, _, _, by rw [bts_length], Nat.le_refl _, by rw [bts_length]; exact hge, Lib.bytesWorld_at_new w 5 s, hz, .inr (by rw [hz]; exact Nat.le_refl _), fun j hj => ?_⟩
  obtain ⟨C, h1, h2, h3⟩ := Byt.new w s
  rw [Lib.bytesWorld_at_new] at h1
  have h4 : C = Lib.bytesCells w 5 s := by
    have := Option.some.inj h1
    injection this with a b c
    exact a.symm
  rw [← h4, h3 j (by rw [bts_length] at hj; exact hj)]
  rfl
theorem wp_append_rw {P : Program} {ops : Array Oper} {rest : List Oper} {o : Oper} {a : Act} {w : World} {Q : Exit → Act → World → Prop} (hgd : o.guard = none)
    (s x : Operand) (t : TypeId) (hop : o.op = Op.call { callee := Callee.builtin Builtin.append, args := #[s, x], argTypes := #[t, t] })
    (ht : P.underlying t = some (.slice 5)) (hi1 : (P.info? 5).map (fun i => (i.zero, i.size, i.bytes)) = some (some (.int .u8 0), 1, 1))
    {v : Value} {base : Nat} {l : List (BitVec 8)} (hs : a.eval s = v) (hrow : Rw w base v l) (bx c : Nat) (hx : a.eval x = .slice (some ⟨bx, 0, none⟩) 1 c) {y : BitVec 8} (hy : w.cell? ⟨bx, 0, none⟩ = some (U8 y))
    (hlen : l.length ≤ 1000000) (hbase : base ≤ w.heap.size)
    (h : ∀ v' w', Rw w' base v' (l ++ [y]) → Below base w w' → wpList P ops Q rest (a.put o.dst v') w') :
    wpList P ops Q (o :: rest) a w := by
  obtain ⟨i0, hi, hz0, hz1, hz2⟩ := info_parts hi1
  obtain ⟨g, cap, C, fz, rfl, hg, hlc, hC, hCs, hfz, hcell⟩ := hrow
  have hcl : ∀ j, w.cell? ⟨g, j, none⟩ = C[j]? := fun j => by simp [World.cell?, hC]
  refine wpList_append_arg w hgd s x t hop 5 i0 (.int .u8 0) 1 1 ht hi hz0 hz1 hz2 rfl (by omega) g 0 l.length cap (l.map U8) hs (by simp) (fun j u hj => ?_) ⟨bx, 0, none⟩ 1 c [U8 y] hx rfl (fun j u hj => ?_) (by simp [Value.oneCell']) (fun hr j hj => ?_) (by unfold maxLen; omega) (by omega) (fun hr => ?_) (fun hr v' w' hown hgr => ?_)
  · rw [List.getElem?_map, Option.map_eq_some_iff] at hj
    obtain ⟨z, hz, rfl⟩ := hj
    have hjl : j < l.length := (List.getElem?_eq_some_iff.1 hz).1
    rw [Nat.zero_add, hcl, hcell j hjl, List.getD, hz]
    rfl
  · match j, hj with
    | 0, hj =>
      have hj' : U8 y = u := by simpa using hj
      subst hj'
      rw [Addr.add_zero']; exact hy
  · have hj0 : j = 0 := by simpa using hj
    subst hj0
    rw [hcl]
    refine ⟨by simp; omega, ?_⟩
    rcases hfz with rfl | hfz
    · simp [World.frozen?, hC]
    · obtain ⟨lo, hi'⟩ := fz
      simp only [World.frozen?, hC]
      have : lo ≥ cap := hfz
      simp
      omega
  · have e : w.setCells g (0 + l.length * 1) [U8 y] = w.setCell ⟨g, l.length, none⟩ (U8 y) := by
      rw [World.setCells, World.setCells, Nat.zero_add, Nat.mul_one]
    rw [e]
    refine h _ _ ⟨g, cap, C.setIfInBounds l.length (U8 y), fz, by simp, hg, by simp; omega, by simp [World.setCell, Array.getElem?_modify, hC], by simpa using hCs, hfz, fun j hj => ?_⟩ ((Below.refl base w).setCell (p := ⟨g, l.length, none⟩) hg _)
    rw [List.length_append] at hj
    rw [Array.getElem?_setIfInBounds]
    by_cases e : l.length = j
    · subst e
      rw [if_pos rfl, if_pos (by omega)]
      simp [List.getD]
    · have hj2 : j < l.length := by simp at hj; omega
      rw [if_neg e, hcell j hj2]
      simp [List.getD, List.getElem?_append_left hj2]
  · obtain ⟨hl, ⟨_, hn⟩ | ⟨g', cap', cur, rfl, hb', hh, h1, h2, h3, h4⟩⟩ := hown
    · omega
    · refine h _ _ ⟨g', cap', cur, (0, 0), by simp, by omega, by simp; omega, hh, by omega, .inl rfl, fun j hj => ?_⟩ ((Below.refl base w).grown hgr hbase (fun q e => by cases e))
      have e : (cur.toList.take ((l.length + 1) * 1))[j]? = (l.map U8 ++ [U8 y])[j]? := by rw [h4]
      rw [List.length_append] at hj
      have hj1 : j < l.length + 1 := by simpa using hj
      rw [List.getElem?_take_of_lt (by omega), Array.getElem?_toList] at e
      rw [e]
      have e3 : l.map U8 ++ [U8 y] = (l ++ [y]).map U8 := by simp
      rw [e3, List.getElem?_map, List.getD, List.getElem?_eq_getElem (by simp; omega)]
      rfl
end Go.Proofs.YtdpgebifeaakjaaDoor
