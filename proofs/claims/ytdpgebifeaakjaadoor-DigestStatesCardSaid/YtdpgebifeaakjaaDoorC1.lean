/- The walks of the CRC functions. -/
import Derived.Test.YtdpgebifeaakjaaDoorK1
namespace Go.Proofs.YtdpgebifeaakjaaDoor
set_option linter.unusedSimpArgs false
set_option linter.unusedVariables false
open Go.RowKit

/-- One step of the CRC register. -/
def crcBit (c : BitVec 32) : BitVec 32 := if c &&& 1#32 == 1#32 then c >>> 1 ^^^ 0xedb88320#32 else c >>> 1
/-- n steps. -/
def crcBits : Nat → BitVec 32 → BitVec 32
  | 0, c => c
  | n + 1, c => crcBit (crcBits n c)
def crcTab (i : Nat) : BitVec 32 := crcBits 8 (BitVec.ofNat 32 i)

set_option maxHeartbeats 400000 in
theorem bit_any (c : BitVec 32) (w : World) :
    Calls Tryd.prog 100 #[U32 c] w fun e w' => e = .returned (U32 (crcBit c)) ∧ w = w' := by
  go_enter Tryd.func100, Tryd.ntmps100
  go_wp2
  · go_ret; have h : (c &&& 1#32 == 1#32) = true := by assumption
    exact ⟨by rw [crcBit, if_pos h]; rfl, rfl⟩
  · go_ret; have h : (c &&& 1#32 == 1#32) = false := by assumption
    exact ⟨by rw [crcBit, if_neg (by rw [h]; decide)]; rfl, rfl⟩

set_option maxRecDepth 20000
theorem size119 : (Tryd.prog.info? 119).map (·.size) = some 256 := by kernel_rfl
theorem zero119 : Tryd.zeroCells119 = A32 256 fun _ => 0#32 := by kernel_rfl

set_option maxHeartbeats 400000 in
theorem table_any (w : World) :
    Calls Tryd.prog 67 #[] w fun e w' => e = .returned (.agg (A32 256 crcTab)) ∧ Below w.heap.size w w' := by
  go_enter Tryd.func67, Tryd.ntmps67
  go_wp2
  go_loopw [2, 3] (fun s2 s3 W => ∃ k : Nat, k ≤ 256 ∧ s3 = .int .i64 k ∧ Blk W w.heap.size (A32 256 fun i => if i < k then crcTab i else 0#32) 119 ∧ Below w.heap.size w W) (fun _ s3 _ => 256 - (intOf s3).toNat)
  case atStart => exact ⟨0, by omega, rfl, by rw [zero119]; exact Blk.new _ _ _, (Below.refl _ _).alloc (Nat.le_refl _) _⟩
  case round =>
    obtain ⟨k, hk, rfl, hb, hB⟩ := hrel
    by_cases hlt : k < 256
    · have hc : wr.cell? ⟨w.heap.size, k, none⟩ = some (U32 0#32) := by rw [hb.cell, A32.get _ hlt, if_neg (by omega)]
      have hf := hb.free k
      have hlt1 : (k : Int) < 256 := by omega
      go_wp2
      go_loop [2, 8] (fun s2 s8 => ∃ j : Nat, j ≤ 8 ∧ s8 = .int .i64 j ∧ s2 = U32 (crcBits j (BitVec.ofNat 32 k))) (fun _ s8 => 8 - (intOf s8).toNat)
      case atStart => exact ⟨0, by omega, rfl, rfl⟩
      case round =>
        obtain ⟨j, hj, rfl, rfl⟩ := hrel
        by_cases hj8 : j < 8
        · have hj1 : (j : Int) < 8 := by omega
          go_wp2_with (go_at_call 100; refine (bit_any _ _).mono ?_; rintro e w' ⟨rfl, rfl⟩)
          go_round
          case rel => exact ⟨j + 1, by omega, by go_num, rfl⟩
          case measure => simp [intOf]; omega
        · obtain rfl : j = 8 := by omega
          go_wp2_with fail
          go_roundw
          case rel =>
            refine ⟨k + 1, by omega, by go_num, ?_, hB.setCell (p := ⟨w.heap.size, k, none⟩) (Nat.le_refl _) _⟩
            have hb' := hb.set k (U32 (crcBits 8 (BitVec.ofNat 32 k)))
            rw [A32.set] at hb'
            refine (A32.ext ?_ : _ = A32 256 _) ▸ hb'
            intro i hi
            by_cases e : i = k
            · subst e; rw [if_pos rfl, if_pos (by omega)]; rfl
            · rw [if_neg e]; by_cases h : i < k
              · rw [if_pos h, if_pos (by omega)]
              · rw [if_neg h, if_neg (by omega)]
          case measure => simp [intOf]; omega
    · obtain rfl : k = 256 := by omega
      go_wp2_with (first | (refine wp_loadRow rfl 119 _ rfl _ rfl hb Tryd.underlying119 rfl size119 (A32.size _ _) ?_) | (refine wp_storeRow rfl 119 _ _ rfl _ rfl rfl hb size119 (A32.size _ _) (A32.size _ _) (A32.one _) rfl ?_; intro W1 hu hb1))
      refine ret_row rfl w.heap.size rfl hb1 Tryd.underlying119 rfl size119 (A32.size _ _) rfl ⟨?_, hu.below hB (Nat.le_refl _)⟩
      rw [A32.ext (g := crcTab)]
      intro i hi; rw [if_pos hi]

/-- One byte of the CRC. -/
def crcByte (c : BitVec 32) (b : BitVec 8) : BitVec 32 := crcTab ((n8 (c.setWidth 8 ^^^ b)).toNat) ^^^ c >>> 8
def crcExt (c : BitVec 32) (l : List (BitVec 8)) : BitVec 32 := ~~~(l.foldl crcByte (~~~c))

set_option maxHeartbeats 400000 in
theorem extend_any (c : BitVec 32) (s : ByteArray) (w : World) (hs : s.size ≤ maxLen) :
    Calls Tryd.prog 33 #[U32 c, .string s] w fun e w' => e = .returned (U32 (crcExt c (bts s))) ∧ Below w.heap.size w w' := by
  unfold maxLen at hs
  go_enter Tryd.func33, Tryd.ntmps33
  go_wp2_with (first | (go_at_call 67; refine (table_any _).mono ?_; rintro e w1 ⟨rfl, hB⟩) | (refine wp_storeRow rfl 119 _ _ rfl _ rfl rfl (Blk.new _ _ _) size119 (A32.size _ _) (by rw [zero119]; exact A32.size _ _) (A32.one _) rfl ?_; intro W1 hu hb1))
  have hB1 : Below w.heap.size w W1 := hu.below (hB.alloc hB.size _) hB.size
  go_loop [6, 13] (fun s6 s13 => ∃ k : Nat, k ≤ s.size ∧ s13 = .int .i64 k ∧ s6 = U32 (((bts s).take k).foldl crcByte (~~~c))) (fun _ s13 => s.size - (intOf s13).toNat)
  case atStart => exact ⟨0, by omega, rfl, rfl⟩
  case round =>
    obtain ⟨k, hk, rfl, rfl⟩ := hrel
    by_cases hlt : k < s.size
    · have hix := run_index_str (P := Tryd.prog) Tryd.underlying9 s k hlt
      have hx : ∀ x : BitVec 8, W1.cell? ⟨w1.heap.size, (n8 x).toNat, none⟩ = some (U32 (crcTab (n8 x).toNat)) := fun x => by rw [hb1.cell, A32.get _ (show (n8 x).toNat < 256 from x.isLt)]
      have hlt1 : (k : Int) < (s.size : Int) := by omega
      go_wp2_with fail
      go_round
      case rel => exact ⟨k + 1, by omega, by go_num, by rw [bts_take_succ s k hlt, List.foldl_append]; rfl⟩
      case measure => simp [intOf]; omega
    · obtain rfl : k = s.size := by omega
      go_wp2_with fail
      go_ret
      refine ⟨?_, hB1⟩
      rw [← bts_length, List.take_length]; rfl

end Go.Proofs.YtdpgebifeaakjaaDoor
