/- The walks of the CRC functions: the matrices, Combine, Patch, Zeros, Force. -/
import Derived.Test.YtdpgebifeaakjaaDoorC1
namespace Go.Proofs.YtdpgebifeaakjaaDoor
set_option linter.unusedSimpArgs false
set_option linter.unusedVariables false
open Go.RowKit

/-- A linear map applied. -/
def matGo (m : Nat → BitVec 32) : Nat → Nat → BitVec 32 → BitVec 32 → BitVec 32
  | 0, _, _, x => x
  | n + 1, i, c, x => matGo m n (i + 1) (c >>> 1) (if c &&& 1#32 == 1#32 then x ^^^ m i else x)
def matOf (m : Nat → BitVec 32) (c : BitVec 32) : BitVec 32 := matGo m 32 0 c 0#32
def matAfter (m n : Nat → BitVec 32) (i : Nat) : BitVec 32 := matOf m (n i)
def matUnit (i : Nat) : BitVec 32 := 1#32 <<< i
theorem matGo_zero (m : Nat → BitVec 32) (n : Nat) : ∀ i x, matGo m n i 0#32 x = x := by
  induction n with
  | zero => intro i x; rfl
  | succ n ih => intro i x; simp only [matGo]; exact ih (i + 1) x

theorem size155 : (Tryd.prog.info? 155).map (·.size) = some 32 := by kernel_rfl
@[go_sem high] theorem zero155 (w : World) : (zeroValue 155).run Tryd.prog w = .ok (.agg (A32 32 fun _ => 0#32)) w := by kernel_rfl

@[go_sem] theorem lit155 : (#[Value.int .u32 0, Value.int .u32 0, Value.int .u32 0, Value.int .u32 0, Value.int .u32 0, Value.int .u32 0, Value.int .u32 0, Value.int .u32 0, Value.int .u32 0, Value.int .u32 0, Value.int .u32 0, Value.int .u32 0, Value.int .u32 0, Value.int .u32 0, Value.int .u32 0, Value.int .u32 0, Value.int .u32 0, Value.int .u32 0, Value.int .u32 0, Value.int .u32 0, Value.int .u32 0, Value.int .u32 0, Value.int .u32 0, Value.int .u32 0, Value.int .u32 0, Value.int .u32 0, Value.int .u32 0, Value.int .u32 0, Value.int .u32 0, Value.int .u32 0, Value.int .u32 0, Value.int .u32 0] : Array Value) = A32 32 fun _ => 0#32 := by kernel_rfl

theorem shr_lt (c : BitVec 32) (n : Nat) (h : c.toNat < 2 ^ (n + 1)) : (c >>> 1).toNat < 2 ^ n := by
  rw [BitVec.toNat_ushiftRight, Nat.shiftRight_eq_div_pow]
  rw [Nat.pow_succ] at h; omega

set_option maxHeartbeats 400000 in
theorem of_any (m : Nat → BitVec 32) (c : BitVec 32) (w : World) :
    Calls Tryd.prog 103 #[.agg (A32 32 m), U32 c] w fun e w' => e = .returned (U32 (matOf m c)) ∧ Below w.heap.size w w' := by
  go_enter Tryd.func103, Tryd.ntmps103
  go_wp2_with fail
  go_loop [1, 5, 6] (fun s1 s5 s6 => ∃ (k n : Nat) (y x : BitVec 32), k + n = 32 ∧ y.toNat < 2 ^ n ∧ s6 = .int .i64 k ∧ s1 = U32 y ∧ s5 = U32 x ∧ matGo m n k y x = matOf m c) (fun _ _ s6 => 32 - (intOf s6).toNat)
  case atStart => exact ⟨0, 32, c, 0#32, rfl, c.isLt, rfl, rfl, rfl, rfl⟩
  case round =>
    obtain ⟨k, n, y, x, hkn, hy, rfl, rfl, rfl, hm⟩ := hrel
    by_cases hy0 : y = 0#32
    · subst hy0
      rw [matGo_zero] at hm
      have HM := hide hm; clear hm
      go_wp2_with fail
      go_ret
      exact ⟨retU32 HM.out, (Below.refl _ _).alloc (Nat.le_refl _) _⟩
    · have hy1 : (y != 0#32) = true := by simpa using hy0
      obtain ⟨n, rfl⟩ : ∃ n', n = n' + 1 := by
        cases n with
        | zero => exact absurd (BitVec.eq_of_toNat_eq (by simpa using hy)) hy0
        | succ n => exact ⟨n, rfl⟩
      have hb := Blk.new w (A32 32 m) 155
      have hk : k < 32 := by omega
      have hk1 : (k : Int) < 32 := by omega
      have hc : (w.alloc (.cells (A32 32 m) 155)).cell? ⟨w.heap.size, k, none⟩ = some (U32 (m k)) := by rw [hb.cell, A32.get _ hk]
      clear hb
      have HM := hide hm; clear hm
      have HN := hide hkn; clear hkn
      have HY := hide hy; clear hy hy0
      go_wp2_with fail
      · have h : (y &&& 1#32 == 1#32) = true := by assumption
        have hm := HM.out
        rw [matGo, if_pos h] at hm
        exact ⟨⟨k + 1, n, _, _, by have := HN.out; omega, shr_lt _ _ HY.out, by go_num, rfl, rfl, hm⟩, by simp [intOf]; omega⟩
      · have h : (y &&& 1#32 == 1#32) = false := by assumption
        have hm := HM.out
        rw [matGo, if_neg (by rw [h]; decide)] at hm
        exact ⟨⟨k + 1, n, _, _, by have := HN.out; omega, shr_lt _ _ HY.out, by go_num, rfl, rfl, hm⟩, by simp [intOf]; omega⟩

def countedB (n : Int) : Bool := decide (0 ≤ n ∧ n ≤ 1099511627776)
theorem counted_any (n : Int) (w : World) :
    Calls Tryd.prog 64 #[.int .i64 n] w fun e w' => e = .returned (.bool (countedB n)) ∧ w = w' := by
  by_cases h0 : 0 ≤ n
  · by_cases h1 : n ≤ 1099511627776
    · go_enter Tryd.func64, Tryd.ntmps64
      go_wp2_with fail
      go_ret
      exact ⟨by rw [countedB, decide_eq_true ⟨h0, h1⟩]; rfl, rfl⟩
    · go_enter Tryd.func64, Tryd.ntmps64
      go_wp2_with fail
      go_ret
      exact ⟨by rw [countedB, decide_eq_false (by omega)]; rfl, rfl⟩
  · go_enter Tryd.func64, Tryd.ntmps64
    go_wp2_with fail
    go_ret
    exact ⟨by rw [countedB, decide_eq_false (by omega)]; rfl, rfl⟩

set_option maxHeartbeats 400000 in
theorem unit_any (w : World) :
    Calls Tryd.prog 102 #[] w fun e w' => e = .returned (.agg (A32 32 matUnit)) ∧ Below w.heap.size w w' := by
  go_enter Tryd.func102, Tryd.ntmps102
  go_wp2_with fail
  go_loopw [2] (fun s2 W => ∃ k : Nat, k ≤ 32 ∧ s2 = .int .i64 k ∧ Blk W w.heap.size (A32 32 fun i => if i < k then matUnit i else 0#32) 155 ∧ Below w.heap.size w W) (fun s2 _ => 32 - (intOf s2).toNat)
  case atStart => exact ⟨0, by omega, rfl, Blk.new _ _ _, (Below.refl _ _).alloc (Nat.le_refl _) _⟩
  case round =>
    obtain ⟨k, hk, rfl, hb, hB⟩ := hrel
    by_cases hlt : k < 32
    · have hc : wr.cell? ⟨w.heap.size, k, none⟩ = some (U32 0#32) := by rw [hb.cell, A32.get _ hlt, if_neg (by omega)]
      have hf := hb.free k
      have hlt1 : (k : Int) < 32 := by omega
      go_wp2_with fail
      have hb' := hb.set k (U32 (matUnit k))
      rw [A32.set] at hb'
      refine ⟨⟨k + 1, by omega, by go_num, ?_, hB.setCell (p := ⟨w.heap.size, k, none⟩) (Nat.le_refl _) _⟩, by simp [intOf]; omega⟩
      refine (A32.ext ?_ : _ = A32 32 _) ▸ hb'
      intro i hi
      by_cases e : i = k
      · subst e; rw [if_pos rfl, if_pos (by omega)]
      · rw [if_neg e]; by_cases h : i < k
        · rw [if_pos h, if_pos (by omega)]
        · rw [if_neg h, if_neg (by omega)]
    · obtain rfl : k = 32 := by omega
      go_wp2_with (first | (refine wp_loadRow rfl 155 _ rfl _ rfl hb Tryd.underlying155 rfl size155 (A32.size _ _) ?_) | (refine wp_storeRow rfl 155 _ _ rfl _ rfl rfl hb size155 (A32.size _ _) (A32.size _ _) (A32.one _) rfl ?_; intro W1 hu hb1))
      refine ret_row rfl w.heap.size rfl hb1 Tryd.underlying155 rfl size155 (A32.size _ _) rfl ⟨?_, hu.below hB (Nat.le_refl _)⟩
      rw [A32.ext (g := matUnit)]
      intro i hi; rw [if_pos hi]

end Go.Proofs.YtdpgebifeaakjaaDoor
