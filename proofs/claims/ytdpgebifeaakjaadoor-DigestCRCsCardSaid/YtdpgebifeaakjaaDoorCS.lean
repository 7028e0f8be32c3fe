/- The walks of the specification's CRC functions: Zeros, Combine, Patch, Force. -/
import Derived.Test.YtdpgebifeaakjaaDoorCR
namespace Go.Proofs.YtdpgebifeaakjaaDoor
set_option linter.unusedSimpArgs false
set_option linter.unusedVariables false
open Go.RowKit

/-- A word and an error, in a struct. -/
def pairA (x : BitVec 32 × Int) : Array Value := #[U32 x.1, .int .i64 x.2]
theorem size52 : (Tryd.prog.info? 52).map (·.size) = some 2 := by kernel_rfl
theorem build52e (w : World) : (Instr.build 52 #[(1, .int .i64 1)]).run Tryd.prog w = .ok (.agg #[U32 0#32, .int .i64 1]) w := by kernel_rfl
theorem build52 (c : BitVec 32) (w : World) : (Instr.build 52 #[(0, U32 c)]).run Tryd.prog w = .ok (.agg #[U32 c, .int .i64 0]) w := by kernel_rfl
theorem counted_no {n : Int} (h : countedB n = false) : n < 0 ∨ ¬ n < 0 ∧ 1099511627776 < n := by
  simp [countedB] at h
  omega

set_option maxRecDepth 20000 in
set_option maxHeartbeats 800000 in
theorem rcombine_any (a b : BitVec 32) (n : Int) (w : World) :
    Calls Tryd.prog 30 #[U32 a, U32 b, .int .i64 n] w fun e w' => e = .returned (.agg (pairA (combineS a b n))) ∧ Below w.heap.size w w' := by
  have hbe := build52e
  have hb := build52
  cases hc : countedB n
  · have hr : combineS a b n = (0#32, 1) := by rw [combineS, if_neg (by rw [hc]; decide)]
    have HR := hide hr
    have hno := counted_no hc
    clear hc hr
    go_enter Tryd.func30, Tryd.ntmps30
    rcases hno with h | ⟨h, h'⟩
    all_goals
      go_wp2_with fail
      rw [HR.out]
      exact ret_row rfl w.heap.size rfl (Blk.new w (pairA (0#32, 1)) 52) Tryd.underlying52 rfl size52 rfl rfl ⟨rfl, (Below.refl _ _).alloc (Nat.le_refl _) _⟩
  · have hn : 0 ≤ n ∧ n ≤ 1099511627776 := by simpa [countedB] using hc
    obtain ⟨m, rfl⟩ := Int.eq_ofNat_of_zero_le hn.1
    have hr : combineS a b m = (crcBits (8 * m) a ^^^ b, 0) := by
      rw [combineS, if_pos hc, Int.toNat_natCast, crcShift_eq _ _ (by omega)]
    have HR := hide hr
    have hm1 : (m : Int) ≤ 1099511627776 := hn.2
    clear hc hr hn
    go_enter Tryd.func30, Tryd.ntmps30
    go_wp2_with (go_at_call 66; refine (rshift_any _ m (by omega) _).mono ?_; rintro e w' ⟨rfl, rfl⟩)
    rw [HR.out]
    exact ret_row rfl w.heap.size rfl (Blk.new w (pairA (crcBits (8 * m) a ^^^ b, 0)) 52) Tryd.underlying52 rfl size52 rfl rfl ⟨rfl, (Below.refl _ _).alloc (Nat.le_refl _) _⟩

set_option maxRecDepth 20000 in
set_option maxHeartbeats 800000 in
theorem rzeros_any (a : BitVec 32) (n : Int) (w : World) :
    Calls Tryd.prog 29 #[U32 a, .int .i64 n] w fun e w' => e = .returned (.agg (pairA (zerosS a n))) ∧ Below w.heap.size w w' := by
  have hbe := build52e
  have hb := build52
  cases hc : countedB n
  · have hr : zerosS a n = (0#32, 1) := by rw [zerosS, if_neg (by rw [hc]; decide)]
    have HR := hide hr
    have hno := counted_no hc
    clear hc hr
    go_enter Tryd.func29, Tryd.ntmps29
    rcases hno with h | ⟨h, h'⟩
    all_goals
      go_wp2_with fail
      rw [HR.out]
      exact ret_row rfl w.heap.size rfl (Blk.new w (pairA (0#32, 1)) 52) Tryd.underlying52 rfl size52 rfl rfl ⟨rfl, (Below.refl _ _).alloc (Nat.le_refl _) _⟩
  · have hn : 0 ≤ n ∧ n ≤ 1099511627776 := by simpa [countedB] using hc
    obtain ⟨m, rfl⟩ := Int.eq_ofNat_of_zero_le hn.1
    have hr : zerosS a m = (~~~crcBits (8 * m) (~~~a), 0) := by
      rw [zerosS, if_pos hc, Int.toNat_natCast, crcShift_eq _ _ (by omega)]
    have HR := hide hr
    have hm1 : (m : Int) ≤ 1099511627776 := hn.2
    clear hc hr hn
    go_enter Tryd.func29, Tryd.ntmps29
    go_wp2_with (go_at_call 66; refine (rshift_any _ m (by omega) _).mono ?_; rintro e w' ⟨rfl, rfl⟩)
    rw [HR.out]
    exact ret_row rfl w.heap.size rfl (Blk.new w (pairA (~~~crcBits (8 * m) (~~~a), 0)) 52) Tryd.underlying52 rfl size52 rfl rfl ⟨rfl, (Below.refl _ _).alloc (Nat.le_refl _) _⟩

set_option maxRecDepth 20000 in
set_option maxHeartbeats 800000 in
theorem rpatch_any (c : BitVec 32) (n : Int) (s t : ByteArray) (w : World) (hs : s.size ≤ maxLen) (ht : t.size ≤ maxLen) :
    Calls Tryd.prog 31 #[U32 c, .int .i64 n, .string s, .string t] w fun e w' => e = .returned (.agg (pairA (patchS c n (bts s) (bts t)))) ∧ Below w.heap.size w w' := by
  have hbe := build52e
  have hb := build52
  by_cases hst : s.size = t.size
  · have hbq : (((s.size : Nat) : Int) != ((t.size : Nat) : Int)) = false := by simp [hst]
    cases hc : countedB n
    · have hr : patchS c n (bts s) (bts t) = (0#32, 1) := by rw [patchS, if_neg (fun h => by rw [hc] at h; exact absurd h.2 (by decide))]
      have HR := hide hr
      have hno := counted_no hc
      clear hc hr hst
      go_enter Tryd.func31, Tryd.ntmps31
      rcases hno with h | ⟨h, h'⟩
      all_goals
        go_wp2_with fail
        rw [HR.out]
        exact ret_row rfl w.heap.size rfl (Blk.new w (pairA (0#32, 1)) 52) Tryd.underlying52 rfl size52 rfl rfl ⟨rfl, (Below.refl _ _).alloc (Nat.le_refl _) _⟩
    · have hn : 0 ≤ n ∧ n ≤ 1099511627776 := by simpa [countedB] using hc
      obtain ⟨m, rfl⟩ := Int.eq_ofNat_of_zero_le hn.1
      have hr : patchS c m (bts s) (bts t) = (c ^^^ crcBits (8 * m) (crc (bts s) ^^^ crc (bts t)), 0) := by
        rw [patchS, if_pos ⟨by rw [bts_length, bts_length]; exact hst, hc⟩, Int.toNat_natCast, crcShift_eq _ _ (by omega)]
      have HR := hide hr
      have hm1 : (m : Int) ≤ 1099511627776 := hn.2
      clear hc hr hn hst
      go_enter Tryd.func31, Tryd.ntmps31
      go_wp2_with fail
      refine (rcrc_any s _ hs).mono ?_
      rintro e w' ⟨rfl, rfl⟩
      go_wp2_with fail
      refine (rcrc_any t _ ht).mono ?_
      rintro e w' ⟨rfl, rfl⟩
      go_wp2_with (go_at_call 66; refine (rshift_any _ m (by omega) _).mono ?_; rintro e w' ⟨rfl, rfl⟩)
      rw [HR.out]
      exact ret_row rfl w.heap.size rfl (Blk.new w (pairA (c ^^^ crcBits (8 * m) (crc (bts s) ^^^ crc (bts t)), 0)) 52) Tryd.underlying52 rfl size52 rfl rfl ⟨rfl, (Below.refl _ _).alloc (Nat.le_refl _) _⟩
  · have hbq : (((s.size : Nat) : Int) != ((t.size : Nat) : Int)) = true := by simp; omega
    have hr : patchS c n (bts s) (bts t) = (0#32, 1) := by rw [patchS, if_neg (fun h => hst (by rw [← bts_length, ← bts_length]; exact h.1))]
    have HR := hide hr
    clear hr hst
    go_enter Tryd.func31, Tryd.ntmps31
    go_wp2_with fail
    rw [HR.out]
    exact ret_row rfl w.heap.size rfl (Blk.new w (pairA (0#32, 1)) 52) Tryd.underlying52 rfl size52 rfl rfl ⟨rfl, (Below.refl _ _).alloc (Nat.le_refl _) _⟩

set_option maxRecDepth 20000 in
set_option maxHeartbeats 800000 in
theorem rforce_any (c t : BitVec 32) (w : World) :
    Calls Tryd.prog 36 #[U32 c, U32 t] w fun e w' => e = .returned (.string (strOf (wordBytes (forceW c t)))) ∧ Below w.heap.size w w' := by
  go_enter Tryd.func36, Tryd.ntmps36
  go_wp2_with fail
  go_loop [5, 6] (fun s5 s6 => ∃ k : Nat, k ≤ 32 ∧ s6 = .int .i64 k ∧ s5 = U32 (crcBack k (~~~t))) (fun _ s6 => 32 - (intOf s6).toNat)
  case atStart => exact ⟨0, by omega, rfl, rfl⟩
  case round =>
    obtain ⟨k, hk, rfl, rfl⟩ := hrel
    by_cases hlt : k < 32
    · have hlt1 : (k : Int) < 32 := by omega
      go_wp2_with fail
      · have h : (crcBack k (~~~t) >>> 31 == 1#32) = true := by assumption
        exact ⟨⟨k + 1, by omega, by go_num, by simp only [crcBack]; rw [if_pos h]⟩, by simp [intOf]; omega⟩
      · have h : (crcBack k (~~~t) >>> 31 == 1#32) = false := by assumption
        exact ⟨⟨k + 1, by omega, by go_num, by simp only [crcBack]; rw [if_neg (by rw [h]; decide)]⟩, by simp [intOf]; omega⟩
    · have hlt1 : ¬ (k : Int) < 32 := by omega
      have HK := hide (show k = 32 by omega)
      have hcv : ∀ x0 x1 x2 x3 : BitVec 8, (convert 43 9 (.slice (some ⟨w.heap.size, 0, none⟩) 4 4)).run Tryd.prog (w.alloc (.cells #[U8 x0, U8 x1, U8 x2, U8 x3] 5)) = .ok (.string (strOf [x0, x1, x2, x3])) (w.alloc (.cells #[U8 x0, U8 x1, U8 x2, U8 x3] 5)) := fun x0 x1 x2 x3 =>
        run_bytes_str _ 43 9 5 w.heap.size 0 4 [x0, x1, x2, x3] 4 rfl Tryd.underlying43 Tryd.underlying5 Tryd.underlying9 (fun j hj => by
          rw [(Blk.new w #[U8 x0, U8 x1, U8 x2, U8 x3] 5).cell, Nat.zero_add]
          match j, hj with
          | 0, _ => rfl
          | 1, _ => rfl
          | 2, _ => rfl
          | 3, _ => rfl)
      go_wp2_with fail
      go_ret
      refine ⟨?_, (Below.refl _ _).alloc (Nat.le_refl _) _⟩
      have hf : forceW c t = crcBack k (~~~t) ^^^ ~~~c := by rw [forceW, show crcBack 32 = crcBack k by rw [HK.out]]
      rw [hf]
      simp [wordBytes]
end Go.Proofs.YtdpgebifeaakjaaDoor
