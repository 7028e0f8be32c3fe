/- The walks of the CRC functions: CRC, Zeros, Combine, Patch, Force. -/
import Derived.Test.YtdpgebifeaakjaaDoorC3
namespace Go.Proofs.YtdpgebifeaakjaaDoor
set_option linter.unusedSimpArgs false
set_option linter.unusedVariables false
open Go.RowKit

def crc (l : List (BitVec 8)) : BitVec 32 := crcExt 0#32 l

set_option maxHeartbeats 400000 in
theorem crc_any (s : ByteArray) (w : World) (hs : s.size ≤ maxLen) :
    Calls Tryd.prog 25 #[.string s] w fun e w' => e = .returned (U32 (crc (bts s))) ∧ Below w.heap.size w w' := by
  go_enter Tryd.func25, Tryd.ntmps25
  go_wp2_with (go_at_call 33; refine (extend_any 0#32 _ _ hs).mono ?_; rintro e W ⟨rfl, hB⟩)
  go_ret
  exact ⟨rfl, hB⟩

/-- A word and an error, as the calls return them. -/
def pairV (x : BitVec 32 × Int) : Value := .tuple #[U32 x.1, .int .i64 x.2]
def combineS (a b : BitVec 32) (n : Int) : BitVec 32 × Int := if countedB n = true then (crcShift a n.toNat ^^^ b, 0) else (0#32, 1)
def zerosS (a : BitVec 32) (n : Int) : BitVec 32 × Int := if countedB n = true then (~~~crcShift (~~~a) n.toNat, 0) else (0#32, 1)
def patchS (c : BitVec 32) (n : Int) (s t : List (BitVec 8)) : BitVec 32 × Int :=
  if s.length = t.length ∧ countedB n = true then (c ^^^ crcShift (crc s ^^^ crc t) n.toNat, 0) else (0#32, 1)

set_option maxHeartbeats 400000 in
theorem combine_any (a b : BitVec 32) (n : Int) (w : World) :
    Calls Tryd.prog 27 #[U32 a, U32 b, .int .i64 n] w fun e w' => e = .returned (pairV (combineS a b n)) ∧ Below w.heap.size w w' := by
  cases hc : countedB n
  · have HC := hide hc
    go_enter Tryd.func27, Tryd.ntmps27
    go_wp2_with (go_at_call 64; refine (counted_any _ _).mono ?_; rintro e W ⟨rfl, rfl⟩)
    go_ret2
    exact ⟨by rw [combineS, if_neg (by rw [HC.out]; decide)]; rfl, Below.refl _ _⟩
  · have hn : 0 ≤ n ∧ n ≤ 1099511627776 := by simpa [countedB] using hc
    obtain ⟨m, rfl⟩ := Int.eq_ofNat_of_zero_le hn.1
    have HC := hide hc
    go_enter Tryd.func27, Tryd.ntmps27
    go_wp2_with (first | (go_at_call 64; refine (counted_any _ _).mono ?_; rintro e W ⟨rfl, rfl⟩) | (go_at_call 65; refine (shift_any _ _ (by omega) _).mono ?_; rintro e W ⟨rfl, hB⟩))
    go_ret2
    exact ⟨by rw [combineS, if_pos HC.out]; rfl, hB⟩

set_option maxHeartbeats 400000 in
theorem zeros_any (a : BitVec 32) (n : Int) (w : World) :
    Calls Tryd.prog 26 #[U32 a, .int .i64 n] w fun e w' => e = .returned (pairV (zerosS a n)) ∧ Below w.heap.size w w' := by
  cases hc : countedB n
  · have HC := hide hc
    go_enter Tryd.func26, Tryd.ntmps26
    go_wp2_with (go_at_call 64; refine (counted_any _ _).mono ?_; rintro e W ⟨rfl, rfl⟩)
    go_ret2
    exact ⟨by rw [zerosS, if_neg (by rw [HC.out]; decide)]; rfl, Below.refl _ _⟩
  · have hn : 0 ≤ n ∧ n ≤ 1099511627776 := by simpa [countedB] using hc
    obtain ⟨m, rfl⟩ := Int.eq_ofNat_of_zero_le hn.1
    have HC := hide hc
    go_enter Tryd.func26, Tryd.ntmps26
    go_wp2_with (first | (go_at_call 64; refine (counted_any _ _).mono ?_; rintro e W ⟨rfl, rfl⟩) | (go_at_call 65; refine (shift_any _ _ (by omega) _).mono ?_; rintro e W ⟨rfl, hB⟩))
    go_ret2
    exact ⟨by rw [zerosS, if_pos HC.out]; rfl, hB⟩

set_option maxHeartbeats 800000 in
theorem patch_any (c : BitVec 32) (n : Int) (s t : ByteArray) (w : World) (hs : s.size ≤ maxLen) (ht : t.size ≤ maxLen) :
    Calls Tryd.prog 28 #[U32 c, .int .i64 n, .string s, .string t] w fun e w' => e = .returned (pairV (patchS c n (bts s) (bts t))) ∧ Below w.heap.size w w' := by
  by_cases hst : s.size = t.size
  · have hb : (((s.size : Nat) : Int) != ((t.size : Nat) : Int)) = false := by simp [hst]
    have HST := hide hst; clear hst
    cases hc : countedB n
    · have HC := hide hc
      go_enter Tryd.func28, Tryd.ntmps28
      go_wp2_with (go_at_call 64; refine (counted_any _ _).mono ?_; rintro e W ⟨rfl, rfl⟩)
      go_ret2
      exact ⟨by rw [patchS, if_neg (fun h => by rw [HC.out] at h; exact absurd h.2 (by decide))]; rfl, Below.refl _ _⟩
    · have hn : 0 ≤ n ∧ n ≤ 1099511627776 := by simpa [countedB] using hc
      obtain ⟨m, rfl⟩ := Int.eq_ofNat_of_zero_le hn.1
      have HC := hide hc
      go_enter Tryd.func28, Tryd.ntmps28
      go_wp2_with (first | (go_at_call 64; refine (counted_any _ _).mono ?_; rintro e W ⟨rfl, rfl⟩) | (go_at_call 65; refine (shift_any _ _ (by omega) _).mono ?_; rintro e W3 ⟨rfl, hB3⟩) | (go_at_call_of 25 s; refine (crc_any s _ hs).mono ?_; rintro e W1 ⟨rfl, hB1⟩) | (go_at_call_of 25 t; refine (crc_any t _ ht).mono ?_; rintro e W2 ⟨rfl, hB2⟩))
      go_ret2
      have h2 := hB1.trans (hB2.mono hB1.size)
      exact ⟨by rw [patchS, if_pos ⟨by rw [bts_length, bts_length]; exact HST.out, HC.out⟩]; rfl, h2.trans (hB3.mono h2.size)⟩
  · have hb : (((s.size : Nat) : Int) != ((t.size : Nat) : Int)) = true := by simp; omega
    have HST := hide hst; clear hst
    go_enter Tryd.func28, Tryd.ntmps28
    go_wp2_with fail
    go_ret2
    exact ⟨by rw [patchS, if_neg (fun h => HST.out (by rw [← bts_length, ← bts_length]; exact h.1))]; rfl, Below.refl _ _⟩

/-- The register followed back by n bits. -/
def crcBack : Nat → BitVec 32 → BitVec 32
  | 0, c => c
  | n + 1, c => let d := crcBack n c; if d >>> 31 == 1#32 then (d ^^^ 0xedb88320#32) <<< 1 ||| 1#32 else d <<< 1
def forceW (c t : BitVec 32) : BitVec 32 := crcBack 32 (~~~t) ^^^ ~~~c
def wordBytes (x : BitVec 32) : List (BitVec 8) := [x.setWidth 8, (x >>> 8).setWidth 8, (x >>> 16).setWidth 8, (x >>> 24).setWidth 8]
set_option maxRecDepth 20000 in
set_option maxHeartbeats 800000 in
theorem force_any (c t : BitVec 32) (w : World) :
    Calls Tryd.prog 35 #[U32 c, U32 t] w fun e w' => e = .returned (.string (strOf (wordBytes (forceW c t)))) ∧ Below w.heap.size w w' := by
  go_enter Tryd.func35, Tryd.ntmps35
  go_wp2_with fail
  go_loop [5, 8] (fun s5 s8 => ∃ k : Nat, k ≤ 32 ∧ s8 = .int .i64 k ∧ s5 = U32 (crcBack k (~~~t))) (fun _ s8 => 32 - (intOf s8).toNat)
  case atStart => exact ⟨0, by omega, rfl, rfl⟩
  case round =>
    obtain ⟨k, hk, rfl, rfl⟩ := hrel
    by_cases hlt : k < 32
    · have hlt1 : (k : Int) < 32 := by omega
      go_wp2_with fail
      · have h : (crcBack k (~~~t) >>> 31 == 1#32) = true := by assumption
        exact ⟨⟨k + 1, by omega, by go_num, by simp only [crcBack]; rw [if_pos h]⟩, by simp [intOf]; omega⟩
      · have h : (crcBack k (~~~t) >>> 31 == 1#32) = false := by assumption
        exact ⟨⟨k + 1, by omega, by go_num, by simp only [crcBack]; rw [if_neg (by rw [h]; decide)]⟩, by simp [intOf]; omega⟩
    · have hlt1 : ¬ (k : Int) < 32 := by omega
      have HK := hide (show k = 32 by omega)
      have hcv : ∀ x0 x1 x2 x3 : BitVec 8, (convert 43 9 (.slice (some ⟨w.heap.size, 0, none⟩) 4 4)).run Tryd.prog (w.alloc (.cells #[U8 x0, U8 x1, U8 x2, U8 x3] 5)) = .ok (.string (strOf [x0, x1, x2, x3])) (w.alloc (.cells #[U8 x0, U8 x1, U8 x2, U8 x3] 5)) := fun x0 x1 x2 x3 =>
        run_bytes_str _ 43 9 5 w.heap.size 0 4 [x0, x1, x2, x3] 4 rfl Tryd.underlying43 Tryd.underlying5 Tryd.underlying9 (fun j hj => by
          rw [(Blk.new w #[U8 x0, U8 x1, U8 x2, U8 x3] 5).cell, Nat.zero_add]
          match j, hj with
          | 0, _ => rfl
          | 1, _ => rfl
          | 2, _ => rfl
          | 3, _ => rfl)
      go_wp2_with fail
      go_ret
      refine ⟨?_, (Below.refl _ _).alloc (Nat.le_refl _) _⟩
      have hf : forceW c t = crcBack k (~~~t) ^^^ ~~~c := by rw [forceW, show crcBack 32 = crcBack k by rw [HK.out]]
      rw [hf]
      simp [wordBytes]
end Go.Proofs.YtdpgebifeaakjaaDoor
