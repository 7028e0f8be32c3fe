/- The walks of the specification's CRC functions: step, Extend, CRC, times, Shift. -/
import Derived.Test.YtdpgebifeaakjaaDoorL4
namespace Go.Proofs.YtdpgebifeaakjaaDoor
set_option linter.unusedSimpArgs false
set_option linter.unusedVariables false
open Go.RowKit

theorem odd_test (c : BitVec 32) : (c % 2#32 == 1#32) = (c &&& 1#32 == 1#32) := by
  have e : c % 2#32 = c &&& 1#32 := by
    apply BitVec.eq_of_toNat_eq
    rw [BitVec.toNat_umod, BitVec.toNat_and]
    exact (Nat.and_one_is_mod _).symm
  rw [e]
set_option maxHeartbeats 400000 in
theorem rstep_any (c : BitVec 32) (w : World) :
    Calls Tryd.prog 68 #[U32 c] w fun e w' => e = .returned (U32 (crcBit c)) ∧ w = w' := by
  cases h : (c &&& 1#32 == 1#32)
  · have h2 := odd_test c
    rw [h] at h2
    have H := hide h; clear h
    go_enter Tryd.func68, Tryd.ntmps68
    go_wp2_with fail
    go_ret
    exact ⟨by rw [crcBit, if_neg (by rw [H.out]; decide)]; rfl, rfl⟩
  · have h2 := odd_test c
    rw [h] at h2
    have H := hide h; clear h
    go_enter Tryd.func68, Tryd.ntmps68
    go_wp2_with fail
    go_ret
    exact ⟨by rw [crcBit, if_pos H.out]; rfl, rfl⟩

set_option maxHeartbeats 800000 in
theorem rextend_any (c : BitVec 32) (s : ByteArray) (w : World) (hs : s.size ≤ maxLen) :
    Calls Tryd.prog 34 #[U32 c, .string s] w fun e w' => e = .returned (U32 (crcExt c (bts s))) ∧ w = w' := by
  unfold maxLen at hs
  go_enter Tryd.func34, Tryd.ntmps34
  go_wp2_with fail
  go_loop [5, 6] (fun s5 s6 => ∃ k : Nat, k ≤ s.size ∧ s6 = .int .i64 k ∧ s5 = U32 (reg (~~~c) ((bts s).take k))) (fun _ s6 => s.size - (intOf s6).toNat)
  case atStart => exact ⟨0, by omega, rfl, rfl⟩
  case round =>
    obtain ⟨k, hk, rfl, rfl⟩ := hrel
    by_cases hlt : k < s.size
    · have hix := run_index_str (P := Tryd.prog) Tryd.underlying9 s k hlt
      have hlt1 : (k : Int) < (s.size : Int) := by omega
      obtain ⟨r, hr⟩ : ∃ r, reg (~~~c) ((bts s).take k) = r := ⟨_, rfl⟩
      rw [hr]
      have HR := hide hr; clear hr
      go_wp2_with fail
      go_loop [5, 7] (fun s5 s7 => ∃ j : Nat, j ≤ 8 ∧ s7 = .int .i64 j ∧ s5 = U32 (crcBits j (r ^^^ (byteAt s k).setWidth 32))) (fun _ s7 => 8 - (intOf s7).toNat)
      case atStart => exact ⟨0, by omega, rfl, rfl⟩
      case round =>
        obtain ⟨j, hj, rfl, rfl⟩ := hrel
        by_cases hj8 : j < 8
        · have hj1 : (j : Int) < 8 := by omega
          go_wp2_with (go_at_call 68; refine (rstep_any _ _).mono ?_; rintro e w' ⟨rfl, rfl⟩)
          go_round
          case rel => exact ⟨j + 1, by omega, by go_num, rfl⟩
          case measure => simp [intOf]; omega
        · obtain rfl : j = 8 := by omega
          go_wp2_with fail
          refine ⟨⟨k + 1, by omega, by go_num, ?_⟩, by simp [intOf]; omega⟩
          rw [bts_take_succ s k hlt, reg_append, HR.out, reg_cons, reg_nil, crcByte_eq]
    · obtain rfl : k = s.size := by omega
      go_wp2_with fail
      go_ret
      refine ⟨?_, rfl⟩
      rw [← bts_length, List.take_length, crcExt_reg]
      rfl

theorem rcrc_any (s : ByteArray) (w : World) (hs : s.size ≤ maxLen) :
    Calls Tryd.prog 32 #[.string s] w fun e w' => e = .returned (U32 (crc (bts s))) ∧ w = w' := by
  go_enter Tryd.func32, Tryd.ntmps32
  go_wp2_with (go_at_call 34; refine (rextend_any 0#32 _ _ hs).mono ?_; rintro e W ⟨rfl, rfl⟩)
  go_ret
  exact ⟨rfl, rfl⟩

theorem topBit_zero : topBit 32 = 0#32 := by decide
theorem topBit_pos (k : Nat) (h : k < 32) : topBit k ≠ 0#32 := by
  intro e
  have := topBit_at k (31 - k) h
  rw [e] at this
  simp at this
theorem n32_pos {a : BitVec 32} (h : a ≠ 0#32) : 0 < n32 a := by
  have := n32_nonneg a
  rcases Int.lt_or_eq_of_le this with h1 | h1
  · exact h1
  · exact absurd (BitVec.eq_of_toNat_eq (by unfold n32 at h1; simp; omega)) h
theorem n32_zero : n32 0#32 = 0 := rfl
theorem topBit_next (k : Nat) : topBit k >>> 1 = topBit (k + 1) := by
  rw [topBit, topBit, BitVec.shiftRight_add]

set_option maxHeartbeats 800000 in
theorem rtimes_any (a b : BitVec 32) (w : World) :
    Calls Tryd.prog 104 #[U32 a, U32 b] w fun e w' => e = .returned (U32 (timesP a b 32)) ∧ w = w' := by
  go_enter Tryd.func104, Tryd.ntmps104
  go_wp2_with fail
  go_loop [1, 5, 6] (fun s1 s5 s6 => ∃ k : Nat, k ≤ 32 ∧ s1 = U32 (crcBits k b) ∧ s5 = U32 (timesP a b k) ∧ s6 = U32 (topBit k)) (fun _ _ s6 => (intOf s6).toNat)
  case atStart => exact ⟨0, by omega, rfl, rfl, rfl⟩
  case round =>
    obtain ⟨k, hk, rfl, rfl, rfl⟩ := hrel
    by_cases hlt : k < 32
    · have hp := n32_pos (topBit_pos k hlt)
      have hnx := topBit_next k
      have hme : (n32 (topBit k >>> 1)).toNat < (n32 (topBit k)).toNat := by
        have hp' : 0 < (topBit k).toNat := by
          unfold n32 at hp; omega
        unfold n32
        rw [BitVec.toNat_ushiftRight, Nat.shiftRight_eq_div_pow]
        simp only [Int.toNat_natCast]
        omega
      rw [hnx] at hme
      have HME := hide hme
      have HNX := hide hnx
      clear hme hnx
      by_cases ha : a &&& topBit k = 0#32
      · have hz : n32 (a &&& topBit k) ≤ 0 := by rw [ha]; exact Int.le_refl _
        have hst : timesP a b (k + 1) = timesP a b k := by rw [timesP, if_pos ha]
        have HST := hide hst
        clear ha hst
        go_wp2_with (go_at_call 68; refine (rstep_any _ _).mono ?_; rintro e w' ⟨rfl, rfl⟩)
        exact ⟨⟨k + 1, by omega, rfl, by rw [HST.out], by rw [HNX.out]⟩, by simp only [intOf]; rw [HNX.out]; exact HME.out⟩
      · have hz := n32_pos ha
        have hst : timesP a b (k + 1) = timesP a b k ^^^ crcBits k b := by rw [timesP, if_neg ha]
        have HST := hide hst
        clear ha hst
        go_wp2_with (go_at_call 68; refine (rstep_any _ _).mono ?_; rintro e w' ⟨rfl, rfl⟩)
        exact ⟨⟨k + 1, by omega, rfl, by rw [HST.out], by rw [HNX.out]⟩, by simp only [intOf]; rw [HNX.out]; exact HME.out⟩
    · have hk32 : k = 32 := by omega
      have hz : n32 (topBit k) ≤ 0 := by rw [hk32]; decide
      have HK := hide hk32
      clear hk32
      go_wp2_with fail
      go_ret
      exact ⟨by rw [HK.out]; rfl, rfl⟩

set_option maxHeartbeats 800000 in
theorem rshift_any (c : BitVec 32) (n : Nat) (hn : n < 2 ^ 63) (w : World) :
    Calls Tryd.prog 66 #[U32 c, .int .i64 n] w fun e w' => e = .returned (U32 (crcBits (8 * n) c)) ∧ w = w' := by
  have hn1 : (n : Int) ≤ 9223372036854775807 := by omega
  go_enter Tryd.func66, Tryd.ntmps66
  go_wp2_with fail
  go_loop [1, 5, 6] (fun s1 s5 s6 => ∃ m P Q : Nat, Hid (Q * m + P = 8 * n) ∧ m ≤ n ∧ s1 = .int .i64 m ∧ s5 = U32 (crcBits P (1#32 <<< 31)) ∧ s6 = U32 (crcBits Q (1#32 <<< 31))) (fun s1 _ _ => (intOf s1).toNat)
  case atStart => exact ⟨n, 0, 8, hide (by omega), Nat.le_refl _, rfl, rfl, by rw [eight_steps]; rfl⟩
  case round =>
    obtain ⟨m, P, Q, hs, hm, rfl, rfl, rfl⟩ := hrel
    have hm2 : (m : Int) ≤ 9223372036854775807 := by omega
    by_cases h0 : 0 < m
    · have h01 : (0 : Int) < m := by omega
      have ht : ∀ P Q, timesP (crcBits P (1#32 <<< 31)) (crcBits Q (1#32 <<< 31)) 32 = crcBits (P + Q) (1#32 <<< 31) := fun P Q => by rw [times_steps, crcBits_add]
      have HT := hide ht
      clear ht
      generalize (1#32 <<< 31 : BitVec 32) = e0 at HT ⊢
      by_cases hodd : m % 2 = 1
      · have hb : ((m : Int) % 2 == 1) = true := by simp; omega
        have he : Q * m + P = (Q + Q) * (m / 2) + (P + Q) := by
          have : m = 2 * (m / 2) + 1 := by omega
          calc Q * m + P = Q * (2 * (m / 2) + 1) + P := by rw [← this]
            _ = (Q + Q) * (m / 2) + (P + Q) := by rw [Nat.mul_add, Nat.mul_one, ← Nat.mul_assoc, Nat.mul_two]; omega
        have HE := hide (he.symm.trans hs.out)
        clear he hodd
        go_wp2_with (go_at_call 104; refine (rtimes_any _ _ _).mono ?_; rintro e w' ⟨rfl, rfl⟩)
        exact ⟨⟨m / 2, P + Q, Q + Q, HE, by omega, by go_num, by rw [HT.out], by rw [HT.out]⟩, by simp [intOf]; omega⟩
      · have hb : ((m : Int) % 2 == 1) = false := by simp; omega
        have he : Q * m + P = (Q + Q) * (m / 2) + P := by
          have : m = 2 * (m / 2) := by omega
          calc Q * m + P = Q * (2 * (m / 2)) + P := by rw [← this]
            _ = (Q + Q) * (m / 2) + P := by rw [← Nat.mul_assoc, Nat.mul_two]
        have HE := hide (he.symm.trans hs.out)
        clear he hodd
        go_wp2_with (go_at_call 104; refine (rtimes_any _ _ _).mono ?_; rintro e w' ⟨rfl, rfl⟩)
        exact ⟨⟨m / 2, P, Q + Q, HE, by omega, by go_num, rfl, by rw [HT.out]⟩, by simp [intOf]; omega⟩
    · have h01 : ¬ (0 : Int) < m := by omega
      have hP : P = 8 * n := by have := hs.out; rw [show m = 0 by omega] at this; omega
      have HP := hide hP
      clear hP
      go_wp2_with (go_at_call 104; refine (rtimes_any _ _ _).mono ?_; rintro e w' ⟨rfl, rfl⟩)
      go_ret
      refine ⟨?_, rfl⟩
      rw [← HP.out]
      show Ending.returned (U32 (timesP (crcBits P (1#32 <<< 31)) c 32)) = _
      rw [times_steps]

end Go.Proofs.YtdpgebifeaakjaaDoor
