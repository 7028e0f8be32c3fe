/- The plain laws of CRC-32: byte sequences one behind the other, zeros, exclusive or, replacement. No program in sight. -/
import Derived.Test.YtdpgebifeaakjaaDoorL3
namespace Go.Proofs.YtdpgebifeaakjaaDoor
set_option linter.unusedSimpArgs false
set_option linter.unusedVariables false

theorem not_eq (a : BitVec 32) : ~~~a = a ^^^ ~~~0#32 := by
  rw [show (~~~0#32) = BitVec.allOnes 32 by decide, BitVec.xor_allOnes]
theorem reg_split (c : BitVec 32) (l : List (BitVec 8)) : reg c l = crcBits (8 * l.length) c ^^^ reg 0#32 l := by
  have := reg_left l 0#32 c
  rw [BitVec.zero_xor] at this
  rw [this, BitVec.xor_comm]
theorem crc_split (l : List (BitVec 8)) : crc l = crcBits (8 * l.length) (~~~0#32) ^^^ reg 0#32 l ^^^ ~~~0#32 := by
  rw [crc_reg, not_eq, reg_split]
theorem xor_self_mid (a b c : BitVec 32) : a ^^^ b ^^^ (b ^^^ c) = a ^^^ c := by
  rw [BitVec.xor_assoc, ← BitVec.xor_assoc b b c, BitVec.xor_self, BitVec.zero_xor]
/-- The CRC of two byte sequences, one behind the other. -/
theorem crc_append (x y : List (BitVec 8)) : crc (x ++ y) = crcBits (8 * y.length) (crc x) ^^^ crc y := by
  have h1 : crc (x ++ y) = crcBits (8 * y.length) (reg (~~~0#32) x) ^^^ reg 0#32 y ^^^ ~~~0#32 := by
    rw [crc_reg, not_eq, reg_append, reg_split]
  have h2 : crcBits (8 * y.length) (crc x) = crcBits (8 * y.length) (reg (~~~0#32) x) ^^^ crcBits (8 * y.length) (~~~0#32) := by
    rw [crc_reg x, not_eq (reg _ x), crcBits_lin]
  rw [h1, h2, crc_split y, BitVec.xor_assoc (crcBits _ (~~~0#32)), xor_self_mid, BitVec.xor_assoc]
/-- Extend goes on where a CRC has ended. -/
theorem crcExt_append (c : BitVec 32) (x y : List (BitVec 8)) : crcExt (crcExt c x) y = crcExt c (x ++ y) := by
  rw [crcExt_reg, crcExt_reg, crcExt_reg, reg_append, BitVec.not_not]
theorem crcExt_nil (c : BitVec 32) : crcExt c [] = c := by
  rw [crcExt_reg, reg_nil, BitVec.not_not]
/-- So many zero bytes behind. -/
theorem crc_zeros (x : List (BitVec 8)) (n : Nat) : crc (x ++ List.replicate n 0#8) = ~~~crcBits (8 * n) (~~~crc x) := by
  rw [crc_reg, reg_append, reg_split, reg_zeros, BitVec.xor_zero, List.length_replicate, crc_reg, BitVec.not_not]
theorem xor_off (a b o : BitVec 32) : (a ^^^ o) ^^^ (b ^^^ o) = a ^^^ b := by
  rw [xor4, BitVec.xor_self, BitVec.xor_zero]
/-- The CRC of the exclusive or of three byte sequences. -/
theorem crc_xor3 (x y z : List (BitVec 8)) (h1 : x.length = y.length) (h2 : y.length = z.length) :
    crc (List.zipWith (· ^^^ ·) (List.zipWith (· ^^^ ·) x y) z) = crc x ^^^ crc y ^^^ crc z := by
  have e : (~~~0#32) = (~~~0#32) ^^^ (~~~0#32) ^^^ (~~~0#32) := by decide
  have h := reg_xor (List.zipWith (· ^^^ ·) x y) z ((~~~0#32) ^^^ (~~~0#32)) (~~~0#32) (by simp; omega)
  rw [reg_xor x y _ _ h1, ← e] at h
  rw [crc_reg, crc_reg, crc_reg, crc_reg, h, not_eq, not_eq (reg _ x), not_eq (reg _ y), not_eq (reg _ z), xor_off, BitVec.xor_assoc]
/-- The middle of three byte sequences replaced. -/
theorem crc_patch (x y y' z : List (BitVec 8)) (h : y.length = y'.length) :
    crc (x ++ y ++ z) ^^^ crcBits (8 * z.length) (crc y ^^^ crc y') = crc (x ++ y' ++ z) := by
  rw [crc_append (x ++ y), crc_append (x ++ y'), crc_append x y, crc_append x y', crcBits_lin, crcBits_lin, crcBits_lin, ← h]
  generalize crcBits (8 * z.length) (crcBits (8 * y.length) (crc x)) = p
  generalize crcBits (8 * z.length) (crc y) = q
  generalize crcBits (8 * z.length) (crc y') = r
  rw [BitVec.xor_assoc p, BitVec.xor_assoc p, BitVec.xor_assoc p, BitVec.xor_comm q (crc z), BitVec.xor_assoc (crc z), ← BitVec.xor_assoc q q, BitVec.xor_self, BitVec.zero_xor, BitVec.xor_comm (crc z)]
end Go.Proofs.YtdpgebifeaakjaaDoor
