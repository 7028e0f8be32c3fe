/- The plain law of the CRC register: a byte is eight steps; linear; a burst of at most 32 bits turns it. No program in sight. -/
import Derived.Test.YtdpgebifeaakjaaDoorL1
namespace Go.Proofs.YtdpgebifeaakjaaDoor
set_option linter.unusedSimpArgs false
set_option linter.unusedVariables false

/-- So many steps of a register whose low bits are clear are a shift. -/
theorem crcBits_shr : ∀ (n : Nat) (x : BitVec 32), (∀ i, i < n → x.getLsbD i = false) → crcBits n x = x >>> n
  | 0, x, _ => by rw [BitVec.ushiftRight_zero]; rfl
  | n + 1, x, h => by
    show crcBit (crcBits n x) = _
    rw [crcBits_shr n x fun i hi => h i (by omega), crcBit_eq, BitVec.getLsbD_ushiftRight, Nat.add_zero, h n (by omega), BitVec.shiftRight_add]
    simp
theorem low_ofNat (c : BitVec 32) (b : BitVec 8) : BitVec.ofNat 32 (n8 (c.setWidth 8 ^^^ b)).toNat = (c.setWidth 8 ^^^ b).setWidth 32 := by
  apply BitVec.eq_of_toNat_eq
  rw [BitVec.toNat_ofNat, BitVec.toNat_setWidth]
  rfl
/-- One byte is eight steps. -/
theorem crcByte_eq (c : BitVec 32) (b : BitVec 8) : crcByte c b = crcBits 8 (c ^^^ b.setWidth 32) := by
  have e : c ^^^ b.setWidth 32 = (c.setWidth 8 ^^^ b).setWidth 32 ^^^ ((c >>> 8) <<< 8) := by
    apply BitVec.eq_of_getLsbD_eq
    intro i hi
    simp only [BitVec.getLsbD_xor, BitVec.getLsbD_setWidth, BitVec.getLsbD_shiftLeft, BitVec.getLsbD_ushiftRight]
    by_cases h8 : i < 8
    · simp [h8, hi]
    · have h9 : 8 + (i - 8) = i := by omega
      have hb : b.getLsbD i = false := BitVec.getLsbD_of_ge _ _ (by omega)
      simp [h8, hi, h9, hb]
  have e2 : crcBits 8 ((c >>> 8) <<< 8) = c >>> 8 := by
    rw [crcBits_shr 8 _ fun i hi => by rw [BitVec.getLsbD_shiftLeft]; simp [hi]]
    apply BitVec.eq_of_getLsbD_eq
    intro i hi
    simp only [BitVec.getLsbD_shiftLeft, BitVec.getLsbD_ushiftRight]
    by_cases h : 8 + i < 32
    · have h8 : ¬ 8 + i < 8 := by omega
      simp [h, h8, Nat.add_sub_cancel_left]
    · have : c.getLsbD (8 + i) = false := BitVec.getLsbD_of_ge _ _ (by omega)
      simp [h, this]
  rw [e, crcBits_lin 8, e2, crcByte, crcTab, low_ofNat]
/-- The register behind a byte sequence. -/
def reg (c : BitVec 32) (l : List (BitVec 8)) : BitVec 32 := l.foldl crcByte c
theorem reg_nil (c : BitVec 32) : reg c [] = c := rfl
theorem reg_cons (c : BitVec 32) (b : BitVec 8) (l : List (BitVec 8)) : reg c (b :: l) = reg (crcByte c b) l := rfl
theorem reg_append (c : BitVec 32) (x y : List (BitVec 8)) : reg c (x ++ y) = reg (reg c x) y := List.foldl_append
theorem crcExt_reg (c : BitVec 32) (l : List (BitVec 8)) : crcExt c l = ~~~reg (~~~c) l := rfl
theorem crc_reg (l : List (BitVec 8)) : crc l = ~~~reg (~~~0#32) l := rfl
theorem setWidth_xor (a b : BitVec 8) : (a ^^^ b).setWidth 32 = a.setWidth 32 ^^^ b.setWidth 32 := by
  apply BitVec.eq_of_getLsbD_eq
  intro i hi
  simp
theorem crcByte_xor (c d : BitVec 32) (a b : BitVec 8) : crcByte (c ^^^ d) (a ^^^ b) = crcByte c a ^^^ crcByte d b := by
  rw [crcByte_eq, crcByte_eq, crcByte_eq, setWidth_xor, xor4, crcBits_lin 8]
theorem crcByte_left (c d : BitVec 32) (a : BitVec 8) : crcByte (c ^^^ d) a = crcByte c a ^^^ crcBits 8 d := by
  have h := crcByte_xor c d a 0#8
  rw [BitVec.xor_zero] at h
  rw [h, crcByte_eq d]
  simp
theorem reg_left : ∀ (l : List (BitVec 8)) (c d : BitVec 32), reg (c ^^^ d) l = reg c l ^^^ crcBits (8 * l.length) d
  | [], c, d => rfl
  | b :: l, c, d => by
    rw [reg_cons, reg_cons, crcByte_left, reg_left l, ← crcBits_add]
    rfl
theorem reg_xor : ∀ (x y : List (BitVec 8)) (c d : BitVec 32), x.length = y.length → reg (c ^^^ d) (List.zipWith (· ^^^ ·) x y) = reg c x ^^^ reg d y
  | [], [], c, d, _ => rfl
  | a :: x, b :: y, c, d, h => by
    rw [List.zipWith_cons_cons, reg_cons, reg_cons, reg_cons, crcByte_xor, reg_xor x y _ _ (by simpa using h)]
  | [], b :: y, c, d, h => by simp at h
  | a :: x, [], c, d, h => by simp at h
theorem crcBits_zero (n : Nat) : crcBits n 0#32 = 0#32 := (crcBits_lin n).zero
theorem reg_zeros : ∀ n : Nat, reg 0#32 (List.replicate n 0#8) = 0#32
  | 0 => rfl
  | n + 1 => by
    rw [List.replicate_succ, reg_cons, crcByte_eq]
    have : crcBits 8 (0#32 ^^^ BitVec.setWidth 32 0#8) = 0#32 := by decide +kernel
    rw [this, reg_zeros n]
theorem one_at (n i : Nat) (hn : n < 32) : (1#32 <<< n).getLsbD i = decide (i = n) := by
  rw [BitVec.getLsbD_shiftLeft]
  by_cases e : i = n
  · subst e; simp [hn]
  · by_cases l : i < n
    · simp [l, e]
    · have : i - n ≠ 0 := by omega
      simp [l, e, BitVec.getLsbD_one, this]
theorem crcBits_one (n : Nat) (hn : n < 32) : crcBits n (1#32 <<< n) = 1#32 := by
  rw [crcBits_shr n _ fun i hi => by rw [one_at n i hn]; simp; omega]
  apply BitVec.eq_of_getLsbD_eq
  intro i hi
  rw [BitVec.getLsbD_ushiftRight, one_at n _ hn, BitVec.getLsbD_one]
  by_cases e : i = 0
  · subst e; simp
  · have : ¬ n + i = n := by omega
    simp [e]
/-- A bit of a byte sequence turned. -/
def flipL (l : List (BitVec 8)) (n : Nat) : List (BitVec 8) := l.set (n / 8) (l.getD (n / 8) 0#8 ^^^ (1#8 <<< (n % 8)))
theorem flipL_length (l : List (BitVec 8)) (n : Nat) : (flipL l n).length = l.length := List.length_set
theorem bit_wide (n : Nat) (h : n < 8) : (1#8 <<< n).setWidth 32 = 1#32 <<< n := by
  match n, h with
  | 0, _ => decide
  | 1, _ => decide
  | 2, _ => decide
  | 3, _ => decide
  | 4, _ => decide
  | 5, _ => decide
  | 6, _ => decide
  | 7, _ => decide
theorem reg_flip : ∀ (l : List (BitVec 8)) (n : Nat) (c : BitVec 32), n < 8 * l.length → reg c (flipL l n) = reg c l ^^^ crcBits (8 * l.length - n) 1#32
  | [], n, c, h => by simp at h
  | b :: l, n, c, h => by
    by_cases h8 : n < 8
    · have e0 : n / 8 = 0 := by omega
      have e1 : n % 8 = n := by omega
      have e2 : flipL (b :: l) n = (b ^^^ (1#8 <<< n)) :: l := by rw [flipL, e0, e1]; rfl
      have e3 : crcByte c (b ^^^ (1#8 <<< n)) = crcByte c b ^^^ crcBits 8 (1#32 <<< n) := by
        have := crcByte_xor c 0#32 b (1#8 <<< n)
        rw [BitVec.xor_zero] at this
        rw [this, crcByte_eq 0#32, BitVec.zero_xor, bit_wide n h8]
      have e4 : crcBits 8 (1#32 <<< n) = crcBits (8 - n) 1#32 := by
        rw [show (8 : Nat) = (8 - n) + n by omega, crcBits_add, crcBits_one n (by omega), show 8 - n + n - n = 8 - n by omega]
      rw [e2, reg_cons, e3, e4, reg_left, ← crcBits_add, reg_cons]
      rw [List.length_cons, show 8 * l.length + (8 - n) = 8 * (l.length + 1) - n by omega]
    · have e0 : n / 8 = (n - 8) / 8 + 1 := by omega
      have e1 : n % 8 = (n - 8) % 8 := by omega
      have e2 : flipL (b :: l) n = b :: flipL l (n - 8) := by rw [flipL, e0, e1]; rfl
      rw [e2, reg_cons, reg_flip l (n - 8) _ (by simp at h; omega), reg_cons, List.length_cons, show 8 * l.length - (n - 8) = 8 * (l.length + 1) - n by omega]
theorem crcBit_inj (x : BitVec 32) (h : crcBit x = 0#32) : x = 0#32 := by
  rw [crcBit_eq] at h
  have h31 := congrArg (fun y => BitVec.getLsbD y 31) h
  have hlow : x.getLsbD 0 = false := by
    cases hx : x.getLsbD 0 with
    | false => rfl
    | true =>
      rw [hx] at h31
      have hx32 : x.getLsbD 32 = false := BitVec.getLsbD_of_ge _ _ (by omega)
      simp only [BitVec.getLsbD_xor, BitVec.getLsbD_ushiftRight, if_true] at h31
      rw [show 1 + 31 = 32 from rfl, hx32] at h31
      exact absurd h31 (by decide)
  rw [hlow] at h
  have h' : x >>> 1 = 0#32 := by simpa using h
  apply BitVec.eq_of_getLsbD_eq
  intro i hi
  cases i with
  | zero => rw [hlow]; simp
  | succ i =>
    have := congrArg (fun y => BitVec.getLsbD y i) h'
    simp only [BitVec.getLsbD_ushiftRight] at this
    rw [Nat.add_comm] at this
    rw [this]; simp
theorem crcBits_inj : ∀ (n : Nat) (x : BitVec 32), crcBits n x = 0#32 → x = 0#32
  | 0, _, h => h
  | n + 1, x, h => crcBits_inj n x (crcBit_inj _ h)
/-- Bits turned, as the statement does it. -/
def burst (l : List (BitVec 8)) (first : Nat) (bits : BitVec 32) : Nat → List (BitVec 8)
  | 0 => l
  | k + 1 => if bits.getLsbD k then flipL (burst l first bits k) (first + k) else burst l first bits k
theorem burst_length (l : List (BitVec 8)) (first : Nat) (bits : BitVec 32) : ∀ k, (burst l first bits k).length = l.length
  | 0 => rfl
  | k + 1 => by
    rw [burst]
    cases bits.getLsbD k
    · exact burst_length l first bits k
    · rw [if_pos rfl, flipL_length, burst_length l first bits k]
theorem burst_reg (l : List (BitVec 8)) (first : Nat) (bits c : BitVec 32) : ∀ k, k ≤ 32 → first + k ≤ 8 * l.length →
    ∃ W : BitVec 32, (∀ i, k ≤ i → W.getLsbD i = false) ∧ reg c (burst l first bits k) = reg c l ^^^ crcBits (8 * l.length - first) W ∧ (W = 0#32 → burst l first bits k = l)
  | 0, _, _ => ⟨0#32, fun i _ => by simp, by rw [crcBits_zero, BitVec.xor_zero]; rfl, fun _ => rfl⟩
  | k + 1, hk, hl => by
    obtain ⟨W, h1, h2, h3⟩ := burst_reg l first bits c k (by omega) (by omega)
    rw [burst]
    cases bits.getLsbD k
    · exact ⟨W, fun i hi => h1 i (by omega), h2, h3⟩
    · rw [if_pos rfl]
      refine ⟨W ^^^ (1#32 <<< k), fun i hi => ?_, ?_, fun h => ?_⟩
      · rw [BitVec.getLsbD_xor, h1 i (by omega), one_at k i (by omega)]
        simp; omega
      · rw [reg_flip _ _ _ (by rw [burst_length]; omega), h2, crcBits_lin, burst_length, BitVec.xor_assoc]
        congr 2
        rw [show 8 * l.length - first = (8 * l.length - (first + k)) + k by omega, crcBits_add _ k (1#32 <<< k), crcBits_one k (by omega)]
      · have := congrArg (fun y => BitVec.getLsbD y k) h
        simp only [BitVec.getLsbD_xor] at this
        rw [h1 k (Nat.le_refl _), one_at k k (by omega)] at this
        simp at this
/-- A burst of at most 32 bits turns the CRC-32, or nothing. -/
theorem burst_law (l : List (BitVec 8)) (first : Nat) (bits : BitVec 32) (k : Nat) (hk : k ≤ 32) (hl : first + k ≤ 8 * l.length) :
    burst l first bits k = l ∨ crc (burst l first bits k) ≠ crc l := by
  obtain ⟨W, _, h2, h3⟩ := burst_reg l first bits (~~~0#32) k hk hl
  by_cases hW : W = 0#32
  · exact .inl (h3 hW)
  · refine .inr fun h => hW ?_
    rw [crc_reg, crc_reg, h2] at h
    have h' : reg (~~~0#32) l ^^^ crcBits (8 * l.length - first) W = reg (~~~0#32) l := by
      have := congrArg (fun y => ~~~y) h
      simpa using this
    apply crcBits_inj (8 * l.length - first)
    have h4 := congrArg (fun y => reg (~~~0#32) l ^^^ y) h'
    simp only [← BitVec.xor_assoc, BitVec.xor_self, BitVec.zero_xor] at h4
    exact h4
end Go.Proofs.YtdpgebifeaakjaaDoor
