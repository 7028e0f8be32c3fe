/- Small laws on machine words as bit vectors, for the walks of this seat: what the model's integer operations do with them. -/
import Derived.Test.YtdpgebifeaakjaaDoorProg
import Derived.WalkKit
import Derived.WalkSpells
import Derived.WalkLawsBesides
namespace Go.Proofs.YtdpgebifeaakjaaDoor
set_option linter.unusedSimpArgs false
set_option linter.unusedVariables false
open Go.RowKit

/-- A machine word of 8, 32, 64 bits. -/
def n8 (x : BitVec 8) : Int := (x.toNat : Int)
def n32 (x : BitVec 32) : Int := (x.toNat : Int)
def n64 (x : BitVec 64) : Int := (x.toNat : Int)
abbrev U8 (x : BitVec 8) : Value := .int .u8 (n8 x)
abbrev U32 (x : BitVec 32) : Value := .int .u32 (n32 x)
abbrev U64 (x : BitVec 64) : Value := .int .u64 (n64 x)
@[go_sem] theorem n8_nonneg (x : BitVec 8) : 0 ≤ n8 x := by unfold n8; omega
@[go_sem] theorem n8_lt (x : BitVec 8) : n8 x < 256 := by have := x.isLt; unfold n8; omega
@[go_sem] theorem n32_nonneg (x : BitVec 32) : 0 ≤ n32 x := by unfold n32; omega
@[go_sem] theorem n32_lt (x : BitVec 32) : n32 x < 4294967296 := by have := x.isLt; unfold n32; omega
@[go_sem] theorem n64_nonneg (x : BitVec 64) : 0 ≤ n64 x := by unfold n64; omega
@[go_sem] theorem n64_lt (x : BitVec 64) : n64 x < 18446744073709551616 := by have := x.isLt; unfold n64; omega

theorem ofInt_toNat {n : Nat} (x : BitVec n) : BitVec.ofInt n (x.toNat : Int) = x := by
  apply BitVec.eq_of_toNat_eq
  rw [BitVec.toNat_ofInt]
  have := x.isLt
  rw [Int.emod_eq_of_lt (by omega) (by exact_mod_cast this)]; rfl
theorem eqnat {n : Nat} (a b : BitVec n) : ((a.toNat : Int) == (b.toNat : Int)) = (a == b) := by
  rw [Bool.eq_iff_iff]; simp only [beq_iff_eq]
  exact ⟨fun h => BitVec.eq_of_toNat_eq (by omega), fun h => by rw [h]⟩
theorem ofInt_natCast_set {n m : Nat} (a : BitVec n) : BitVec.ofInt m (a.toNat : Int) = a.setWidth m := by
  apply BitVec.eq_of_toNat_eq; rw [BitVec.toNat_ofInt, BitVec.toNat_setWidth, ← Int.natCast_emod, Int.toNat_natCast]
theorem conv_ii {P : Program} {s d : TypeId} {k : IntKind} (hs : (P.underlying s).isSome = true) (hd : P.underlying d = some (.int k)) (q : IntKind) (n : Int) (w : World) :
    (convert s d (.int q n)).run P w = .ok (.int k (k.wrap n)) w := by
  obtain ⟨e, he⟩ := Option.isSome_iff_exists.mp hs
  simp [convert, run_underlying he, run_underlying hd, Conv.intToInt]
theorem ofInt_lit_toNat {w : Nat} (n : Int) (h0 : 0 ≤ n) (h1 : n < 2 ^ w) : ((BitVec.ofInt w n).toNat : Int) = n := by
  rw [BitVec.toNat_ofInt, Int.emod_eq_of_lt h0 (by simpa using h1)]; omega


theorem wrap_u8 (n : Int) : IntKind.u8.wrap n = n8 (BitVec.ofInt 8 n) := by
  simp [n8, IntKind.wrap, IntKind.signed, IntKind.bits, BitVec.toNat_ofInt]; omega
@[go_sem] theorem ofInt_n8 (x : BitVec 8) : BitVec.ofInt 8 (n8 x) = x := ofInt_toNat x
theorem n8_inj {a b : BitVec 8} (h : n8 a = n8 b) : a = b := BitVec.eq_of_toNat_eq (by unfold n8 at h; omega)
theorem U8_inj (a b : BitVec 8) : U8 a = U8 b ↔ a = b := by
  constructor
  · intro h; injection h with _ h; exact n8_inj h
  · rintro rfl; rfl
theorem U8_lit (n : Int) (h0 : 0 ≤ n) (h1 : n < 256) : Value.int .u8 n = U8 (BitVec.ofInt 8 n) := by
  unfold U8 n8; rw [ofInt_lit_toNat n h0 (by simpa using h1)]
theorem back_u8 (r : BitVec 8) : (pure (.int .u8 (IntKind.u8.wrap (r.toNat : Int))) : Sem Value) = pure (U8 r) := by
  rw [wrap_u8, ofInt_toNat]

@[go_sem high] theorem binOp_and_U8 (t : TypeId) (a b : BitVec 8) : binOp .and t (U8 a) (U8 b) = pure (U8 (a &&& b)) := by
  show Op.intBits .and .u8 _ _ = _
  simp only [Op.intBits, IntKind.bits, ofInt_n8, back_u8]; rfl
@[go_sem high] theorem binOp_and_U8l (t : TypeId) (a : BitVec 8) (n : Int) : binOp .and t (U8 a) (.int .u8 n) = pure (U8 (a &&& BitVec.ofInt 8 n)) := by
  show Op.intBits .and .u8 _ _ = _
  simp only [Op.intBits, IntKind.bits, ofInt_n8, back_u8]; rfl

@[go_sem high] theorem binOp_or_U8 (t : TypeId) (a b : BitVec 8) : binOp .or t (U8 a) (U8 b) = pure (U8 (a ||| b)) := by
  show Op.intBits .or .u8 _ _ = _
  simp only [Op.intBits, IntKind.bits, ofInt_n8, back_u8]; rfl
@[go_sem high] theorem binOp_or_U8l (t : TypeId) (a : BitVec 8) (n : Int) : binOp .or t (U8 a) (.int .u8 n) = pure (U8 (a ||| BitVec.ofInt 8 n)) := by
  show Op.intBits .or .u8 _ _ = _
  simp only [Op.intBits, IntKind.bits, ofInt_n8, back_u8]; rfl

@[go_sem high] theorem binOp_xor_U8 (t : TypeId) (a b : BitVec 8) : binOp .xor t (U8 a) (U8 b) = pure (U8 (a ^^^ b)) := by
  show Op.intBits .xor .u8 _ _ = _
  simp only [Op.intBits, IntKind.bits, ofInt_n8, back_u8]; rfl
@[go_sem high] theorem binOp_xor_U8l (t : TypeId) (a : BitVec 8) (n : Int) : binOp .xor t (U8 a) (.int .u8 n) = pure (U8 (a ^^^ BitVec.ofInt 8 n)) := by
  show Op.intBits .xor .u8 _ _ = _
  simp only [Op.intBits, IntKind.bits, ofInt_n8, back_u8]; rfl

@[go_sem high] theorem binOp_andNot_U8 (t : TypeId) (a b : BitVec 8) : binOp .andNot t (U8 a) (U8 b) = pure (U8 (a &&& ~~~b)) := by
  show Op.intBits .andNot .u8 _ _ = _
  simp only [Op.intBits, IntKind.bits, ofInt_n8, back_u8]; rfl
@[go_sem high] theorem binOp_andNot_U8l (t : TypeId) (a : BitVec 8) (n : Int) : binOp .andNot t (U8 a) (.int .u8 n) = pure (U8 (a &&& ~~~BitVec.ofInt 8 n)) := by
  show Op.intBits .andNot .u8 _ _ = _
  simp only [Op.intBits, IntKind.bits, ofInt_n8, back_u8]; rfl

@[go_sem high] theorem binOp_add_U8 (t : TypeId) (a b : BitVec 8) : binOp .add t (U8 a) (U8 b) = pure (U8 (a + b)) := by
  show Op.intArith .add .u8 _ _ = _
  simp only [Op.intArith, wrap_u8, BitVec.ofInt_add, ofInt_n8]
@[go_sem high] theorem binOp_add_U8l (t : TypeId) (a : BitVec 8) (n : Int) : binOp .add t (U8 a) (.int .u8 n) = pure (U8 (a + BitVec.ofInt 8 n)) := by
  show Op.intArith .add .u8 _ _ = _
  simp only [Op.intArith, wrap_u8, BitVec.ofInt_add, ofInt_n8]
@[go_sem high] theorem binOp_add_lU8 (t : TypeId) (a : BitVec 8) (n : Int) : binOp .add t (.int .u8 n) (U8 a) = pure (U8 (BitVec.ofInt 8 n + a)) := by
  show Op.intArith .add .u8 _ _ = _
  simp only [Op.intArith, wrap_u8, BitVec.ofInt_add, ofInt_n8]

@[go_sem high] theorem binOp_sub_U8 (t : TypeId) (a b : BitVec 8) : binOp .sub t (U8 a) (U8 b) = pure (U8 (a - b)) := by
  show Op.intArith .sub .u8 _ _ = _
  simp only [Op.intArith, wrap_u8, Int.sub_eq_add_neg, BitVec.sub_eq_add_neg, BitVec.ofInt_add, BitVec.ofInt_neg, ofInt_n8]
@[go_sem high] theorem binOp_sub_U8l (t : TypeId) (a : BitVec 8) (n : Int) : binOp .sub t (U8 a) (.int .u8 n) = pure (U8 (a - BitVec.ofInt 8 n)) := by
  show Op.intArith .sub .u8 _ _ = _
  simp only [Op.intArith, wrap_u8, Int.sub_eq_add_neg, BitVec.sub_eq_add_neg, BitVec.ofInt_add, BitVec.ofInt_neg, ofInt_n8]
@[go_sem high] theorem binOp_sub_lU8 (t : TypeId) (a : BitVec 8) (n : Int) : binOp .sub t (.int .u8 n) (U8 a) = pure (U8 (BitVec.ofInt 8 n - a)) := by
  show Op.intArith .sub .u8 _ _ = _
  simp only [Op.intArith, wrap_u8, Int.sub_eq_add_neg, BitVec.sub_eq_add_neg, BitVec.ofInt_add, BitVec.ofInt_neg, ofInt_n8]

@[go_sem high] theorem binOp_mul_U8 (t : TypeId) (a b : BitVec 8) : binOp .mul t (U8 a) (U8 b) = pure (U8 (a * b)) := by
  show Op.intArith .mul .u8 _ _ = _
  simp only [Op.intArith, wrap_u8, BitVec.ofInt_mul, ofInt_n8]
@[go_sem high] theorem binOp_mul_U8l (t : TypeId) (a : BitVec 8) (n : Int) : binOp .mul t (U8 a) (.int .u8 n) = pure (U8 (a * BitVec.ofInt 8 n)) := by
  show Op.intArith .mul .u8 _ _ = _
  simp only [Op.intArith, wrap_u8, BitVec.ofInt_mul, ofInt_n8]
@[go_sem high] theorem binOp_mul_lU8 (t : TypeId) (a : BitVec 8) (n : Int) : binOp .mul t (.int .u8 n) (U8 a) = pure (U8 (BitVec.ofInt 8 n * a)) := by
  show Op.intArith .mul .u8 _ _ = _
  simp only [Op.intArith, wrap_u8, BitVec.ofInt_mul, ofInt_n8]

theorem tdiv_u8 (a b : BitVec 8) : (n8 a).tdiv (n8 b) = n8 (a / b) := by
  unfold n8
  rw [BitVec.toNat_udiv]
  rw [Int.tdiv_eq_ediv_of_nonneg (by omega)]
  push_cast; rfl
@[go_sem high] theorem binOp_quo_U8 (t : TypeId) (a b : BitVec 8) (hb : b ≠ 0#8) : binOp .quo t (U8 a) (U8 b) = pure (U8 (a / b)) := by
  have h : n8 b ≠ 0 := fun h => hb (BitVec.eq_of_toNat_eq (by unfold n8 at h; simpa using h))
  show Op.intDiv .quo .u8 _ _ = _
  simp only [Op.intDiv, if_neg h, tdiv_u8, wrap_u8, ofInt_n8]
@[go_sem high] theorem binOp_quo_U8l (t : TypeId) (a : BitVec 8) (n : Int) (h0 : 0 < n) (h1 : n < 256) : binOp .quo t (U8 a) (.int .u8 n) = pure (U8 (a / BitVec.ofInt 8 n)) := by
  have e := U8_lit n (by omega) h1
  rw [e]
  refine binOp_quo_U8 t a _ (fun h => ?_)
  have e2 := ofInt_lit_toNat (w := 8) n (by omega) (by simpa using h1)
  rw [h] at e2; simp at e2; omega

theorem tmod_u8 (a b : BitVec 8) : (n8 a).tmod (n8 b) = n8 (a % b) := by
  unfold n8
  rw [BitVec.toNat_umod]
  rw [Int.tmod_eq_emod_of_nonneg (by omega)]
  push_cast; rfl
@[go_sem high] theorem binOp_rem_U8 (t : TypeId) (a b : BitVec 8) (hb : b ≠ 0#8) : binOp .rem t (U8 a) (U8 b) = pure (U8 (a % b)) := by
  have h : n8 b ≠ 0 := fun h => hb (BitVec.eq_of_toNat_eq (by unfold n8 at h; simpa using h))
  show Op.intDiv .rem .u8 _ _ = _
  simp only [Op.intDiv, if_neg h, tmod_u8]
@[go_sem high] theorem binOp_rem_U8l (t : TypeId) (a : BitVec 8) (n : Int) (h0 : 0 < n) (h1 : n < 256) : binOp .rem t (U8 a) (.int .u8 n) = pure (U8 (a % BitVec.ofInt 8 n)) := by
  have e := U8_lit n (by omega) h1
  rw [e]
  refine binOp_rem_U8 t a _ (fun h => ?_)
  have e2 := ofInt_lit_toNat (w := 8) n (by omega) (by simpa using h1)
  rw [h] at e2; simp at e2; omega

theorem eq_n8 (a b : BitVec 8) : (n8 a == n8 b) = (a == b) := eqnat a b
@[go_sem high] theorem binOp_eql_U8 (t : TypeId) (a b : BitVec 8) : binOp .eql t (U8 a) (U8 b) = pure (.bool (a == b)) := by
  show (pure (.bool (n8 a == n8 b)) : Sem Value) = _
  rw [eq_n8 a b]
@[go_sem high] theorem binOp_neq_U8 (t : TypeId) (a b : BitVec 8) : binOp .neq t (U8 a) (U8 b) = pure (.bool (a != b)) := by
  show (pure (.bool (!(n8 a == n8 b))) : Sem Value) = _
  rw [eq_n8 a b]; rfl
theorem eqlit_u8 (a : BitVec 8) (n : Int) (h0 : 0 ≤ n) (h1 : n < 256) : (n8 a == n) = (a == BitVec.ofInt 8 n) := by
  have e := ofInt_lit_toNat (w := 8) n h0 (by simpa using h1)
  rw [Bool.eq_iff_iff]
  simp only [beq_iff_eq, n8]
  constructor
  · intro h; apply BitVec.eq_of_toNat_eq; omega
  · intro h; rw [h]; exact e
@[go_sem high] theorem binOp_eql_U8l (t : TypeId) (a : BitVec 8) (n : Int) (h0 : 0 ≤ n) (h1 : n < 256) : binOp .eql t (U8 a) (.int .u8 n) = pure (.bool (a == BitVec.ofInt 8 n)) := by
  show (pure (.bool (n8 a == n)) : Sem Value) = _
  rw [eqlit_u8 a n h0 h1]
@[go_sem high] theorem binOp_neq_U8l (t : TypeId) (a : BitVec 8) (n : Int) (h0 : 0 ≤ n) (h1 : n < 256) : binOp .neq t (U8 a) (.int .u8 n) = pure (.bool (a != BitVec.ofInt 8 n)) := by
  show (pure (.bool (!(n8 a == n))) : Sem Value) = _
  rw [eqlit_u8 a n h0 h1]; rfl
@[go_sem high] theorem binOp_shl_U8 (t : TypeId) (a : BitVec 8) (q : IntKind) (n : Int) (h0 : 0 ≤ n) : binOp .shl t (U8 a) (.int q n) = pure (U8 (a <<< n.toNat)) := by
  show Op.shift .shl .u8 _ q n = _
  simp only [Op.shift, if_neg (by omega : ¬ n < 0), wrap_u8, IntKind.bits]
  congr 3
  apply BitVec.eq_of_toNat_eq
  unfold n8
  rw [BitVec.toNat_ofInt, BitVec.toNat_shiftLeft, Nat.shiftLeft_eq]
  have e : ((a.toNat : Int) * 2 ^ min n.toNat 8) = ((a.toNat * 2 ^ min n.toNat 8 : Nat) : Int) := by push_cast; rfl
  rw [e, ← Int.natCast_emod, Int.toNat_natCast]
  by_cases h : n.toNat ≤ 8
  · rw [Nat.min_eq_left h]
  · rw [Nat.min_eq_right (by omega)]
    obtain ⟨m, hm⟩ : ∃ m, n.toNat = 8 + m := ⟨n.toNat - 8, by omega⟩
    rw [hm, Nat.pow_add, ← Nat.mul_assoc, Nat.mul_right_comm]
    simp
@[go_sem high] theorem binOp_shr_U8 (t : TypeId) (a : BitVec 8) (q : IntKind) (n : Int) (h0 : 0 ≤ n) : binOp .shr t (U8 a) (.int q n) = pure (U8 (a >>> n.toNat)) := by
  show Op.shift .shr .u8 _ q n = _
  simp only [Op.shift, if_neg (by omega : ¬ n < 0), IntKind.bits]
  unfold U8 n8
  congr 2
  rw [BitVec.toNat_ushiftRight, Nat.shiftRight_eq_div_pow]
  have e : ((a.toNat : Int).fdiv (2 ^ min n.toNat 8)) = ((a.toNat / 2 ^ min n.toNat 8 : Nat) : Int) := by
    rw [Int.fdiv_eq_ediv_of_nonneg _ (by exact Int.le_of_lt (Int.pow_pos (by decide)))]; push_cast; rfl
  rw [e]
  by_cases h : n.toNat ≤ 8
  · rw [Nat.min_eq_left h]
  · rw [Nat.min_eq_right (by omega), Nat.div_eq_of_lt a.isLt, Nat.div_eq_of_lt]
    exact Nat.lt_of_lt_of_le a.isLt (Nat.pow_le_pow_right (by decide) (by omega))
@[go_sem high] theorem binOp_shl_l8 (t : TypeId) (n : Int) (q : IntKind) (m : Int) (h0 : 0 ≤ n) (h1 : n < 256) (hm : 0 ≤ m) : binOp .shl t (.int .u8 n) (.int q m) = pure (U8 (BitVec.ofInt 8 n <<< m.toNat)) := by
  rw [U8_lit n h0 h1]; exact binOp_shl_U8 t _ q m hm
@[go_sem high] theorem unary_xor_U8 (a : BitVec 8) : Op.unary .xor (U8 a) = pure (U8 (~~~a)) := by
  show Op.intBits .xor .u8 _ _ = _
  simp only [Op.intBits, IntKind.bits, IntKind.signed, ofInt_n8, back_u8]
  have : BitVec.ofInt 8 IntKind.u8.max = BitVec.allOnes 8 := by decide
  simp only [Bool.false_eq_true, if_false, this, BitVec.allOnes_xor]; rfl


theorem wrap_u32 (n : Int) : IntKind.u32.wrap n = n32 (BitVec.ofInt 32 n) := by
  simp [n32, IntKind.wrap, IntKind.signed, IntKind.bits, BitVec.toNat_ofInt]; omega
@[go_sem] theorem ofInt_n32 (x : BitVec 32) : BitVec.ofInt 32 (n32 x) = x := ofInt_toNat x
theorem n32_inj {a b : BitVec 32} (h : n32 a = n32 b) : a = b := BitVec.eq_of_toNat_eq (by unfold n32 at h; omega)
theorem U32_inj (a b : BitVec 32) : U32 a = U32 b ↔ a = b := by
  constructor
  · intro h; injection h with _ h; exact n32_inj h
  · rintro rfl; rfl
theorem U32_lit (n : Int) (h0 : 0 ≤ n) (h1 : n < 4294967296) : Value.int .u32 n = U32 (BitVec.ofInt 32 n) := by
  unfold U32 n32; rw [ofInt_lit_toNat n h0 (by simpa using h1)]
theorem back_u32 (r : BitVec 32) : (pure (.int .u32 (IntKind.u32.wrap (r.toNat : Int))) : Sem Value) = pure (U32 r) := by
  rw [wrap_u32, ofInt_toNat]

@[go_sem high] theorem binOp_and_U32 (t : TypeId) (a b : BitVec 32) : binOp .and t (U32 a) (U32 b) = pure (U32 (a &&& b)) := by
  show Op.intBits .and .u32 _ _ = _
  simp only [Op.intBits, IntKind.bits, ofInt_n32, back_u32]; rfl
@[go_sem high] theorem binOp_and_U32l (t : TypeId) (a : BitVec 32) (n : Int) : binOp .and t (U32 a) (.int .u32 n) = pure (U32 (a &&& BitVec.ofInt 32 n)) := by
  show Op.intBits .and .u32 _ _ = _
  simp only [Op.intBits, IntKind.bits, ofInt_n32, back_u32]; rfl

@[go_sem high] theorem binOp_or_U32 (t : TypeId) (a b : BitVec 32) : binOp .or t (U32 a) (U32 b) = pure (U32 (a ||| b)) := by
  show Op.intBits .or .u32 _ _ = _
  simp only [Op.intBits, IntKind.bits, ofInt_n32, back_u32]; rfl
@[go_sem high] theorem binOp_or_U32l (t : TypeId) (a : BitVec 32) (n : Int) : binOp .or t (U32 a) (.int .u32 n) = pure (U32 (a ||| BitVec.ofInt 32 n)) := by
  show Op.intBits .or .u32 _ _ = _
  simp only [Op.intBits, IntKind.bits, ofInt_n32, back_u32]; rfl

@[go_sem high] theorem binOp_xor_U32 (t : TypeId) (a b : BitVec 32) : binOp .xor t (U32 a) (U32 b) = pure (U32 (a ^^^ b)) := by
  show Op.intBits .xor .u32 _ _ = _
  simp only [Op.intBits, IntKind.bits, ofInt_n32, back_u32]; rfl
@[go_sem high] theorem binOp_xor_U32l (t : TypeId) (a : BitVec 32) (n : Int) : binOp .xor t (U32 a) (.int .u32 n) = pure (U32 (a ^^^ BitVec.ofInt 32 n)) := by
  show Op.intBits .xor .u32 _ _ = _
  simp only [Op.intBits, IntKind.bits, ofInt_n32, back_u32]; rfl

@[go_sem high] theorem binOp_andNot_U32 (t : TypeId) (a b : BitVec 32) : binOp .andNot t (U32 a) (U32 b) = pure (U32 (a &&& ~~~b)) := by
  show Op.intBits .andNot .u32 _ _ = _
  simp only [Op.intBits, IntKind.bits, ofInt_n32, back_u32]; rfl
@[go_sem high] theorem binOp_andNot_U32l (t : TypeId) (a : BitVec 32) (n : Int) : binOp .andNot t (U32 a) (.int .u32 n) = pure (U32 (a &&& ~~~BitVec.ofInt 32 n)) := by
  show Op.intBits .andNot .u32 _ _ = _
  simp only [Op.intBits, IntKind.bits, ofInt_n32, back_u32]; rfl

@[go_sem high] theorem binOp_add_U32 (t : TypeId) (a b : BitVec 32) : binOp .add t (U32 a) (U32 b) = pure (U32 (a + b)) := by
  show Op.intArith .add .u32 _ _ = _
  simp only [Op.intArith, wrap_u32, BitVec.ofInt_add, ofInt_n32]
@[go_sem high] theorem binOp_add_U32l (t : TypeId) (a : BitVec 32) (n : Int) : binOp .add t (U32 a) (.int .u32 n) = pure (U32 (a + BitVec.ofInt 32 n)) := by
  show Op.intArith .add .u32 _ _ = _
  simp only [Op.intArith, wrap_u32, BitVec.ofInt_add, ofInt_n32]
@[go_sem high] theorem binOp_add_lU32 (t : TypeId) (a : BitVec 32) (n : Int) : binOp .add t (.int .u32 n) (U32 a) = pure (U32 (BitVec.ofInt 32 n + a)) := by
  show Op.intArith .add .u32 _ _ = _
  simp only [Op.intArith, wrap_u32, BitVec.ofInt_add, ofInt_n32]

@[go_sem high] theorem binOp_sub_U32 (t : TypeId) (a b : BitVec 32) : binOp .sub t (U32 a) (U32 b) = pure (U32 (a - b)) := by
  show Op.intArith .sub .u32 _ _ = _
  simp only [Op.intArith, wrap_u32, Int.sub_eq_add_neg, BitVec.sub_eq_add_neg, BitVec.ofInt_add, BitVec.ofInt_neg, ofInt_n32]
@[go_sem high] theorem binOp_sub_U32l (t : TypeId) (a : BitVec 32) (n : Int) : binOp .sub t (U32 a) (.int .u32 n) = pure (U32 (a - BitVec.ofInt 32 n)) := by
  show Op.intArith .sub .u32 _ _ = _
  simp only [Op.intArith, wrap_u32, Int.sub_eq_add_neg, BitVec.sub_eq_add_neg, BitVec.ofInt_add, BitVec.ofInt_neg, ofInt_n32]
@[go_sem high] theorem binOp_sub_lU32 (t : TypeId) (a : BitVec 32) (n : Int) : binOp .sub t (.int .u32 n) (U32 a) = pure (U32 (BitVec.ofInt 32 n - a)) := by
  show Op.intArith .sub .u32 _ _ = _
  simp only [Op.intArith, wrap_u32, Int.sub_eq_add_neg, BitVec.sub_eq_add_neg, BitVec.ofInt_add, BitVec.ofInt_neg, ofInt_n32]

@[go_sem high] theorem binOp_mul_U32 (t : TypeId) (a b : BitVec 32) : binOp .mul t (U32 a) (U32 b) = pure (U32 (a * b)) := by
  show Op.intArith .mul .u32 _ _ = _
  simp only [Op.intArith, wrap_u32, BitVec.ofInt_mul, ofInt_n32]
@[go_sem high] theorem binOp_mul_U32l (t : TypeId) (a : BitVec 32) (n : Int) : binOp .mul t (U32 a) (.int .u32 n) = pure (U32 (a * BitVec.ofInt 32 n)) := by
  show Op.intArith .mul .u32 _ _ = _
  simp only [Op.intArith, wrap_u32, BitVec.ofInt_mul, ofInt_n32]
@[go_sem high] theorem binOp_mul_lU32 (t : TypeId) (a : BitVec 32) (n : Int) : binOp .mul t (.int .u32 n) (U32 a) = pure (U32 (BitVec.ofInt 32 n * a)) := by
  show Op.intArith .mul .u32 _ _ = _
  simp only [Op.intArith, wrap_u32, BitVec.ofInt_mul, ofInt_n32]

theorem tdiv_u32 (a b : BitVec 32) : (n32 a).tdiv (n32 b) = n32 (a / b) := by
  unfold n32
  rw [BitVec.toNat_udiv]
  rw [Int.tdiv_eq_ediv_of_nonneg (by omega)]
  push_cast; rfl
@[go_sem high] theorem binOp_quo_U32 (t : TypeId) (a b : BitVec 32) (hb : b ≠ 0#32) : binOp .quo t (U32 a) (U32 b) = pure (U32 (a / b)) := by
  have h : n32 b ≠ 0 := fun h => hb (BitVec.eq_of_toNat_eq (by unfold n32 at h; simpa using h))
  show Op.intDiv .quo .u32 _ _ = _
  simp only [Op.intDiv, if_neg h, tdiv_u32, wrap_u32, ofInt_n32]
@[go_sem high] theorem binOp_quo_U32l (t : TypeId) (a : BitVec 32) (n : Int) (h0 : 0 < n) (h1 : n < 4294967296) : binOp .quo t (U32 a) (.int .u32 n) = pure (U32 (a / BitVec.ofInt 32 n)) := by
  have e := U32_lit n (by omega) h1
  rw [e]
  refine binOp_quo_U32 t a _ (fun h => ?_)
  have e2 := ofInt_lit_toNat (w := 32) n (by omega) (by simpa using h1)
  rw [h] at e2; simp at e2; omega

theorem tmod_u32 (a b : BitVec 32) : (n32 a).tmod (n32 b) = n32 (a % b) := by
  unfold n32
  rw [BitVec.toNat_umod]
  rw [Int.tmod_eq_emod_of_nonneg (by omega)]
  push_cast; rfl
@[go_sem high] theorem binOp_rem_U32 (t : TypeId) (a b : BitVec 32) (hb : b ≠ 0#32) : binOp .rem t (U32 a) (U32 b) = pure (U32 (a % b)) := by
  have h : n32 b ≠ 0 := fun h => hb (BitVec.eq_of_toNat_eq (by unfold n32 at h; simpa using h))
  show Op.intDiv .rem .u32 _ _ = _
  simp only [Op.intDiv, if_neg h, tmod_u32]
@[go_sem high] theorem binOp_rem_U32l (t : TypeId) (a : BitVec 32) (n : Int) (h0 : 0 < n) (h1 : n < 4294967296) : binOp .rem t (U32 a) (.int .u32 n) = pure (U32 (a % BitVec.ofInt 32 n)) := by
  have e := U32_lit n (by omega) h1
  rw [e]
  refine binOp_rem_U32 t a _ (fun h => ?_)
  have e2 := ofInt_lit_toNat (w := 32) n (by omega) (by simpa using h1)
  rw [h] at e2; simp at e2; omega

theorem eq_n32 (a b : BitVec 32) : (n32 a == n32 b) = (a == b) := eqnat a b
@[go_sem high] theorem binOp_eql_U32 (t : TypeId) (a b : BitVec 32) : binOp .eql t (U32 a) (U32 b) = pure (.bool (a == b)) := by
  show (pure (.bool (n32 a == n32 b)) : Sem Value) = _
  rw [eq_n32 a b]
@[go_sem high] theorem binOp_neq_U32 (t : TypeId) (a b : BitVec 32) : binOp .neq t (U32 a) (U32 b) = pure (.bool (a != b)) := by
  show (pure (.bool (!(n32 a == n32 b))) : Sem Value) = _
  rw [eq_n32 a b]; rfl
theorem eqlit_u32 (a : BitVec 32) (n : Int) (h0 : 0 ≤ n) (h1 : n < 4294967296) : (n32 a == n) = (a == BitVec.ofInt 32 n) := by
  have e := ofInt_lit_toNat (w := 32) n h0 (by simpa using h1)
  rw [Bool.eq_iff_iff]
  simp only [beq_iff_eq, n32]
  constructor
  · intro h; apply BitVec.eq_of_toNat_eq; omega
  · intro h; rw [h]; exact e
@[go_sem high] theorem binOp_eql_U32l (t : TypeId) (a : BitVec 32) (n : Int) (h0 : 0 ≤ n) (h1 : n < 4294967296) : binOp .eql t (U32 a) (.int .u32 n) = pure (.bool (a == BitVec.ofInt 32 n)) := by
  show (pure (.bool (n32 a == n)) : Sem Value) = _
  rw [eqlit_u32 a n h0 h1]
@[go_sem high] theorem binOp_neq_U32l (t : TypeId) (a : BitVec 32) (n : Int) (h0 : 0 ≤ n) (h1 : n < 4294967296) : binOp .neq t (U32 a) (.int .u32 n) = pure (.bool (a != BitVec.ofInt 32 n)) := by
  show (pure (.bool (!(n32 a == n))) : Sem Value) = _
  rw [eqlit_u32 a n h0 h1]; rfl
@[go_sem high] theorem binOp_shl_U32 (t : TypeId) (a : BitVec 32) (q : IntKind) (n : Int) (h0 : 0 ≤ n) : binOp .shl t (U32 a) (.int q n) = pure (U32 (a <<< n.toNat)) := by
  show Op.shift .shl .u32 _ q n = _
  simp only [Op.shift, if_neg (by omega : ¬ n < 0), wrap_u32, IntKind.bits]
  congr 3
  apply BitVec.eq_of_toNat_eq
  unfold n32
  rw [BitVec.toNat_ofInt, BitVec.toNat_shiftLeft, Nat.shiftLeft_eq]
  have e : ((a.toNat : Int) * 2 ^ min n.toNat 32) = ((a.toNat * 2 ^ min n.toNat 32 : Nat) : Int) := by push_cast; rfl
  rw [e, ← Int.natCast_emod, Int.toNat_natCast]
  by_cases h : n.toNat ≤ 32
  · rw [Nat.min_eq_left h]
  · rw [Nat.min_eq_right (by omega)]
    obtain ⟨m, hm⟩ : ∃ m, n.toNat = 32 + m := ⟨n.toNat - 32, by omega⟩
    rw [hm, Nat.pow_add, ← Nat.mul_assoc, Nat.mul_right_comm]
    simp
@[go_sem high] theorem binOp_shr_U32 (t : TypeId) (a : BitVec 32) (q : IntKind) (n : Int) (h0 : 0 ≤ n) : binOp .shr t (U32 a) (.int q n) = pure (U32 (a >>> n.toNat)) := by
  show Op.shift .shr .u32 _ q n = _
  simp only [Op.shift, if_neg (by omega : ¬ n < 0), IntKind.bits]
  unfold U32 n32
  congr 2
  rw [BitVec.toNat_ushiftRight, Nat.shiftRight_eq_div_pow]
  have e : ((a.toNat : Int).fdiv (2 ^ min n.toNat 32)) = ((a.toNat / 2 ^ min n.toNat 32 : Nat) : Int) := by
    rw [Int.fdiv_eq_ediv_of_nonneg _ (by exact Int.le_of_lt (Int.pow_pos (by decide)))]; push_cast; rfl
  rw [e]
  by_cases h : n.toNat ≤ 32
  · rw [Nat.min_eq_left h]
  · rw [Nat.min_eq_right (by omega), Nat.div_eq_of_lt a.isLt, Nat.div_eq_of_lt]
    exact Nat.lt_of_lt_of_le a.isLt (Nat.pow_le_pow_right (by decide) (by omega))
@[go_sem high] theorem binOp_shl_l32 (t : TypeId) (n : Int) (q : IntKind) (m : Int) (h0 : 0 ≤ n) (h1 : n < 4294967296) (hm : 0 ≤ m) : binOp .shl t (.int .u32 n) (.int q m) = pure (U32 (BitVec.ofInt 32 n <<< m.toNat)) := by
  rw [U32_lit n h0 h1]; exact binOp_shl_U32 t _ q m hm
@[go_sem high] theorem unary_xor_U32 (a : BitVec 32) : Op.unary .xor (U32 a) = pure (U32 (~~~a)) := by
  show Op.intBits .xor .u32 _ _ = _
  simp only [Op.intBits, IntKind.bits, IntKind.signed, ofInt_n32, back_u32]
  have : BitVec.ofInt 32 IntKind.u32.max = BitVec.allOnes 32 := by decide
  simp only [Bool.false_eq_true, if_false, this, BitVec.allOnes_xor]; rfl


theorem wrap_u64 (n : Int) : IntKind.u64.wrap n = n64 (BitVec.ofInt 64 n) := by
  simp [n64, IntKind.wrap, IntKind.signed, IntKind.bits, BitVec.toNat_ofInt]; omega
@[go_sem] theorem ofInt_n64 (x : BitVec 64) : BitVec.ofInt 64 (n64 x) = x := ofInt_toNat x
theorem n64_inj {a b : BitVec 64} (h : n64 a = n64 b) : a = b := BitVec.eq_of_toNat_eq (by unfold n64 at h; omega)
theorem U64_inj (a b : BitVec 64) : U64 a = U64 b ↔ a = b := by
  constructor
  · intro h; injection h with _ h; exact n64_inj h
  · rintro rfl; rfl
theorem U64_lit (n : Int) (h0 : 0 ≤ n) (h1 : n < 18446744073709551616) : Value.int .u64 n = U64 (BitVec.ofInt 64 n) := by
  unfold U64 n64; rw [ofInt_lit_toNat n h0 (by simpa using h1)]
theorem back_u64 (r : BitVec 64) : (pure (.int .u64 (IntKind.u64.wrap (r.toNat : Int))) : Sem Value) = pure (U64 r) := by
  rw [wrap_u64, ofInt_toNat]

@[go_sem high] theorem binOp_and_U64 (t : TypeId) (a b : BitVec 64) : binOp .and t (U64 a) (U64 b) = pure (U64 (a &&& b)) := by
  show Op.intBits .and .u64 _ _ = _
  simp only [Op.intBits, IntKind.bits, ofInt_n64, back_u64]; rfl
@[go_sem high] theorem binOp_and_U64l (t : TypeId) (a : BitVec 64) (n : Int) : binOp .and t (U64 a) (.int .u64 n) = pure (U64 (a &&& BitVec.ofInt 64 n)) := by
  show Op.intBits .and .u64 _ _ = _
  simp only [Op.intBits, IntKind.bits, ofInt_n64, back_u64]; rfl

@[go_sem high] theorem binOp_or_U64 (t : TypeId) (a b : BitVec 64) : binOp .or t (U64 a) (U64 b) = pure (U64 (a ||| b)) := by
  show Op.intBits .or .u64 _ _ = _
  simp only [Op.intBits, IntKind.bits, ofInt_n64, back_u64]; rfl
@[go_sem high] theorem binOp_or_U64l (t : TypeId) (a : BitVec 64) (n : Int) : binOp .or t (U64 a) (.int .u64 n) = pure (U64 (a ||| BitVec.ofInt 64 n)) := by
  show Op.intBits .or .u64 _ _ = _
  simp only [Op.intBits, IntKind.bits, ofInt_n64, back_u64]; rfl

@[go_sem high] theorem binOp_xor_U64 (t : TypeId) (a b : BitVec 64) : binOp .xor t (U64 a) (U64 b) = pure (U64 (a ^^^ b)) := by
  show Op.intBits .xor .u64 _ _ = _
  simp only [Op.intBits, IntKind.bits, ofInt_n64, back_u64]; rfl
@[go_sem high] theorem binOp_xor_U64l (t : TypeId) (a : BitVec 64) (n : Int) : binOp .xor t (U64 a) (.int .u64 n) = pure (U64 (a ^^^ BitVec.ofInt 64 n)) := by
  show Op.intBits .xor .u64 _ _ = _
  simp only [Op.intBits, IntKind.bits, ofInt_n64, back_u64]; rfl

@[go_sem high] theorem binOp_andNot_U64 (t : TypeId) (a b : BitVec 64) : binOp .andNot t (U64 a) (U64 b) = pure (U64 (a &&& ~~~b)) := by
  show Op.intBits .andNot .u64 _ _ = _
  simp only [Op.intBits, IntKind.bits, ofInt_n64, back_u64]; rfl
@[go_sem high] theorem binOp_andNot_U64l (t : TypeId) (a : BitVec 64) (n : Int) : binOp .andNot t (U64 a) (.int .u64 n) = pure (U64 (a &&& ~~~BitVec.ofInt 64 n)) := by
  show Op.intBits .andNot .u64 _ _ = _
  simp only [Op.intBits, IntKind.bits, ofInt_n64, back_u64]; rfl

@[go_sem high] theorem binOp_add_U64 (t : TypeId) (a b : BitVec 64) : binOp .add t (U64 a) (U64 b) = pure (U64 (a + b)) := by
  show Op.intArith .add .u64 _ _ = _
  simp only [Op.intArith, wrap_u64, BitVec.ofInt_add, ofInt_n64]
@[go_sem high] theorem binOp_add_U64l (t : TypeId) (a : BitVec 64) (n : Int) : binOp .add t (U64 a) (.int .u64 n) = pure (U64 (a + BitVec.ofInt 64 n)) := by
  show Op.intArith .add .u64 _ _ = _
  simp only [Op.intArith, wrap_u64, BitVec.ofInt_add, ofInt_n64]
@[go_sem high] theorem binOp_add_lU64 (t : TypeId) (a : BitVec 64) (n : Int) : binOp .add t (.int .u64 n) (U64 a) = pure (U64 (BitVec.ofInt 64 n + a)) := by
  show Op.intArith .add .u64 _ _ = _
  simp only [Op.intArith, wrap_u64, BitVec.ofInt_add, ofInt_n64]

@[go_sem high] theorem binOp_sub_U64 (t : TypeId) (a b : BitVec 64) : binOp .sub t (U64 a) (U64 b) = pure (U64 (a - b)) := by
  show Op.intArith .sub .u64 _ _ = _
  simp only [Op.intArith, wrap_u64, Int.sub_eq_add_neg, BitVec.sub_eq_add_neg, BitVec.ofInt_add, BitVec.ofInt_neg, ofInt_n64]
@[go_sem high] theorem binOp_sub_U64l (t : TypeId) (a : BitVec 64) (n : Int) : binOp .sub t (U64 a) (.int .u64 n) = pure (U64 (a - BitVec.ofInt 64 n)) := by
  show Op.intArith .sub .u64 _ _ = _
  simp only [Op.intArith, wrap_u64, Int.sub_eq_add_neg, BitVec.sub_eq_add_neg, BitVec.ofInt_add, BitVec.ofInt_neg, ofInt_n64]
@[go_sem high] theorem binOp_sub_lU64 (t : TypeId) (a : BitVec 64) (n : Int) : binOp .sub t (.int .u64 n) (U64 a) = pure (U64 (BitVec.ofInt 64 n - a)) := by
  show Op.intArith .sub .u64 _ _ = _
  simp only [Op.intArith, wrap_u64, Int.sub_eq_add_neg, BitVec.sub_eq_add_neg, BitVec.ofInt_add, BitVec.ofInt_neg, ofInt_n64]

@[go_sem high] theorem binOp_mul_U64 (t : TypeId) (a b : BitVec 64) : binOp .mul t (U64 a) (U64 b) = pure (U64 (a * b)) := by
  show Op.intArith .mul .u64 _ _ = _
  simp only [Op.intArith, wrap_u64, BitVec.ofInt_mul, ofInt_n64]
@[go_sem high] theorem binOp_mul_U64l (t : TypeId) (a : BitVec 64) (n : Int) : binOp .mul t (U64 a) (.int .u64 n) = pure (U64 (a * BitVec.ofInt 64 n)) := by
  show Op.intArith .mul .u64 _ _ = _
  simp only [Op.intArith, wrap_u64, BitVec.ofInt_mul, ofInt_n64]
@[go_sem high] theorem binOp_mul_lU64 (t : TypeId) (a : BitVec 64) (n : Int) : binOp .mul t (.int .u64 n) (U64 a) = pure (U64 (BitVec.ofInt 64 n * a)) := by
  show Op.intArith .mul .u64 _ _ = _
  simp only [Op.intArith, wrap_u64, BitVec.ofInt_mul, ofInt_n64]

theorem tdiv_u64 (a b : BitVec 64) : (n64 a).tdiv (n64 b) = n64 (a / b) := by
  unfold n64
  rw [BitVec.toNat_udiv]
  rw [Int.tdiv_eq_ediv_of_nonneg (by omega)]
  push_cast; rfl
@[go_sem high] theorem binOp_quo_U64 (t : TypeId) (a b : BitVec 64) (hb : b ≠ 0#64) : binOp .quo t (U64 a) (U64 b) = pure (U64 (a / b)) := by
  have h : n64 b ≠ 0 := fun h => hb (BitVec.eq_of_toNat_eq (by unfold n64 at h; simpa using h))
  show Op.intDiv .quo .u64 _ _ = _
  simp only [Op.intDiv, if_neg h, tdiv_u64, wrap_u64, ofInt_n64]
@[go_sem high] theorem binOp_quo_U64l (t : TypeId) (a : BitVec 64) (n : Int) (h0 : 0 < n) (h1 : n < 18446744073709551616) : binOp .quo t (U64 a) (.int .u64 n) = pure (U64 (a / BitVec.ofInt 64 n)) := by
  have e := U64_lit n (by omega) h1
  rw [e]
  refine binOp_quo_U64 t a _ (fun h => ?_)
  have e2 := ofInt_lit_toNat (w := 64) n (by omega) (by simpa using h1)
  rw [h] at e2; simp at e2; omega

theorem tmod_u64 (a b : BitVec 64) : (n64 a).tmod (n64 b) = n64 (a % b) := by
  unfold n64
  rw [BitVec.toNat_umod]
  rw [Int.tmod_eq_emod_of_nonneg (by omega)]
  push_cast; rfl
@[go_sem high] theorem binOp_rem_U64 (t : TypeId) (a b : BitVec 64) (hb : b ≠ 0#64) : binOp .rem t (U64 a) (U64 b) = pure (U64 (a % b)) := by
  have h : n64 b ≠ 0 := fun h => hb (BitVec.eq_of_toNat_eq (by unfold n64 at h; simpa using h))
  show Op.intDiv .rem .u64 _ _ = _
  simp only [Op.intDiv, if_neg h, tmod_u64]
@[go_sem high] theorem binOp_rem_U64l (t : TypeId) (a : BitVec 64) (n : Int) (h0 : 0 < n) (h1 : n < 18446744073709551616) : binOp .rem t (U64 a) (.int .u64 n) = pure (U64 (a % BitVec.ofInt 64 n)) := by
  have e := U64_lit n (by omega) h1
  rw [e]
  refine binOp_rem_U64 t a _ (fun h => ?_)
  have e2 := ofInt_lit_toNat (w := 64) n (by omega) (by simpa using h1)
  rw [h] at e2; simp at e2; omega

theorem eq_n64 (a b : BitVec 64) : (n64 a == n64 b) = (a == b) := eqnat a b
@[go_sem high] theorem binOp_eql_U64 (t : TypeId) (a b : BitVec 64) : binOp .eql t (U64 a) (U64 b) = pure (.bool (a == b)) := by
  show (pure (.bool (n64 a == n64 b)) : Sem Value) = _
  rw [eq_n64 a b]
@[go_sem high] theorem binOp_neq_U64 (t : TypeId) (a b : BitVec 64) : binOp .neq t (U64 a) (U64 b) = pure (.bool (a != b)) := by
  show (pure (.bool (!(n64 a == n64 b))) : Sem Value) = _
  rw [eq_n64 a b]; rfl
theorem eqlit_u64 (a : BitVec 64) (n : Int) (h0 : 0 ≤ n) (h1 : n < 18446744073709551616) : (n64 a == n) = (a == BitVec.ofInt 64 n) := by
  have e := ofInt_lit_toNat (w := 64) n h0 (by simpa using h1)
  rw [Bool.eq_iff_iff]
  simp only [beq_iff_eq, n64]
  constructor
  · intro h; apply BitVec.eq_of_toNat_eq; omega
  · intro h; rw [h]; exact e
@[go_sem high] theorem binOp_eql_U64l (t : TypeId) (a : BitVec 64) (n : Int) (h0 : 0 ≤ n) (h1 : n < 18446744073709551616) : binOp .eql t (U64 a) (.int .u64 n) = pure (.bool (a == BitVec.ofInt 64 n)) := by
  show (pure (.bool (n64 a == n)) : Sem Value) = _
  rw [eqlit_u64 a n h0 h1]
@[go_sem high] theorem binOp_neq_U64l (t : TypeId) (a : BitVec 64) (n : Int) (h0 : 0 ≤ n) (h1 : n < 18446744073709551616) : binOp .neq t (U64 a) (.int .u64 n) = pure (.bool (a != BitVec.ofInt 64 n)) := by
  show (pure (.bool (!(n64 a == n))) : Sem Value) = _
  rw [eqlit_u64 a n h0 h1]; rfl
@[go_sem high] theorem binOp_shl_U64 (t : TypeId) (a : BitVec 64) (q : IntKind) (n : Int) (h0 : 0 ≤ n) : binOp .shl t (U64 a) (.int q n) = pure (U64 (a <<< n.toNat)) := by
  show Op.shift .shl .u64 _ q n = _
  simp only [Op.shift, if_neg (by omega : ¬ n < 0), wrap_u64, IntKind.bits]
  congr 3
  apply BitVec.eq_of_toNat_eq
  unfold n64
  rw [BitVec.toNat_ofInt, BitVec.toNat_shiftLeft, Nat.shiftLeft_eq]
  have e : ((a.toNat : Int) * 2 ^ min n.toNat 64) = ((a.toNat * 2 ^ min n.toNat 64 : Nat) : Int) := by push_cast; rfl
  rw [e, ← Int.natCast_emod, Int.toNat_natCast]
  by_cases h : n.toNat ≤ 64
  · rw [Nat.min_eq_left h]
  · rw [Nat.min_eq_right (by omega)]
    obtain ⟨m, hm⟩ : ∃ m, n.toNat = 64 + m := ⟨n.toNat - 64, by omega⟩
    rw [hm, Nat.pow_add, ← Nat.mul_assoc, Nat.mul_right_comm]
    simp
@[go_sem high] theorem binOp_shr_U64 (t : TypeId) (a : BitVec 64) (q : IntKind) (n : Int) (h0 : 0 ≤ n) : binOp .shr t (U64 a) (.int q n) = pure (U64 (a >>> n.toNat)) := by
  show Op.shift .shr .u64 _ q n = _
  simp only [Op.shift, if_neg (by omega : ¬ n < 0), IntKind.bits]
  unfold U64 n64
  congr 2
  rw [BitVec.toNat_ushiftRight, Nat.shiftRight_eq_div_pow]
  have e : ((a.toNat : Int).fdiv (2 ^ min n.toNat 64)) = ((a.toNat / 2 ^ min n.toNat 64 : Nat) : Int) := by
    rw [Int.fdiv_eq_ediv_of_nonneg _ (by exact Int.le_of_lt (Int.pow_pos (by decide)))]; push_cast; rfl
  rw [e]
  by_cases h : n.toNat ≤ 64
  · rw [Nat.min_eq_left h]
  · rw [Nat.min_eq_right (by omega), Nat.div_eq_of_lt a.isLt, Nat.div_eq_of_lt]
    exact Nat.lt_of_lt_of_le a.isLt (Nat.pow_le_pow_right (by decide) (by omega))
@[go_sem high] theorem binOp_shl_l64 (t : TypeId) (n : Int) (q : IntKind) (m : Int) (h0 : 0 ≤ n) (h1 : n < 18446744073709551616) (hm : 0 ≤ m) : binOp .shl t (.int .u64 n) (.int q m) = pure (U64 (BitVec.ofInt 64 n <<< m.toNat)) := by
  rw [U64_lit n h0 h1]; exact binOp_shl_U64 t _ q m hm
@[go_sem high] theorem unary_xor_U64 (a : BitVec 64) : Op.unary .xor (U64 a) = pure (U64 (~~~a)) := by
  show Op.intBits .xor .u64 _ _ = _
  simp only [Op.intBits, IntKind.bits, IntKind.signed, ofInt_n64, back_u64]
  have : BitVec.ofInt 64 IntKind.u64.max = BitVec.allOnes 64 := by decide
  simp only [Bool.false_eq_true, if_false, this, BitVec.allOnes_xor]; rfl

@[go_sem high] theorem conv_U8_U32 {P : Program} {s d : TypeId} (hs : (P.underlying s).isSome = true) (hd : P.underlying d = some (.int .u32)) (a : BitVec 8) (w : World) :
    (convert s d (U8 a)).run P w = .ok (U32 (a.setWidth 32)) w := by
  refine (conv_ii hs hd _ _ w).trans ?_
  rw [wrap_u32, n8, ofInt_natCast_set]

@[go_sem high] theorem conv_U8_U64 {P : Program} {s d : TypeId} (hs : (P.underlying s).isSome = true) (hd : P.underlying d = some (.int .u64)) (a : BitVec 8) (w : World) :
    (convert s d (U8 a)).run P w = .ok (U64 (a.setWidth 64)) w := by
  refine (conv_ii hs hd _ _ w).trans ?_
  rw [wrap_u64, n8, ofInt_natCast_set]

@[go_sem high] theorem conv_U8_i64 {P : Program} {s d : TypeId} (hs : (P.underlying s).isSome = true) (hd : P.underlying d = some (.int .i64)) (a : BitVec 8) (w : World) :
    (convert s d (U8 a)).run P w = .ok (.int .i64 (n8 a)) w := by
  refine (conv_ii hs hd _ _ w).trans ?_
  have h1 := n8_nonneg a
  have h2 := n8_lt a
  rw [IntWalk.i64_in _ (by omega)]
@[go_sem high] theorem conv_i64_U8 {P : Program} {s d : TypeId} (hs : (P.underlying s).isSome = true) (hd : P.underlying d = some (.int .u8)) (n : Int) (w : World) :
    (convert s d (.int .i64 n)).run P w = .ok (U8 (BitVec.ofInt 8 n)) w := by
  refine (conv_ii hs hd _ _ w).trans ?_
  rw [wrap_u8]

@[go_sem high] theorem conv_U32_U8 {P : Program} {s d : TypeId} (hs : (P.underlying s).isSome = true) (hd : P.underlying d = some (.int .u8)) (a : BitVec 32) (w : World) :
    (convert s d (U32 a)).run P w = .ok (U8 (a.setWidth 8)) w := by
  refine (conv_ii hs hd _ _ w).trans ?_
  rw [wrap_u8, n32, ofInt_natCast_set]

@[go_sem high] theorem conv_U32_U64 {P : Program} {s d : TypeId} (hs : (P.underlying s).isSome = true) (hd : P.underlying d = some (.int .u64)) (a : BitVec 32) (w : World) :
    (convert s d (U32 a)).run P w = .ok (U64 (a.setWidth 64)) w := by
  refine (conv_ii hs hd _ _ w).trans ?_
  rw [wrap_u64, n32, ofInt_natCast_set]

@[go_sem high] theorem conv_U32_i64 {P : Program} {s d : TypeId} (hs : (P.underlying s).isSome = true) (hd : P.underlying d = some (.int .i64)) (a : BitVec 32) (w : World) :
    (convert s d (U32 a)).run P w = .ok (.int .i64 (n32 a)) w := by
  refine (conv_ii hs hd _ _ w).trans ?_
  have h1 := n32_nonneg a
  have h2 := n32_lt a
  rw [IntWalk.i64_in _ (by omega)]
@[go_sem high] theorem conv_i64_U32 {P : Program} {s d : TypeId} (hs : (P.underlying s).isSome = true) (hd : P.underlying d = some (.int .u32)) (n : Int) (w : World) :
    (convert s d (.int .i64 n)).run P w = .ok (U32 (BitVec.ofInt 32 n)) w := by
  refine (conv_ii hs hd _ _ w).trans ?_
  rw [wrap_u32]

@[go_sem high] theorem conv_U64_U8 {P : Program} {s d : TypeId} (hs : (P.underlying s).isSome = true) (hd : P.underlying d = some (.int .u8)) (a : BitVec 64) (w : World) :
    (convert s d (U64 a)).run P w = .ok (U8 (a.setWidth 8)) w := by
  refine (conv_ii hs hd _ _ w).trans ?_
  rw [wrap_u8, n64, ofInt_natCast_set]

@[go_sem high] theorem conv_U64_U32 {P : Program} {s d : TypeId} (hs : (P.underlying s).isSome = true) (hd : P.underlying d = some (.int .u32)) (a : BitVec 64) (w : World) :
    (convert s d (U64 a)).run P w = .ok (U32 (a.setWidth 32)) w := by
  refine (conv_ii hs hd _ _ w).trans ?_
  rw [wrap_u32, n64, ofInt_natCast_set]

@[go_sem high] theorem conv_U64_i64 {P : Program} {s d : TypeId} (hs : (P.underlying s).isSome = true) (hd : P.underlying d = some (.int .i64)) (a : BitVec 64) (w : World) :
    (convert s d (U64 a)).run P w = .ok (.int .i64 (wrap64 (n64 a))) w := by
  refine (conv_ii hs hd _ _ w).trans ?_
  have h1 := n64_nonneg a
  have h2 := n64_lt a
  rw [IntWalk.i64_left]
@[go_sem high] theorem conv_i64_U64 {P : Program} {s d : TypeId} (hs : (P.underlying s).isSome = true) (hd : P.underlying d = some (.int .u64)) (n : Int) (w : World) :
    (convert s d (.int .i64 n)).run P w = .ok (U64 (BitVec.ofInt 64 n)) w := by
  refine (conv_ii hs hd _ _ w).trans ?_
  rw [wrap_u64]

end Go.Proofs.YtdpgebifeaakjaaDoor
