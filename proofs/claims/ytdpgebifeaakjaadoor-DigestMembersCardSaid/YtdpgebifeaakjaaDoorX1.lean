/- Texts put together for one claim: part 1. -/
import Derived.Test.YtdpgebifeaakjaaDoorProg
import Derived.WalkKit
import Derived.WalkSpells
import Derived.WalkLawsBesides
import Derived.ChangeKeysEq
import Derived.Deep.RegionHeld3
import Derived.BigQuiet
import Derived.Deep.QuietTactic
import Derived.Deep.MidRow
import Derived.StillTailTactics
import Derived.Laws.AppendOwn
import Derived.Lib.ConvBytes
import Derived.Shelf.Spec.TrailingZeros
import Derived.Laws.FloatArith
import Derived.Laws.CopyOwn
import Derived.BigRegion
import Derived.Deep.Cut
import Derived.ArgAppend
import Derived.Shelf.Strconv.Itoa0
import Derived.RangeFuncNested
import Derived.RangeFuncBound
import Derived.RangeFuncCalls
import Derived.RangeFuncLeaves
import Derived.Shelf.Abstract
import Derived.OwnWalkIn
import Derived.TacticsInMore
import Derived.LoopNIn
import Derived.LoopIn
import Derived.RangeFuncBox
import Derived.Maps.AppendAt
import Derived.Laws.OwnMore
import Derived.Laws.StructEq
import Derived.Deep.RegionHeld
import Derived.Laws.BitsLemmas
import Derived.OwnWalk
import Derived.StillTactics
import Derived.Deep.AppendLies
import Derived.Test.YtdpgebifeaakjaaDoorRows
import Derived.ProofKit
import Derived.LaidMore
import Derived.OpenShut
import Derived.Stop.Joined
import Derived.Carry
import Derived.SevenTiedAt
import Derived.Deep.Slices
import Derived.Laws.AppendOwnNone
import Derived.Defers
import Derived.Recover
/- Machine words, rows, loads and stores. -/

/- Small laws on machine words as bit vectors, for the walks of this seat: what the model's integer operations do with them. -/
namespace Go.Proofs.YtdpgebifeaakjaaDoor
set_option linter.unusedSimpArgs false
set_option linter.unusedVariables false
open Go.RowKit

/-- A machine word of 8, 32, 64 bits. -/
def n8 (x : BitVec 8) : Int := (x.toNat : Int)
def n32 (x : BitVec 32) : Int := (x.toNat : Int)
def n64 (x : BitVec 64) : Int := (x.toNat : Int)
abbrev U8 (x : BitVec 8) : Value := .int .u8 (n8 x)
abbrev U32 (x : BitVec 32) : Value := .int .u32 (n32 x)
abbrev U64 (x : BitVec 64) : Value := .int .u64 (n64 x)
@[go_sem] theorem n8_nonneg (x : BitVec 8) : 0 ≤ n8 x := by unfold n8; omega
@[go_sem] theorem n8_lt (x : BitVec 8) : n8 x < 256 := by have := x.isLt; unfold n8; omega
@[go_sem] theorem n32_nonneg (x : BitVec 32) : 0 ≤ n32 x := by unfold n32; omega
@[go_sem] theorem n32_lt (x : BitVec 32) : n32 x < 4294967296 := by have := x.isLt; unfold n32; omega
@[go_sem] theorem n64_nonneg (x : BitVec 64) : 0 ≤ n64 x := by unfold n64; omega
@[go_sem] theorem n64_lt (x : BitVec 64) : n64 x < 18446744073709551616 := by have := x.isLt; unfold n64; omega

theorem ofInt_toNat {n : Nat} (x : BitVec n) : BitVec.ofInt n (x.toNat : Int) = x := by
  apply BitVec.eq_of_toNat_eq
  rw [BitVec.toNat_ofInt]
  have := x.isLt
  rw [Int.emod_eq_of_lt (by omega) (by exact_mod_cast this)]; rfl
theorem eqnat {n : Nat} (a b : BitVec n) : ((a.toNat : Int) == (b.toNat : Int)) = (a == b) := by
  rw [Bool.eq_iff_iff]; simp only [beq_iff_eq]
  exact ⟨fun h => BitVec.eq_of_toNat_eq (by omega), fun h => by rw [h]⟩
theorem ofInt_natCast_set {n m : Nat} (a : BitVec n) : BitVec.ofInt m (a.toNat : Int) = a.setWidth m := by
  apply BitVec.eq_of_toNat_eq; rw [BitVec.toNat_ofInt, BitVec.toNat_setWidth, ← Int.natCast_emod, Int.toNat_natCast]
theorem conv_ii {P : Program} {s d : TypeId} {k : IntKind} (hs : (P.underlying s).isSome = true) (hd : P.underlying d = some (.int k)) (q : IntKind) (n : Int) (w : World) :
    (convert s d (.int q n)).run P w = .ok (.int k (k.wrap n)) w := by
  obtain ⟨e, he⟩ := Option.isSome_iff_exists.mp hs
  simp [convert, run_underlying he, run_underlying hd, Conv.intToInt]
theorem ofInt_lit_toNat {w : Nat} (n : Int) (h0 : 0 ≤ n) (h1 : n < 2 ^ w) : ((BitVec.ofInt w n).toNat : Int) = n := by
  rw [BitVec.toNat_ofInt, Int.emod_eq_of_lt h0 (by simpa using h1)]; omega


theorem wrap_u8 (n : Int) : IntKind.u8.wrap n = n8 (BitVec.ofInt 8 n) := by
  simp [n8, IntKind.wrap, IntKind.signed, IntKind.bits, BitVec.toNat_ofInt]; omega
@[go_sem] theorem ofInt_n8 (x : BitVec 8) : BitVec.ofInt 8 (n8 x) = x := ofInt_toNat x
theorem U8_lit (n : Int) (h0 : 0 ≤ n) (h1 : n < 256) : Value.int .u8 n = U8 (BitVec.ofInt 8 n) := by
  unfold U8 n8; rw [ofInt_lit_toNat n h0 (by simpa using h1)]
theorem back_u8 (r : BitVec 8) : (pure (.int .u8 (IntKind.u8.wrap (r.toNat : Int))) : Sem Value) = pure (U8 r) := by
  rw [wrap_u8, ofInt_toNat]

@[go_sem high] theorem binOp_and_U8 (t : TypeId) (a b : BitVec 8) : binOp .and t (U8 a) (U8 b) = pure (U8 (a &&& b)) := by
  show Op.intBits .and .u8 _ _ = _
  simp only [Op.intBits, IntKind.bits, ofInt_n8, back_u8]; rfl
@[go_sem high] theorem binOp_and_U8l (t : TypeId) (a : BitVec 8) (n : Int) : binOp .and t (U8 a) (.int .u8 n) = pure (U8 (a &&& BitVec.ofInt 8 n)) := by
  show Op.intBits .and .u8 _ _ = _
  simp only [Op.intBits, IntKind.bits, ofInt_n8, back_u8]; rfl

@[go_sem high] theorem binOp_or_U8 (t : TypeId) (a b : BitVec 8) : binOp .or t (U8 a) (U8 b) = pure (U8 (a ||| b)) := by
  show Op.intBits .or .u8 _ _ = _
  simp only [Op.intBits, IntKind.bits, ofInt_n8, back_u8]; rfl
@[go_sem high] theorem binOp_or_U8l (t : TypeId) (a : BitVec 8) (n : Int) : binOp .or t (U8 a) (.int .u8 n) = pure (U8 (a ||| BitVec.ofInt 8 n)) := by
  show Op.intBits .or .u8 _ _ = _
  simp only [Op.intBits, IntKind.bits, ofInt_n8, back_u8]; rfl

@[go_sem high] theorem binOp_xor_U8 (t : TypeId) (a b : BitVec 8) : binOp .xor t (U8 a) (U8 b) = pure (U8 (a ^^^ b)) := by
  show Op.intBits .xor .u8 _ _ = _
  simp only [Op.intBits, IntKind.bits, ofInt_n8, back_u8]; rfl
@[go_sem high] theorem binOp_xor_U8l (t : TypeId) (a : BitVec 8) (n : Int) : binOp .xor t (U8 a) (.int .u8 n) = pure (U8 (a ^^^ BitVec.ofInt 8 n)) := by
  show Op.intBits .xor .u8 _ _ = _
  simp only [Op.intBits, IntKind.bits, ofInt_n8, back_u8]; rfl

@[go_sem high] theorem binOp_andNot_U8 (t : TypeId) (a b : BitVec 8) : binOp .andNot t (U8 a) (U8 b) = pure (U8 (a &&& ~~~b)) := by
  show Op.intBits .andNot .u8 _ _ = _
  simp only [Op.intBits, IntKind.bits, ofInt_n8, back_u8]; rfl
@[go_sem high] theorem binOp_andNot_U8l (t : TypeId) (a : BitVec 8) (n : Int) : binOp .andNot t (U8 a) (.int .u8 n) = pure (U8 (a &&& ~~~BitVec.ofInt 8 n)) := by
  show Op.intBits .andNot .u8 _ _ = _
  simp only [Op.intBits, IntKind.bits, ofInt_n8, back_u8]; rfl

@[go_sem high] theorem binOp_add_U8 (t : TypeId) (a b : BitVec 8) : binOp .add t (U8 a) (U8 b) = pure (U8 (a + b)) := by
  show Op.intArith .add .u8 _ _ = _
  simp only [Op.intArith, wrap_u8, BitVec.ofInt_add, ofInt_n8]
@[go_sem high] theorem binOp_add_U8l (t : TypeId) (a : BitVec 8) (n : Int) : binOp .add t (U8 a) (.int .u8 n) = pure (U8 (a + BitVec.ofInt 8 n)) := by
  show Op.intArith .add .u8 _ _ = _
  simp only [Op.intArith, wrap_u8, BitVec.ofInt_add, ofInt_n8]
@[go_sem high] theorem binOp_add_lU8 (t : TypeId) (a : BitVec 8) (n : Int) : binOp .add t (.int .u8 n) (U8 a) = pure (U8 (BitVec.ofInt 8 n + a)) := by
  show Op.intArith .add .u8 _ _ = _
  simp only [Op.intArith, wrap_u8, BitVec.ofInt_add, ofInt_n8]

@[go_sem high] theorem binOp_sub_U8 (t : TypeId) (a b : BitVec 8) : binOp .sub t (U8 a) (U8 b) = pure (U8 (a - b)) := by
  show Op.intArith .sub .u8 _ _ = _
  simp only [Op.intArith, wrap_u8, Int.sub_eq_add_neg, BitVec.sub_eq_add_neg, BitVec.ofInt_add, BitVec.ofInt_neg, ofInt_n8]
@[go_sem high] theorem binOp_sub_U8l (t : TypeId) (a : BitVec 8) (n : Int) : binOp .sub t (U8 a) (.int .u8 n) = pure (U8 (a - BitVec.ofInt 8 n)) := by
  show Op.intArith .sub .u8 _ _ = _
  simp only [Op.intArith, wrap_u8, Int.sub_eq_add_neg, BitVec.sub_eq_add_neg, BitVec.ofInt_add, BitVec.ofInt_neg, ofInt_n8]
@[go_sem high] theorem binOp_sub_lU8 (t : TypeId) (a : BitVec 8) (n : Int) : binOp .sub t (.int .u8 n) (U8 a) = pure (U8 (BitVec.ofInt 8 n - a)) := by
  show Op.intArith .sub .u8 _ _ = _
  simp only [Op.intArith, wrap_u8, Int.sub_eq_add_neg, BitVec.sub_eq_add_neg, BitVec.ofInt_add, BitVec.ofInt_neg, ofInt_n8]

@[go_sem high] theorem binOp_mul_U8 (t : TypeId) (a b : BitVec 8) : binOp .mul t (U8 a) (U8 b) = pure (U8 (a * b)) := by
  show Op.intArith .mul .u8 _ _ = _
  simp only [Op.intArith, wrap_u8, BitVec.ofInt_mul, ofInt_n8]
@[go_sem high] theorem binOp_mul_U8l (t : TypeId) (a : BitVec 8) (n : Int) : binOp .mul t (U8 a) (.int .u8 n) = pure (U8 (a * BitVec.ofInt 8 n)) := by
  show Op.intArith .mul .u8 _ _ = _
  simp only [Op.intArith, wrap_u8, BitVec.ofInt_mul, ofInt_n8]
@[go_sem high] theorem binOp_mul_lU8 (t : TypeId) (a : BitVec 8) (n : Int) : binOp .mul t (.int .u8 n) (U8 a) = pure (U8 (BitVec.ofInt 8 n * a)) := by
  show Op.intArith .mul .u8 _ _ = _
  simp only [Op.intArith, wrap_u8, BitVec.ofInt_mul, ofInt_n8]

theorem tdiv_u8 (a b : BitVec 8) : (n8 a).tdiv (n8 b) = n8 (a / b) := by
  unfold n8
  rw [BitVec.toNat_udiv]
  rw [Int.tdiv_eq_ediv_of_nonneg (by omega)]
  push_cast; rfl
@[go_sem high] theorem binOp_quo_U8 (t : TypeId) (a b : BitVec 8) (hb : b ≠ 0#8) : binOp .quo t (U8 a) (U8 b) = pure (U8 (a / b)) := by
  have h : n8 b ≠ 0 := fun h => hb (BitVec.eq_of_toNat_eq (by unfold n8 at h; simpa using h))
  show Op.intDiv .quo .u8 _ _ = _
  simp only [Op.intDiv, if_neg h, tdiv_u8, wrap_u8, ofInt_n8]
@[go_sem high] theorem binOp_quo_U8l (t : TypeId) (a : BitVec 8) (n : Int) (h0 : 0 < n) (h1 : n < 256) : binOp .quo t (U8 a) (.int .u8 n) = pure (U8 (a / BitVec.ofInt 8 n)) := by
  have e := U8_lit n (by omega) h1
  rw [e]
  refine binOp_quo_U8 t a _ (fun h => ?_)
  have e2 := ofInt_lit_toNat (w := 8) n (by omega) (by simpa using h1)
  rw [h] at e2; simp at e2; omega

theorem tmod_u8 (a b : BitVec 8) : (n8 a).tmod (n8 b) = n8 (a % b) := by
  unfold n8
  rw [BitVec.toNat_umod]
  rw [Int.tmod_eq_emod_of_nonneg (by omega)]
  push_cast; rfl
@[go_sem high] theorem binOp_rem_U8 (t : TypeId) (a b : BitVec 8) (hb : b ≠ 0#8) : binOp .rem t (U8 a) (U8 b) = pure (U8 (a % b)) := by
  have h : n8 b ≠ 0 := fun h => hb (BitVec.eq_of_toNat_eq (by unfold n8 at h; simpa using h))
  show Op.intDiv .rem .u8 _ _ = _
  simp only [Op.intDiv, if_neg h, tmod_u8]
@[go_sem high] theorem binOp_rem_U8l (t : TypeId) (a : BitVec 8) (n : Int) (h0 : 0 < n) (h1 : n < 256) : binOp .rem t (U8 a) (.int .u8 n) = pure (U8 (a % BitVec.ofInt 8 n)) := by
  have e := U8_lit n (by omega) h1
  rw [e]
  refine binOp_rem_U8 t a _ (fun h => ?_)
  have e2 := ofInt_lit_toNat (w := 8) n (by omega) (by simpa using h1)
  rw [h] at e2; simp at e2; omega

theorem eq_n8 (a b : BitVec 8) : (n8 a == n8 b) = (a == b) := eqnat a b
@[go_sem high] theorem binOp_eql_U8 (t : TypeId) (a b : BitVec 8) : binOp .eql t (U8 a) (U8 b) = pure (.bool (a == b)) := by
  show (pure (.bool (n8 a == n8 b)) : Sem Value) = _
  rw [eq_n8 a b]
@[go_sem high] theorem binOp_neq_U8 (t : TypeId) (a b : BitVec 8) : binOp .neq t (U8 a) (U8 b) = pure (.bool (a != b)) := by
  show (pure (.bool (!(n8 a == n8 b))) : Sem Value) = _
  rw [eq_n8 a b]; rfl
theorem eqlit_u8 (a : BitVec 8) (n : Int) (h0 : 0 ≤ n) (h1 : n < 256) : (n8 a == n) = (a == BitVec.ofInt 8 n) := by
  have e := ofInt_lit_toNat (w := 8) n h0 (by simpa using h1)
  rw [Bool.eq_iff_iff]
  simp only [beq_iff_eq, n8]
  constructor
  · intro h; apply BitVec.eq_of_toNat_eq; omega
  · intro h; rw [h]; exact e
@[go_sem high] theorem binOp_eql_U8l (t : TypeId) (a : BitVec 8) (n : Int) (h0 : 0 ≤ n) (h1 : n < 256) : binOp .eql t (U8 a) (.int .u8 n) = pure (.bool (a == BitVec.ofInt 8 n)) := by
  show (pure (.bool (n8 a == n)) : Sem Value) = _
  rw [eqlit_u8 a n h0 h1]
@[go_sem high] theorem binOp_neq_U8l (t : TypeId) (a : BitVec 8) (n : Int) (h0 : 0 ≤ n) (h1 : n < 256) : binOp .neq t (U8 a) (.int .u8 n) = pure (.bool (a != BitVec.ofInt 8 n)) := by
  show (pure (.bool (!(n8 a == n))) : Sem Value) = _
  rw [eqlit_u8 a n h0 h1]; rfl
@[go_sem high] theorem binOp_shl_U8 (t : TypeId) (a : BitVec 8) (q : IntKind) (n : Int) (h0 : 0 ≤ n) : binOp .shl t (U8 a) (.int q n) = pure (U8 (a <<< n.toNat)) := by
  show Op.shift .shl .u8 _ q n = _
  simp only [Op.shift, if_neg (by omega : ¬ n < 0), wrap_u8, IntKind.bits]
  congr 3
  apply BitVec.eq_of_toNat_eq
  unfold n8
  rw [BitVec.toNat_ofInt, BitVec.toNat_shiftLeft, Nat.shiftLeft_eq]
  have e : ((a.toNat : Int) * 2 ^ min n.toNat 8) = ((a.toNat * 2 ^ min n.toNat 8 : Nat) : Int) := by push_cast; rfl
  rw [e, ← Int.natCast_emod, Int.toNat_natCast]
  by_cases h : n.toNat ≤ 8
  · rw [Nat.min_eq_left h]
  · rw [Nat.min_eq_right (by omega)]
    obtain ⟨m, hm⟩ : ∃ m, n.toNat = 8 + m := ⟨n.toNat - 8, by omega⟩
    rw [hm, Nat.pow_add, ← Nat.mul_assoc, Nat.mul_right_comm]
    simp
@[go_sem high] theorem binOp_shr_U8 (t : TypeId) (a : BitVec 8) (q : IntKind) (n : Int) (h0 : 0 ≤ n) : binOp .shr t (U8 a) (.int q n) = pure (U8 (a >>> n.toNat)) := by
  show Op.shift .shr .u8 _ q n = _
  simp only [Op.shift, if_neg (by omega : ¬ n < 0), IntKind.bits]
  unfold U8 n8
  congr 2
  rw [BitVec.toNat_ushiftRight, Nat.shiftRight_eq_div_pow]
  have e : ((a.toNat : Int).fdiv (2 ^ min n.toNat 8)) = ((a.toNat / 2 ^ min n.toNat 8 : Nat) : Int) := by
    rw [Int.fdiv_eq_ediv_of_nonneg _ (by exact Int.le_of_lt (Int.pow_pos (by decide)))]; push_cast; rfl
  rw [e]
  by_cases h : n.toNat ≤ 8
  · rw [Nat.min_eq_left h]
  · rw [Nat.min_eq_right (by omega), Nat.div_eq_of_lt a.isLt, Nat.div_eq_of_lt]
    exact Nat.lt_of_lt_of_le a.isLt (Nat.pow_le_pow_right (by decide) (by omega))
@[go_sem high] theorem binOp_shl_l8 (t : TypeId) (n : Int) (q : IntKind) (m : Int) (h0 : 0 ≤ n) (h1 : n < 256) (hm : 0 ≤ m) : binOp .shl t (.int .u8 n) (.int q m) = pure (U8 (BitVec.ofInt 8 n <<< m.toNat)) := by
  rw [U8_lit n h0 h1]; exact binOp_shl_U8 t _ q m hm
@[go_sem high] theorem unary_xor_U8 (a : BitVec 8) : Op.unary .xor (U8 a) = pure (U8 (~~~a)) := by
  show Op.intBits .xor .u8 _ _ = _
  simp only [Op.intBits, IntKind.bits, IntKind.signed, ofInt_n8, back_u8]
  have : BitVec.ofInt 8 IntKind.u8.max = BitVec.allOnes 8 := by decide
  simp only [Bool.false_eq_true, if_false, this, BitVec.allOnes_xor]; rfl


theorem wrap_u32 (n : Int) : IntKind.u32.wrap n = n32 (BitVec.ofInt 32 n) := by
  simp [n32, IntKind.wrap, IntKind.signed, IntKind.bits, BitVec.toNat_ofInt]; omega
@[go_sem] theorem ofInt_n32 (x : BitVec 32) : BitVec.ofInt 32 (n32 x) = x := ofInt_toNat x
theorem U32_lit (n : Int) (h0 : 0 ≤ n) (h1 : n < 4294967296) : Value.int .u32 n = U32 (BitVec.ofInt 32 n) := by
  unfold U32 n32; rw [ofInt_lit_toNat n h0 (by simpa using h1)]
theorem back_u32 (r : BitVec 32) : (pure (.int .u32 (IntKind.u32.wrap (r.toNat : Int))) : Sem Value) = pure (U32 r) := by
  rw [wrap_u32, ofInt_toNat]

@[go_sem high] theorem binOp_and_U32 (t : TypeId) (a b : BitVec 32) : binOp .and t (U32 a) (U32 b) = pure (U32 (a &&& b)) := by
  show Op.intBits .and .u32 _ _ = _
  simp only [Op.intBits, IntKind.bits, ofInt_n32, back_u32]; rfl
@[go_sem high] theorem binOp_and_U32l (t : TypeId) (a : BitVec 32) (n : Int) : binOp .and t (U32 a) (.int .u32 n) = pure (U32 (a &&& BitVec.ofInt 32 n)) := by
  show Op.intBits .and .u32 _ _ = _
  simp only [Op.intBits, IntKind.bits, ofInt_n32, back_u32]; rfl

@[go_sem high] theorem binOp_or_U32 (t : TypeId) (a b : BitVec 32) : binOp .or t (U32 a) (U32 b) = pure (U32 (a ||| b)) := by
  show Op.intBits .or .u32 _ _ = _
  simp only [Op.intBits, IntKind.bits, ofInt_n32, back_u32]; rfl
@[go_sem high] theorem binOp_or_U32l (t : TypeId) (a : BitVec 32) (n : Int) : binOp .or t (U32 a) (.int .u32 n) = pure (U32 (a ||| BitVec.ofInt 32 n)) := by
  show Op.intBits .or .u32 _ _ = _
  simp only [Op.intBits, IntKind.bits, ofInt_n32, back_u32]; rfl

@[go_sem high] theorem binOp_xor_U32 (t : TypeId) (a b : BitVec 32) : binOp .xor t (U32 a) (U32 b) = pure (U32 (a ^^^ b)) := by
  show Op.intBits .xor .u32 _ _ = _
  simp only [Op.intBits, IntKind.bits, ofInt_n32, back_u32]; rfl
@[go_sem high] theorem binOp_xor_U32l (t : TypeId) (a : BitVec 32) (n : Int) : binOp .xor t (U32 a) (.int .u32 n) = pure (U32 (a ^^^ BitVec.ofInt 32 n)) := by
  show Op.intBits .xor .u32 _ _ = _
  simp only [Op.intBits, IntKind.bits, ofInt_n32, back_u32]; rfl

@[go_sem high] theorem binOp_andNot_U32 (t : TypeId) (a b : BitVec 32) : binOp .andNot t (U32 a) (U32 b) = pure (U32 (a &&& ~~~b)) := by
  show Op.intBits .andNot .u32 _ _ = _
  simp only [Op.intBits, IntKind.bits, ofInt_n32, back_u32]; rfl
@[go_sem high] theorem binOp_andNot_U32l (t : TypeId) (a : BitVec 32) (n : Int) : binOp .andNot t (U32 a) (.int .u32 n) = pure (U32 (a &&& ~~~BitVec.ofInt 32 n)) := by
  show Op.intBits .andNot .u32 _ _ = _
  simp only [Op.intBits, IntKind.bits, ofInt_n32, back_u32]; rfl

@[go_sem high] theorem binOp_add_U32 (t : TypeId) (a b : BitVec 32) : binOp .add t (U32 a) (U32 b) = pure (U32 (a + b)) := by
  show Op.intArith .add .u32 _ _ = _
  simp only [Op.intArith, wrap_u32, BitVec.ofInt_add, ofInt_n32]
@[go_sem high] theorem binOp_add_U32l (t : TypeId) (a : BitVec 32) (n : Int) : binOp .add t (U32 a) (.int .u32 n) = pure (U32 (a + BitVec.ofInt 32 n)) := by
  show Op.intArith .add .u32 _ _ = _
  simp only [Op.intArith, wrap_u32, BitVec.ofInt_add, ofInt_n32]
@[go_sem high] theorem binOp_add_lU32 (t : TypeId) (a : BitVec 32) (n : Int) : binOp .add t (.int .u32 n) (U32 a) = pure (U32 (BitVec.ofInt 32 n + a)) := by
  show Op.intArith .add .u32 _ _ = _
  simp only [Op.intArith, wrap_u32, BitVec.ofInt_add, ofInt_n32]

@[go_sem high] theorem binOp_sub_U32 (t : TypeId) (a b : BitVec 32) : binOp .sub t (U32 a) (U32 b) = pure (U32 (a - b)) := by
  show Op.intArith .sub .u32 _ _ = _
  simp only [Op.intArith, wrap_u32, Int.sub_eq_add_neg, BitVec.sub_eq_add_neg, BitVec.ofInt_add, BitVec.ofInt_neg, ofInt_n32]
@[go_sem high] theorem binOp_sub_U32l (t : TypeId) (a : BitVec 32) (n : Int) : binOp .sub t (U32 a) (.int .u32 n) = pure (U32 (a - BitVec.ofInt 32 n)) := by
  show Op.intArith .sub .u32 _ _ = _
  simp only [Op.intArith, wrap_u32, Int.sub_eq_add_neg, BitVec.sub_eq_add_neg, BitVec.ofInt_add, BitVec.ofInt_neg, ofInt_n32]
@[go_sem high] theorem binOp_sub_lU32 (t : TypeId) (a : BitVec 32) (n : Int) : binOp .sub t (.int .u32 n) (U32 a) = pure (U32 (BitVec.ofInt 32 n - a)) := by
  show Op.intArith .sub .u32 _ _ = _
  simp only [Op.intArith, wrap_u32, Int.sub_eq_add_neg, BitVec.sub_eq_add_neg, BitVec.ofInt_add, BitVec.ofInt_neg, ofInt_n32]

@[go_sem high] theorem binOp_mul_U32 (t : TypeId) (a b : BitVec 32) : binOp .mul t (U32 a) (U32 b) = pure (U32 (a * b)) := by
  show Op.intArith .mul .u32 _ _ = _
  simp only [Op.intArith, wrap_u32, BitVec.ofInt_mul, ofInt_n32]
@[go_sem high] theorem binOp_mul_U32l (t : TypeId) (a : BitVec 32) (n : Int) : binOp .mul t (U32 a) (.int .u32 n) = pure (U32 (a * BitVec.ofInt 32 n)) := by
  show Op.intArith .mul .u32 _ _ = _
  simp only [Op.intArith, wrap_u32, BitVec.ofInt_mul, ofInt_n32]
@[go_sem high] theorem binOp_mul_lU32 (t : TypeId) (a : BitVec 32) (n : Int) : binOp .mul t (.int .u32 n) (U32 a) = pure (U32 (BitVec.ofInt 32 n * a)) := by
  show Op.intArith .mul .u32 _ _ = _
  simp only [Op.intArith, wrap_u32, BitVec.ofInt_mul, ofInt_n32]

theorem tdiv_u32 (a b : BitVec 32) : (n32 a).tdiv (n32 b) = n32 (a / b) := by
  unfold n32
  rw [BitVec.toNat_udiv]
  rw [Int.tdiv_eq_ediv_of_nonneg (by omega)]
  push_cast; rfl
@[go_sem high] theorem binOp_quo_U32 (t : TypeId) (a b : BitVec 32) (hb : b ≠ 0#32) : binOp .quo t (U32 a) (U32 b) = pure (U32 (a / b)) := by
  have h : n32 b ≠ 0 := fun h => hb (BitVec.eq_of_toNat_eq (by unfold n32 at h; simpa using h))
  show Op.intDiv .quo .u32 _ _ = _
  simp only [Op.intDiv, if_neg h, tdiv_u32, wrap_u32, ofInt_n32]
@[go_sem high] theorem binOp_quo_U32l (t : TypeId) (a : BitVec 32) (n : Int) (h0 : 0 < n) (h1 : n < 4294967296) : binOp .quo t (U32 a) (.int .u32 n) = pure (U32 (a / BitVec.ofInt 32 n)) := by
  have e := U32_lit n (by omega) h1
  rw [e]
  refine binOp_quo_U32 t a _ (fun h => ?_)
  have e2 := ofInt_lit_toNat (w := 32) n (by omega) (by simpa using h1)
  rw [h] at e2; simp at e2; omega

theorem tmod_u32 (a b : BitVec 32) : (n32 a).tmod (n32 b) = n32 (a % b) := by
  unfold n32
  rw [BitVec.toNat_umod]
  rw [Int.tmod_eq_emod_of_nonneg (by omega)]
  push_cast; rfl
@[go_sem high] theorem binOp_rem_U32 (t : TypeId) (a b : BitVec 32) (hb : b ≠ 0#32) : binOp .rem t (U32 a) (U32 b) = pure (U32 (a % b)) := by
  have h : n32 b ≠ 0 := fun h => hb (BitVec.eq_of_toNat_eq (by unfold n32 at h; simpa using h))
  show Op.intDiv .rem .u32 _ _ = _
  simp only [Op.intDiv, if_neg h, tmod_u32]
@[go_sem high] theorem binOp_rem_U32l (t : TypeId) (a : BitVec 32) (n : Int) (h0 : 0 < n) (h1 : n < 4294967296) : binOp .rem t (U32 a) (.int .u32 n) = pure (U32 (a % BitVec.ofInt 32 n)) := by
  have e := U32_lit n (by omega) h1
  rw [e]
  refine binOp_rem_U32 t a _ (fun h => ?_)
  have e2 := ofInt_lit_toNat (w := 32) n (by omega) (by simpa using h1)
  rw [h] at e2; simp at e2; omega

theorem eq_n32 (a b : BitVec 32) : (n32 a == n32 b) = (a == b) := eqnat a b
@[go_sem high] theorem binOp_eql_U32 (t : TypeId) (a b : BitVec 32) : binOp .eql t (U32 a) (U32 b) = pure (.bool (a == b)) := by
  show (pure (.bool (n32 a == n32 b)) : Sem Value) = _
  rw [eq_n32 a b]
@[go_sem high] theorem binOp_neq_U32 (t : TypeId) (a b : BitVec 32) : binOp .neq t (U32 a) (U32 b) = pure (.bool (a != b)) := by
  show (pure (.bool (!(n32 a == n32 b))) : Sem Value) = _
  rw [eq_n32 a b]; rfl
theorem eqlit_u32 (a : BitVec 32) (n : Int) (h0 : 0 ≤ n) (h1 : n < 4294967296) : (n32 a == n) = (a == BitVec.ofInt 32 n) := by
  have e := ofInt_lit_toNat (w := 32) n h0 (by simpa using h1)
  rw [Bool.eq_iff_iff]
  simp only [beq_iff_eq, n32]
  constructor
  · intro h; apply BitVec.eq_of_toNat_eq; omega
  · intro h; rw [h]; exact e
@[go_sem high] theorem binOp_eql_U32l (t : TypeId) (a : BitVec 32) (n : Int) (h0 : 0 ≤ n) (h1 : n < 4294967296) : binOp .eql t (U32 a) (.int .u32 n) = pure (.bool (a == BitVec.ofInt 32 n)) := by
  show (pure (.bool (n32 a == n)) : Sem Value) = _
  rw [eqlit_u32 a n h0 h1]
@[go_sem high] theorem binOp_neq_U32l (t : TypeId) (a : BitVec 32) (n : Int) (h0 : 0 ≤ n) (h1 : n < 4294967296) : binOp .neq t (U32 a) (.int .u32 n) = pure (.bool (a != BitVec.ofInt 32 n)) := by
  show (pure (.bool (!(n32 a == n))) : Sem Value) = _
  rw [eqlit_u32 a n h0 h1]; rfl
@[go_sem high] theorem binOp_shl_U32 (t : TypeId) (a : BitVec 32) (q : IntKind) (n : Int) (h0 : 0 ≤ n) : binOp .shl t (U32 a) (.int q n) = pure (U32 (a <<< n.toNat)) := by
  show Op.shift .shl .u32 _ q n = _
  simp only [Op.shift, if_neg (by omega : ¬ n < 0), wrap_u32, IntKind.bits]
  congr 3
  apply BitVec.eq_of_toNat_eq
  unfold n32
  rw [BitVec.toNat_ofInt, BitVec.toNat_shiftLeft, Nat.shiftLeft_eq]
  have e : ((a.toNat : Int) * 2 ^ min n.toNat 32) = ((a.toNat * 2 ^ min n.toNat 32 : Nat) : Int) := by push_cast; rfl
  rw [e, ← Int.natCast_emod, Int.toNat_natCast]
  by_cases h : n.toNat ≤ 32
  · rw [Nat.min_eq_left h]
  · rw [Nat.min_eq_right (by omega)]
    obtain ⟨m, hm⟩ : ∃ m, n.toNat = 32 + m := ⟨n.toNat - 32, by omega⟩
    rw [hm, Nat.pow_add, ← Nat.mul_assoc, Nat.mul_right_comm]
    simp
@[go_sem high] theorem binOp_shr_U32 (t : TypeId) (a : BitVec 32) (q : IntKind) (n : Int) (h0 : 0 ≤ n) : binOp .shr t (U32 a) (.int q n) = pure (U32 (a >>> n.toNat)) := by
  show Op.shift .shr .u32 _ q n = _
  simp only [Op.shift, if_neg (by omega : ¬ n < 0), IntKind.bits]
  unfold U32 n32
  congr 2
  rw [BitVec.toNat_ushiftRight, Nat.shiftRight_eq_div_pow]
  have e : ((a.toNat : Int).fdiv (2 ^ min n.toNat 32)) = ((a.toNat / 2 ^ min n.toNat 32 : Nat) : Int) := by
    rw [Int.fdiv_eq_ediv_of_nonneg _ (by exact Int.le_of_lt (Int.pow_pos (by decide)))]; push_cast; rfl
  rw [e]
  by_cases h : n.toNat ≤ 32
  · rw [Nat.min_eq_left h]
  · rw [Nat.min_eq_right (by omega), Nat.div_eq_of_lt a.isLt, Nat.div_eq_of_lt]
    exact Nat.lt_of_lt_of_le a.isLt (Nat.pow_le_pow_right (by decide) (by omega))
@[go_sem high] theorem binOp_shl_l32 (t : TypeId) (n : Int) (q : IntKind) (m : Int) (h0 : 0 ≤ n) (h1 : n < 4294967296) (hm : 0 ≤ m) : binOp .shl t (.int .u32 n) (.int q m) = pure (U32 (BitVec.ofInt 32 n <<< m.toNat)) := by
  rw [U32_lit n h0 h1]; exact binOp_shl_U32 t _ q m hm
@[go_sem high] theorem unary_xor_U32 (a : BitVec 32) : Op.unary .xor (U32 a) = pure (U32 (~~~a)) := by
  show Op.intBits .xor .u32 _ _ = _
  simp only [Op.intBits, IntKind.bits, IntKind.signed, ofInt_n32, back_u32]
  have : BitVec.ofInt 32 IntKind.u32.max = BitVec.allOnes 32 := by decide
  simp only [Bool.false_eq_true, if_false, this, BitVec.allOnes_xor]; rfl


theorem wrap_u64 (n : Int) : IntKind.u64.wrap n = n64 (BitVec.ofInt 64 n) := by
  simp [n64, IntKind.wrap, IntKind.signed, IntKind.bits, BitVec.toNat_ofInt]; omega
@[go_sem] theorem ofInt_n64 (x : BitVec 64) : BitVec.ofInt 64 (n64 x) = x := ofInt_toNat x
theorem U64_lit (n : Int) (h0 : 0 ≤ n) (h1 : n < 18446744073709551616) : Value.int .u64 n = U64 (BitVec.ofInt 64 n) := by
  unfold U64 n64; rw [ofInt_lit_toNat n h0 (by simpa using h1)]
theorem back_u64 (r : BitVec 64) : (pure (.int .u64 (IntKind.u64.wrap (r.toNat : Int))) : Sem Value) = pure (U64 r) := by
  rw [wrap_u64, ofInt_toNat]

@[go_sem high] theorem binOp_and_U64 (t : TypeId) (a b : BitVec 64) : binOp .and t (U64 a) (U64 b) = pure (U64 (a &&& b)) := by
  show Op.intBits .and .u64 _ _ = _
  simp only [Op.intBits, IntKind.bits, ofInt_n64, back_u64]; rfl
@[go_sem high] theorem binOp_and_U64l (t : TypeId) (a : BitVec 64) (n : Int) : binOp .and t (U64 a) (.int .u64 n) = pure (U64 (a &&& BitVec.ofInt 64 n)) := by
  show Op.intBits .and .u64 _ _ = _
  simp only [Op.intBits, IntKind.bits, ofInt_n64, back_u64]; rfl

@[go_sem high] theorem binOp_or_U64 (t : TypeId) (a b : BitVec 64) : binOp .or t (U64 a) (U64 b) = pure (U64 (a ||| b)) := by
  show Op.intBits .or .u64 _ _ = _
  simp only [Op.intBits, IntKind.bits, ofInt_n64, back_u64]; rfl
@[go_sem high] theorem binOp_or_U64l (t : TypeId) (a : BitVec 64) (n : Int) : binOp .or t (U64 a) (.int .u64 n) = pure (U64 (a ||| BitVec.ofInt 64 n)) := by
  show Op.intBits .or .u64 _ _ = _
  simp only [Op.intBits, IntKind.bits, ofInt_n64, back_u64]; rfl

@[go_sem high] theorem binOp_xor_U64 (t : TypeId) (a b : BitVec 64) : binOp .xor t (U64 a) (U64 b) = pure (U64 (a ^^^ b)) := by
  show Op.intBits .xor .u64 _ _ = _
  simp only [Op.intBits, IntKind.bits, ofInt_n64, back_u64]; rfl
@[go_sem high] theorem binOp_xor_U64l (t : TypeId) (a : BitVec 64) (n : Int) : binOp .xor t (U64 a) (.int .u64 n) = pure (U64 (a ^^^ BitVec.ofInt 64 n)) := by
  show Op.intBits .xor .u64 _ _ = _
  simp only [Op.intBits, IntKind.bits, ofInt_n64, back_u64]; rfl

@[go_sem high] theorem binOp_andNot_U64 (t : TypeId) (a b : BitVec 64) : binOp .andNot t (U64 a) (U64 b) = pure (U64 (a &&& ~~~b)) := by
  show Op.intBits .andNot .u64 _ _ = _
  simp only [Op.intBits, IntKind.bits, ofInt_n64, back_u64]; rfl
@[go_sem high] theorem binOp_andNot_U64l (t : TypeId) (a : BitVec 64) (n : Int) : binOp .andNot t (U64 a) (.int .u64 n) = pure (U64 (a &&& ~~~BitVec.ofInt 64 n)) := by
  show Op.intBits .andNot .u64 _ _ = _
  simp only [Op.intBits, IntKind.bits, ofInt_n64, back_u64]; rfl

@[go_sem high] theorem binOp_add_U64 (t : TypeId) (a b : BitVec 64) : binOp .add t (U64 a) (U64 b) = pure (U64 (a + b)) := by
  show Op.intArith .add .u64 _ _ = _
  simp only [Op.intArith, wrap_u64, BitVec.ofInt_add, ofInt_n64]
@[go_sem high] theorem binOp_add_U64l (t : TypeId) (a : BitVec 64) (n : Int) : binOp .add t (U64 a) (.int .u64 n) = pure (U64 (a + BitVec.ofInt 64 n)) := by
  show Op.intArith .add .u64 _ _ = _
  simp only [Op.intArith, wrap_u64, BitVec.ofInt_add, ofInt_n64]
@[go_sem high] theorem binOp_add_lU64 (t : TypeId) (a : BitVec 64) (n : Int) : binOp .add t (.int .u64 n) (U64 a) = pure (U64 (BitVec.ofInt 64 n + a)) := by
  show Op.intArith .add .u64 _ _ = _
  simp only [Op.intArith, wrap_u64, BitVec.ofInt_add, ofInt_n64]

@[go_sem high] theorem binOp_sub_U64 (t : TypeId) (a b : BitVec 64) : binOp .sub t (U64 a) (U64 b) = pure (U64 (a - b)) := by
  show Op.intArith .sub .u64 _ _ = _
  simp only [Op.intArith, wrap_u64, Int.sub_eq_add_neg, BitVec.sub_eq_add_neg, BitVec.ofInt_add, BitVec.ofInt_neg, ofInt_n64]
@[go_sem high] theorem binOp_sub_U64l (t : TypeId) (a : BitVec 64) (n : Int) : binOp .sub t (U64 a) (.int .u64 n) = pure (U64 (a - BitVec.ofInt 64 n)) := by
  show Op.intArith .sub .u64 _ _ = _
  simp only [Op.intArith, wrap_u64, Int.sub_eq_add_neg, BitVec.sub_eq_add_neg, BitVec.ofInt_add, BitVec.ofInt_neg, ofInt_n64]
@[go_sem high] theorem binOp_sub_lU64 (t : TypeId) (a : BitVec 64) (n : Int) : binOp .sub t (.int .u64 n) (U64 a) = pure (U64 (BitVec.ofInt 64 n - a)) := by
  show Op.intArith .sub .u64 _ _ = _
  simp only [Op.intArith, wrap_u64, Int.sub_eq_add_neg, BitVec.sub_eq_add_neg, BitVec.ofInt_add, BitVec.ofInt_neg, ofInt_n64]

@[go_sem high] theorem binOp_mul_U64 (t : TypeId) (a b : BitVec 64) : binOp .mul t (U64 a) (U64 b) = pure (U64 (a * b)) := by
  show Op.intArith .mul .u64 _ _ = _
  simp only [Op.intArith, wrap_u64, BitVec.ofInt_mul, ofInt_n64]
@[go_sem high] theorem binOp_mul_U64l (t : TypeId) (a : BitVec 64) (n : Int) : binOp .mul t (U64 a) (.int .u64 n) = pure (U64 (a * BitVec.ofInt 64 n)) := by
  show Op.intArith .mul .u64 _ _ = _
  simp only [Op.intArith, wrap_u64, BitVec.ofInt_mul, ofInt_n64]
@[go_sem high] theorem binOp_mul_lU64 (t : TypeId) (a : BitVec 64) (n : Int) : binOp .mul t (.int .u64 n) (U64 a) = pure (U64 (BitVec.ofInt 64 n * a)) := by
  show Op.intArith .mul .u64 _ _ = _
  simp only [Op.intArith, wrap_u64, BitVec.ofInt_mul, ofInt_n64]

theorem tdiv_u64 (a b : BitVec 64) : (n64 a).tdiv (n64 b) = n64 (a / b) := by
  unfold n64
  rw [BitVec.toNat_udiv]
  rw [Int.tdiv_eq_ediv_of_nonneg (by omega)]
  push_cast; rfl
@[go_sem high] theorem binOp_quo_U64 (t : TypeId) (a b : BitVec 64) (hb : b ≠ 0#64) : binOp .quo t (U64 a) (U64 b) = pure (U64 (a / b)) := by
  have h : n64 b ≠ 0 := fun h => hb (BitVec.eq_of_toNat_eq (by unfold n64 at h; simpa using h))
  show Op.intDiv .quo .u64 _ _ = _
  simp only [Op.intDiv, if_neg h, tdiv_u64, wrap_u64, ofInt_n64]
@[go_sem high] theorem binOp_quo_U64l (t : TypeId) (a : BitVec 64) (n : Int) (h0 : 0 < n) (h1 : n < 18446744073709551616) : binOp .quo t (U64 a) (.int .u64 n) = pure (U64 (a / BitVec.ofInt 64 n)) := by
  have e := U64_lit n (by omega) h1
  rw [e]
  refine binOp_quo_U64 t a _ (fun h => ?_)
  have e2 := ofInt_lit_toNat (w := 64) n (by omega) (by simpa using h1)
  rw [h] at e2; simp at e2; omega

theorem tmod_u64 (a b : BitVec 64) : (n64 a).tmod (n64 b) = n64 (a % b) := by
  unfold n64
  rw [BitVec.toNat_umod]
  rw [Int.tmod_eq_emod_of_nonneg (by omega)]
  push_cast; rfl
@[go_sem high] theorem binOp_rem_U64 (t : TypeId) (a b : BitVec 64) (hb : b ≠ 0#64) : binOp .rem t (U64 a) (U64 b) = pure (U64 (a % b)) := by
  have h : n64 b ≠ 0 := fun h => hb (BitVec.eq_of_toNat_eq (by unfold n64 at h; simpa using h))
  show Op.intDiv .rem .u64 _ _ = _
  simp only [Op.intDiv, if_neg h, tmod_u64]
@[go_sem high] theorem binOp_rem_U64l (t : TypeId) (a : BitVec 64) (n : Int) (h0 : 0 < n) (h1 : n < 18446744073709551616) : binOp .rem t (U64 a) (.int .u64 n) = pure (U64 (a % BitVec.ofInt 64 n)) := by
  have e := U64_lit n (by omega) h1
  rw [e]
  refine binOp_rem_U64 t a _ (fun h => ?_)
  have e2 := ofInt_lit_toNat (w := 64) n (by omega) (by simpa using h1)
  rw [h] at e2; simp at e2; omega

theorem eq_n64 (a b : BitVec 64) : (n64 a == n64 b) = (a == b) := eqnat a b
@[go_sem high] theorem binOp_eql_U64 (t : TypeId) (a b : BitVec 64) : binOp .eql t (U64 a) (U64 b) = pure (.bool (a == b)) := by
  show (pure (.bool (n64 a == n64 b)) : Sem Value) = _
  rw [eq_n64 a b]
@[go_sem high] theorem binOp_neq_U64 (t : TypeId) (a b : BitVec 64) : binOp .neq t (U64 a) (U64 b) = pure (.bool (a != b)) := by
  show (pure (.bool (!(n64 a == n64 b))) : Sem Value) = _
  rw [eq_n64 a b]; rfl
theorem eqlit_u64 (a : BitVec 64) (n : Int) (h0 : 0 ≤ n) (h1 : n < 18446744073709551616) : (n64 a == n) = (a == BitVec.ofInt 64 n) := by
  have e := ofInt_lit_toNat (w := 64) n h0 (by simpa using h1)
  rw [Bool.eq_iff_iff]
  simp only [beq_iff_eq, n64]
  constructor
  · intro h; apply BitVec.eq_of_toNat_eq; omega
  · intro h; rw [h]; exact e
@[go_sem high] theorem binOp_eql_U64l (t : TypeId) (a : BitVec 64) (n : Int) (h0 : 0 ≤ n) (h1 : n < 18446744073709551616) : binOp .eql t (U64 a) (.int .u64 n) = pure (.bool (a == BitVec.ofInt 64 n)) := by
  show (pure (.bool (n64 a == n)) : Sem Value) = _
  rw [eqlit_u64 a n h0 h1]
@[go_sem high] theorem binOp_neq_U64l (t : TypeId) (a : BitVec 64) (n : Int) (h0 : 0 ≤ n) (h1 : n < 18446744073709551616) : binOp .neq t (U64 a) (.int .u64 n) = pure (.bool (a != BitVec.ofInt 64 n)) := by
  show (pure (.bool (!(n64 a == n))) : Sem Value) = _
  rw [eqlit_u64 a n h0 h1]; rfl
@[go_sem high] theorem binOp_shl_U64 (t : TypeId) (a : BitVec 64) (q : IntKind) (n : Int) (h0 : 0 ≤ n) : binOp .shl t (U64 a) (.int q n) = pure (U64 (a <<< n.toNat)) := by
  show Op.shift .shl .u64 _ q n = _
  simp only [Op.shift, if_neg (by omega : ¬ n < 0), wrap_u64, IntKind.bits]
  congr 3
  apply BitVec.eq_of_toNat_eq
  unfold n64
  rw [BitVec.toNat_ofInt, BitVec.toNat_shiftLeft, Nat.shiftLeft_eq]
  have e : ((a.toNat : Int) * 2 ^ min n.toNat 64) = ((a.toNat * 2 ^ min n.toNat 64 : Nat) : Int) := by push_cast; rfl
  rw [e, ← Int.natCast_emod, Int.toNat_natCast]
  by_cases h : n.toNat ≤ 64
  · rw [Nat.min_eq_left h]
  · rw [Nat.min_eq_right (by omega)]
    obtain ⟨m, hm⟩ : ∃ m, n.toNat = 64 + m := ⟨n.toNat - 64, by omega⟩
    rw [hm, Nat.pow_add, ← Nat.mul_assoc, Nat.mul_right_comm]
    simp
@[go_sem high] theorem binOp_shr_U64 (t : TypeId) (a : BitVec 64) (q : IntKind) (n : Int) (h0 : 0 ≤ n) : binOp .shr t (U64 a) (.int q n) = pure (U64 (a >>> n.toNat)) := by
  show Op.shift .shr .u64 _ q n = _
  simp only [Op.shift, if_neg (by omega : ¬ n < 0), IntKind.bits]
  unfold U64 n64
  congr 2
  rw [BitVec.toNat_ushiftRight, Nat.shiftRight_eq_div_pow]
  have e : ((a.toNat : Int).fdiv (2 ^ min n.toNat 64)) = ((a.toNat / 2 ^ min n.toNat 64 : Nat) : Int) := by
    rw [Int.fdiv_eq_ediv_of_nonneg _ (by exact Int.le_of_lt (Int.pow_pos (by decide)))]; push_cast; rfl
  rw [e]
  by_cases h : n.toNat ≤ 64
  · rw [Nat.min_eq_left h]
  · rw [Nat.min_eq_right (by omega), Nat.div_eq_of_lt a.isLt, Nat.div_eq_of_lt]
    exact Nat.lt_of_lt_of_le a.isLt (Nat.pow_le_pow_right (by decide) (by omega))
@[go_sem high] theorem binOp_shl_l64 (t : TypeId) (n : Int) (q : IntKind) (m : Int) (h0 : 0 ≤ n) (h1 : n < 18446744073709551616) (hm : 0 ≤ m) : binOp .shl t (.int .u64 n) (.int q m) = pure (U64 (BitVec.ofInt 64 n <<< m.toNat)) := by
  rw [U64_lit n h0 h1]; exact binOp_shl_U64 t _ q m hm
@[go_sem high] theorem unary_xor_U64 (a : BitVec 64) : Op.unary .xor (U64 a) = pure (U64 (~~~a)) := by
  show Op.intBits .xor .u64 _ _ = _
  simp only [Op.intBits, IntKind.bits, IntKind.signed, ofInt_n64, back_u64]
  have : BitVec.ofInt 64 IntKind.u64.max = BitVec.allOnes 64 := by decide
  simp only [Bool.false_eq_true, if_false, this, BitVec.allOnes_xor]; rfl

@[go_sem high] theorem conv_U8_U32 {P : Program} {s d : TypeId} (hs : (P.underlying s).isSome = true) (hd : P.underlying d = some (.int .u32)) (a : BitVec 8) (w : World) :
    (convert s d (U8 a)).run P w = .ok (U32 (a.setWidth 32)) w := by
  refine (conv_ii hs hd _ _ w).trans ?_
  rw [wrap_u32, n8, ofInt_natCast_set]

@[go_sem high] theorem conv_U8_U64 {P : Program} {s d : TypeId} (hs : (P.underlying s).isSome = true) (hd : P.underlying d = some (.int .u64)) (a : BitVec 8) (w : World) :
    (convert s d (U8 a)).run P w = .ok (U64 (a.setWidth 64)) w := by
  refine (conv_ii hs hd _ _ w).trans ?_
  rw [wrap_u64, n8, ofInt_natCast_set]

@[go_sem high] theorem conv_U8_i64 {P : Program} {s d : TypeId} (hs : (P.underlying s).isSome = true) (hd : P.underlying d = some (.int .i64)) (a : BitVec 8) (w : World) :
    (convert s d (U8 a)).run P w = .ok (.int .i64 (n8 a)) w := by
  refine (conv_ii hs hd _ _ w).trans ?_
  have h1 := n8_nonneg a
  have h2 := n8_lt a
  rw [IntWalk.i64_in _ (by omega)]
@[go_sem high] theorem conv_i64_U8 {P : Program} {s d : TypeId} (hs : (P.underlying s).isSome = true) (hd : P.underlying d = some (.int .u8)) (n : Int) (w : World) :
    (convert s d (.int .i64 n)).run P w = .ok (U8 (BitVec.ofInt 8 n)) w := by
  refine (conv_ii hs hd _ _ w).trans ?_
  rw [wrap_u8]

@[go_sem high] theorem conv_U32_U8 {P : Program} {s d : TypeId} (hs : (P.underlying s).isSome = true) (hd : P.underlying d = some (.int .u8)) (a : BitVec 32) (w : World) :
    (convert s d (U32 a)).run P w = .ok (U8 (a.setWidth 8)) w := by
  refine (conv_ii hs hd _ _ w).trans ?_
  rw [wrap_u8, n32, ofInt_natCast_set]

@[go_sem high] theorem conv_U32_U64 {P : Program} {s d : TypeId} (hs : (P.underlying s).isSome = true) (hd : P.underlying d = some (.int .u64)) (a : BitVec 32) (w : World) :
    (convert s d (U32 a)).run P w = .ok (U64 (a.setWidth 64)) w := by
  refine (conv_ii hs hd _ _ w).trans ?_
  rw [wrap_u64, n32, ofInt_natCast_set]

@[go_sem high] theorem conv_U32_i64 {P : Program} {s d : TypeId} (hs : (P.underlying s).isSome = true) (hd : P.underlying d = some (.int .i64)) (a : BitVec 32) (w : World) :
    (convert s d (U32 a)).run P w = .ok (.int .i64 (n32 a)) w := by
  refine (conv_ii hs hd _ _ w).trans ?_
  have h1 := n32_nonneg a
  have h2 := n32_lt a
  rw [IntWalk.i64_in _ (by omega)]
@[go_sem high] theorem conv_i64_U32 {P : Program} {s d : TypeId} (hs : (P.underlying s).isSome = true) (hd : P.underlying d = some (.int .u32)) (n : Int) (w : World) :
    (convert s d (.int .i64 n)).run P w = .ok (U32 (BitVec.ofInt 32 n)) w := by
  refine (conv_ii hs hd _ _ w).trans ?_
  rw [wrap_u32]

@[go_sem high] theorem conv_U64_U8 {P : Program} {s d : TypeId} (hs : (P.underlying s).isSome = true) (hd : P.underlying d = some (.int .u8)) (a : BitVec 64) (w : World) :
    (convert s d (U64 a)).run P w = .ok (U8 (a.setWidth 8)) w := by
  refine (conv_ii hs hd _ _ w).trans ?_
  rw [wrap_u8, n64, ofInt_natCast_set]

@[go_sem high] theorem conv_U64_U32 {P : Program} {s d : TypeId} (hs : (P.underlying s).isSome = true) (hd : P.underlying d = some (.int .u32)) (a : BitVec 64) (w : World) :
    (convert s d (U64 a)).run P w = .ok (U32 (a.setWidth 32)) w := by
  refine (conv_ii hs hd _ _ w).trans ?_
  rw [wrap_u32, n64, ofInt_natCast_set]

@[go_sem high] theorem conv_U64_i64 {P : Program} {s d : TypeId} (hs : (P.underlying s).isSome = true) (hd : P.underlying d = some (.int .i64)) (a : BitVec 64) (w : World) :
    (convert s d (U64 a)).run P w = .ok (.int .i64 (wrap64 (n64 a))) w := by
  refine (conv_ii hs hd _ _ w).trans ?_
  have h1 := n64_nonneg a
  have h2 := n64_lt a
  rw [IntWalk.i64_left]
@[go_sem high] theorem conv_i64_U64 {P : Program} {s d : TypeId} (hs : (P.underlying s).isSome = true) (hd : P.underlying d = some (.int .u64)) (n : Int) (w : World) :
    (convert s d (.int .i64 n)).run P w = .ok (U64 (BitVec.ofInt 64 n)) w := by
  refine (conv_ii hs hd _ _ w).trans ?_
  rw [wrap_u64]

end Go.Proofs.YtdpgebifeaakjaaDoor

/- Rows of machine words in memory, and blocks of the call's own: what the walks of this seat want of them. -/
namespace Go.Proofs.YtdpgebifeaakjaaDoor
set_option linter.unusedSimpArgs false
set_option linter.unusedVariables false
open Go.RowKit

theorem hide {p : Prop} (h : p) : Hid p := h
theorem retU32 {a b : BitVec 32} (h : a = b) : Ending.returned (U32 a) = .returned (U32 b) := by rw [h]
theorem retBool {a b : Bool} (h : a = b) : Ending.returned (.bool a) = .returned (.bool b) := by rw [h]
/-- A row of n values, by its places. -/
def Row (n : Nat) (f : Nat → Value) : Array Value := Array.ofFn fun i : Fin n => f i.1
def A8 (n : Nat) (f : Nat → BitVec 8) : Array Value := Row n fun i => U8 (f i)
def A32 (n : Nat) (f : Nat → BitVec 32) : Array Value := Row n fun i => U32 (f i)
def A64 (n : Nat) (f : Nat → BitVec 64) : Array Value := Row n fun i => U64 (f i)

theorem Row.size (n : Nat) (f : Nat → Value) : (Row n f).size = n := by simp [Row]
theorem Row.get {n : Nat} (f : Nat → Value) {i : Nat} (h : i < n) : (Row n f)[i]? = some (f i) := by simp [Row, h]
theorem Row.getD {n : Nat} (f : Nat → Value) {i : Nat} (h : i < n) (d : Value) : (Row n f).getD i d = f i := by simp [Row, h]
theorem Row.set {n : Nat} (f : Nat → Value) (i : Nat) (v : Value) : (Row n f).setIfInBounds i v = Row n fun j => if j = i then v else f j := by
  apply Array.ext_getElem?
  intro j
  rw [Array.getElem?_setIfInBounds]
  by_cases hj : j < n
  · rw [Row.get _ hj, Row.size]
    by_cases e : i = j
    · subst e; rw [if_pos rfl, if_pos hj, Row.get _ hj, if_pos rfl]
    · rw [if_neg e, Row.get _ hj, if_neg (fun h => e h.symm)]
  · have h1 : (Row n f)[j]? = none := by simp [Row, hj]
    have h2 : (Row n fun j => if j = i then v else f j)[j]? = none := by simp [Row, hj]
    rw [h1, h2, Row.size]
    by_cases e : i = j
    · subst e; rw [if_pos rfl, if_neg hj]
    · rw [if_neg e]
theorem Row.ext {n : Nat} {f g : Nat → Value} (h : ∀ i, i < n → f i = g i) : Row n f = Row n g := by
  unfold Row; congr 1; funext i; exact h i.1 i.2
theorem Row.inj {n : Nat} {f g : Nat → Value} (h : Row n f = Row n g) : ∀ i, i < n → f i = g i := by
  intro i hi
  have := Row.get f hi; rw [h, Row.get g hi] at this; exact (Option.some.inj this).symm
theorem Row.all {n : Nat} {f : Nat → Value} {p : Value → Bool} (h : ∀ i, i < n → p (f i) = true) : (Row n f).all p = true := by
  rw [Array.all_eq_true]; intro i hi
  have hn : i < n := by simpa [Row] using hi
  simpa [Row] using h i hn

theorem A32.set {n : Nat} (f : Nat → BitVec 32) (i : Nat) (v : BitVec 32) : (A32 n f).setIfInBounds i (U32 v) = A32 n fun j => if j = i then v else f j := by
  unfold A32; rw [Row.set]; apply Row.ext; intro j _; dsimp only; split <;> rfl
theorem A32.ext {n : Nat} {f g : Nat → BitVec 32} (h : ∀ i, i < n → f i = g i) : A32 n f = A32 n g := Row.ext fun i hi => by rw [h i hi]
theorem A32.get {n : Nat} (f : Nat → BitVec 32) {i : Nat} (h : i < n) : (A32 n f)[i]? = some (U32 (f i)) := Row.get _ h
theorem A32.one {n : Nat} (f : Nat → BitVec 32) : (A32 n f).all (·.oneCell') = true := Row.all fun _ _ => rfl
theorem A32.size (n : Nat) (f : Nat → BitVec 32) : (A32 n f).size = n := Row.size _ _
theorem A8.set {n : Nat} (f : Nat → BitVec 8) (i : Nat) (v : BitVec 8) : (A8 n f).setIfInBounds i (U8 v) = A8 n fun j => if j = i then v else f j := by
  unfold A8; rw [Row.set]; apply Row.ext; intro j _; dsimp only; split <;> rfl
theorem A8.ext {n : Nat} {f g : Nat → BitVec 8} (h : ∀ i, i < n → f i = g i) : A8 n f = A8 n g := Row.ext fun i hi => by rw [h i hi]
theorem A8.get {n : Nat} (f : Nat → BitVec 8) {i : Nat} (h : i < n) : (A8 n f)[i]? = some (U8 (f i)) := Row.get _ h
theorem A8.one {n : Nat} (f : Nat → BitVec 8) : (A8 n f).all (·.oneCell') = true := Row.all fun _ _ => rfl
theorem A8.size (n : Nat) (f : Nat → BitVec 8) : (A8 n f).size = n := Row.size _ _
theorem A64.set {n : Nat} (f : Nat → BitVec 64) (i : Nat) (v : BitVec 64) : (A64 n f).setIfInBounds i (U64 v) = A64 n fun j => if j = i then v else f j := by
  unfold A64; rw [Row.set]; apply Row.ext; intro j _; dsimp only; split <;> rfl
theorem A64.ext {n : Nat} {f g : Nat → BitVec 64} (h : ∀ i, i < n → f i = g i) : A64 n f = A64 n g := Row.ext fun i hi => by rw [h i hi]
theorem A64.get {n : Nat} (f : Nat → BitVec 64) {i : Nat} (h : i < n) : (A64 n f)[i]? = some (U64 (f i)) := Row.get _ h
theorem A64.one {n : Nat} (f : Nat → BitVec 64) : (A64 n f).all (·.oneCell') = true := Row.all fun _ _ => rfl
theorem A64.size (n : Nat) (f : Nat → BitVec 64) : (A64 n f).size = n := Row.size _ _

theorem fill_step {α : Type} (g z : Nat → α) (k : Nat) : (fun j => if j = k then g k else if j < k then g j else z j) = fun j => if j < k + 1 then g j else z j := by
  funext j
  by_cases e : j = k
  · subst e; rw [if_pos rfl, if_pos (by omega)]
  · rw [if_neg e]; by_cases h : j < k
    · rw [if_pos h, if_pos (by omega)]
    · rw [if_neg h, if_neg (by omega)]
theorem fill_all {α : Type} {n : Nat} (g z : Nat → α) : ∀ i, i < n → (if i < n then g i else z i) = g i := fun i h => if_pos h
theorem A32.step {n : Nat} (g z : Nat → BitVec 32) (k : Nat) : (A32 n fun i => if i < k then g i else z i).setIfInBounds k (U32 (g k)) = A32 n fun i => if i < k + 1 then g i else z i := by
  rw [A32.set, fill_step g z k]
theorem A8.step {n : Nat} (g z : Nat → BitVec 8) (k : Nat) : (A8 n fun i => if i < k then g i else z i).setIfInBounds k (U8 (g k)) = A8 n fun i => if i < k + 1 then g i else z i := by
  rw [A8.set, fill_step g z k]
theorem A64.step {n : Nat} (g z : Nat → BitVec 64) (k : Nat) : (A64 n fun i => if i < k then g i else z i).setIfInBounds k (U64 (g k)) = A64 n fun i => if i < k + 1 then g i else z i := by
  rw [A64.set, fill_step g z k]
/-- Block b of the world holds the cells C. -/
def Blk (w : World) (b : Nat) (C : Array Value) (E : TypeId) : Prop := w.heap[b]? = some (.cells C E (0, 0))
theorem Blk.cell {w : World} {b : Nat} {C : Array Value} {E : TypeId} (h : Blk w b C E) (o : Nat) : w.cell? ⟨b, o, none⟩ = C[o]? := by
  unfold Blk at h; simp [World.cell?, h]
theorem Blk.free {w : World} {b : Nat} {C : Array Value} {E : TypeId} (h : Blk w b C E) (o : Nat) : w.frozen? ⟨b, o, none⟩ = false := by
  unfold Blk at h; simp [World.frozen?, h]
theorem Blk.lt {w : World} {b : Nat} {C : Array Value} {E : TypeId} (h : Blk w b C E) : b < w.heap.size := by
  unfold Blk at h; exact (Array.getElem?_eq_some_iff.1 h).1
theorem Blk.new (w : World) (C : Array Value) (E : TypeId) : Blk (w.alloc (.cells C E)) w.heap.size C E := heap_alloc_new _ _
theorem Blk.alloc {w : World} {b : Nat} {C : Array Value} {E : TypeId} (h : Blk w b C E) (o : Obj) : Blk (w.alloc o) b C E := by
  unfold Blk; rw [Below.heap_alloc _ _ _ h.lt]; exact h
theorem Blk.drew {w : World} {b : Nat} {C : Array Value} {E : TypeId} (h : Blk w b C E) : Blk w.drew b C E := h
theorem Blk.below {w w' : World} {b B : Nat} {C : Array Value} {E : TypeId} (h : Blk w b C E) (hb : Below B w w') (hlt : b < B) : Blk w' b C E := by
  unfold Blk; rw [hb.block b hlt]; exact h
theorem Blk.set {w : World} {b : Nat} {C : Array Value} {E : TypeId} (h : Blk w b C E) (o : Nat) (v : Value) : Blk (w.setCell ⟨b, o, none⟩ v) b (C.setIfInBounds o v) E := by
  unfold Blk at *; simp [World.setCell, Array.getElem?_modify, h]
theorem Blk.other {w : World} {b : Nat} {C : Array Value} {E : TypeId} (h : Blk w b C E) {a : Addr} (ha : b ≠ a.block) (v : Value) : Blk (w.setCell a v) b C E := by
  unfold Blk; rw [Below.heap_setCell _ _ _ _ ha]; exact h

theorem below_undrew {B : Nat} {w w' : World} (h : Below B w.drew w') : Below B w w' := ⟨h.os, h.tape, h.output, h.size, h.block⟩
/-- Between w and w' block b alone has turned. -/
structure Upd (b : Nat) (w w' : World) : Prop where
  os : w'.os = w.os
  tape : w'.tape = w.tape
  output : w'.output = w.output
  size : w'.heap.size = w.heap.size
  block : ∀ k, k ≠ b → w'.heap[k]? = w.heap[k]?
theorem Upd.below {b B : Nat} {w w' a : World} (h : Upd b w w') (ha : Below B a w) (hb : B ≤ b) : Below B a w' :=
  ha.trans ⟨h.os, h.tape, h.output, by rw [h.size]; exact Nat.le_refl _, fun k hk => h.block k (by omega)⟩
theorem Blk.upd {w w' : World} {b b' : Nat} {C : Array Value} {E : TypeId} (h : Blk w b C E) (hu : Upd b' w w') (hne : b ≠ b') : Blk w' b C E := by
  unfold Blk; rw [hu.block b hne]; exact h
theorem Upd.setRow (w : World) (b : Nat) (C : Array Value) : Upd b w (w.setRow b C) :=
  ⟨rfl, rfl, rfl, by simp [World.setRow], fun k hk => by simp only [World.setRow, Array.getElem?_modify]; rw [if_neg (fun e => hk e.symm)]⟩
theorem Blk.setRow {w : World} {b : Nat} {C : Array Value} {E : TypeId} (h : Blk w b C E) (C' : Array Value) : Blk (w.setRow b C') b C' E := by
  unfold Blk at *; simp [World.setRow, Array.getElem?_modify, h]

section rules
variable {P : Program} {ops : Array Oper} {rest : List Oper} {o : Oper} {a : Act} {w : World} {Q : Exit → Act → World → Prop}
/-- A whole array is loaded. -/
theorem wp_loadRow (hgd : o.guard = none) (ty : TypeId) (x : Operand) (ho : o.op = .load ty x)
    (b : Nat) (hx : a.eval x = .pointer (some ⟨b, 0, none⟩)) {t : TypeId} {C : Array Value} (hb : Blk w b C t) {d : TypeDesc} {n : Nat}
    (hu : P.underlying ty = some d) (hd : (match d with | .struct _ | .array _ _ => true | _ => false) = true) (hi : (P.info? ty).map (·.size) = some n) (hn : C.size = n)
    (h : wpList P ops Q rest (a.put o.dst (.agg C)) w) : wpList P ops Q (o :: rest) a w :=
  wpList_load_row hgd ty x ho b hx t C (0, 0) d hb hu hd (hn ▸ hi) h
/-- A whole array is stored. -/
theorem wp_storeRow (hgd : o.guard = none) (ty : TypeId) (x y : Operand) (ho : o.op = .store ty x y)
    (b : Nat) (hx : a.eval x = .pointer (some ⟨b, 0, none⟩)) {C' : Array Value} (hy : a.eval y = .agg C') {t : TypeId} {C : Array Value} (hb : Blk w b C t) {n : Nat}
    (hi : (P.info? ty).map (·.size) = some n) (hn' : C'.size = n) (hn : C.size = n) (h1 : C'.all (·.oneCell') = true) (hdst : o.dst = none)
    (h : ∀ w', Upd b w w' → Blk w' b C' t → wpList P ops Q rest a w') : wpList P ops Q (o :: rest) a w := by
  refine wpList_plain hgd fun K hK => ?_
  have hrun := run_storeVar_row (P := P) w b t ty C C' hb (hn' ▸ hi) (hn.trans hn'.symm) h1
  unfold Oper.wp execOp
  simp only [ho, hx, hy, Instr.storeAt, Instr.sureAddr, Sem.run_bind, Sem.run_pure, Result.andThen_ok, hrun]
  have h2 := hK _ _ (h _ (Upd.setRow w b C') (hb.setRow C'))
  simpa [go_sem, Oper.upon, hdst, Act.put] using h2
/-- A whole array's load, run. -/
theorem run_exec_loadRow (ρ : Operand → Value) (ty : TypeId) (x : Operand) (ho : o.op = .load ty x) (b : Nat) (hx : ρ x = .pointer (some ⟨b, 0, none⟩)) {t : TypeId} {C : Array Value} (hb : Blk w b C t) {d : TypeDesc} {n : Nat}
    (hu : P.underlying ty = some d) (hd : (match d with | .struct _ | .array _ _ => true | _ => false) = true) (hi : (P.info? ty).map (·.size) = some n) (hn : C.size = n) :
    (execOp ρ o).run P w = .ok (.value (.agg C)) w := by
  unfold execOp
  simp only [ho, hx, Instr.loadAt, Instr.sureAddr, Sem.run_bind, Sem.run_pure, Result.andThen_ok, run_loadVar_row w b t ty C (0, 0) d hb hu hd (hn ▸ hi)]
end rules
/-- The call returns a whole array that lies in a cell. -/
theorem ret_row {P : Program} {fn : Func} {R : Ending → World → Prop} {a : Act} {w : World} {p : Tmp} {ty : TypeId} (hres : fn.results = #[.cell p ty])
    (b : Nat) (hp : a.tmps.getD p undef = .pointer (some ⟨b, 0, none⟩)) {t : TypeId} {C : Array Value} (hb : Blk w b C t) {d : TypeDesc} {n : Nat}
    (hu : P.underlying ty = some d) (hd : (match d with | .struct _ | .array _ _ => true | _ => false) = true) (hi : (P.info? ty).map (·.size) = some n) (hn : C.size = n)
    (hdef : a.defers = []) (hR : R (.returned (.agg C)) w) : bodyPost P fn R .ret a w :=
  bodyPost_ret (results_cell_row hres a.tmps w b t C (0, 0) d hp hb hu hd (hn ▸ hi)) hdef hR
/-- The bytes of a string. -/
def bts (s : ByteArray) : List (BitVec 8) := s.data.toList.map UInt8.toBitVec
def byteAt (s : ByteArray) (i : Nat) : BitVec 8 := (bts s).getD i 0#8
theorem bts_length (s : ByteArray) : (bts s).length = s.size := by simp [bts]
theorem bts_take_succ (s : ByteArray) (k : Nat) (h : k < s.size) : (bts s).take (k + 1) = (bts s).take k ++ [byteAt s k] := by
  have hl : k < (bts s).length := by rw [bts_length]; exact h
  rw [List.take_succ_eq_append_getElem hl]
  simp [byteAt, hl]
theorem run_index_str {P : Program} {T : TypeId} (hT : P.underlying T = some .string) (s : ByteArray) (k : Nat) (h : k < s.size) (w : World) :
    (Instr.index T (.string s) (.int .i64 (k : Int))).run P w = .ok (U8 (byteAt s k)) w := by
  have e : byteAt s k = (s[k]'h).toBitVec := by
    have hl : k < (bts s).length := by rw [bts_length]; exact h
    simp only [byteAt, List.getD_eq_getElem?_getD, List.getElem?_eq_getElem hl, Option.getD_some]
    simp only [bts, List.getElem_map]; rfl
  rw [e]
  simp [Instr.index, go_sem, run_underlying hT, h]
  rfl
/-- An array's value, indexed within its bounds. -/
theorem index_Row {P : Program} {T E n : Nat} (hT : P.underlying T = some (.array n E)) (hE : ∀ w, (sizeOf E).run P w = .ok 1 w) (hA : ∀ w, (isAgg E).run P w = .ok false w) (f : Nat → Value) (k : IntKind) (i : Nat) (h : i < n) (w : World) :
    (Instr.index T (.agg (Row n f)) (.int k (i : Int))).run P w = .ok (f i) w := by
  have h1 : (i : Int) < (n : Int) := by omega
  simp [Instr.index, go_sem, run_underlying hT, hE, hA, h, Row.get f h]
theorem index_A32 {P : Program} {T E n : Nat} (hT : P.underlying T = some (.array n E)) (hE : ∀ w, (sizeOf E).run P w = .ok 1 w) (hA : ∀ w, (isAgg E).run P w = .ok false w) (f : Nat → BitVec 32) (k : IntKind) (i : Nat) (h : i < n) (w : World) :
    (Instr.index T (.agg (A32 n f)) (.int k (i : Int))).run P w = .ok (U32 (f i)) w := index_Row hT hE hA _ k i h w
theorem index_A8 {P : Program} {T E n : Nat} (hT : P.underlying T = some (.array n E)) (hE : ∀ w, (sizeOf E).run P w = .ok 1 w) (hA : ∀ w, (isAgg E).run P w = .ok false w) (f : Nat → BitVec 8) (k : IntKind) (i : Nat) (h : i < n) (w : World) :
    (Instr.index T (.agg (A8 n f)) (.int k (i : Int))).run P w = .ok (U8 (f i)) w := index_Row hT hE hA _ k i h w
theorem index_A64 {P : Program} {T E n : Nat} (hT : P.underlying T = some (.array n E)) (hE : ∀ w, (sizeOf E).run P w = .ok 1 w) (hA : ∀ w, (isAgg E).run P w = .ok false w) (f : Nat → BitVec 64) (k : IntKind) (i : Nat) (h : i < n) (w : World) :
    (Instr.index T (.agg (A64 n f)) (.int k (i : Int))).run P w = .ok (U64 (f i)) w := index_Row hT hE hA _ k i h w
/-- Two rows compared, element by element. -/
theorem run_eqItems_Row {P : Program} {E n d : Nat} (hE : P.cellsOf E = 1) (hA : ∀ w, (isAgg E).run P w = .ok false w) (f g : Nat → Value) (eq : Nat → Bool)
    (he : ∀ i w, i < n → (Op.equalIn d E (f i) (g i)).run P w = .ok (eq i) w) (w : World) : ∀ l : List Nat, (∀ i ∈ l, i < n) →
    (Op.eqItems d E (P.cellsOf E) (Row n f) (Row n g) l).run P w = .ok (l.all eq) w
  | [], _ => by simp [Op.eqItems]
  | i :: l, h => by
    have hi := h i (by simp)
    have ih := run_eqItems_Row hE hA f g eq he w l (fun j hj => h j (by simp [hj]))
    simp only [hE] at ih
    simp [Op.eqItems, go_sem, hE, hA, Row.get _ hi, he i w hi]
    cases eq i <;> simp [ih]
def eqRow {α : Type} [BEq α] (n : Nat) (f g : Nat → α) : Bool := (List.range n).all fun i => f i == g i
theorem eqRow_iff {α : Type} [BEq α] [LawfulBEq α] (n : Nat) (f g : Nat → α) : eqRow n f g = true ↔ ∀ i, i < n → f i = g i := by
  simp [eqRow]
theorem eql_A32 {P : Program} {T E n : Nat} (hu : P.underlying T = some (.array n E)) (hi1 : (P.info? E).map (·.size) = some 1) (hA : ∀ w, (isAgg E).run P w = .ok false w) {q : IntKind} (hE : P.underlying E = some (.int q))
    (f g : Nat → BitVec 32) (w : World) : (binOp .eql T (.agg (A32 n f)) (.agg (A32 n g))).run P w = .ok (.bool (eqRow n f g)) w := by
  have hE1 : P.cellsOf E = 1 := by simp [Program.cellsOf, hi1]
  obtain ⟨i, hi, _⟩ := Option.map_eq_some_iff.1 hi1
  rw [run_eql_struct, run_equalIn_array w _ _ _ hu hi]
  have := run_eqItems_Row (P := P) (n := n) (d := 9999) hE1 hA (fun i => U32 (f i)) (fun i => U32 (g i)) (fun i => f i == g i) (fun i w _ => by
    refine (run_equalIn_int w 9998 E .u32 q _ _ hE).trans ?_
    rw [eq_n32]) w (List.range n) (by simp)
  unfold A32
  rw [this]
  rfl
/-- A string of bytes. -/
def strOf (l : List (BitVec 8)) : ByteArray := ⟨(l.map UInt8.ofBitVec).toArray⟩
theorem bts_strOf (l : List (BitVec 8)) : bts (strOf l) = l := by
  simp [bts, strOf, Function.comp_def]
theorem strOf_bts (s : ByteArray) : strOf (bts s) = s := by
  simp [bts, strOf, Function.comp_def]
theorem size_strOf (l : List (BitVec 8)) : (strOf l).size = l.length := by rw [← bts_length, bts_strOf]
theorem bts_inj {s t : ByteArray} (h : bts s = bts t) : s = t := by rw [← strOf_bts s, h, strOf_bts]
/-- 'string(b)', b's cells the bytes l. -/
theorem run_bytes_str {P : Program} (w : World) (src dst e : TypeId) (b o : Nat) (cap : Nat) (l : List (BitVec 8)) (n : Nat) (hn : l.length = n) (hs : P.underlying src = some (.slice e)) (he : P.underlying e = some (.int .u8)) (hd : P.underlying dst = some .string)
    (hc : ∀ j (hj : j < l.length), w.cell? ⟨b, o + j, none⟩ = some (U8 l[j])) :
    (convert src dst (.slice (some ⟨b, o, none⟩) n cap)).run P w = .ok (.string (strOf l)) w := by
  have h := run_convert_bytes_back (P := P) w src dst e ⟨b, o, none⟩ cap (l.map UInt8.ofBitVec) hs he hd (fun j hj => by
    have hj' : j < l.length := by simpa using hj
    rw [Addr.add_lit, hc j hj']
    simp [U8, n8])
  rw [List.length_map, hn] at h
  exact h
/-- 'a[:h]', 'a[:]' of an array variable. -/
theorem sliceAt_arr_h {P : Program} {T E n s : Nat} (hT : P.underlying T = some (.array n E)) (hE : ∀ w, (sizeOf E).run P w = .ok s w) (a : Addr) (q : IntKind) (h : Nat) (hh : h ≤ n) (w : World) :
    (Instr.sliceAt T (.pointer (some a)) none (some (.int q (h : Int))) none).run P w = .ok (.slice (some a) h n) w := by
  have h1 : (h : Int) ≤ (n : Int) := by omega
  have h2 : ¬ (n : Int) < (h : Int) := by omega
  simp [Instr.sliceAt, Instr.sureAddr, run_underlying hT, Instr.sliceBounds, run_sliceBound, hE, hh, Addr.add_zero']
theorem sliceAt_arr_all {P : Program} {T E n s : Nat} (hT : P.underlying T = some (.array n E)) (hE : ∀ w, (sizeOf E).run P w = .ok s w) (a : Addr) (w : World) :
    (Instr.sliceAt T (.pointer (some a)) none none none).run P w = .ok (.slice (some a) n n) w := by
  simp [Instr.sliceAt, Instr.sureAddr, run_underlying hT, Instr.sliceBounds, hE, Addr.add_zero']
end Go.Proofs.YtdpgebifeaakjaaDoor

/- More rules on rows: a whole store inside a region that draws, results that lie in cells. -/
namespace Go.Proofs.YtdpgebifeaakjaaDoor
set_option linter.unusedSimpArgs false
set_option linter.unusedVariables false
open Go.RowKit
section
variable {P : Program} {o : Oper} {a : Act} {w : World} {Q : Exit → Act → World → Prop} {K : Act → World → Prop}
/-- A whole array is stored: one operation. -/
theorem op_storeRow (ty : TypeId) (x y : Operand) (ho : o.op = .store ty x y)
    (b : Nat) (hx : a.eval x = .pointer (some ⟨b, 0, none⟩)) {C' : Array Value} (hy : a.eval y = .agg C') {t : TypeId} {C : Array Value} (hb : Blk w b C t) {n : Nat}
    (hi : (P.info? ty).map (·.size) = some n) (hn' : C'.size = n) (hn : C.size = n) (h1 : C'.all (·.oneCell') = true) (hdst : o.dst = none)
    (h : ∀ w', Upd b w w' → Blk w' b C' t → K a w') : o.wp P a w K Q := by
  have hrun := run_storeVar_row (P := P) w b t ty C C' hb (hn' ▸ hi) (hn.trans hn'.symm) h1
  unfold Oper.wp execOp
  simp only [ho, hx, hy, Instr.storeAt, Instr.sureAddr, Sem.run_bind, Sem.run_pure, Result.andThen_ok, hrun]
  have h2 := h _ (Upd.setRow w b C') (hb.setRow C')
  simpa [go_sem, Oper.upon, hdst, Act.put] using h2
end
/-- A run of cells in the middle of a row. -/
theorem rangeAt_Row {w : World} {b t N : Nat} {F : Nat → Value} (hb : Blk w b (Row N F) t) (o n : Nat) (hn : o + n ≤ N) : w.rangeAt b o (Row n fun i => F (o + i)).toList := by
  intro j v hv
  have hj : j < n := by
    have := (List.getElem?_eq_some_iff.1 hv).1
    simpa [Row] using this
  rw [hb.cell, Row.get _ (by omega)]
  have h2 : (Row n fun i => F (o + i))[j]? = some v := by simpa using hv
  rw [Row.get _ hj] at h2
  exact h2
/-- An array is loaded out of the middle of a row. -/
theorem wp_loadMid {P : Program} {ops : Array Oper} {rest : List Oper} {o : Oper} {a : Act} {w : World} {Q : Exit → Act → World → Prop} (hgd : o.guard = none) (ty : TypeId) (x : Operand) (ho : o.op = .load ty x)
    (b f : Nat) (hx : a.eval x = .pointer (some ⟨b, f, none⟩)) {t N : Nat} {F : Nat → Value} (hb : Blk w b (Row N F) t) {d : TypeDesc} {n : Nat}
    (hu : P.underlying ty = some d) (hd : d.isRow = true) (hi : (P.info? ty).map (·.size) = some n) (hn : f + n ≤ N) {C : Array Value} (hC : (Row n fun i => F (f + i)) = C)
    (h : wpList P ops Q rest (a.put o.dst (.agg C)) w) : wpList P ops Q (o :: rest) a w := by
  subst hC
  refine wpList_load_mid hgd ty x ho b f hx _ d (rangeAt_Row hb f n hn) hu hd (by rw [Array.length_toList, Row.size]; exact hi) ?_
  rw [Array.toArray_toList]
  exact h
/-- Between w and w' block b alone of those that were there has turned. -/
structure But (b : Nat) (w w' : World) : Prop where
  os : w'.os = w.os
  tape : w'.tape = w.tape
  output : w'.output = w.output
  size : w.heap.size ≤ w'.heap.size
  block : ∀ k, k < w.heap.size → k ≠ b → w'.heap[k]? = w.heap[k]?
theorem But.refl (b : Nat) (w : World) : But b w w := ⟨rfl, rfl, rfl, Nat.le_refl _, fun _ _ _ => rfl⟩
theorem But.trans {b : Nat} {u v w : World} (h : But b u v) (k : But b v w) : But b u w :=
  ⟨k.os.trans h.os, k.tape.trans h.tape, k.output.trans h.output, Nat.le_trans h.size k.size, fun i hi hne => (k.block i (Nat.lt_of_lt_of_le hi h.size) hne).trans (h.block i hi hne)⟩
theorem But.of_below {b : Nat} {w w' : World} (h : Below w.heap.size w w') : But b w w' := ⟨h.os, h.tape, h.output, h.size, fun k hk _ => h.block k hk⟩
theorem But.setCell {b : Nat} {a w : World} (h : But b a w) {p : Addr} (hp : p.block = b ∨ a.heap.size ≤ p.block) (v : Value) : But b a (w.setCell p v) :=
  ⟨h.os, h.tape, h.output, by simp [World.setCell]; exact h.size, fun k hk hne => by rw [Below.heap_setCell _ _ _ _ (by omega)]; exact h.block k hk hne⟩
theorem But.alloc {b : Nat} {a w : World} (h : But b a w) (o : Obj) : But b a (w.alloc o) :=
  ⟨h.os, h.tape, h.output, by simp; have := h.size; omega, fun k hk hne => by rw [Below.heap_alloc _ _ _ (Nat.lt_of_lt_of_le hk h.size)]; exact h.block k hk hne⟩
theorem But.drew {b : Nat} {a w : World} (h : But b a w) : But b a w.drew := ⟨h.os, h.tape, h.output, h.size, h.block⟩
theorem But.upd {b c : Nat} {a w w' : World} (h : But b a w) (u : Upd c w w') (hc : c = b ∨ a.heap.size ≤ c) : But b a w' :=
  ⟨u.os.trans h.os, u.tape.trans h.tape, u.output.trans h.output, by rw [u.size]; exact h.size, fun k hk hne => (u.block k (by omega)).trans (h.block k hk hne)⟩
theorem But.onto {b B : Nat} {a w w' : World} (h : Below B a w) (k : But b w w') (hb : B ≤ b) (hB : B ≤ w.heap.size) : Below B a w' :=
  ⟨k.os.trans h.os, k.tape.trans h.tape, k.output.trans h.output, Nat.le_trans h.size k.size, fun i hi => (k.block i (by omega) (by omega)).trans (h.block i hi)⟩
theorem Blk.but {w w' : World} {b c : Nat} {C : Array Value} {E : TypeId} (h : Blk w b C E) (k : But c w w') (hne : b ≠ c) : Blk w' b C E := by
  unfold Blk; rw [k.block b h.lt hne]; exact h
theorem run_loadVar_Blk {P : Program} {w : World} {b : Nat} {t ty : TypeId} {C : Array Value} (hb : Blk w b C t) {d : TypeDesc} {n : Nat}
    (hu : P.underlying ty = some d) (hd : (match d with | .struct _ | .array _ _ => true | _ => false) = true) (hi : (P.info? ty).map (·.size) = some n) (hn : C.size = n) :
    (loadVar ty ⟨b, 0, none⟩).run P w = .ok (.agg C) w := run_loadVar_row w b t ty C (0, 0) d hb hu hd (hn ▸ hi)
/-- Two results that lie in cells. -/
theorem ret_row2 {P : Program} {fn : Func} {R : Ending → World → Prop} {a : Act} {w : World} {p q : Tmp} {ty uy : TypeId} (hres : fn.results = #[.cell p ty, .cell q uy])
    (b c : Nat) (hp : a.tmps.getD p undef = .pointer (some ⟨b, 0, none⟩)) (hq : a.tmps.getD q undef = .pointer (some ⟨c, 0, none⟩)) {C D : Array Value}
    (hb : (loadVar ty ⟨b, 0, none⟩).run P w = .ok (.agg C) w) (hc : (loadVar uy ⟨c, 0, none⟩).run P w = .ok (.agg D) w)
    (hdef : a.defers = []) (hR : R (.returned (.tuple #[.agg C, .agg D])) w) : bodyPost P fn R .ret a w := by
  have hp' : a.tmps[p]?.getD undef = .pointer (some ⟨b, 0, none⟩) := by simpa using hp
  have hq' : a.tmps[q]?.getD undef = .pointer (some ⟨c, 0, none⟩) := by simpa using hq
  refine bodyPost_ret (v := .tuple #[.agg C, .agg D]) ?_ hdef hR
  simp [results, hres, hp', hq', asAddr, hb, hc]
/-- A result in a cell, and one in a temporary. -/
theorem ret_row_tmp {P : Program} {fn : Func} {R : Ending → World → Prop} {a : Act} {w : World} {p q : Tmp} {ty : TypeId} (hres : fn.results = #[.cell p ty, .tmp q])
    (b : Nat) (hp : a.tmps.getD p undef = .pointer (some ⟨b, 0, none⟩)) {v : Value} (hq : a.tmps.getD q undef = v) {C : Value}
    (hb : (loadVar ty ⟨b, 0, none⟩).run P w = .ok C w)
    (hdef : a.defers = []) (hR : R (.returned (.tuple #[C, v])) w) : bodyPost P fn R .ret a w := by
  have hp' : a.tmps[p]?.getD undef = .pointer (some ⟨b, 0, none⟩) := by simpa using hp
  have hq' : a.tmps[q]?.getD undef = v := by simpa using hq
  refine bodyPost_ret (v := .tuple #[C, v]) ?_ hdef hR
  simp [results, hres, hp', hq', asAddr, hb]
/-- A quiet call, where the contract says that the world is the same. -/
theorem quiet_left {P : Program} {f : FuncId} {args : Array Value} {w : World} {n : Nat} {v : Value}
    (h : Calls P f args (w.drewN n) fun e w' => e = .returned v ∧ w.drewN n = w') : Calls P f args (w.drewN n) fun e w'' => e = .returned v ∧ ∃ m, w'' = w.drewN m :=
  h.mono fun _ _ ⟨he, hm⟩ => ⟨he, n, hm.symm⟩
theorem below_drewN' {B : Nat} {a w : World} (n : Nat) (h : Below B a w) : Below B a (w.drewN n) := ⟨h.os, h.tape, h.output, h.size, h.block⟩
theorem Blk.drewN {w : World} {b : Nat} {C : Array Value} {E : TypeId} (n : Nat) (h : Blk w b C E) : Blk (w.drewN n) b C E := h
end Go.Proofs.YtdpgebifeaakjaaDoor

/- One byte appended to a slice of the call's own, where there is room. -/
namespace Go.Proofs.YtdpgebifeaakjaaDoor
set_option linter.unusedSimpArgs false
set_option linter.unusedVariables false
open Go.RowKit
/-- One element appended where there is room: the block is written in place. -/
theorem wp_append1 {P : Program} {ops : Array Oper} {rest : List Oper} {o : Oper} {a : Act} {w : World} {Q : Exit → Act → World → Prop} (hgd : o.guard = none)
    (s x : Operand) (t : TypeId) (hop : o.op = Op.call { callee := Callee.builtin Builtin.append, args := #[s, x], argTypes := #[t, t] })
    {e : TypeId} (ht : P.underlying t = some (.slice e)) (hi1 : (P.info? e).map (·.size) = some 1)
    (g n cap : Nat) (hs : a.eval s = .slice (some ⟨g, 0, none⟩) n cap) (bx c : Nat) (hx : a.eval x = .slice (some ⟨bx, 0, none⟩) 1 c)
    {N : Nat} {f : Nat → Value} (hb : Blk w g (Row N f) e) {v : Value} (hv : w.cell? ⟨bx, 0, none⟩ = some v) (h1 : v.oneCell' = true) (hcap : n + 1 ≤ cap) (hN : n + 1 ≤ N)
    (h : ∀ w', Upd g w w' → Blk w' g (Row N fun j => if j = n then v else f j) e → wpList P ops Q rest (a.put o.dst (.slice (some ⟨g, 0, none⟩) (n + 1) cap)) w') :
    wpList P ops Q (o :: rest) a w := by
  refine wpList_plain hgd fun K hK => ?_
  obtain ⟨i, hi, his⟩ := Option.map_eq_some_iff.1 hi1
  have hrun := run_append_room (P := P) w t o.type e i ht hi g n cap (Row N f) hb ⟨bx, 0, none⟩ 1 c [v] (by simp [his]) (fun j u hj => by
    match j, hj with
    | 0, hj =>
      have hj' : v = u := by simpa using hj
      subst hj'
      rw [Addr.add_zero']; exact hv) (by simpa using h1) hcap (by rw [his, Row.size]; simpa using hN)
  have hcells : (List.take (n * i.size) (Row N f).toList ++ [v] ++ List.drop (n * i.size + [v].length) (Row N f).toList).toArray = Row N fun j => if j = n then v else f j := by
    rw [his, Nat.mul_one, ← Row.set]
    apply Array.ext_getElem?
    intro j
    have hlen : (Row N f).toList.length = N := by rw [Array.length_toList, Row.size]
    rw [Array.getElem?_setIfInBounds, Row.size]
    simp only [List.getElem?_toArray, List.append_assoc, List.length_singleton]
    by_cases hj : j < n
    · rw [List.getElem?_append_left (by simp [hlen]; omega), List.getElem?_take_of_lt hj, if_neg (by omega)]
      simp
    · by_cases hjn : n = j
      · subst hjn
        rw [List.getElem?_append_right (by simp [hlen]; omega)]
        simp [hlen, show min n N = n by omega]
        omega
      · rw [if_neg hjn, List.getElem?_append_right (by simp [hlen]; omega)]
        have hm : (List.take n (Row N f).toList).length = n := by rw [List.length_take, hlen]; omega
        rw [hm, List.getElem?_append_right (by simp; omega), List.getElem?_drop]
        simp only [List.length_singleton]
        rw [show n + 1 + (j - n - 1) = j by omega]
        simp
  rw [hcells] at hrun
  unfold Oper.wp
  simp [execOp, hop, resolve, invoke, builtin, hs, hx, hrun, Result.andThen]
  exact hK _ _ (h _ (Upd.setRow w g _) (hb.setRow _))
end Go.Proofs.YtdpgebifeaakjaaDoor

/- Bytes of a string made a slice: what the walks of this seat want of them. -/
namespace Go.Proofs.YtdpgebifeaakjaaDoor
set_option linter.unusedSimpArgs false
set_option linter.unusedVariables false
open Go.RowKit

/-- Block b holds n bytes at its head; it is one that a conversion of a string has made. -/
def Byt (w : World) (b n : Nat) (f : Nat → BitVec 8) : Prop :=
  ∃ C : Array Value, w.heap[b]? = some (.cells C 5 (C.size, C.size + 1)) ∧ n ≤ C.size ∧ ∀ j, j < n → C[j]? = some (U8 (f j))
theorem Byt.lt {w : World} {b n : Nat} {f : Nat → BitVec 8} (h : Byt w b n f) : b < w.heap.size := by
  obtain ⟨C, h, _⟩ := h
  exact (Array.getElem?_eq_some_iff.1 h).1
theorem Byt.cell {w : World} {b n : Nat} {f : Nat → BitVec 8} (h : Byt w b n f) {j : Nat} (hj : j < n) : w.cell? ⟨b, j, none⟩ = some (U8 (f j)) := by
  obtain ⟨C, h, hn, hc⟩ := h
  rw [← hc j hj]
  simp [World.cell?, h]
theorem Byt.free {w : World} {b n : Nat} {f : Nat → BitVec 8} (h : Byt w b n f) {j : Nat} (hj : j < n) : w.frozen? ⟨b, j, none⟩ = false := by
  obtain ⟨C, h, hn, hc⟩ := h
  simp [World.frozen?, h]
  omega
theorem Byt.below {w w' : World} {b n B : Nat} {f : Nat → BitVec 8} (h : Byt w b n f) (hb : Below B w w') (hlt : b < B) : Byt w' b n f := by
  obtain ⟨C, h, hn, hc⟩ := h
  exact ⟨C, (hb.block b hlt).trans h, hn, hc⟩
theorem Byt.set {w : World} {b n : Nat} {f : Nat → BitVec 8} (h : Byt w b n f) {j : Nat} (hj : j < n) (v : BitVec 8) : Byt (w.setCell ⟨b, j, none⟩ (U8 v)) b n (fun i => if i = j then v else f i) := by
  obtain ⟨C, h, hn, hc⟩ := h
  refine ⟨C.setIfInBounds j (U8 v), by simp [World.setCell, Array.getElem?_modify, h], by simpa using hn, fun i hi => ?_⟩
  rw [Array.getElem?_setIfInBounds]
  by_cases e : j = i
  · subst e
    rw [if_pos rfl, if_pos (by omega)]
    simp
  · rw [if_neg e, hc i hi]
    have e2 : ¬ i = j := fun h => e h.symm
    simp [e2]
theorem Byt.congr {w : World} {b n : Nat} {f g : Nat → BitVec 8} (h : Byt w b n f) (e : ∀ j, j < n → f j = g j) : Byt w b n g := by
  obtain ⟨C, h, hn, hc⟩ := h
  exact ⟨C, h, hn, fun j hj => by rw [hc j hj, e j hj]⟩
theorem Byt.drew {w : World} {b n : Nat} {f : Nat → BitVec 8} (h : Byt w b n f) : Byt w.drew b n f := h
theorem Byt.new (w : World) (s : ByteArray) : Byt (Lib.bytesWorld w 5 s) w.heap.size s.size (byteAt s) := by
  refine ⟨_, Lib.bytesWorld_at_new w 5 s, ?_, fun j hj => ?_⟩
  · simp [Lib.bytesCells]
  · have hj2 : j < s.data.size := hj
    have e : byteAt s j = (s.data[j]'hj2).toBitVec := by
      have hl : j < (bts s).length := by rw [bts_length]; exact hj
      simp only [byteAt, List.getD_eq_getElem?_getD, List.getElem?_eq_getElem hl, Option.getD_some]
      simp only [bts, List.getElem_map]; rfl
    rw [e, Lib.bytesCells, Array.getElem?_append_left (by simpa using hj2)]
    rw [Array.getElem?_map, Array.getElem?_eq_getElem hj2]
    rfl
theorem below_bytesWorld (w : World) (e : TypeId) (s : ByteArray) : Below w.heap.size w (Lib.bytesWorld w e s) := by
  refine ⟨?_, ?_, ?_, by rw [Lib.bytesWorld_size]; omega, fun k hk => Lib.bytesWorld_at_old w e s k hk⟩ <;>
  · unfold Lib.bytesWorld World.freeze
    rw [if_neg (by decide)]
    rfl
end Go.Proofs.YtdpgebifeaakjaaDoor

/- Steps of a region that draws its order, and what such a region keeps. -/
namespace Go.Proofs.YtdpgebifeaakjaaDoor
set_option linter.unusedSimpArgs false
set_option linter.unusedVariables false
open Go.RowKit

/-- An array's load out of a range, run. -/
theorem exec_load_range {P : Program} {o : Oper} {w : World} (ρ : Operand → Value) (ty : TypeId) (x : Operand) (ho : o.op = .load ty x) (b off : Nat) (hx : ρ x = .pointer (some ⟨b, off, none⟩)) {C : Array Value} (hc : w.rangeAt b off C.toList) {d : TypeDesc} {n : Nat}
    (hu : P.underlying ty = some d) (hd : d.isRow = true) (hi : (P.info? ty).map (·.size) = some n) (hn : C.size = n) :
    (execOp ρ o).run P w = .ok (.value (.agg C)) w := by
  unfold execOp
  simp only [ho, hx, Instr.loadAt, Instr.sureAddr, Sem.run_bind, Sem.run_pure, Result.andThen_ok, run_loadVar_mid w b off ty C.toList d hc hu hd (by rw [Array.length_toList, hn]; exact hi), Array.toArray_toList]
/-- An operation taken first, its temporary named. -/
theorem take_at {P : Program} {md : Region.Mode} {ops : Array Oper} {Q : Exit → Act → World → Prop} {S : World → Prop} {i : Nat} {oi : Oper} {fuel : Nat} {listed : Array Bool} {t : Array Value} {df : List Deferred} {w : World} (d : Nat) (v : Value) (hi : ops[i]? = some oi) (hd : oi.dst = some d)
    (hs : Region.noSelect ops = true) (hf : Region.free md ops listed i = true) (hr : (Region.ready md ops listed).contains i = true)
    (hQ : ∀ c a w, Q (.panic c) (a.put oi.dst v) w → Q (.panic c) a w) (hy : YieldsIf P ops S oi v { tmps := t, defers := df }) (hS : S w)
    (h : wpAnyH P md ops Q S fuel (listed.setIfInBounds i true) { tmps := t.setIfInBounds d v, defers := df } w) : wpAnyH P md ops Q S (fuel + 1) listed { tmps := t, defers := df } w := by
  refine wpAnyH_take hi hs hf hr hQ hy hS ?_
  rw [hd]
  exact h
theorem rangeAt_below {W W' : World} {b o : Nat} {cs : List Value} (h : W.rangeAt b o cs) (hb : Below W.heap.size W W') : W'.rangeAt b o cs := fun j v hv => by
  have hc := h j v hv
  exact (hb.cell (p := ⟨b, o + j, none⟩) (World.block_lt_of_cell? W _ hc)).trans hc
theorem cell_below {W W' : World} {a : Addr} {v : Value} (h : W.cell? a = some v) (hb : Below W.heap.size W W') : W'.cell? a = some v :=
  (hb.cell (World.block_lt_of_cell? W _ h)).trans h
theorem Blk.rangeAt {w : World} {b : Nat} {n : Nat} {F : Nat → Value} {E : TypeId} (h : Blk w b (Row n F) E) (o m : Nat) (G : Nat → Value) (hm : o + m ≤ n) (e : ∀ j, j < m → F (o + j) = G j) : w.rangeAt b o (Row m G).toList := by
  intro j v hv
  have hj : j < m := by
    have := (List.getElem?_eq_some_iff.1 hv).1
    simpa [Row] using this
  rw [h.cell, Row.get _ (by omega), e j hj]
  rw [Array.getElem?_toList, Row.get _ hj] at hv
  exact hv
/-- A struct or an array is built: by a fact on the run. -/
theorem wp_buildL {P : Program} {ops : Array Oper} {rest : List Oper} {o : Oper} {a : Act} {w : World} {Q : Exit → Act → World → Prop} (hgd : o.guard = none) (t : TypeId) (parts : Array (Nat × Operand)) (ho : o.op = .build t parts)
    (vals : Array (Nat × Value)) (hv : parts.toList.map (fun p => (p.1, a.eval p.2)) = vals.toList) (v : Value) (hrun : ∀ w, (Instr.build t vals).run P w = .ok v w) (h : wpList P ops Q rest (a.put o.dst v) w) : wpList P ops Q (o :: rest) a w := by
  have e : (parts.map fun (i, x) => (i, a.eval x)) = vals := by
    rw [← Array.toList_inj, Array.toList_map]
    exact hv
  refine wpList_plain hgd fun K hK => ?_
  unfold Oper.wp execOp
  simp only [ho, Sem.run_bind, e, hrun, Result.andThen_ok]
  exact hK _ _ h
theorem eqRow_self {n : Nat} (f : Nat → BitVec 8) : eqRow n f f = true := (eqRow_iff n f f).2 fun _ _ => rfl
theorem tabC {w w' : World} (h : TabAt 3 Lib.deBruijn64tab w) (h3 : 3 < w.heap.size) (hb : Below w.heap.size w w') : TabAt 3 Lib.deBruijn64tab w' :=
  fun j hj => (hb.cell (p := ⟨3, j, none⟩) h3).trans (h j hj)
end Go.Proofs.YtdpgebifeaakjaaDoor

/- An array stored, as a step of a region that draws its order. -/
namespace Go.Proofs.YtdpgebifeaakjaaDoor
set_option linter.unusedSimpArgs false
set_option linter.unusedVariables false
open Go.RowKit

theorem wpo_storeRow {P : Program} {o : Oper} {a : Act} {w : World} {K : Act → World → Prop} {Q : Exit → Act → World → Prop} (ty : TypeId) (x y : Operand) (ho : o.op = .store ty x y)
    (b : Nat) (hx : a.eval x = .pointer (some ⟨b, 0, none⟩)) {C' : Array Value} (hy : a.eval y = .agg C') {t : TypeId} {C : Array Value} (hb : Blk w b C t) {n : Nat}
    (hi : (P.info? ty).map (·.size) = some n) (hn' : C'.size = n) (hn : C.size = n) (h1 : C'.all (·.oneCell') = true) (hdst : o.dst = none)
    (h : ∀ w', Upd b w w' → Blk w' b C' t → K a w') : Oper.wp P o a w K Q := by
  have hrun := run_storeVar_row (P := P) w b t ty C C' hb (hn' ▸ hi) (hn.trans hn'.symm) h1
  unfold Oper.wp execOp
  simp only [ho, hx, hy, Instr.storeAt, Instr.sureAddr, Sem.run_bind, Sem.run_pure, Result.andThen_ok, hrun]
  have h2 := h _ (Upd.setRow w b C') (hb.setRow C')
  simpa [go_sem, Oper.upon, hdst, Act.put] using h2
end Go.Proofs.YtdpgebifeaakjaaDoor

