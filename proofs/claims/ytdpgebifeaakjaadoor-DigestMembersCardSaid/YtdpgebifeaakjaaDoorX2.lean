/- Texts put together for one claim: part 2. -/
import Derived.Test.YtdpgebifeaakjaaDoorProg
import Derived.WalkKit
import Derived.WalkSpells
import Derived.WalkLawsBesides
import Derived.ChangeKeysEq
import Derived.Deep.RegionHeld3
import Derived.BigQuiet
import Derived.Deep.QuietTactic
import Derived.Deep.MidRow
import Derived.StillTailTactics
import Derived.Laws.AppendOwn
import Derived.Lib.ConvBytes
import Derived.Shelf.Spec.TrailingZeros
import Derived.Laws.FloatArith
import Derived.Laws.CopyOwn
import Derived.BigRegion
import Derived.Deep.Cut
import Derived.ArgAppend
import Derived.Shelf.Strconv.Itoa0
import Derived.RangeFuncNested
import Derived.RangeFuncBound
import Derived.RangeFuncCalls
import Derived.RangeFuncLeaves
import Derived.Shelf.Abstract
import Derived.OwnWalkIn
import Derived.TacticsInMore
import Derived.LoopNIn
import Derived.LoopIn
import Derived.RangeFuncBox
import Derived.Maps.AppendAt
import Derived.Laws.OwnMore
import Derived.Laws.StructEq
import Derived.Deep.RegionHeld
import Derived.Laws.BitsLemmas
import Derived.OwnWalk
import Derived.StillTactics
import Derived.Deep.AppendLies
import Derived.Test.YtdpgebifeaakjaaDoorRows
import Derived.ProofKit
import Derived.LaidMore
import Derived.OpenShut
import Derived.Stop.Joined
import Derived.Carry
import Derived.SevenTiedAt
import Derived.Deep.Slices
import Derived.Laws.AppendOwnNone
import Derived.Defers
import Derived.Recover
import Derived.Test.YtdpgebifeaakjaaDoorX1
/- Sha-256, first part. -/

/- The walks of the SHA functions: the multiplication, the powers, the root. -/
namespace Go.Proofs.YtdpgebifeaakjaaDoor
set_option linter.unusedSimpArgs false
set_option linter.unusedVariables false
open Go.RowKit

/-- The high and the low word of a product, as the code has them. -/
def mulHi (x y : BitVec 64) : BitVec 64 :=
  let x0 := x &&& 4294967295#64
  let x1 := x >>> 32
  let y0 := y &&& 4294967295#64
  let y1 := y >>> 32
  let t := x1 * y0 + (x0 * y0) >>> 32
  x1 * y1 + t >>> 32 + ((t &&& 4294967295#64) + x0 * y1) >>> 32
set_option maxHeartbeats 400000 in
theorem mul64_any (x y : BitVec 64) (w : World) :
    Calls Tryd.prog 126 #[U64 x, U64 y] w fun e w' => e = .returned (.tuple #[U64 (mulHi x y), U64 (x * y)]) ∧ w = w' := by
  go_enter Tryd.func126, Tryd.ntmps126
  go_wp2_with fail
  go_ret2
  exact ⟨rfl, rfl⟩
set_option maxHeartbeats 400000 in
theorem square_any (x : BitVec 64) (w : World) :
    Calls Tryd.prog 108 #[U64 x] w fun e w' => e = .returned (.tuple #[U64 (mulHi x x), U64 (x * x)]) ∧ w = w' := by
  go_enter Tryd.func108, Tryd.ntmps108
  go_wp2_with (go_at_call 126; refine (mul64_any _ _ _).mono ?_; rintro e w' ⟨rfl, rfl⟩)
  go_ret2
  exact ⟨rfl, rfl⟩
def cubeHi (x : BitVec 64) : BitVec 64 := mulHi (x * x) x + mulHi x x * x
set_option maxHeartbeats 400000 in
theorem cube_any (x : BitVec 64) (w : World) :
    Calls Tryd.prog 110 #[U64 x] w fun e w' => e = .returned (.tuple #[U64 (cubeHi x), U64 (x * x * x)]) ∧ w = w' := by
  go_enter Tryd.func110, Tryd.ntmps110
  go_wp2_with (go_at_call 126; refine (mul64_any _ _ _).mono ?_; rintro e w' ⟨rfl, rfl⟩)
  go_ret2
  exact ⟨rfl, rfl⟩

/-- Whether a power is above a limit. -/
def aboveB (hi lo limit : BitVec 64) : Bool := decide (n64 limit < n64 hi) || (hi == limit && decide (0 < n64 lo))
set_option maxRecDepth 20000 in
set_option maxHeartbeats 400000 in
theorem root1_square (x limit : BitVec 64) (b1 b2 : Nat) (w : World) (h1 : w.cell? ⟨b1, 0, none⟩ = some (.func (.func 108) #[] #[])) (h2 : w.cell? ⟨b2, 0, none⟩ = some (U64 limit)) :
    Calls Tryd.prog 124 #[U64 x, .pointer (some ⟨b1, 0, none⟩), .pointer (some ⟨b2, 0, none⟩)] w fun e w' => e = .returned (.bool (aboveB (mulHi x x) (x * x) limit)) ∧ w = w' := by
  obtain ⟨hi, hhi⟩ : ∃ hi, (mulHi x x) = hi := ⟨_, rfl⟩
  obtain ⟨lo, hlo⟩ : ∃ lo, (x * x) = lo := ⟨_, rfl⟩
  rw [hhi, hlo]
  have HHI := hide hhi; have HLO := hide hlo; clear hhi hlo
  by_cases ha : n64 limit < n64 hi
  · go_enter Tryd.func124, Tryd.ntmps124
    go_wp2_with (go_at_call 108; refine (square_any _ _).mono ?_; rintro e w' ⟨rfl, rfl⟩; rw [HHI.out, HLO.out])
    go_ret
    exact ⟨retBool (by simp [aboveB, ha]), rfl⟩
  · by_cases hb : (hi == limit) = true
    · have HB := hide hb
      by_cases hc : 0 < n64 lo
      · go_enter Tryd.func124, Tryd.ntmps124
        go_wp2_with (go_at_call 108; refine (square_any _ _).mono ?_; rintro e w' ⟨rfl, rfl⟩; rw [HHI.out, HLO.out])
        go_ret
        exact ⟨retBool (by simp [aboveB, HB.out, hc]), rfl⟩
      · go_enter Tryd.func124, Tryd.ntmps124
        go_wp2_with (go_at_call 108; refine (square_any _ _).mono ?_; rintro e w' ⟨rfl, rfl⟩; rw [HHI.out, HLO.out])
        go_ret
        refine ⟨retBool ?_, rfl⟩
        have h1 : decide (n64 limit < n64 hi) = false := decide_eq_false (by omega)
        have h2 : decide (0 < n64 lo) = false := decide_eq_false (by omega)
        simp only [aboveB, h1, h2, Bool.and_false, Bool.or_false]
    · have hb' : (hi == limit) = false := by simpa using hb
      have HB := hide hb'; clear hb
      go_enter Tryd.func124, Tryd.ntmps124
      go_wp2_with (go_at_call 108; refine (square_any _ _).mono ?_; rintro e w' ⟨rfl, rfl⟩; rw [HHI.out, HLO.out])
      go_ret
      refine ⟨retBool ?_, rfl⟩
      have h1 : decide (n64 limit < n64 hi) = false := decide_eq_false (by omega)
      simp only [aboveB, h1, HB.out, Bool.false_and, Bool.or_false]

set_option maxRecDepth 20000 in
set_option maxHeartbeats 400000 in
theorem root1_cube (x limit : BitVec 64) (b1 b2 : Nat) (w : World) (h1 : w.cell? ⟨b1, 0, none⟩ = some (.func (.func 110) #[] #[])) (h2 : w.cell? ⟨b2, 0, none⟩ = some (U64 limit)) :
    Calls Tryd.prog 124 #[U64 x, .pointer (some ⟨b1, 0, none⟩), .pointer (some ⟨b2, 0, none⟩)] w fun e w' => e = .returned (.bool (aboveB (cubeHi x) (x * x * x) limit)) ∧ w = w' := by
  obtain ⟨hi, hhi⟩ : ∃ hi, (cubeHi x) = hi := ⟨_, rfl⟩
  obtain ⟨lo, hlo⟩ : ∃ lo, (x * x * x) = lo := ⟨_, rfl⟩
  rw [hhi, hlo]
  have HHI := hide hhi; have HLO := hide hlo; clear hhi hlo
  by_cases ha : n64 limit < n64 hi
  · go_enter Tryd.func124, Tryd.ntmps124
    go_wp2_with (go_at_call 110; refine (cube_any _ _).mono ?_; rintro e w' ⟨rfl, rfl⟩; rw [HHI.out, HLO.out])
    go_ret
    exact ⟨retBool (by simp [aboveB, ha]), rfl⟩
  · by_cases hb : (hi == limit) = true
    · have HB := hide hb
      by_cases hc : 0 < n64 lo
      · go_enter Tryd.func124, Tryd.ntmps124
        go_wp2_with (go_at_call 110; refine (cube_any _ _).mono ?_; rintro e w' ⟨rfl, rfl⟩; rw [HHI.out, HLO.out])
        go_ret
        exact ⟨retBool (by simp [aboveB, HB.out, hc]), rfl⟩
      · go_enter Tryd.func124, Tryd.ntmps124
        go_wp2_with (go_at_call 110; refine (cube_any _ _).mono ?_; rintro e w' ⟨rfl, rfl⟩; rw [HHI.out, HLO.out])
        go_ret
        refine ⟨retBool ?_, rfl⟩
        have h1 : decide (n64 limit < n64 hi) = false := decide_eq_false (by omega)
        have h2 : decide (0 < n64 lo) = false := decide_eq_false (by omega)
        simp only [aboveB, h1, h2, Bool.and_false, Bool.or_false]
    · have hb' : (hi == limit) = false := by simpa using hb
      have HB := hide hb'; clear hb
      go_enter Tryd.func124, Tryd.ntmps124
      go_wp2_with (go_at_call 110; refine (cube_any _ _).mono ?_; rintro e w' ⟨rfl, rfl⟩; rw [HHI.out, HLO.out])
      go_ret
      refine ⟨retBool ?_, rfl⟩
      have h1 : decide (n64 limit < n64 hi) = false := decide_eq_false (by omega)
      simp only [aboveB, h1, HB.out, Bool.false_and, Bool.or_false]

end Go.Proofs.YtdpgebifeaakjaaDoor

/- The walks of the SHA functions: the root; the first primes. -/
namespace Go.Proofs.YtdpgebifeaakjaaDoor
set_option linter.unusedSimpArgs false
set_option linter.unusedVariables false
open Go.RowKit

set_option maxRecDepth 20000 in
set_option maxHeartbeats 400000 in
theorem root_square (gb : Nat) (x limit : BitVec 64) (hg : floatToIntVal .f64 gb .u64 = some (n64 x)) (ha : aboveB (mulHi x x) (x * x) limit = false) (hb : aboveB (mulHi (x + 1#64) (x + 1#64)) ((x + 1#64) * (x + 1#64)) limit = true) (w : World) :
    Calls Tryd.prog 106 #[.float .f64 gb, U64 limit, .func (.func 108) #[] #[]] w fun e w' => e = .returned (U32 (x.setWidth 32)) ∧ Below w.heap.size w w' := by
  have HA := hide ha; have HB := hide hb; clear ha hb
  have hmf : ∀ (fn : Fn) (first cap : Array Value) (w : World), (Instr.makeFunc fn first cap).run Tryd.prog w = .ok (.func fn first cap) w := fun _ _ _ _ => rfl
  have hcv := fun w : World => run_convert_float_int (P := Tryd.prog) w 163 159 .f64 .u64 gb _ (by rw [Tryd.underlying163]; rfl) Tryd.underlying159 hg
  clear hg
  have hc1 := (Blk.new (w.alloc (.cells #[U64 limit] 159)) #[.func (.func 108) #[] #[]] 165).cell 0
  have hc2 := ((Blk.new w #[U64 limit] 159).alloc (.cells #[.func (.func 108) #[] #[]] 165)).cell 0
  rw [World.size_alloc] at hc1
  have hB : Below w.heap.size w ((w.alloc (.cells #[U64 limit] 159)).alloc (.cells #[.func (.func 108) #[] #[]] 165)) := ((Below.refl _ _).alloc (Nat.le_refl _) _).alloc (by simp) _
  have HC1 := hide hc1; have HC2 := hide hc2; clear hc1 hc2
  go_enter Tryd.func106, Tryd.ntmps106
  go_wp2_with fail
  go_loop [8] (fun s8 => s8 = U64 x) (fun _ => 0)
  case atStart => rfl
  case round =>
    obtain rfl := hrel
    go_wp2_with (go_at_call 124; refine (root1_square x limit _ _ _ HC1.out HC2.out).mono ?_; rintro e w' ⟨rfl, rfl⟩; rw [HA.out])
    go_loop [8] (fun s8 => s8 = U64 x) (fun _ => 0)
    case atStart => rfl
    case round =>
      obtain rfl := hrel
      go_wp2_with (go_at_call 124; refine (root1_square (x + 1#64) limit _ _ _ HC1.out HC2.out).mono ?_; rintro e w' ⟨rfl, rfl⟩; rw [HB.out])
      go_ret
      exact ⟨rfl, hB⟩

set_option maxRecDepth 20000 in
set_option maxHeartbeats 400000 in
theorem root_cube (gb : Nat) (x limit : BitVec 64) (hg : floatToIntVal .f64 gb .u64 = some (n64 x)) (ha : aboveB (cubeHi x) (x * x * x) limit = false) (hb : aboveB (cubeHi (x + 1#64)) ((x + 1#64) * (x + 1#64) * (x + 1#64)) limit = true) (w : World) :
    Calls Tryd.prog 106 #[.float .f64 gb, U64 limit, .func (.func 110) #[] #[]] w fun e w' => e = .returned (U32 (x.setWidth 32)) ∧ Below w.heap.size w w' := by
  have HA := hide ha; have HB := hide hb; clear ha hb
  have hmf : ∀ (fn : Fn) (first cap : Array Value) (w : World), (Instr.makeFunc fn first cap).run Tryd.prog w = .ok (.func fn first cap) w := fun _ _ _ _ => rfl
  have hcv := fun w : World => run_convert_float_int (P := Tryd.prog) w 163 159 .f64 .u64 gb _ (by rw [Tryd.underlying163]; rfl) Tryd.underlying159 hg
  clear hg
  have hc1 := (Blk.new (w.alloc (.cells #[U64 limit] 159)) #[.func (.func 110) #[] #[]] 165).cell 0
  have hc2 := ((Blk.new w #[U64 limit] 159).alloc (.cells #[.func (.func 110) #[] #[]] 165)).cell 0
  rw [World.size_alloc] at hc1
  have hB : Below w.heap.size w ((w.alloc (.cells #[U64 limit] 159)).alloc (.cells #[.func (.func 110) #[] #[]] 165)) := ((Below.refl _ _).alloc (Nat.le_refl _) _).alloc (by simp) _
  have HC1 := hide hc1; have HC2 := hide hc2; clear hc1 hc2
  go_enter Tryd.func106, Tryd.ntmps106
  go_wp2_with fail
  go_loop [8] (fun s8 => s8 = U64 x) (fun _ => 0)
  case atStart => rfl
  case round =>
    obtain rfl := hrel
    go_wp2_with (go_at_call 124; refine (root1_cube x limit _ _ _ HC1.out HC2.out).mono ?_; rintro e w' ⟨rfl, rfl⟩; rw [HA.out])
    go_loop [8] (fun s8 => s8 = U64 x) (fun _ => 0)
    case atStart => rfl
    case round =>
      obtain rfl := hrel
      go_wp2_with (go_at_call 124; refine (root1_cube (x + 1#64) limit _ _ _ HC1.out HC2.out).mono ?_; rintro e w' ⟨rfl, rfl⟩; rw [HB.out])
      go_ret
      exact ⟨rfl, hB⟩


end Go.Proofs.YtdpgebifeaakjaaDoor

/- The walks of math.Sqrt and math.Cbrt, at the numbers that the SHA constants want. -/
namespace Go.Proofs.YtdpgebifeaakjaaDoor
set_option linter.unusedSimpArgs false
set_option linter.unusedVariables false
open Go.RowKit

theorem float64bits_run (b : Nat) (hb : b < 18446744073709551616) (w : World) : (callFunc 136 #[.float .f64 b]).run Tryd.prog w = .ok (.value (U64 (BitVec.ofNat 64 b))) w := by
  rw [run_callFunc_extern Tryd.func136 (by kernel_rfl) (by kernel_rfl) (by kernel_rfl) (e := Extern.MathFloatBits.float64bits) (by kernel_rfl)]
  have e : n64 (BitVec.ofNat 64 b) = (b : Int) := by unfold n64; rw [BitVec.toNat_ofNat, Nat.mod_eq_of_lt (by omega)]
  show _ = Result.ok (Next.value (.int .u64 (n64 (BitVec.ofNat 64 b)))) w
  rw [e]; rfl
/-- The float of these bits: behind a name, so that simp leaves it. -/
def fOf (v : BitVec 64) : Nat := v.toNat
theorem float64frombits_run (v : BitVec 64) (w : World) : (callFunc 135 #[U64 v]).run Tryd.prog w = .ok (.value (.float .f64 (fOf v))) w := by
  rw [run_callFunc_extern Tryd.func135 (by kernel_rfl) (by kernel_rfl) (by kernel_rfl) (e := Extern.MathFloatBits.float64frombits) (by kernel_rfl)]
  rfl
theorem sqrt_run (x r : Nat) (h : FloatKind.f64.format.sqrt x = some r) (w : World) : (callFunc 125 #[.float .f64 x]).run Tryd.prog w = .ok (.value (.float .f64 r)) w := by
  rw [run_callFunc_extern Tryd.func125 (by kernel_rfl) (by kernel_rfl) (by kernel_rfl) (e := Extern.MathSqrt.sqrt) (by kernel_rfl)]
  change ((match FloatKind.f64.format.sqrt x with | some r => (pure (.float .f64 r) : Sem Value) | none => do pure (.float .f64 (← choose (.nanBits .f64 x x)))).run Tryd.prog w).andThen _ = _
  rw [h]; rfl

set_option maxHeartbeats 400000 in
theorem sqrt_any (x r : Nat) (h : FloatKind.f64.format.sqrt x = some r) (w : World) :
    Calls Tryd.prog 107 #[.float .f64 x] w fun e w' => e = .returned (.float .f64 r) ∧ w = w' := by
  have hr := sqrt_run x r h
  clear h
  go_enter Tryd.func107, Tryd.ntmps107
  go_wp2_with fail
  go_ret
  exact ⟨rfl, rfl⟩

/-- A positive finite number that is not too small. -/
def plainB (x : Nat) : Bool := (FloatKind.f64.format.order x 0 == some .eq) == false && (FloatKind.f64.format.order x x != some .eq) == false && (FloatKind.f64.format.order x 0 == some .lt) == false && (FloatKind.f64.format.order x 4503599627370496 == some .lt) == false && (FloatKind.f64.format.order x 9218868437227405311 == some .gt) == false && decide (x < 9223372036854775808)

set_option maxHeartbeats 400000 in
theorem isNaN_any (x : Nat) (h : (FloatKind.f64.format.order x x != some .eq) = false) (w : World) :
    Calls Tryd.prog 133 #[.float .f64 x] w fun e w' => e = .returned (.bool false) ∧ w = w' := by
  go_enter Tryd.func133, Tryd.ntmps133
  go_wp2_with fail
  go_ret
  exact ⟨rfl, rfl⟩
theorem abs_bits (x : Nat) (h : x < 9223372036854775808) : fOf (BitVec.ofNat 64 x &&& 9223372036854775807#64) = x := by
  unfold fOf
  rw [BitVec.toNat_and, BitVec.toNat_ofNat, Nat.mod_eq_of_lt (show x < 2 ^ 64 by omega)]
  show x &&& (2 ^ 63 - 1) = x
  rw [Nat.and_two_pow_sub_one_eq_mod, Nat.mod_eq_of_lt (by omega)]
set_option maxRecDepth 20000 in
set_option maxHeartbeats 400000 in
theorem abs_any (x : Nat) (h : x < 9223372036854775808) (w : World) :
    Calls Tryd.prog 137 #[.float .f64 x] w fun e w' => e = .returned (.float .f64 x) ∧ w = w' := by
  have hb := float64bits_run x (by omega)
  have hfb := fun v => float64frombits_run v
  have ha := abs_bits x h
  go_enter Tryd.func137, Tryd.ntmps137
  have HA := hide ha; clear ha
  go_wp2_with fail
  go_ret
  refine ⟨?_, rfl⟩
  show Ending.returned (.float .f64 (fOf (BitVec.ofNat 64 x &&& 9223372036854775807#64))) = _
  rw [HA.out]
set_option maxRecDepth 20000 in
set_option maxHeartbeats 400000 in
theorem isInf_any (x : Nat) (h : x < 9223372036854775808) (hm : (FloatKind.f64.format.order x 9218868437227405311 == some .gt) = false) (w : World) :
    Calls Tryd.prog 134 #[.float .f64 x, .int .i64 0] w fun e w' => e = .returned (.bool false) ∧ w = w' := by
  go_enter Tryd.func134, Tryd.ntmps134
  go_wp2_with (go_at_call 137; refine (abs_any x h _).mono ?_; rintro e w' ⟨rfl, rfl⟩)
  go_ret
  exact ⟨rfl, rfl⟩

set_option maxRecDepth 100000 in
set_option maxHeartbeats 1000000 in
theorem cbrt_any (x a r b s c d e1 f g t1 s2 r2 w2 hh i2 r3 j z : Nat) (hx : x < 9223372036854775808) (p1 : (FloatKind.f64.format.order x 0 == some .eq) = false) (p2 : (FloatKind.f64.format.order x x != some .eq) = false) (p3 : (FloatKind.f64.format.order x 0 == some .lt) = false) (p4 : (FloatKind.f64.format.order x 4503599627370496 == some .lt) = false) (p5 : (FloatKind.f64.format.order x 9218868437227405311 == some .gt) = false)
    (h0 : floatBits .mul .f64 (fOf (BitVec.ofNat 64 x / 3#64 + 3071306043645493248#64)) (fOf (BitVec.ofNat 64 x / 3#64 + 3071306043645493248#64)) = some a) (h1 : floatBits .quo .f64 a x = some r) (h2 : floatBits .mul .f64 r (fOf (BitVec.ofNat 64 x / 3#64 + 3071306043645493248#64)) = some b) (h3 : floatBits .add .f64 4603064841997850097 b = some s) (h4 : floatBits .add .f64 s 4609048195788499471 = some c) (h5 : floatBits .quo .f64 13827900089180538932 s = some d) (h6 : floatBits .add .f64 c d = some e1) (h7 : floatBits .quo .f64 4609916747145206638 e1 = some f) (h8 : floatBits .add .f64 4600105333671292343 f = some g) (h9 : floatBits .mul .f64 (fOf (BitVec.ofNat 64 x / 3#64 + 3071306043645493248#64)) g = some t1) (h10 : floatBits .mul .f64 (fOf ((BitVec.ofNat 64 t1 &&& 18446744072635809792#64) + 1073741824#64)) (fOf ((BitVec.ofNat 64 t1 &&& 18446744072635809792#64) + 1073741824#64)) = some s2) (h11 : floatBits .quo .f64 x s2 = some r2) (h12 : floatBits .add .f64 (fOf ((BitVec.ofNat 64 t1 &&& 18446744072635809792#64) + 1073741824#64)) (fOf ((BitVec.ofNat 64 t1 &&& 18446744072635809792#64) + 1073741824#64)) = some w2) (h13 : floatBits .sub .f64 r2 (fOf ((BitVec.ofNat 64 t1 &&& 18446744072635809792#64) + 1073741824#64)) = some hh) (h14 : floatBits .add .f64 w2 r2 = some i2) (h15 : floatBits .quo .f64 hh i2 = some r3) (h16 : floatBits .mul .f64 (fOf ((BitVec.ofNat 64 t1 &&& 18446744072635809792#64) + 1073741824#64)) r3 = some j) (h17 : floatBits .add .f64 (fOf ((BitVec.ofNat 64 t1 &&& 18446744072635809792#64) + 1073741824#64)) j = some z) (ht1 : t1 < 18446744073709551616) (w : World) :
    Calls Tryd.prog 128 #[.float .f64 x] w fun e w' => e = .returned (.float .f64 z) ∧ w = w' := by
  have q0 := fun w : World => run_float_arith (P := Tryd.prog) w .mul 163 .f64 _ _ a h0
  have q1 := fun w : World => run_float_arith (P := Tryd.prog) w .quo 163 .f64 _ _ r h1
  have q2 := fun w : World => run_float_arith (P := Tryd.prog) w .mul 163 .f64 _ _ b h2
  have q3 := fun w : World => run_float_arith (P := Tryd.prog) w .add 163 .f64 _ _ s h3
  have q4 := fun w : World => run_float_arith (P := Tryd.prog) w .add 163 .f64 _ _ c h4
  have q5 := fun w : World => run_float_arith (P := Tryd.prog) w .quo 163 .f64 _ _ d h5
  have q6 := fun w : World => run_float_arith (P := Tryd.prog) w .add 163 .f64 _ _ e1 h6
  have q7 := fun w : World => run_float_arith (P := Tryd.prog) w .quo 163 .f64 _ _ f h7
  have q8 := fun w : World => run_float_arith (P := Tryd.prog) w .add 163 .f64 _ _ g h8
  have q9 := fun w : World => run_float_arith (P := Tryd.prog) w .mul 163 .f64 _ _ t1 h9
  have q10 := fun w : World => run_float_arith (P := Tryd.prog) w .mul 163 .f64 _ _ s2 h10
  have q11 := fun w : World => run_float_arith (P := Tryd.prog) w .quo 163 .f64 _ _ r2 h11
  have q12 := fun w : World => run_float_arith (P := Tryd.prog) w .add 163 .f64 _ _ w2 h12
  have q13 := fun w : World => run_float_arith (P := Tryd.prog) w .sub 163 .f64 _ _ hh h13
  have q14 := fun w : World => run_float_arith (P := Tryd.prog) w .add 163 .f64 _ _ i2 h14
  have q15 := fun w : World => run_float_arith (P := Tryd.prog) w .quo 163 .f64 _ _ r3 h15
  have q16 := fun w : World => run_float_arith (P := Tryd.prog) w .mul 163 .f64 _ _ j h16
  have q17 := fun w : World => run_float_arith (P := Tryd.prog) w .add 163 .f64 _ _ z h17
  clear h0 h1 h2 h3 h4 h5 h6 h7 h8 h9 h10 h11 h12 h13 h14 h15 h16 h17
  have hb := float64bits_run x (by omega)
  have hb1 := float64bits_run t1 ht1
  have hfb := fun v => float64frombits_run v
  clear ht1
  go_enter Tryd.func128, Tryd.ntmps128
  go_wp2_with (first | (go_at_call 133; refine (isNaN_any x p2 _).mono ?_; rintro e w' ⟨rfl, rfl⟩) | (go_at_call 134; refine (isInf_any x hx p5 _).mono ?_; rintro e w' ⟨rfl, rfl⟩))
  go_ret
  exact ⟨rfl, rfl⟩

/-- math.cbrt at a plain number. -/
def cbrtS (x : Nat) : Option Nat :=
  let t := fOf (BitVec.ofNat 64 x / 3#64 + 3071306043645493248#64)
  (floatBits .mul .f64 t t).bind fun a => (floatBits .quo .f64 a x).bind fun r => (floatBits .mul .f64 r t).bind fun b => (floatBits .add .f64 4603064841997850097 b).bind fun s =>
  (floatBits .add .f64 s 4609048195788499471).bind fun c => (floatBits .quo .f64 13827900089180538932 s).bind fun d => (floatBits .add .f64 c d).bind fun e => (floatBits .quo .f64 4609916747145206638 e).bind fun f =>
  (floatBits .add .f64 4600105333671292343 f).bind fun g => (floatBits .mul .f64 t g).bind fun t1 =>
  let t2 := fOf ((BitVec.ofNat 64 t1 &&& 18446744072635809792#64) + 1073741824#64)
  (floatBits .mul .f64 t2 t2).bind fun s2 => (floatBits .quo .f64 x s2).bind fun r2 => (floatBits .add .f64 t2 t2).bind fun w2 => (floatBits .sub .f64 r2 t2).bind fun h =>
  (floatBits .add .f64 w2 r2).bind fun i => (floatBits .quo .f64 h i).bind fun r3 => (floatBits .mul .f64 t2 r3).bind fun j => floatBits .add .f64 t2 j

set_option maxRecDepth 100000 in
theorem cbrtS_any (x z : Nat) (hp : plainB x = true) (h : cbrtS x = some z) (w : World) :
    Calls Tryd.prog 128 #[.float .f64 x] w fun e w' => e = .returned (.float .f64 z) ∧ w = w' := by
  simp only [cbrtS, Option.bind_eq_some_iff] at h
  obtain ⟨a, h0, r, h1, b, h2, s, h3, c, h4, d, h5, e, h6, f, h7, g, h8, t1, h9, s2, h10, r2, h11, w2, h12, hh, h13, i, h14, r3, h15, j, h16, h17⟩ := h
  simp only [plainB, Bool.and_eq_true, beq_iff_eq, decide_eq_true_eq] at hp
  obtain ⟨⟨⟨⟨⟨p1, p2⟩, p3⟩, p4⟩, p5⟩, p6⟩ := hp
  refine cbrt_any x a r b s c d e f g t1 s2 r2 w2 hh i r3 j z p6 (by simpa using p1) (by simpa using p2) (by simpa using p3) (by simpa using p4) (by simpa using p5) h0 h1 h2 h3 h4 h5 h6 h7 h8 h9 h10 h11 h12 h13 h14 h15 h16 h17 ?_ w
  exact FloatKind.f64.format.mul_lt h9

set_option maxHeartbeats 400000 in
theorem cbrt2_any (x z : Nat) (hp : plainB x = true) (h : cbrtS x = some z) (w : World) :
    Calls Tryd.prog 109 #[.float .f64 x] w fun e w' => e = .returned (.float .f64 z) ∧ w = w' := by
  have H : ∀ w, Calls Tryd.prog 128 #[.float .f64 x] w fun e w' => e = .returned (.float .f64 z) ∧ w = w' := cbrtS_any x z hp h
  clear hp h
  have HH := hide H; clear H
  go_enter Tryd.func109, Tryd.ntmps109
  go_wp2_with (go_at_call 128; refine (HH.out _).mono ?_; rintro e w' ⟨rfl, rfl⟩)
  go_ret
  exact ⟨rfl, rfl⟩

end Go.Proofs.YtdpgebifeaakjaaDoor

/- The walks of the SHA functions: the first primes. -/
namespace Go.Proofs.YtdpgebifeaakjaaDoor
set_option linter.unusedSimpArgs false
set_option linter.unusedVariables false
open Go.RowKit

def primeList : List Nat := [2, 3, 5, 7, 11, 13, 17, 19, 23, 29, 31, 37, 41, 43, 47, 53, 59, 61, 67, 71, 73, 79, 83, 89, 97, 101, 103, 107, 109, 113, 127, 131, 137, 139, 149, 151, 157, 163, 167, 173, 179, 181, 191, 193, 197, 199, 211, 223, 227, 229, 233, 239, 241, 251, 257, 263, 269, 271, 277, 281, 283, 293, 307, 311]
def primeN (i : Nat) : Nat := primeList.getD i 0
def primeAt (i : Nat) : BitVec 64 := BitVec.ofNat 64 (primeN i)
/-- How many of them are below x. -/
def cnt (x : Nat) : Nat := (primeList.filter fun p => decide (p < x)).length
/-- Does one of the first n of them divide x? -/
def hasDiv (x n : Nat) : Bool := (List.range n).any fun i => x % primeN i == 0

theorem cnt_facts : ∀ x, x < 312 → 2 ≤ x → cnt x < 64 ∧ (if hasDiv x (cnt x) = true then cnt (x + 1) = cnt x else (primeN (cnt x) = x ∧ cnt (x + 1) = cnt x + 1)) := by decide +kernel
theorem cnt_top : cnt 312 = 64 := by decide +kernel
theorem prime_ne : ∀ i, i < 64 → primeN i ≠ 0 ∧ primeN i < 312 := by decide +kernel
set_option maxRecDepth 20000 in
@[go_sem] theorem lit160 : (#[Value.int .u64 0, Value.int .u64 0, Value.int .u64 0, Value.int .u64 0, Value.int .u64 0, Value.int .u64 0, Value.int .u64 0, Value.int .u64 0, Value.int .u64 0, Value.int .u64 0, Value.int .u64 0, Value.int .u64 0, Value.int .u64 0, Value.int .u64 0, Value.int .u64 0, Value.int .u64 0, Value.int .u64 0, Value.int .u64 0, Value.int .u64 0, Value.int .u64 0, Value.int .u64 0, Value.int .u64 0, Value.int .u64 0, Value.int .u64 0, Value.int .u64 0, Value.int .u64 0, Value.int .u64 0, Value.int .u64 0, Value.int .u64 0, Value.int .u64 0, Value.int .u64 0, Value.int .u64 0, Value.int .u64 0, Value.int .u64 0, Value.int .u64 0, Value.int .u64 0, Value.int .u64 0, Value.int .u64 0, Value.int .u64 0, Value.int .u64 0, Value.int .u64 0, Value.int .u64 0, Value.int .u64 0, Value.int .u64 0, Value.int .u64 0, Value.int .u64 0, Value.int .u64 0, Value.int .u64 0, Value.int .u64 0, Value.int .u64 0, Value.int .u64 0, Value.int .u64 0, Value.int .u64 0, Value.int .u64 0, Value.int .u64 0, Value.int .u64 0, Value.int .u64 0, Value.int .u64 0, Value.int .u64 0, Value.int .u64 0, Value.int .u64 0, Value.int .u64 0, Value.int .u64 0, Value.int .u64 0] : Array Value) = A64 64 fun _ => 0#64 := by kernel_rfl
theorem primeAt_ne (j : Nat) (h : j < 64) : primeAt j ≠ 0#64 := by
  have := prime_ne j h
  intro e
  have e2 := congrArg BitVec.toNat e
  rw [primeAt, BitVec.toNat_ofNat, Nat.mod_eq_of_lt (by omega)] at e2
  exact this.1 (by simpa using e2)
theorem rem_prime (x j : Nat) (hx : x ≤ 312) (h : j < 64) : BitVec.ofNat 64 x % primeAt j = BitVec.ofNat 64 (x % primeN j) := by
  have := prime_ne j h
  have hm : x % primeN j ≤ x := Nat.mod_le _ _
  apply BitVec.eq_of_toNat_eq
  rw [BitVec.toNat_umod, primeAt, BitVec.toNat_ofNat, BitVec.toNat_ofNat, BitVec.toNat_ofNat, Nat.mod_eq_of_lt (show x < 2 ^ 64 by omega), Nat.mod_eq_of_lt (show primeN j < 2 ^ 64 by omega), Nat.mod_eq_of_lt (show x % primeN j < 2 ^ 64 by omega)]
theorem rem_prime_beq (x j : Nat) (hx : x ≤ 312) (h : j < 64) (hd : ¬ x % primeN j = 0) : (BitVec.ofNat 64 x % primeAt j == 0#64) = false := by
  have hm : x % primeN j ≤ x := Nat.mod_le _ _
  rw [rem_prime x j hx h, beq_eq_false_iff_ne]
  intro e
  have e2 := congrArg BitVec.toNat e
  rw [BitVec.toNat_ofNat, Nat.mod_eq_of_lt (show x % primeN j < 2 ^ 64 by omega)] at e2
  exact hd (by simpa using e2)
theorem hasDiv_yes {x n j : Nat} (hj : j < n) (hd : x % primeN j = 0) : hasDiv x n = true := by
  rw [hasDiv, List.any_eq_true]
  exact ⟨j, by simpa using hj, by simpa using hd⟩
theorem hasDiv_no {x n : Nat} (h : ∀ i, i < n → x % primeN i ≠ 0) : hasDiv x n = false := by
  rw [hasDiv, List.any_eq_false]
  intro i hi
  simpa using h i (by simpa using hi)
theorem intOf_x (x : Nat) (h : x ≤ 312) : intOf (U64 (BitVec.ofNat 64 x)) = x := by
  show (((BitVec.ofNat 64 x).toNat : Nat) : Int) = x
  rw [BitVec.toNat_ofNat, Nat.mod_eq_of_lt (by omega)]
theorem size160 : (Tryd.prog.info? 160).map (·.size) = some 64 := by kernel_rfl

set_option maxRecDepth 20000 in
set_option maxHeartbeats 1000000 in
theorem primes_any (w : World) :
    Calls Tryd.prog 105 #[] w fun e w' => e = .returned (.agg (A64 64 primeAt)) ∧ Below w.heap.size w w' := by
  go_enter Tryd.func105, Tryd.ntmps105
  go_wp2_with fail
  go_step3
  go_wp2_with fail
  go_step3
  go_wp2_with fail
  go_loopw [1, 2] (fun s1 s2 W => ∃ x : Nat, 2 ≤ x ∧ x ≤ 312 ∧ s1 = .int .i64 (cnt x : Int) ∧ s2 = U64 (BitVec.ofNat 64 x) ∧ Blk W w.heap.size (A64 64 fun i => if i < cnt x then primeAt i else 0#64) 160 ∧ Below w.heap.size w W) (fun _ s2 _ => 312 - (intOf s2).toNat)
  case atStart => exact ⟨2, by omega, by omega, rfl, rfl, Blk.new _ _ _, (Below.refl _ _).alloc (Nat.le_refl _) _⟩
  case round =>
    obtain ⟨x, hx2, hx, rfl, rfl, hb, hB⟩ := hrel
    by_cases hlt : x < 312
    · obtain ⟨hn, hnext⟩ := cnt_facts x hlt hx2
      have HN := hide hnext; clear hnext
      obtain ⟨n, hne⟩ : ∃ n, cnt x = n := ⟨_, rfl⟩
      rw [hne] at hn hb HN ⊢
      have HNE := hide hne; clear hne
      have hn1 : (n : Int) < 64 := by omega
      have hsl := sliceAt_arr_h (P := Tryd.prog) Tryd.underlying160 Tryd.sizeOf159 ⟨w.heap.size, 0, none⟩ .i64 n (by omega)
      have hcs : ∀ j, wr.cell? ⟨w.heap.size, j, none⟩ = (A64 64 fun i => if i < n then primeAt i else 0#64)[j]? := hb.cell
      have HCS := hide hcs; clear hcs
      go_wp2_with fail
      go_loop [12] (fun s12 => ∃ j : Nat, j ≤ n ∧ s12 = .int .i64 j ∧ ∀ i, i < j → x % primeN i ≠ 0) (fun s12 => n - (intOf s12).toNat)
      case atStart => exact ⟨0, by omega, rfl, fun i hi => absurd hi (by omega)⟩
      case round =>
        obtain ⟨j, hj, rfl, hdiv⟩ := hrel
        have HD := hide hdiv; clear hdiv
        by_cases hjn : j < n
        · have hj1 : (j : Int) < (n : Int) := by omega
          have hcell : wr.cell? ⟨w.heap.size, j, none⟩ = some (U64 (primeAt j)) := by rw [HCS.out, A64.get _ (by omega), if_pos hjn]
          have hpr : primeAt j ≠ 0#64 := primeAt_ne j (by omega)
          by_cases hd : x % primeN j = 0
          · have hbit : (BitVec.ofNat 64 x % primeAt j == 0#64) = true := by rw [rem_prime x j (by omega) (by omega), hd]; rfl
            go_wp2_with fail
            have hc1 : cnt (x + 1) = n := by have h := HN.out; rw [if_pos (hasDiv_yes hjn hd)] at h; exact h
            refine ⟨⟨x + 1, by omega, by omega, by rw [hc1], by rw [BitVec.ofNat_add], by rw [hc1]; exact hb, hB⟩, ?_⟩
            rw [← BitVec.ofNat_add, intOf_x _ (by omega), intOf_x _ (by omega)]; omega
          · have hbit : (BitVec.ofNat 64 x % primeAt j == 0#64) = false := by
              exact rem_prime_beq x j (by omega) (by omega) hd
            go_wp2_with fail
            refine ⟨⟨j + 1, by omega, by go_num, fun i hi => ?_⟩, by simp [intOf]; omega⟩
            by_cases e : i = j
            · subst e; exact hd
            · exact HD.out i (by omega)
        · have hj1 : ¬ (j : Int) < (n : Int) := by omega
          have hno : hasDiv x n = false := hasDiv_no fun i hi => HD.out i (by omega)
          have hcell : wr.cell? ⟨w.heap.size, n, none⟩ = some (U64 0#64) := by rw [HCS.out, A64.get _ (by omega), if_neg (by omega)]
          have hf := hb.free n
          have HNO := hide hno; clear hno
          go_wp2_with fail
          have h := HN.out
          rw [if_neg (by rw [HNO.out]; decide)] at h
          have hb' := hb.set n (U64 (primeAt n))
          rw [A64.step] at hb'
          have hpx : primeAt n = BitVec.ofNat 64 x := by rw [primeAt, h.1]
          rw [hpx] at hb'
          refine ⟨⟨x + 1, by omega, by omega, by rw [h.2]; go_num, by rw [BitVec.ofNat_add], by rw [h.2]; exact hb', hB.setCell (p := ⟨w.heap.size, n, none⟩) (Nat.le_refl _) _⟩, ?_⟩
          rw [← BitVec.ofNat_add, intOf_x _ (by omega), intOf_x _ (by omega)]; omega
    · obtain rfl : x = 312 := by omega
      rw [cnt_top] at hb ⊢
      go_wp2_with (first | (refine wp_loadRow rfl 160 _ rfl _ rfl hb Tryd.underlying160 rfl size160 (A64.size _ _) ?_) | (refine wp_storeRow rfl 160 _ _ rfl _ rfl rfl hb size160 (A64.size _ _) (A64.size _ _) (A64.one _) rfl ?_; intro W1 hu hb1))
      rw [Exit.noGoto_ret]
      refine ret_row rfl w.heap.size rfl hb1 Tryd.underlying160 rfl size160 (A64.size _ _) rfl ⟨?_, hu.below hB (Nat.le_refl _)⟩
      rw [A64.ext (fill_all _ _)]
end Go.Proofs.YtdpgebifeaakjaaDoor

/- The constants of SHA-256, as the program reckons them: the numbers alone. -/
namespace Go.Proofs.YtdpgebifeaakjaaDoor
set_option linter.unusedSimpArgs false
set_option linter.unusedVariables false
open Go.RowKit

def startList : List Nat := [0x6a09e667, 0xbb67ae85, 0x3c6ef372, 0xa54ff53a, 0x510e527f, 0x9b05688c, 0x1f83d9ab, 0x5be0cd19]
def roundList : List Nat := [
  0x428a2f98, 0x71374491, 0xb5c0fbcf, 0xe9b5dba5, 0x3956c25b, 0x59f111f1, 0x923f82a4, 0xab1c5ed5,
  0xd807aa98, 0x12835b01, 0x243185be, 0x550c7dc3, 0x72be5d74, 0x80deb1fe, 0x9bdc06a7, 0xc19bf174,
  0xe49b69c1, 0xefbe4786, 0x0fc19dc6, 0x240ca1cc, 0x2de92c6f, 0x4a7484aa, 0x5cb0a9dc, 0x76f988da,
  0x983e5152, 0xa831c66d, 0xb00327c8, 0xbf597fc7, 0xc6e00bf3, 0xd5a79147, 0x06ca6351, 0x14292967,
  0x27b70a85, 0x2e1b2138, 0x4d2c6dfc, 0x53380d13, 0x650a7354, 0x766a0abb, 0x81c2c92e, 0x92722c85,
  0xa2bfe8a1, 0xa81a664b, 0xc24b8b70, 0xc76c51a3, 0xd192e819, 0xd6990624, 0xf40e3585, 0x106aa070,
  0x19a4c116, 0x1e376c08, 0x2748774c, 0x34b0bcb5, 0x391c0cb3, 0x4ed8aa4a, 0x5b9cca4f, 0x682e6ff3,
  0x748f82ee, 0x78a5636f, 0x84c87814, 0x8cc70208, 0x90befffa, 0xa4506ceb, 0xbef9a3f7, 0xc67178f2]
def startK (i : Nat) : BitVec 32 := BitVec.ofNat 32 (startList.getD i 0)
def roundK (i : Nat) : BitVec 32 := BitVec.ofNat 32 (roundList.getD i 0)

def fp (i : Nat) : Nat := floatOfInt .f64 (n64 (primeAt i))
def sqC (i : Nat) : Nat := (FloatKind.f64.format.sqrt (fp i)).getD 0
def sqG (i : Nat) : Nat := (floatBits .mul .f64 (sqC i) 4751297606875873280).getD 0
def sqX (i : Nat) : BitVec 64 := BitVec.ofInt 64 ((floatToIntVal .f64 (sqG i) .u64).getD 0)
def cuC (i : Nat) : Nat := (cbrtS (fp i)).getD 0
def cuG (i : Nat) : Nat := (floatBits .mul .f64 (cuC i) 4751297606875873280).getD 0
def cuX (i : Nat) : BitVec 64 := BitVec.ofInt 64 ((floatToIntVal .f64 (cuG i) .u64).getD 0)

theorem start_facts : ∀ i, i < 8 → FloatKind.f64.format.sqrt (fp i) = some (sqC i) ∧ floatBits .mul .f64 (sqC i) 4751297606875873280 = some (sqG i) ∧ floatToIntVal .f64 (sqG i) .u64 = some (n64 (sqX i)) ∧
    aboveB (mulHi (sqX i) (sqX i)) (sqX i * sqX i) (primeAt i) = false ∧ aboveB (mulHi (sqX i + 1#64) (sqX i + 1#64)) ((sqX i + 1#64) * (sqX i + 1#64)) (primeAt i) = true ∧ (sqX i).setWidth 32 = startK i := by decide +kernel
theorem round_facts : ∀ i, i < 64 → plainB (fp i) = true ∧ cbrtS (fp i) = some (cuC i) ∧ floatBits .mul .f64 (cuC i) 4751297606875873280 = some (cuG i) ∧ floatToIntVal .f64 (cuG i) .u64 = some (n64 (cuX i)) ∧
    aboveB (cubeHi (cuX i)) (cuX i * cuX i * cuX i) (primeAt i <<< 32) = false ∧ aboveB (cubeHi (cuX i + 1#64)) ((cuX i + 1#64) * (cuX i + 1#64) * (cuX i + 1#64)) (primeAt i <<< 32) = true ∧ (cuX i).setWidth 32 = roundK i := by decide +kernel
end Go.Proofs.YtdpgebifeaakjaaDoor

/- The compression function of SHA-256: what it computes, and small walks. -/
namespace Go.Proofs.YtdpgebifeaakjaaDoor
set_option linter.unusedSimpArgs false
set_option linter.unusedVariables false
open Go.RowKit

def rotK (k : Int) : BitVec 64 := BitVec.ofInt 64 k &&& 31#64
/-- RotateLeft32, as the code has it. -/
def rotS (x : BitVec 32) (k : Int) : BitVec 32 := x <<< (n64 (rotK k)).toNat ||| x >>> (n64 (32#64 - rotK k)).toNat
set_option maxHeartbeats 400000 in
theorem rot_any (x : BitVec 32) (k : Int) (w : World) :
    Calls Tryd.prog 129 #[U32 x, .int .i64 k] w fun e w' => e = .returned (U32 (rotS x k)) ∧ w = w' := by
  go_enter Tryd.func129, Tryd.ntmps129
  go_wp2_with fail
  go_ret
  exact ⟨rfl, rfl⟩

/-- The words of a block, one by one. -/
def wordAt (s : List (BitVec 8)) (t : Nat) : BitVec 32 :=
  (s.getD (4 * t) 0#8).setWidth 32 <<< 24 ||| (s.getD (4 * t + 1) 0#8).setWidth 32 <<< 16 ||| (s.getD (4 * t + 2) 0#8).setWidth 32 <<< 8 ||| (s.getD (4 * t + 3) 0#8).setWidth 32
def sig0 (x : BitVec 32) : BitVec 32 := rotS x (-7) ^^^ rotS x (-18) ^^^ x >>> 3
def sig1 (x : BitVec 32) : BitVec 32 := rotS x (-17) ^^^ rotS x (-19) ^^^ x >>> 10
def wNew (s : List (BitVec 8)) (f : Nat → BitVec 32) (t : Nat) : BitVec 32 :=
  if t < 16 then wordAt s t else f (t - 16) + sig0 (f (t - 15)) + f (t - 7) + sig1 (f (t - 2))
def sched (s : List (BitVec 8)) : Nat → Nat → BitVec 32
  | 0 => fun _ => 0#32
  | t + 1 => fun i => if i = t then wNew s (sched s t) t else sched s t i
/-- One round. -/
def shaX (k w : BitVec 32) (v : Nat → BitVec 32) : BitVec 32 :=
  v 7 + (rotS (v 4) (-6) ^^^ rotS (v 4) (-11) ^^^ rotS (v 4) (-25)) + (v 4 &&& v 5 ^^^ ~~~v 4 &&& v 6) + k + w
def shaY (v : Nat → BitVec 32) : BitVec 32 :=
  (rotS (v 0) (-2) ^^^ rotS (v 0) (-13) ^^^ rotS (v 0) (-22)) + (v 0 &&& v 1 ^^^ v 0 &&& v 2 ^^^ v 1 &&& v 2)
def shaRound (k w : BitVec 32) (v : Nat → BitVec 32) (i : Nat) : BitVec 32 :=
  match i with
  | 0 => shaX k w v + shaY v
  | 4 => v 3 + shaX k w v
  | j + 1 => v j
def shaRounds (k w : Nat → BitVec 32) : Nat → (Nat → BitVec 32) → (Nat → BitVec 32)
  | 0, v => v
  | t + 1, v => shaRound (k t) (w t) (shaRounds k w t v)
/-- A block processed. -/
def shaBlock (k h : Nat → BitVec 32) (s : List (BitVec 8)) (i : Nat) : BitVec 32 := h i + shaRounds k (sched s 64) 64 h i

/-- The cells of a hasher. -/
def hasherC (h : Nat → BitVec 32) (rest : ByteArray) (len : Int) (k : Nat → BitVec 32) : Array Value :=
  Row 74 fun i => if i < 8 then U32 (h i) else if i = 8 then .string rest else if i = 9 then .int .i64 len else U32 (k (i - 10))

theorem hasherC_set (h : Nat → BitVec 32) (rest : ByteArray) (len : Int) (k : Nat → BitVec 32) (j : Nat) (hj : j < 8) (x : BitVec 32) :
    (hasherC h rest len k).setIfInBounds j (U32 x) = hasherC (fun i => if i = j then x else h i) rest len k := by
  unfold hasherC
  rw [Row.set]
  apply Row.ext
  intro i _
  try dsimp only
  by_cases e : i = j
  · subst e; rw [if_pos rfl, if_pos hj, if_pos rfl]
  · rw [if_neg e, if_neg e]
theorem hasherC_ext {h h' : Nat → BitVec 32} (rest : ByteArray) (len : Int) (k : Nat → BitVec 32) (e : ∀ i, i < 8 → h i = h' i) : hasherC h rest len k = hasherC h' rest len k := by
  apply Row.ext
  intro i _
  try dsimp only
  by_cases hi : i < 8
  · rw [if_pos hi, if_pos hi, e i hi]
  · rw [if_neg hi, if_neg hi]
theorem hasherC_word (h : Nat → BitVec 32) (rest : ByteArray) (len : Int) (k : Nat → BitVec 32) (j : Nat) (hj : j < 8) : (hasherC h rest len k)[j]? = some (U32 (h j)) := by
  rw [hasherC, Row.get _ (by omega), if_pos hj]
theorem hasherC_rest (h : Nat → BitVec 32) (rest : ByteArray) (len : Int) (k : Nat → BitVec 32) : (hasherC h rest len k)[8]? = some (.string rest) := by
  rw [hasherC, Row.get _ (by omega), if_neg (by omega), if_pos rfl]
theorem hasherC_len (h : Nat → BitVec 32) (rest : ByteArray) (len : Int) (k : Nat → BitVec 32) : (hasherC h rest len k)[9]? = some (.int .i64 len) := by
  rw [hasherC, Row.get _ (by omega), if_neg (by omega), if_neg (by omega), if_pos rfl]
theorem hasherC_setRest (h : Nat → BitVec 32) (rest r : ByteArray) (len : Int) (k : Nat → BitVec 32) : (hasherC h rest len k).setIfInBounds 8 (.string r) = hasherC h r len k := by
  unfold hasherC
  rw [Row.set]
  apply Row.ext
  intro i _
  try dsimp only
  by_cases e : i = 8
  · subst e; rw [if_pos rfl, if_neg (by omega), if_pos rfl]
  · rw [if_neg e, if_neg e, if_neg e]
theorem hasherC_setLen (h : Nat → BitVec 32) (rest : ByteArray) (len l : Int) (k : Nat → BitVec 32) : (hasherC h rest len k).setIfInBounds 9 (.int .i64 l) = hasherC h rest l k := by
  unfold hasherC
  rw [Row.set]
  apply Row.ext
  intro i _
  try dsimp only
  by_cases e : i = 9
  · subst e; rw [if_pos rfl, if_neg (by omega), if_neg (by omega), if_pos rfl]
  · rw [if_neg e, if_neg e, if_neg e]
end Go.Proofs.YtdpgebifeaakjaaDoor

/- The compression function, reckoned step by step: a form that the kernel carries out. No program in sight. -/
namespace Go.Proofs.YtdpgebifeaakjaaDoor
set_option linter.unusedSimpArgs false
set_option linter.unusedVariables false
open Go.RowKit

/-- Reckon x, then go on. -/
def forceB {α : Type} (x : BitVec 32) (k : BitVec 32 → α) : α := match x.toNat with
  | 0 => k 0#32
  | m + 1 => k (BitVec.ofNat 32 (m + 1))
theorem forceB_eq {α : Type} (x : BitVec 32) (k : BitVec 32 → α) : forceB x k = k x := by
  unfold forceB
  have h : BitVec.ofNat 32 x.toNat = x := by simp
  split
  · rename_i e
    rw [e] at h
    exact congrArg k h
  · rename_i m e
    rw [e] at h
    exact congrArg k h

/-- A state of eight words. -/
def st (a b c d e f g h : BitVec 32) (i : Nat) : BitVec 32 := [a, b, c, d, e, f, g, h].getD i 0#32
theorem st_round (k w a b c d e f g h : BitVec 32) : ∀ i, i < 8 → shaRound k w (st a b c d e f g h) i =
    st (shaX k w (st a b c d e f g h) + shaY (st a b c d e f g h)) a b c (d + shaX k w (st a b c d e f g h)) e f g i := by
  intro i hi
  match i, hi with
  | 0, _ => rfl
  | 1, _ => rfl
  | 2, _ => rfl
  | 3, _ => rfl
  | 4, _ => rfl
  | 5, _ => rfl
  | 6, _ => rfl
  | 7, _ => rfl
theorem shaX_congr (k w : BitVec 32) {v u : Nat → BitVec 32} (h : ∀ i, i < 8 → v i = u i) : shaX k w v = shaX k w u := by
  unfold shaX; rw [h 7 (by decide), h 4 (by decide), h 5 (by decide), h 6 (by decide)]
theorem shaY_congr {v u : Nat → BitVec 32} (h : ∀ i, i < 8 → v i = u i) : shaY v = shaY u := by
  unfold shaY; rw [h 0 (by decide), h 1 (by decide), h 2 (by decide)]
theorem shaRound_congr (k w : BitVec 32) {v u : Nat → BitVec 32} (h : ∀ i, i < 8 → v i = u i) : ∀ i, i < 8 → shaRound k w v i = shaRound k w u i := by
  intro i hi
  have hx := shaX_congr k w h
  have hy := shaY_congr h
  match i, hi with
  | 0, _ => show shaX k w v + shaY v = shaX k w u + shaY u; rw [hx, hy]
  | 1, _ => exact h 0 (by decide)
  | 2, _ => exact h 1 (by decide)
  | 3, _ => exact h 2 (by decide)
  | 4, _ => show v 3 + shaX k w v = u 3 + shaX k w u; rw [hx, h 3 (by decide)]
  | 5, _ => exact h 4 (by decide)
  | 6, _ => exact h 5 (by decide)
  | 7, _ => exact h 6 (by decide)

/-- n rounds from round t on. -/
def goF (k w : Nat → BitVec 32) : Nat → Nat → BitVec 32 → BitVec 32 → BitVec 32 → BitVec 32 → BitVec 32 → BitVec 32 → BitVec 32 → BitVec 32 → List (BitVec 32)
  | 0, _, a, b, c, d, e, f, g, h => [a, b, c, d, e, f, g, h]
  | n + 1, t, a, b, c, d, e, f, g, h =>
    forceB (shaX (k t) (w t) (st a b c d e f g h)) fun x => forceB (x + shaY (st a b c d e f g h)) fun a' => forceB (d + x) fun e' => goF k w n (t + 1) a' a b c e' e f g
theorem goF_eq (k w : Nat → BitVec 32) (v : Nat → BitVec 32) : ∀ (n t : Nat) (a b c d e f g h : BitVec 32), (∀ i, i < 8 → shaRounds k w t v i = st a b c d e f g h i) →
    ∀ i, i < 8 → shaRounds k w (t + n) v i = (goF k w n t a b c d e f g h).getD i 0#32
  | 0, t, a, b, c, d, e, f, g, h, hyp => hyp
  | n + 1, t, a, b, c, d, e, f, g, h, hyp => by
    intro i hi
    rw [show t + (n + 1) = (t + 1) + n by omega, goF, forceB_eq, forceB_eq, forceB_eq]
    refine goF_eq k w v n (t + 1) _ _ _ _ _ _ _ _ (fun j hj => ?_) i hi
    show shaRound (k t) (w t) (shaRounds k w t v) j = _
    rw [shaRound_congr (k t) (w t) hyp j hj, st_round _ _ _ _ _ _ _ _ _ _ j hj]

/-- The words of the schedule, the newest first. -/
def schedF (s : List (BitVec 8)) : Nat → Nat → List (BitVec 32) → List (BitVec 32)
  | 0, _, ws => ws
  | n + 1, t, ws => forceB (if t < 16 then wordAt s t else ws.getD 15 0#32 + sig0 (ws.getD 14 0#32) + ws.getD 6 0#32 + sig1 (ws.getD 1 0#32)) fun x => schedF s n (t + 1) (x :: ws)
theorem sched_stable (s : List (BitVec 8)) : ∀ (t i : Nat), i < t → sched s t i = wNew s (sched s i) i
  | 0, i, h => absurd h (by omega)
  | t + 1, i, h => by
    show (if i = t then wNew s (sched s t) t else sched s t i) = _
    by_cases e : i = t
    · rw [if_pos e, e]
    · rw [if_neg e, sched_stable s t i (by omega)]
/-- The list holds the words below t. -/
def Holds (s : List (BitVec 8)) (t : Nat) (ws : List (BitVec 32)) : Prop := ws.length = t ∧ ∀ i, i < t → ws.getD (t - 1 - i) 0#32 = wNew s (sched s i) i
theorem schedF_eq (s : List (BitVec 8)) : ∀ (n t : Nat) (ws : List (BitVec 32)), Holds s t ws → Holds s (t + n) (schedF s n t ws)
  | 0, t, ws, h => h
  | n + 1, t, ws, h => by
    rw [schedF, forceB_eq, show t + (n + 1) = (t + 1) + n by omega]
    refine schedF_eq s n (t + 1) _ ⟨by simp [h.1], fun i hi => ?_⟩
    by_cases e : i = t
    · rw [e, show t + 1 - 1 - t = 0 by omega, List.getD_cons_zero, wNew]
      by_cases h16 : t < 16
      · rw [if_pos h16, if_pos h16]
      · rw [if_neg h16, if_neg h16]
        have g : ∀ d, 1 ≤ d → d ≤ 16 → ws.getD (d - 1) 0#32 = sched s t (t - d) := fun d h1 h2 => by
          rw [sched_stable s t (t - d) (by omega), ← h.2 (t - d) (by omega), show t - 1 - (t - d) = d - 1 by omega]
        rw [← g 16 (by decide) (by decide), ← g 15 (by decide) (by decide), ← g 7 (by decide) (by decide), ← g 2 (by decide) (by decide)]
    · rw [show t + 1 - 1 - i = (t - 1 - i) + 1 by omega, List.getD_cons_succ]
      exact h.2 i (by omega)
/-- Reckon a list, then go on. -/
def forceL {α : Type} : List (BitVec 32) → (List (BitVec 32) → α) → α
  | [], k => k []
  | x :: l, k => forceL l fun l' => forceB x fun x' => k (x' :: l')
theorem forceL_eq {α : Type} : ∀ (l : List (BitVec 32)) (k : List (BitVec 32) → α), forceL l k = k l
  | [], _ => rfl
  | x :: l, k => by rw [forceL, forceL_eq l, forceB_eq]
/-- A block, reckoned. -/
def blockF (k h : Nat → BitVec 32) (s : List (BitVec 8)) : List (BitVec 32) :=
  forceL (schedF s 64 0 []) fun ws => goF k (fun t => ws.getD (63 - t) 0#32) 64 0 (h 0) (h 1) (h 2) (h 3) (h 4) (h 5) (h 6) (h 7)
theorem shaRounds_congr (k : Nat → BitVec 32) {w u : Nat → BitVec 32} (v : Nat → BitVec 32) : ∀ (n : Nat), (∀ t, t < n → w t = u t) → shaRounds k w n v = shaRounds k u n v
  | 0, _ => rfl
  | n + 1, h => by rw [shaRounds, shaRounds, h n (by omega), shaRounds_congr k v n fun t ht => h t (by omega)]
theorem shaBlock_eq (k h : Nat → BitVec 32) (s : List (BitVec 8)) : ∀ i, i < 8 → shaBlock k h s i = h i + (blockF k h s).getD i 0#32 := by
  intro i hi
  have hs := schedF_eq s 64 0 [] ⟨rfl, fun i hi => absurd hi (by omega)⟩
  rw [shaBlock, shaRounds_congr k h 64 (u := fun t => (schedF s 64 0 []).getD (63 - t) 0#32) fun t ht => by
    rw [sched_stable s 64 t ht, ← hs.2 t (by omega)]]
  rw [blockF, forceL_eq, ← goF_eq k _ h 64 0 _ _ _ _ _ _ _ _ (fun j hj => ?_) i hi]
  match j, hj with
  | 0, _ => rfl
  | 1, _ => rfl
  | 2, _ => rfl
  | 3, _ => rfl
  | 4, _ => rfl
  | 5, _ => rfl
  | 6, _ => rfl
  | 7, _ => rfl

def emptyBlock : List (BitVec 8) := 128#8 :: List.replicate 63 0#8
def abcBlock : List (BitVec 8) := [97#8, 98#8, 99#8, 128#8] ++ List.replicate 59 0#8 ++ [24#8]
theorem empty_words : (List.range 8).map (fun i => startK i + (blockF roundK startK emptyBlock).getD i 0#32) = [0xe3b0c442#32, 0x98fc1c14#32, 0x9afbf4c8#32, 0x996fb924#32, 0x27ae41e4#32, 0x649b934c#32, 0xa495991b#32, 0x7852b855#32] := by decide +kernel
theorem abc_words : (List.range 8).map (fun i => startK i + (blockF roundK startK abcBlock).getD i 0#32) = [0xba7816bf#32, 0x8f01cfea#32, 0x414140de#32, 0x5dae2223#32, 0xb00361a3#32, 0x96177a9c#32, 0xb410ff61#32, 0xf20015ad#32] := by decide +kernel
end Go.Proofs.YtdpgebifeaakjaaDoor

/- The walk of the SHA constants. -/
namespace Go.Proofs.YtdpgebifeaakjaaDoor
set_option linter.unusedSimpArgs false
set_option linter.unusedVariables false
open Go.RowKit
@[go_sem] theorem lit61 : (#[Value.int .u32 0, Value.int .u32 0, Value.int .u32 0, Value.int .u32 0, Value.int .u32 0, Value.int .u32 0, Value.int .u32 0, Value.int .u32 0] : Array Value) = A32 8 fun _ => 0#32 := by kernel_rfl
set_option maxRecDepth 20000 in
@[go_sem] theorem lit123 : (#[Value.int .u32 0, Value.int .u32 0, Value.int .u32 0, Value.int .u32 0, Value.int .u32 0, Value.int .u32 0, Value.int .u32 0, Value.int .u32 0, Value.int .u32 0, Value.int .u32 0, Value.int .u32 0, Value.int .u32 0, Value.int .u32 0, Value.int .u32 0, Value.int .u32 0, Value.int .u32 0, Value.int .u32 0, Value.int .u32 0, Value.int .u32 0, Value.int .u32 0, Value.int .u32 0, Value.int .u32 0, Value.int .u32 0, Value.int .u32 0, Value.int .u32 0, Value.int .u32 0, Value.int .u32 0, Value.int .u32 0, Value.int .u32 0, Value.int .u32 0, Value.int .u32 0, Value.int .u32 0, Value.int .u32 0, Value.int .u32 0, Value.int .u32 0, Value.int .u32 0, Value.int .u32 0, Value.int .u32 0, Value.int .u32 0, Value.int .u32 0, Value.int .u32 0, Value.int .u32 0, Value.int .u32 0, Value.int .u32 0, Value.int .u32 0, Value.int .u32 0, Value.int .u32 0, Value.int .u32 0, Value.int .u32 0, Value.int .u32 0, Value.int .u32 0, Value.int .u32 0, Value.int .u32 0, Value.int .u32 0, Value.int .u32 0, Value.int .u32 0, Value.int .u32 0, Value.int .u32 0, Value.int .u32 0, Value.int .u32 0, Value.int .u32 0, Value.int .u32 0, Value.int .u32 0, Value.int .u32 0] : Array Value) = A32 64 fun _ => 0#32 := by kernel_rfl
theorem size61 : (Tryd.prog.info? 61).map (·.size) = some 8 := by kernel_rfl
theorem size123 : (Tryd.prog.info? 123).map (·.size) = some 64 := by kernel_rfl

set_option maxRecDepth 20000 in
set_option maxHeartbeats 2000000 in
theorem constants_any (w : World) :
    Calls Tryd.prog 70 #[] w fun e w' => e = .returned (.tuple #[.agg (A32 8 startK), .agg (A32 64 roundK)]) ∧ Below w.heap.size w w' := by
  go_enter Tryd.func70, Tryd.ntmps70
  go_wp2_with (go_at_call 105; refine (primes_any _).mono ?_; rintro e W1 ⟨rfl, hB1⟩)
  go_loopw [5] (fun s5 W => ∃ k : Nat, k ≤ 64 ∧ s5 = .int .i64 k ∧ Blk W w.heap.size (A32 8 fun i => if i < k then startK i else 0#32) 61 ∧ Blk W (w.heap.size + 1) (A32 64 fun i => if i < k then roundK i else 0#32) 123 ∧ Below w.heap.size w W) (fun s5 _ => 64 - (intOf s5).toNat)
  case atStart =>
    have h1 := (Blk.new w (A32 8 fun _ => 0#32) 61).alloc (.cells (A32 64 fun _ => 0#32) 123)
    have h2 := Blk.new (w.alloc (.cells (A32 8 fun _ => 0#32) 61)) (A32 64 fun _ => 0#32) 123
    have h3 : Below w.heap.size w ((w.alloc (.cells (A32 8 fun _ => 0#32) 61)).alloc (.cells (A32 64 fun _ => 0#32) 123)) := ((Below.refl _ _).alloc (Nat.le_refl _) _).alloc (by simp) _
    rw [World.size_alloc] at h2
    exact ⟨0, by omega, rfl, h1.below hB1 h1.lt, h2.below hB1 h2.lt, h3.trans (hB1.mono h3.size)⟩
  case round =>
    obtain ⟨k, hk, rfl, hb1, hb2, hB⟩ := hrel
    by_cases hlt : k < 64
    · have hlt1 : (k : Int) < 64 := by omega
      have hix := index_A64 (P := Tryd.prog) Tryd.underlying160 Tryd.sizeOf159 Tryd.isAgg159 primeAt .i64 k hlt
      obtain ⟨g1, g2, g3, g4, g5, g6, g7⟩ := round_facts k hlt
      have HC : ∀ w, Calls Tryd.prog 109 #[.float .f64 (fp k)] w fun e w' => e = .returned (.float .f64 (cuC k)) ∧ w = w' := cbrt2_any _ _ g1 g2
      have hm := fun w : World => run_float_arith (P := Tryd.prog) w .mul 163 .f64 _ _ _ g3
      have HR : ∀ w, Calls Tryd.prog 106 #[.float .f64 (cuG k), U64 (primeAt k <<< 32), .func (.func 110) #[] #[]] w fun e w' => e = .returned (U32 (roundK k)) ∧ Below w.heap.size w w' := by
        intro w; rw [← g7]; exact root_cube _ _ _ g4 g5 g6 w
      clear g1 g2 g3 g4 g5 g6 g7
      have HC' := hide HC; have HR' := hide HR; clear HC HR
      by_cases h8 : k < 8
      · have h81 : (k : Int) < 8 := by omega
        obtain ⟨g1, g2, g3, g4, g5, g6⟩ := start_facts k h8
        have HS : ∀ w, Calls Tryd.prog 107 #[.float .f64 (fp k)] w fun e w' => e = .returned (.float .f64 (sqC k)) ∧ w = w' := sqrt_any _ _ g1
        have hm2 := fun w : World => run_float_arith (P := Tryd.prog) w .mul 163 .f64 _ _ _ g2
        have HT : ∀ w, Calls Tryd.prog 106 #[.float .f64 (sqG k), U64 (primeAt k), .func (.func 108) #[] #[]] w fun e w' => e = .returned (U32 (startK k)) ∧ Below w.heap.size w w' := by
          intro w; rw [← g6]; exact root_square _ _ _ g3 g4 g5 w
        clear g1 g2 g3 g4 g5 g6
        have HS' := hide HS; have HT' := hide HT; clear HS HT
        go_wp2_with (go_at_call 107; refine (HS'.out _).mono ?_; rintro e w' ⟨rfl, rfl⟩)
        refine (HT'.out _).mono ?_
        rintro e W2 ⟨rfl, hB2⟩
        have hb11 := hb1.below hB2 hb1.lt
        have hb21 := hb2.below hB2 hb2.lt
        have hB3 := hB.trans (hB2.mono hB.size)
        have hc : W2.cell? ⟨w.heap.size, k, none⟩ = some (U32 0#32) := (by rw [hb11.cell, A32.get _ h8, if_neg (Nat.lt_irrefl k)])
        have hf := hb11.free k
        clear hB2
        go_wp2_with (go_at_call 109; refine (HC'.out _).mono ?_; rintro e w' ⟨rfl, rfl⟩)
        refine (HR'.out _).mono ?_
        rintro e W3 ⟨rfl, hB4⟩
        have hb12 := hb11.set k (U32 (startK k))
        rw [A32.step] at hb12
        have hb22 := hb21.other (a := ⟨w.heap.size, k, none⟩) (by simp) (U32 (startK k))
        have hB5 := hB3.setCell (p := ⟨w.heap.size, k, none⟩) (Nat.le_refl _) (U32 (startK k))
        have hb13 := hb12.below hB4 hb12.lt
        have hb23 := hb22.below hB4 hb22.lt
        have hB6 := hB5.trans (hB4.mono hB5.size)
        have hc2 : W3.cell? ⟨w.heap.size + 1, k, none⟩ = some (U32 0#32) := (by rw [hb23.cell, A32.get _ hlt, if_neg (Nat.lt_irrefl k)])
        have hf2 := hb23.free k
        clear hB4 hb12 hb22 hB5 hc hf hb11 hb21 hB3
        go_wp2_with fail
        have hb24 := hb23.set k (U32 (roundK k))
        rw [A32.step] at hb24
        exact ⟨⟨k + 1, by omega, by go_num, hb13.other (by simp) _, hb24, hB6.setCell (p := ⟨w.heap.size + 1, k, none⟩) (by simp) _⟩, by simp [intOf]; omega⟩
      · have h81 : ¬ (k : Int) < 8 := by omega
        go_wp2_with (first | (go_at_call 109; refine (HC'.out _).mono ?_; rintro e w' ⟨rfl, rfl⟩) | (go_at_call 106; refine (HR'.out _).mono ?_; rintro e W2 ⟨rfl, hB2⟩; have hb21 := hb2.below hB2 hb2.lt; have hc : W2.cell? ⟨w.heap.size + 1, k, none⟩ = some (U32 0#32) := (by rw [hb21.cell, A32.get _ hlt, if_neg (Nat.lt_irrefl k)]); have hf := hb21.free k))
        have hb11 := hb1.below hB2 hb1.lt
        have hB3 := hB.trans (hB2.mono hB.size)
        have hb22 := hb21.set k (U32 (roundK k))
        rw [A32.step] at hb22
        rw [A32.ext (g := fun i => if i < k + 1 then startK i else 0#32) (fun i hi => by rw [if_pos (by omega), if_pos (by omega)])] at hb11
        exact ⟨⟨k + 1, by omega, by go_num, hb11.other (by simp) _, hb22, hB3.setCell (p := ⟨w.heap.size + 1, k, none⟩) (by simp) _⟩, by simp [intOf]; omega⟩
    · have hlt1 : ¬ (k : Int) < 64 := by omega
      rw [A32.ext (g := startK) (fun i hi => if_pos (by omega))] at hb1
      rw [A32.ext (g := roundK) (fun i hi => if_pos (by omega))] at hb2
      go_wp2_with fail
      refine wp_region_held_drew (S := fun W => Blk W w.heap.size (A32 8 startK) 61 ∧ Blk W (w.heap.size + 1) (A32 64 roundK) 123 ∧ Below w.heap.size w W) (by kernel_rfl) ⟨hb1.drew, hb2.drew, hB.drew⟩ (fun hS => ?_)
      refine wpAnyH_take (i := 0) (v := .agg (A32 8 startK)) rfl (by kernel_rfl) (by kernel_rfl) (by kernel_rfl) (fun _ _ _ h => h) (Or.inl ⟨by rfl, fun W hW => run_exec_loadRow _ 61 _ rfl w.heap.size rfl hW.1 Tryd.underlying61 rfl size61 (A32.size _ _)⟩) hS ?_
      refine wpAnyH_take (i := 1) (v := .agg (A32 64 roundK)) rfl (by kernel_rfl) (by kernel_rfl) (by kernel_rfl) (fun _ _ _ h => h) (Or.inl ⟨by rfl, fun W hW => run_exec_loadRow _ 123 _ rfl (w.heap.size + 1) rfl hW.2.1 Tryd.underlying123 rfl size123 (A32.size _ _)⟩) hS ?_
      refine wpAnyH_ready (rs := [2]) (by kernel_rfl) (by simp) ?_
      refine AllReadyH.cons rfl (fun K hK => ?_) AllReadyH.nil
      rw [if_pos (by rfl)]
      refine op_storeRow 61 _ _ rfl w.heap.size rfl rfl hS.1 size61 (A32.size _ _) (A32.size _ _) (A32.one _) rfl (fun w2 hu hb3 => ?_)
      refine hK.out _ _ ⟨hb3, hS.2.1.upd hu (by omega), hu.below hS.2.2 (Nat.le_refl _)⟩ (fun hS2 => ?_)
      refine wpAnyH_ready (rs := [3]) (by kernel_rfl) (by simp) ?_
      refine AllReadyH.cons rfl (fun K hK => ?_) AllReadyH.nil
      rw [if_pos (by rfl)]
      refine op_storeRow 123 _ _ rfl (w.heap.size + 1) rfl rfl hS2.2.1 size123 (A32.size _ _) (A32.size _ _) (A32.one _) rfl (fun w3 hu2 hb4 => ?_)
      refine hK.out _ _ ⟨hS2.1.upd hu2 (by omega), hb4, hu2.below hS2.2.2 (by omega)⟩ (fun hS3 => ?_)
      refine wpAnyH_done (by kernel_rfl) ?_ _
      go_wp2_with fail
      exact ret_row2 rfl w.heap.size (w.heap.size + 1) rfl rfl (run_loadVar_Blk hS3.1 Tryd.underlying61 rfl size61 (A32.size _ _)) (run_loadVar_Blk hS3.2.1 Tryd.underlying123 rfl size123 (A32.size _ _)) rfl ⟨rfl, hS3.2.2⟩
end Go.Proofs.YtdpgebifeaakjaaDoor

