/- The walks of math.Sqrt and math.Cbrt, at the numbers that the SHA constants want. -/
import Derived.Test.YtdpgebifeaakjaaDoorK1
import Derived.Laws.FloatArith
namespace Go.Proofs.YtdpgebifeaakjaaDoor
set_option linter.unusedSimpArgs false
set_option linter.unusedVariables false
open Go.RowKit

theorem float64bits_run (b : Nat) (hb : b < 18446744073709551616) (w : World) : (callFunc 136 #[.float .f64 b]).run Tryd.prog w = .ok (.value (U64 (BitVec.ofNat 64 b))) w := by
  rw [run_callFunc_extern Tryd.func136 (by kernel_rfl) (by kernel_rfl) (by kernel_rfl) (e := Extern.MathFloatBits.float64bits) (by kernel_rfl)]
  have e : n64 (BitVec.ofNat 64 b) = (b : Int) := by unfold n64; rw [BitVec.toNat_ofNat, Nat.mod_eq_of_lt (by omega)]
  show _ = Result.ok (Next.value (.int .u64 (n64 (BitVec.ofNat 64 b)))) w
  rw [e]; rfl
/-- The float of these bits: behind a name, so that simp leaves it. -/
def fOf (v : BitVec 64) : Nat := v.toNat
theorem float64frombits_run (v : BitVec 64) (w : World) : (callFunc 135 #[U64 v]).run Tryd.prog w = .ok (.value (.float .f64 (fOf v))) w := by
  rw [run_callFunc_extern Tryd.func135 (by kernel_rfl) (by kernel_rfl) (by kernel_rfl) (e := Extern.MathFloatBits.float64frombits) (by kernel_rfl)]
  rfl
theorem sqrt_run (x r : Nat) (h : FloatKind.f64.format.sqrt x = some r) (w : World) : (callFunc 125 #[.float .f64 x]).run Tryd.prog w = .ok (.value (.float .f64 r)) w := by
  rw [run_callFunc_extern Tryd.func125 (by kernel_rfl) (by kernel_rfl) (by kernel_rfl) (e := Extern.MathSqrt.sqrt) (by kernel_rfl)]
  change ((match FloatKind.f64.format.sqrt x with | some r => (pure (.float .f64 r) : Sem Value) | none => do pure (.float .f64 (← choose (.nanBits .f64 x x)))).run Tryd.prog w).andThen _ = _
  rw [h]; rfl

set_option maxHeartbeats 400000 in
theorem sqrt_any (x r : Nat) (h : FloatKind.f64.format.sqrt x = some r) (w : World) :
    Calls Tryd.prog 107 #[.float .f64 x] w fun e w' => e = .returned (.float .f64 r) ∧ w = w' := by
  have hr := sqrt_run x r h
  clear h
  go_enter Tryd.func107, Tryd.ntmps107
  go_wp2_with fail
  go_ret
  exact ⟨rfl, rfl⟩

/-- A positive finite number that is not too small. -/
def plainB (x : Nat) : Bool := (FloatKind.f64.format.order x 0 == some .eq) == false && (FloatKind.f64.format.order x x != some .eq) == false && (FloatKind.f64.format.order x 0 == some .lt) == false && (FloatKind.f64.format.order x 4503599627370496 == some .lt) == false && (FloatKind.f64.format.order x 9218868437227405311 == some .gt) == false && decide (x < 9223372036854775808)

set_option maxHeartbeats 400000 in
theorem isNaN_any (x : Nat) (h : (FloatKind.f64.format.order x x != some .eq) = false) (w : World) :
    Calls Tryd.prog 133 #[.float .f64 x] w fun e w' => e = .returned (.bool false) ∧ w = w' := by
  go_enter Tryd.func133, Tryd.ntmps133
  go_wp2_with fail
  go_ret
  exact ⟨rfl, rfl⟩
theorem abs_bits (x : Nat) (h : x < 9223372036854775808) : fOf (BitVec.ofNat 64 x &&& 9223372036854775807#64) = x := by
  unfold fOf
  rw [BitVec.toNat_and, BitVec.toNat_ofNat, Nat.mod_eq_of_lt (show x < 2 ^ 64 by omega)]
  show x &&& (2 ^ 63 - 1) = x
  rw [Nat.and_two_pow_sub_one_eq_mod, Nat.mod_eq_of_lt (by omega)]
set_option maxRecDepth 20000 in
set_option maxHeartbeats 400000 in
theorem abs_any (x : Nat) (h : x < 9223372036854775808) (w : World) :
    Calls Tryd.prog 137 #[.float .f64 x] w fun e w' => e = .returned (.float .f64 x) ∧ w = w' := by
  have hb := float64bits_run x (by omega)
  have hfb := fun v => float64frombits_run v
  have ha := abs_bits x h
  go_enter Tryd.func137, Tryd.ntmps137
  have HA := hide ha; clear ha
  go_wp2_with fail
  go_ret
  refine ⟨?_, rfl⟩
  show Ending.returned (.float .f64 (fOf (BitVec.ofNat 64 x &&& 9223372036854775807#64))) = _
  rw [HA.out]
set_option maxRecDepth 20000 in
set_option maxHeartbeats 400000 in
theorem isInf_any (x : Nat) (h : x < 9223372036854775808) (hm : (FloatKind.f64.format.order x 9218868437227405311 == some .gt) = false) (w : World) :
    Calls Tryd.prog 134 #[.float .f64 x, .int .i64 0] w fun e w' => e = .returned (.bool false) ∧ w = w' := by
  go_enter Tryd.func134, Tryd.ntmps134
  go_wp2_with (go_at_call 137; refine (abs_any x h _).mono ?_; rintro e w' ⟨rfl, rfl⟩)
  go_ret
  exact ⟨rfl, rfl⟩

set_option maxRecDepth 100000 in
set_option maxHeartbeats 1000000 in
theorem cbrt_any (x a r b s c d e1 f g t1 s2 r2 w2 hh i2 r3 j z : Nat) (hx : x < 9223372036854775808) (p1 : (FloatKind.f64.format.order x 0 == some .eq) = false) (p2 : (FloatKind.f64.format.order x x != some .eq) = false) (p3 : (FloatKind.f64.format.order x 0 == some .lt) = false) (p4 : (FloatKind.f64.format.order x 4503599627370496 == some .lt) = false) (p5 : (FloatKind.f64.format.order x 9218868437227405311 == some .gt) = false)
    (h0 : floatBits .mul .f64 (fOf (BitVec.ofNat 64 x / 3#64 + 3071306043645493248#64)) (fOf (BitVec.ofNat 64 x / 3#64 + 3071306043645493248#64)) = some a) (h1 : floatBits .quo .f64 a x = some r) (h2 : floatBits .mul .f64 r (fOf (BitVec.ofNat 64 x / 3#64 + 3071306043645493248#64)) = some b) (h3 : floatBits .add .f64 4603064841997850097 b = some s) (h4 : floatBits .add .f64 s 4609048195788499471 = some c) (h5 : floatBits .quo .f64 13827900089180538932 s = some d) (h6 : floatBits .add .f64 c d = some e1) (h7 : floatBits .quo .f64 4609916747145206638 e1 = some f) (h8 : floatBits .add .f64 4600105333671292343 f = some g) (h9 : floatBits .mul .f64 (fOf (BitVec.ofNat 64 x / 3#64 + 3071306043645493248#64)) g = some t1) (h10 : floatBits .mul .f64 (fOf ((BitVec.ofNat 64 t1 &&& 18446744072635809792#64) + 1073741824#64)) (fOf ((BitVec.ofNat 64 t1 &&& 18446744072635809792#64) + 1073741824#64)) = some s2) (h11 : floatBits .quo .f64 x s2 = some r2) (h12 : floatBits .add .f64 (fOf ((BitVec.ofNat 64 t1 &&& 18446744072635809792#64) + 1073741824#64)) (fOf ((BitVec.ofNat 64 t1 &&& 18446744072635809792#64) + 1073741824#64)) = some w2) (h13 : floatBits .sub .f64 r2 (fOf ((BitVec.ofNat 64 t1 &&& 18446744072635809792#64) + 1073741824#64)) = some hh) (h14 : floatBits .add .f64 w2 r2 = some i2) (h15 : floatBits .quo .f64 hh i2 = some r3) (h16 : floatBits .mul .f64 (fOf ((BitVec.ofNat 64 t1 &&& 18446744072635809792#64) + 1073741824#64)) r3 = some j) (h17 : floatBits .add .f64 (fOf ((BitVec.ofNat 64 t1 &&& 18446744072635809792#64) + 1073741824#64)) j = some z) (ht1 : t1 < 18446744073709551616) (w : World) :
    Calls Tryd.prog 128 #[.float .f64 x] w fun e w' => e = .returned (.float .f64 z) ∧ w = w' := by
  have q0 := fun w : World => run_float_arith (P := Tryd.prog) w .mul 163 .f64 _ _ a h0
  have q1 := fun w : World => run_float_arith (P := Tryd.prog) w .quo 163 .f64 _ _ r h1
  have q2 := fun w : World => run_float_arith (P := Tryd.prog) w .mul 163 .f64 _ _ b h2
  have q3 := fun w : World => run_float_arith (P := Tryd.prog) w .add 163 .f64 _ _ s h3
  have q4 := fun w : World => run_float_arith (P := Tryd.prog) w .add 163 .f64 _ _ c h4
  have q5 := fun w : World => run_float_arith (P := Tryd.prog) w .quo 163 .f64 _ _ d h5
  have q6 := fun w : World => run_float_arith (P := Tryd.prog) w .add 163 .f64 _ _ e1 h6
  have q7 := fun w : World => run_float_arith (P := Tryd.prog) w .quo 163 .f64 _ _ f h7
  have q8 := fun w : World => run_float_arith (P := Tryd.prog) w .add 163 .f64 _ _ g h8
  have q9 := fun w : World => run_float_arith (P := Tryd.prog) w .mul 163 .f64 _ _ t1 h9
  have q10 := fun w : World => run_float_arith (P := Tryd.prog) w .mul 163 .f64 _ _ s2 h10
  have q11 := fun w : World => run_float_arith (P := Tryd.prog) w .quo 163 .f64 _ _ r2 h11
  have q12 := fun w : World => run_float_arith (P := Tryd.prog) w .add 163 .f64 _ _ w2 h12
  have q13 := fun w : World => run_float_arith (P := Tryd.prog) w .sub 163 .f64 _ _ hh h13
  have q14 := fun w : World => run_float_arith (P := Tryd.prog) w .add 163 .f64 _ _ i2 h14
  have q15 := fun w : World => run_float_arith (P := Tryd.prog) w .quo 163 .f64 _ _ r3 h15
  have q16 := fun w : World => run_float_arith (P := Tryd.prog) w .mul 163 .f64 _ _ j h16
  have q17 := fun w : World => run_float_arith (P := Tryd.prog) w .add 163 .f64 _ _ z h17
  clear h0 h1 h2 h3 h4 h5 h6 h7 h8 h9 h10 h11 h12 h13 h14 h15 h16 h17
  have hb := float64bits_run x (by omega)
  have hb1 := float64bits_run t1 ht1
  have hfb := fun v => float64frombits_run v
  clear ht1
  go_enter Tryd.func128, Tryd.ntmps128
  go_wp2_with (first | (go_at_call 133; refine (isNaN_any x p2 _).mono ?_; rintro e w' ⟨rfl, rfl⟩) | (go_at_call 134; refine (isInf_any x hx p5 _).mono ?_; rintro e w' ⟨rfl, rfl⟩))
  go_ret
  exact ⟨rfl, rfl⟩

/-- math.cbrt at a plain number. -/
def cbrtS (x : Nat) : Option Nat :=
  let t := fOf (BitVec.ofNat 64 x / 3#64 + 3071306043645493248#64)
  (floatBits .mul .f64 t t).bind fun a => (floatBits .quo .f64 a x).bind fun r => (floatBits .mul .f64 r t).bind fun b => (floatBits .add .f64 4603064841997850097 b).bind fun s =>
  (floatBits .add .f64 s 4609048195788499471).bind fun c => (floatBits .quo .f64 13827900089180538932 s).bind fun d => (floatBits .add .f64 c d).bind fun e => (floatBits .quo .f64 4609916747145206638 e).bind fun f =>
  (floatBits .add .f64 4600105333671292343 f).bind fun g => (floatBits .mul .f64 t g).bind fun t1 =>
  let t2 := fOf ((BitVec.ofNat 64 t1 &&& 18446744072635809792#64) + 1073741824#64)
  (floatBits .mul .f64 t2 t2).bind fun s2 => (floatBits .quo .f64 x s2).bind fun r2 => (floatBits .add .f64 t2 t2).bind fun w2 => (floatBits .sub .f64 r2 t2).bind fun h =>
  (floatBits .add .f64 w2 r2).bind fun i => (floatBits .quo .f64 h i).bind fun r3 => (floatBits .mul .f64 t2 r3).bind fun j => floatBits .add .f64 t2 j

set_option maxRecDepth 100000 in
theorem cbrtS_any (x z : Nat) (hp : plainB x = true) (h : cbrtS x = some z) (w : World) :
    Calls Tryd.prog 128 #[.float .f64 x] w fun e w' => e = .returned (.float .f64 z) ∧ w = w' := by
  simp only [cbrtS, Option.bind_eq_some_iff] at h
  obtain ⟨a, h0, r, h1, b, h2, s, h3, c, h4, d, h5, e, h6, f, h7, g, h8, t1, h9, s2, h10, r2, h11, w2, h12, hh, h13, i, h14, r3, h15, j, h16, h17⟩ := h
  simp only [plainB, Bool.and_eq_true, beq_iff_eq, decide_eq_true_eq] at hp
  obtain ⟨⟨⟨⟨⟨p1, p2⟩, p3⟩, p4⟩, p5⟩, p6⟩ := hp
  refine cbrt_any x a r b s c d e f g t1 s2 r2 w2 hh i r3 j z p6 (by simpa using p1) (by simpa using p2) (by simpa using p3) (by simpa using p4) (by simpa using p5) h0 h1 h2 h3 h4 h5 h6 h7 h8 h9 h10 h11 h12 h13 h14 h15 h16 h17 ?_ w
  exact FloatKind.f64.format.mul_lt h9

set_option maxHeartbeats 400000 in
theorem cbrt2_any (x z : Nat) (hp : plainB x = true) (h : cbrtS x = some z) (w : World) :
    Calls Tryd.prog 109 #[.float .f64 x] w fun e w' => e = .returned (.float .f64 z) ∧ w = w' := by
  have H : ∀ w, Calls Tryd.prog 128 #[.float .f64 x] w fun e w' => e = .returned (.float .f64 z) ∧ w = w' := cbrtS_any x z hp h
  clear hp h
  have HH := hide H; clear H
  go_enter Tryd.func109, Tryd.ntmps109
  go_wp2_with (go_at_call 128; refine (HH.out _).mono ?_; rintro e w' ⟨rfl, rfl⟩)
  go_ret
  exact ⟨rfl, rfl⟩

end Go.Proofs.YtdpgebifeaakjaaDoor
