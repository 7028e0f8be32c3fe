/- The walks of the SHA functions: the multiplication, the powers, the root. -/
import Derived.Test.YtdpgebifeaakjaaDoorK1
import Derived.Laws.FloatArith
namespace Go.Proofs.YtdpgebifeaakjaaDoor
set_option linter.unusedSimpArgs false
set_option linter.unusedVariables false
open Go.RowKit

/-- The high and the low word of a product, as the code has them. -/
def mulHi (x y : BitVec 64) : BitVec 64 :=
  let x0 := x &&& 4294967295#64
  let x1 := x >>> 32
  let y0 := y &&& 4294967295#64
  let y1 := y >>> 32
  let t := x1 * y0 + (x0 * y0) >>> 32
  x1 * y1 + t >>> 32 + ((t &&& 4294967295#64) + x0 * y1) >>> 32
set_option maxHeartbeats 400000 in
theorem mul64_any (x y : BitVec 64) (w : World) :
    Calls Tryd.prog 126 #[U64 x, U64 y] w fun e w' => e = .returned (.tuple #[U64 (mulHi x y), U64 (x * y)]) ∧ w = w' := by
  go_enter Tryd.func126, Tryd.ntmps126
  go_wp2_with fail
  go_ret2
  exact ⟨rfl, rfl⟩
set_option maxHeartbeats 400000 in
theorem square_any (x : BitVec 64) (w : World) :
    Calls Tryd.prog 108 #[U64 x] w fun e w' => e = .returned (.tuple #[U64 (mulHi x x), U64 (x * x)]) ∧ w = w' := by
  go_enter Tryd.func108, Tryd.ntmps108
  go_wp2_with (go_at_call 126; refine (mul64_any _ _ _).mono ?_; rintro e w' ⟨rfl, rfl⟩)
  go_ret2
  exact ⟨rfl, rfl⟩
def cubeHi (x : BitVec 64) : BitVec 64 := mulHi (x * x) x + mulHi x x * x
set_option maxHeartbeats 400000 in
theorem cube_any (x : BitVec 64) (w : World) :
    Calls Tryd.prog 110 #[U64 x] w fun e w' => e = .returned (.tuple #[U64 (cubeHi x), U64 (x * x * x)]) ∧ w = w' := by
  go_enter Tryd.func110, Tryd.ntmps110
  go_wp2_with (go_at_call 126; refine (mul64_any _ _ _).mono ?_; rintro e w' ⟨rfl, rfl⟩)
  go_ret2
  exact ⟨rfl, rfl⟩

/-- Whether a power is above a limit. -/
def aboveB (hi lo limit : BitVec 64) : Bool := decide (n64 limit < n64 hi) || (hi == limit && decide (0 < n64 lo))
set_option maxRecDepth 20000 in
set_option maxHeartbeats 400000 in
theorem root1_square (x limit : BitVec 64) (b1 b2 : Nat) (w : World) (h1 : w.cell? ⟨b1, 0, none⟩ = some (.func (.func 108) #[] #[])) (h2 : w.cell? ⟨b2, 0, none⟩ = some (U64 limit)) :
    Calls Tryd.prog 124 #[U64 x, .pointer (some ⟨b1, 0, none⟩), .pointer (some ⟨b2, 0, none⟩)] w fun e w' => e = .returned (.bool (aboveB (mulHi x x) (x * x) limit)) ∧ w = w' := by
  obtain ⟨hi, hhi⟩ : ∃ hi, (mulHi x x) = hi := ⟨_, rfl⟩
  obtain ⟨lo, hlo⟩ : ∃ lo, (x * x) = lo := ⟨_, rfl⟩
  rw [hhi, hlo]
  have HHI := hide hhi; have HLO := hide hlo; clear hhi hlo
  by_cases ha : n64 limit < n64 hi
  · go_enter Tryd.func124, Tryd.ntmps124
    go_wp2_with (go_at_call 108; refine (square_any _ _).mono ?_; rintro e w' ⟨rfl, rfl⟩; rw [HHI.out, HLO.out])
    go_ret
    exact ⟨retBool (by simp [aboveB, ha]), rfl⟩
  · by_cases hb : (hi == limit) = true
    · have HB := hide hb
      by_cases hc : 0 < n64 lo
      · go_enter Tryd.func124, Tryd.ntmps124
        go_wp2_with (go_at_call 108; refine (square_any _ _).mono ?_; rintro e w' ⟨rfl, rfl⟩; rw [HHI.out, HLO.out])
        go_ret
        exact ⟨retBool (by simp [aboveB, HB.out, hc]), rfl⟩
      · go_enter Tryd.func124, Tryd.ntmps124
        go_wp2_with (go_at_call 108; refine (square_any _ _).mono ?_; rintro e w' ⟨rfl, rfl⟩; rw [HHI.out, HLO.out])
        go_ret
        refine ⟨retBool ?_, rfl⟩
        have h1 : decide (n64 limit < n64 hi) = false := decide_eq_false (by omega)
        have h2 : decide (0 < n64 lo) = false := decide_eq_false (by omega)
        simp only [aboveB, h1, h2, Bool.and_false, Bool.or_false]
    · have hb' : (hi == limit) = false := by simpa using hb
      have HB := hide hb'; clear hb
      go_enter Tryd.func124, Tryd.ntmps124
      go_wp2_with (go_at_call 108; refine (square_any _ _).mono ?_; rintro e w' ⟨rfl, rfl⟩; rw [HHI.out, HLO.out])
      go_ret
      refine ⟨retBool ?_, rfl⟩
      have h1 : decide (n64 limit < n64 hi) = false := decide_eq_false (by omega)
      simp only [aboveB, h1, HB.out, Bool.false_and, Bool.or_false]

set_option maxRecDepth 20000 in
set_option maxHeartbeats 400000 in
theorem root1_cube (x limit : BitVec 64) (b1 b2 : Nat) (w : World) (h1 : w.cell? ⟨b1, 0, none⟩ = some (.func (.func 110) #[] #[])) (h2 : w.cell? ⟨b2, 0, none⟩ = some (U64 limit)) :
    Calls Tryd.prog 124 #[U64 x, .pointer (some ⟨b1, 0, none⟩), .pointer (some ⟨b2, 0, none⟩)] w fun e w' => e = .returned (.bool (aboveB (cubeHi x) (x * x * x) limit)) ∧ w = w' := by
  obtain ⟨hi, hhi⟩ : ∃ hi, (cubeHi x) = hi := ⟨_, rfl⟩
  obtain ⟨lo, hlo⟩ : ∃ lo, (x * x * x) = lo := ⟨_, rfl⟩
  rw [hhi, hlo]
  have HHI := hide hhi; have HLO := hide hlo; clear hhi hlo
  by_cases ha : n64 limit < n64 hi
  · go_enter Tryd.func124, Tryd.ntmps124
    go_wp2_with (go_at_call 110; refine (cube_any _ _).mono ?_; rintro e w' ⟨rfl, rfl⟩; rw [HHI.out, HLO.out])
    go_ret
    exact ⟨retBool (by simp [aboveB, ha]), rfl⟩
  · by_cases hb : (hi == limit) = true
    · have HB := hide hb
      by_cases hc : 0 < n64 lo
      · go_enter Tryd.func124, Tryd.ntmps124
        go_wp2_with (go_at_call 110; refine (cube_any _ _).mono ?_; rintro e w' ⟨rfl, rfl⟩; rw [HHI.out, HLO.out])
        go_ret
        exact ⟨retBool (by simp [aboveB, HB.out, hc]), rfl⟩
      · go_enter Tryd.func124, Tryd.ntmps124
        go_wp2_with (go_at_call 110; refine (cube_any _ _).mono ?_; rintro e w' ⟨rfl, rfl⟩; rw [HHI.out, HLO.out])
        go_ret
        refine ⟨retBool ?_, rfl⟩
        have h1 : decide (n64 limit < n64 hi) = false := decide_eq_false (by omega)
        have h2 : decide (0 < n64 lo) = false := decide_eq_false (by omega)
        simp only [aboveB, h1, h2, Bool.and_false, Bool.or_false]
    · have hb' : (hi == limit) = false := by simpa using hb
      have HB := hide hb'; clear hb
      go_enter Tryd.func124, Tryd.ntmps124
      go_wp2_with (go_at_call 110; refine (cube_any _ _).mono ?_; rintro e w' ⟨rfl, rfl⟩; rw [HHI.out, HLO.out])
      go_ret
      refine ⟨retBool ?_, rfl⟩
      have h1 : decide (n64 limit < n64 hi) = false := decide_eq_false (by omega)
      simp only [aboveB, h1, HB.out, Bool.false_and, Bool.or_false]

end Go.Proofs.YtdpgebifeaakjaaDoor
