/- The plain law of a cover's step; the walk of the specification's cover. -/
import Derived.Test.YtdpgebifeaakjaaDoorSN
namespace Go.Proofs.YtdpgebifeaakjaaDoor
set_option linter.unusedSimpArgs false
set_option linter.unusedVariables false
open Go.RowKit

theorem bitLen_of (x k : Nat) (h1 : 2 ^ k ≤ x) (h2 : x < 2 ^ (k + 1)) (hk : k + 1 ≤ 64) : Lib.bitLen x - 1 = k := by
  have hp : 0 < 2 ^ k := Nat.two_pow_pos k
  obtain ⟨a1, a2, a3⟩ := bitLen_spec x (by omega) (Nat.lt_of_lt_of_le h2 (Nat.pow_le_pow_right (by decide) hk))
  have u : Lib.bitLen x ≤ k + 1 := by
    apply Classical.byContradiction
    intro hn
    have : 2 ^ (k + 1) ≤ 2 ^ (Lib.bitLen x - 1) := Nat.pow_le_pow_right (by decide) (by omega)
    omega
  have l : k + 1 ≤ Lib.bitLen x := by
    apply Classical.byContradiction
    intro hn
    have : 2 ^ Lib.bitLen x ≤ 2 ^ k := Nat.pow_le_pow_right (by decide) (by omega)
    omega
  omega
/-- What the doubling finds is the step. -/
theorem step_found (a b k : Nat) (hb : b ≤ 1099511627776) (hd : 2 ^ k ∣ a) (hle : a + 2 ^ k ≤ b) (hstop : ¬ (2 ^ (k + 1) ∣ a ∧ a + 2 ^ (k + 1) ≤ b)) : stepN a b = 2 ^ k := by
  have hk : k ≤ 40 := by
    apply Classical.byContradiction
    intro hn
    have h1 : 2 ^ 41 ≤ 2 ^ k := Nat.pow_le_pow_right (by decide) (by omega)
    have h2 : (2 : Nat) ^ 41 = 2199023255552 := rfl
    omega
  have hx64 : b - a < 2 ^ 64 := by have : (2:Nat) ^ 64 = 18446744073709551616 := rfl; omega
  by_cases h0 : a = 0
  · subst h0
    have : ¬ 2 ^ (k + 1) ≤ b := fun h => hstop ⟨Nat.dvd_zero _, by omega⟩
    have e := bitLen_of (b - 0) k (by omega) (by omega) (by omega)
    rw [stepN, if_neg (by omega), e]
  · have hx : a < 2 ^ 64 := by have : (2:Nat) ^ 64 = 18446744073709551616 := rfl; omega
    obtain ⟨m, e1, e2⟩ := Lib.ctzFrom_spec 64 a (by omega) hx
    have ez : Lib.ctz 64 a = Lib.ctzFrom 64 a := by rw [Lib.ctz, if_neg h0]
    rw [← ez] at e1 e2
    rw [stepN, if_pos (by omega)]
    generalize Lib.ctz 64 a = z at e1 e2
    have hkz : k ≤ z := by
      apply Classical.byContradiction
      intro hn
      have h1 : 2 ^ (z + 1) ∣ a := Nat.dvd_trans (Nat.pow_dvd_pow 2 (by omega)) hd
      rw [e1, Nat.pow_succ] at h1
      have h2 : 2 ∣ 2 * m + 1 := Nat.dvd_of_mul_dvd_mul_left (Nat.two_pow_pos z) h1
      omega
    have hpz : 2 ^ k ≤ 2 ^ z := Nat.pow_le_pow_right (by decide) hkz
    by_cases h1 : a + 2 ^ (k + 1) ≤ b
    · have hnd : ¬ 2 ^ (k + 1) ∣ a := fun h => hstop ⟨h, h1⟩
      have hz : z = k := by
        apply Classical.byContradiction
        intro hn
        exact hnd (by rw [e1]; exact Nat.dvd_trans (Nat.pow_dvd_pow 2 (by omega)) (Nat.dvd_mul_right _ _))
      subst hz
      obtain ⟨a1, a2, a3⟩ := bitLen_spec (b - a) (by have := Nat.two_pow_pos z; omega) hx64
      have hl : z ≤ Lib.bitLen (b - a) - 1 := by
        apply Classical.byContradiction
        intro hn
        have : 2 ^ Lib.bitLen (b - a) ≤ 2 ^ z := Nat.pow_le_pow_right (by decide) (by omega)
        omega
      exact Nat.min_eq_right (Nat.pow_le_pow_right (by decide) hl)
    · have e := bitLen_of (b - a) k (by omega) (by omega) (by omega)
      rw [e]
      exact Nat.min_eq_left hpz
end Go.Proofs.YtdpgebifeaakjaaDoor
