/- A cover has few blocks. -/
import Derived.Test.YtdpgebifeaakjaaDoorTL
namespace Go.Proofs.YtdpgebifeaakjaaDoor
set_option linter.unusedSimpArgs false
set_option linter.unusedVariables false
open Go.RowKit
theorem cover_fits_len : ∀ (K a M : Nat), M < 2 ^ K → (a = 0 ∨ 2 ^ K ∣ a) → a + M ≤ 1099511627776 → (coverL a (a + M)).length ≤ K := by
  intro K
  induction K using Nat.strongRecOn with
  | ind K ih =>
    intro a M hM ha hb
    by_cases h0 : M = 0
    · subst h0
      rw [coverL_nil (by omega)]
      exact Nat.zero_le _
    · have h1 := Nat.log2_self_le h0
      have h2 := @Nat.lt_log2_self M
      have hk : M.log2 < K := by
        apply Classical.byContradiction
        intro hn
        have : 2 ^ K ≤ 2 ^ M.log2 := Nat.pow_le_pow_right (by decide) (by omega)
        omega
      have hf : Fits a M := ha.elim .inl fun h => .inr ⟨K, hM, h⟩
      have := ih M.log2 hk (a + 2 ^ M.log2) (M - 2 ^ M.log2) (by rw [Nat.pow_succ] at h2; omega) (.inr (Nat.dvd_add (by
        rcases ha with h | h
        · rw [h]; exact Nat.dvd_zero _
        · exact Nat.dvd_trans (Nat.pow_dvd_pow 2 (by omega)) h) (Nat.dvd_refl _))) (by omega)
      rw [coverL_step hb hf h1 h2, List.length_cons]
      omega
theorem cover_len_any (b : Nat) (hb : b ≤ 1099511627776) : ∀ (r j a : Nat), 64 - j ≤ r → 2 ^ j ∣ a → 0 < a → a ≤ b → (coverL a b).length ≤ r + 64 := by
  intro r
  induction r with
  | zero =>
    intro j a hj hd h0 hab
    exfalso
    have h1 := Nat.le_of_dvd h0 hd
    have h2 : 2 ^ 64 ≤ 2 ^ j := Nat.pow_le_pow_right (by decide) (by omega)
    have h3 : (2:Nat) ^ 64 = 18446744073709551616 := rfl
    omega
  | succ r ih =>
    intro j a hj hd h0 hab
    by_cases hlt : a < b
    · have hx : a < 2 ^ 64 := by have : (2:Nat) ^ 64 = 18446744073709551616 := rfl; omega
      obtain ⟨m, e1, e2⟩ := Lib.ctzFrom_spec 64 a h0 hx
      obtain ⟨c, hc⟩ : ∃ c, Lib.ctz 64 a = c := ⟨_, rfl⟩
      have hcc : Lib.ctzFrom 64 a = c := by rw [← hc, Lib.ctz, if_neg (by omega)]
      rw [hcc] at e1
      have hc64 : c < 64 := hc ▸ ctz_lt a h0 (by omega)
      have hjc : j ≤ c := by
        apply Classical.byContradiction
        intro hn
        have hd2 : 2 ^ (c + 1) ∣ a := Nat.dvd_trans (Nat.pow_dvd_pow 2 (by omega)) hd
        rw [e1, Nat.pow_succ] at hd2
        have := Nat.dvd_of_mul_dvd_mul_left (Nat.two_pow_pos c) hd2
        omega
      have hcd : 2 ^ c ∣ a := ⟨_, e1⟩
      by_cases hM : b - a < 2 ^ c
      · have := cover_fits_len c a (b - a) hM (.inr hcd) (by omega)
        rw [show a + (b - a) = b by omega] at this
        omega
      · have hs : stepN a b = 2 ^ c := by
          obtain ⟨g1, g2, g3⟩ := bitLen_spec (b - a) (by omega) (by have : (2:Nat) ^ 64 = 18446744073709551616 := rfl; omega)
          rw [stepN, if_pos h0, hc]
          refine Nat.min_eq_right (Nat.pow_le_pow_right (by decide) ?_)
          apply Classical.byContradiction
          intro hn
          have h5 : 2 ^ (Lib.bitLen (b - a)) ≤ 2 ^ c := Nat.pow_le_pow_right (by decide) (by omega)
          omega
        rw [coverL_cons hlt, List.length_cons, hs]
        have := ih (c + 1) (a + 2 ^ c) (by omega) ⟨m + 1, by rw [Nat.pow_succ, e1, Nat.mul_assoc, ← Nat.mul_succ]; congr 1⟩ (by omega) (by omega)
        omega
    · rw [coverL_nil hlt]
      exact Nat.zero_le _
/-- At most 128. -/
theorem cover_len {a b : Nat} (hab : a ≤ b) (hb : b ≤ 1099511627776) : (coverL a b).length ≤ 128 := by
  by_cases h0 : a = 0
  · subst h0
    have := cover_fits_len 64 0 b (Nat.lt_of_le_of_lt hb (by decide)) (.inl rfl) (by omega)
    rw [Nat.zero_add] at this
    omega
  · exact cover_len_any b hb 64 0 a (by omega) (by rw [Nat.pow_zero]; exact Nat.one_dvd _) (by omega) hab
end Go.Proofs.YtdpgebifeaakjaaDoor
