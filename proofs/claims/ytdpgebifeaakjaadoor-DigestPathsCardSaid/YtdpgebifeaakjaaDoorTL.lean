/- Blocks that tile a range, and the digest that they give. -/
import Derived.Test.YtdpgebifeaakjaaDoorGP
import Derived.Test.YtdpgebifeaakjaaDoorMJ
namespace Go.Proofs.YtdpgebifeaakjaaDoor
set_option linter.unusedSimpArgs false
set_option linter.unusedVariables false

/-- The blocks L, whose digests are T from o on, tile the range of m leaves from a on by nodes of its tree, and give it the digest d. -/
inductive Tl (T : Nat → Nat → BitVec 8) : Nat → Nat → Nat → List (Nat × Nat) → (Nat → BitVec 8) → Prop
  | one (o a m : Nat) (h : 0 < m) : Tl T o a m [(a, m)] (T o)
  | two (o a m : Nat) (L1 L2 : List (Nat × Nat)) (d1 d2 : Nat → BitVec 8) (hm : 2 ≤ m) (hb : m ≤ 1099511627776) (h1 : Tl T o a (halfN m) L1 d1) (h2 : Tl T (o + L1.length) (a + halfN m) (m - halfN m) L2 d2) : Tl T o a m (L1 ++ L2) (nodeD d1 d2)
theorem Tl.pos {T : Nat → Nat → BitVec 8} {o a m : Nat} {L : List (Nat × Nat)} {d : Nat → BitVec 8} (h : Tl T o a m L d) : 0 < m := by
  cases h with
  | one _ _ _ h => exact h
  | two _ _ _ _ _ _ _ hm => omega
theorem Tl.head {T : Nat → Nat → BitVec 8} {o a m : Nat} {L : List (Nat × Nat)} {d : Nat → BitVec 8} (h : Tl T o a m L d) : ∃ s R, L = (a, s) :: R ∧ 0 < s ∧ s ≤ m := by
  induction h with
  | one o a m h => exact ⟨m, [], rfl, h, Nat.le_refl _⟩
  | two o a m L1 L2 d1 d2 hm hb h1 h2 ih1 ih2 =>
    obtain ⟨s, R, rfl, h3, h4⟩ := ih1
    have := halfN_facts m hm hb
    exact ⟨s, R ++ L2, rfl, h3, by omega⟩
/-- Blocks one behind the other from a to b, each of the size of a power of two and at a multiple of it. -/
def Al : List (Nat × Nat) → Nat → Nat → Prop
  | [], a, b => a = b
  | x :: R, a, b => x.1 = a ∧ (∃ k, x.2 = 2 ^ k ∧ 2 ^ k ∣ a) ∧ Al R (a + x.2) b
theorem Al.le : ∀ {L : List (Nat × Nat)} {a b : Nat}, Al L a b → a ≤ b
  | [], a, b, h => Nat.le_of_eq h
  | x :: R, a, b, h => by
    have := h.2.2.le
    omega
theorem Al.nil {L : List (Nat × Nat)} {a : Nat} (h : Al L a a) : L = [] := by
  cases L with
  | nil => rfl
  | cons x R =>
    obtain ⟨_, ⟨k, hk, _⟩, h3⟩ := h
    have := h3.le
    have := Nat.two_pow_pos k
    omega
theorem Al.append : ∀ {L M : List (Nat × Nat)} {a b c : Nat}, Al L a b → Al M b c → Al (L ++ M) a c
  | [], M, a, b, c, h, k => by cases h; exact k
  | x :: R, M, a, b, c, h, k => ⟨h.1, h.2.1, h.2.2.append k⟩
/-- Where no block lies over c, they part there. -/
theorem Al.split : ∀ {L : List (Nat × Nat)} {a b c : Nat}, Al L a b → a ≤ c → c ≤ b → (∀ x ∈ L, a ≤ x.1 → x.1 + x.2 ≤ b → (∃ k, x.2 = 2 ^ k ∧ 2 ^ k ∣ x.1) → ¬ (x.1 < c ∧ c < x.1 + x.2)) → ∃ M N, L = M ++ N ∧ Al M a c ∧ Al N c b
  | [], a, b, c, h, h1, h2, _ => by
    have e : a = b := h
    obtain rfl : a = c := by omega
    exact ⟨[], [], rfl, rfl, h⟩
  | x :: R, a, b, c, h, h1, h2, h3 => by
    by_cases hc : a = c
    · subst hc
      exact ⟨[], x :: R, rfl, rfl, h⟩
    · obtain ⟨e, ⟨k, hk, hd⟩, hr⟩ := id h
      have hle := hr.le
      have hn := h3 x (List.mem_cons_self ..) (by omega) (by omega) ⟨k, hk, by rw [e]; exact hd⟩
      obtain ⟨M, N, hL, hM, hN⟩ := hr.split (c := c) (by omega) h2 fun y hy h4 h5 h6 => h3 y (List.mem_cons_of_mem _ hy) (by omega) h5 h6
      exact ⟨x :: M, N, by rw [hL]; rfl, ⟨e, ⟨k, hk, hd⟩, hM⟩, hN⟩
theorem Al.head_of {L : List (Nat × Nat)} {a b : Nat} (h : Al L a b) (hab : a < b) : ∃ s R, L = (a, s) :: R ∧ (∃ k, s = 2 ^ k ∧ 2 ^ k ∣ a) ∧ Al R (a + s) b := by
  cases L with
  | nil => have : a = b := h; omega
  | cons x R =>
    obtain ⟨h1, h2, h3⟩ := h
    obtain ⟨u, v⟩ := x
    dsimp only at h1 h2 h3
    subst h1
    exact ⟨v, R, rfl, h2, h3⟩
/-- Contiguous, aligned blocks tile a node of the tree. -/
theorem tiles (T : Nat → Nat → BitVec 8) : ∀ (m o a : Nat) (L : List (Nat × Nat)), 0 < m → m ≤ 1099511627776 → (∃ j, m ≤ 2 ^ j ∧ 2 ^ j ∣ a) → Al L a (a + m) → ∃ d, Tl T o a m L d := by
  intro m
  induction m using Nat.strongRecOn with
  | ind m ih =>
    intro o a L h0 hb ⟨j, hj1, hj2⟩ hL
    obtain ⟨s, R, rfl, ⟨k, hk, hkd⟩, hR⟩ := hL.head_of (by omega)
    have hle := hR.le
    by_cases hs : s = m
    · subst hs
      rw [hR.nil]
      exact ⟨_, .one o a s h0⟩
    · have hp := Nat.two_pow_pos k
      obtain ⟨f1, f2, f3⟩ := halfN_facts m (by omega) hb
      obtain ⟨q, hq1, hq2⟩ := pow_of (m - 1) (by omega) (by omega)
      have hq : q + 1 ≤ 64 := by
        apply Classical.byContradiction
        intro hn
        have : 2 ^ 41 ≤ 2 ^ q := Nat.pow_le_pow_right (by decide) (by omega)
        omega
      have hh : halfN m = 2 ^ q := halfN_of m q (by omega) (by omega) hq
      have hqa : 2 ^ q ∣ a := by
        refine Nat.dvd_trans (Nat.pow_dvd_pow 2 ?_) hj2
        apply Classical.byContradiction
        intro hn
        have : 2 ^ j ≤ 2 ^ q := Nat.pow_le_pow_right (by decide) (by omega)
        omega
      have hqa2 : 2 ^ q ∣ a + halfN m := by rw [hh]; exact Nat.dvd_add hqa (Nat.dvd_refl _)
      obtain ⟨M, N, hMN, hM, hN⟩ := hL.split (c := a + halfN m) (by omega) (by omega) (by
        rintro x hx h1 h2 ⟨r, hr, hrd⟩ ⟨h3, h4⟩
        by_cases hrq : r ≤ q
        · have d1 : 2 ^ r ∣ a + halfN m := Nat.dvd_trans (Nat.pow_dvd_pow 2 hrq) hqa2
          obtain ⟨u, hu⟩ := d1
          obtain ⟨v, hv⟩ := hrd
          rw [hr] at h4
          rw [hu] at h3 h4
          rw [hv] at h3 h4
          have e1 : v < u := Nat.lt_of_mul_lt_mul_left h3
          have e2 : 2 ^ r * u < 2 ^ r * (v + 1) := by rw [Nat.mul_add, Nat.mul_one]; exact h4
          have e3 : u < v + 1 := Nat.lt_of_mul_lt_mul_left e2
          omega
        · have e1 : 2 ^ (q + 1) ≤ 2 ^ r := Nat.pow_le_pow_right (by decide) (by omega)
          have e2 : m ≤ x.2 := by rw [hr]; omega
          have e3 : x.1 = a := by omega
          have e4 : x.2 = m := by omega
          rcases List.mem_cons.1 hx with rfl | hx
          · exact hs e4
          · have : ∀ {L : List (Nat × Nat)} {a b : Nat}, Al L a b → ∀ x ∈ L, a ≤ x.1 := by
              intro L
              induction L with
              | nil => intro a b _ x hx; cases hx
              | cons y L ih =>
                intro a b h x hx
                rcases List.mem_cons.1 hx with rfl | hx
                · exact Nat.le_of_eq h.1.symm
                · have := ih h.2.2 x hx
                  omega
            have := this hR x hx
            omega)
      rw [hMN]
      obtain ⟨d1, t1⟩ := ih (halfN m) f2 o a M f1 (by omega) ⟨q, by rw [hh]; exact Nat.le_refl _, hqa⟩ hM
      obtain ⟨d2, t2⟩ := ih (m - halfN m) (by omega) (o + M.length) (a + halfN m) N (by omega) (by omega) ⟨q, by omega, hqa2⟩ (by rw [show a + halfN m + (m - halfN m) = a + m by omega]; exact hN)
      exact ⟨_, .two o a m M N d1 d2 (by omega) hb t1 t2⟩
theorem ctz_dvd (c : Nat) (h : 0 < c) (hc : c ≤ 1099511627776) : 2 ^ Lib.ctz 64 c ∣ c := by
  have hx : c < 2 ^ 64 := by have : (2:Nat) ^ 64 = 18446744073709551616 := rfl; omega
  obtain ⟨m, h1, h2⟩ := Lib.ctzFrom_spec 64 c h hx
  rw [Lib.ctz, if_neg (by omega)]
  exact ⟨2 * m + 1, h1⟩
/-- A cover is so. -/
theorem cover_al (b : Nat) (hb : b ≤ 1099511627776) : ∀ (n a : Nat), b - a ≤ n → a ≤ b → Al (coverL a b) a b := by
  intro n
  induction n with
  | zero =>
    intro a h1 h2
    rw [coverL_nil (by omega)]
    show a = b
    omega
  | succ n ih =>
    intro a h1 h2
    by_cases hab : a < b
    · rw [coverL_cons hab]
      have hp := stepN_pos a b
      have hl := stepN_le a b hab hb
      refine ⟨rfl, ?_, ih _ (by omega) (by omega)⟩
      dsimp only
      by_cases h0 : 0 < a
      · have hs : stepN a b = min (2 ^ (Lib.bitLen (b - a) - 1)) (2 ^ Lib.ctz 64 a) := if_pos h0
        have hd := ctz_dvd a h0 (by omega)
        by_cases hle : Lib.bitLen (b - a) - 1 ≤ Lib.ctz 64 a
        · exact ⟨_, by rw [hs]; exact Nat.min_eq_left (Nat.pow_le_pow_right (by decide) hle), Nat.dvd_trans (Nat.pow_dvd_pow 2 hle) hd⟩
        · exact ⟨_, by rw [hs]; exact Nat.min_eq_right (Nat.pow_le_pow_right (by decide) (by omega)), hd⟩
      · obtain rfl : a = 0 := by omega
        exact ⟨_, if_neg h0, Nat.dvd_zero _⟩
    · rw [coverL_nil hab]
      show a = b
      omega
theorem cover_al' {a b : Nat} (h : a ≤ b) (hb : b ≤ 1099511627776) : Al (coverL a b) a b := cover_al b hb _ a (Nat.le_refl _) h
/-- All leaves. -/
theorem tiles_all (T : Nat → Nat → BitVec 8) (n : Nat) (L : List (Nat × Nat)) (h0 : 0 < n) (hn : n ≤ 1099511627776) (h : Al L 0 n) : ∃ d, Tl T 0 0 n L d :=
  tiles T n 0 0 L h0 hn ⟨64, Nat.le_trans hn (by decide), Nat.dvd_zero _⟩ (by rw [Nat.zero_add]; exact h)
end Go.Proofs.YtdpgebifeaakjaaDoor
