/- Growing in plain: the tops of a cover, and the tree over them. -/
import Derived.Test.YtdpgebifeaakjaaDoorFP
import Derived.Test.YtdpgebifeaakjaaDoorMK
namespace Go.Proofs.YtdpgebifeaakjaaDoor
set_option linter.unusedSimpArgs false
set_option linter.unusedVariables false

theorem bitLen_unique (x k : Nat) (h1 : 2 ^ k ≤ x) (h2 : x < 2 ^ (k + 1)) (hk : k + 1 ≤ 64) : Lib.bitLen x = k + 1 := by
  have hp : 0 < 2 ^ k := Nat.two_pow_pos k
  obtain ⟨l1, l2, l3⟩ := bitLen_spec x (by omega) (Nat.lt_of_lt_of_le h2 (Nat.pow_le_pow_right (by decide) hk))
  have a := bitLen_le x (k + 1) (by omega) h2 hk
  apply Classical.byContradiction
  intro hn
  have : 2 ^ Lib.bitLen x ≤ 2 ^ k := Nat.pow_le_pow_right (by decide) (by omega)
  omega
/-- The step of an aligned cover. -/
theorem stepN_top (a m k : Nat) (hb : a + m ≤ 1099511627776) (h1 : 2 ^ k ≤ m) (h2 : m < 2 ^ (k + 1)) (ha : a = 0 ∨ 2 ^ (k + 1) ∣ a) : stepN a (a + m) = 2 ^ k := by
  have hp : 0 < 2 ^ k := Nat.two_pow_pos k
  have hk : k + 1 ≤ 64 := by
    apply Classical.byContradiction
    intro hn
    have : 2 ^ 41 ≤ 2 ^ k := Nat.pow_le_pow_right (by decide) (by omega)
    omega
  have hl := bitLen_unique m k h1 h2 hk
  unfold stepN
  rw [Nat.add_sub_cancel_left, hl, Nat.add_sub_cancel]
  split
  · rename_i h0
    rcases ha with ha | ha
    · omega
    · have hz := ctz_ge a (k + 1) h0 (by omega) ha
      exact Nat.min_eq_left (Nat.pow_le_pow_right (by decide) (by omega))
  · rfl
theorem pow_of (m : Nat) (hm : 0 < m) (hb : m ≤ 1099511627776) : ∃ k, 2 ^ k ≤ m ∧ m < 2 ^ (k + 1) := by
  obtain ⟨l1, l2, l3⟩ := bitLen_spec m hm (Nat.lt_of_le_of_lt hb (by decide))
  exact ⟨Lib.bitLen m - 1, l2, by rw [show Lib.bitLen m - 1 + 1 = Lib.bitLen m by omega]; exact l3⟩
theorem lt_of_pow {k K M : Nat} (h1 : 2 ^ k ≤ M) (h2 : M < 2 ^ K) : k < K := by
  apply Classical.byContradiction
  intro hn
  have : 2 ^ K ≤ 2 ^ k := Nat.pow_le_pow_right (by decide) (by omega)
  omega
/-- Where a cover of M leaves may begin. -/
def Fits (a M : Nat) : Prop := a = 0 ∨ ∃ K, M < 2 ^ K ∧ 2 ^ K ∣ a
theorem Fits.step {a M k : Nat} (h : Fits a M) (h1 : 2 ^ k ≤ M) : a = 0 ∨ 2 ^ (k + 1) ∣ a := by
  rcases h with h | ⟨K, h2, h3⟩
  · exact .inl h
  · exact .inr (Nat.dvd_trans (Nat.pow_dvd_pow 2 (lt_of_pow h1 h2)) h3)
theorem Fits.next {a M k : Nat} (h : Fits a M) (h1 : 2 ^ k ≤ M) (h2 : M < 2 ^ (k + 1)) : Fits (a + 2 ^ k) (M - 2 ^ k) := by
  refine .inr ⟨k, by rw [Nat.pow_succ] at h2; omega, Nat.dvd_add ?_ (Nat.dvd_refl _)⟩
  rcases h.step h1 with h3 | h3
  · subst h3; exact Nat.dvd_zero _
  · exact Nat.dvd_trans (Nat.pow_dvd_pow 2 (Nat.le_succ k)) h3
theorem coverL_step {a M k : Nat} (hb : a + M ≤ 1099511627776) (h : Fits a M) (h1 : 2 ^ k ≤ M) (h2 : M < 2 ^ (k + 1)) : coverL a (a + M) = (a, 2 ^ k) :: coverL (a + 2 ^ k) ((a + 2 ^ k) + (M - 2 ^ k)) := by
  have hp : 0 < 2 ^ k := Nat.two_pow_pos k
  rw [coverL_cons (by omega), stepN_top a M k hb h1 h2 (h.step h1), show a + 2 ^ k + (M - 2 ^ k) = a + M by omega]
/-- A block more at the end of an aligned cover. -/
theorem coverL_snoc (s : Nat) : ∀ (m a : Nat), a + (m + 2 ^ s) ≤ 1099511627776 → 2 ^ (s + 1) ∣ m → Fits a (m + 2 ^ s) → coverL a (a + (m + 2 ^ s)) = coverL a (a + m) ++ [(a + m, 2 ^ s)] := by
  intro m
  induction m using Nat.strongRecOn with
  | ind m ih =>
    intro a hb hd ha
    have hs : 0 < 2 ^ s := Nat.two_pow_pos s
    by_cases hm : m = 0
    · subst hm
      rw [coverL_step (k := s) hb ha (by omega) (by rw [Nat.pow_succ]; omega), coverL_nil (by omega), coverL_nil (by omega)]
      rfl
    · obtain ⟨k, h1, h2⟩ := pow_of m (by omega) (by omega)
      have hk : s + 1 ≤ k := by
        have h3 := Nat.le_of_dvd (by omega) hd
        have := lt_of_pow h3 h2
        omega
      have hle : m + 2 ^ (s + 1) ≤ 2 ^ (k + 1) := by
        have hd2 : 2 ^ (s + 1) ∣ 2 ^ (k + 1) - m := Nat.dvd_sub (Nat.pow_dvd_pow 2 (by omega)) hd
        have := Nat.le_of_dvd (by omega) hd2
        omega
      have hM : m + 2 ^ s < 2 ^ (k + 1) := by rw [Nat.pow_succ 2 s] at hle; omega
      have ha' : Fits a m := by
        rcases ha with ha | ⟨K, h3, h4⟩
        · exact .inl ha
        · exact .inr ⟨K, by omega, h4⟩
      rw [coverL_step hb ha (by omega) hM, coverL_step (by omega) ha' h1 h2, List.cons_append]
      congr 1
      have hp : 0 < 2 ^ k := Nat.two_pow_pos k
      have := ih (m - 2 ^ k) (by omega) (a + 2 ^ k) (by omega) (Nat.dvd_sub hd (Nat.pow_dvd_pow 2 hk)) (by
        have := ha.next (by omega) hM
        rwa [show m + 2 ^ s - 2 ^ k = m - 2 ^ k + 2 ^ s by omega] at this)
      rw [show m + 2 ^ s - 2 ^ k = m - 2 ^ k + 2 ^ s by omega, this, show a + 2 ^ k + (m - 2 ^ k) = a + m by omega]
/-- Trees do not hang on the fuel. -/
theorem treeF_fuel : ∀ (f g n : Nat) (D : Nat → Nat → BitVec 8), n ≤ f → n ≤ g → n ≤ 1099511627776 → treeF f n D = treeF g n D := by
  intro f
  induction f with
  | zero =>
    intro g n D h1 h2 h3
    have : n = 0 := by omega
    subst this
    cases g <;> simp [treeF]
  | succ f ih =>
    intro g n D h1 h2 h3
    by_cases h0 : n = 0
    · subst h0
      cases g <;> simp [treeF]
    · obtain ⟨g, rfl⟩ : ∃ g', g = g' + 1 := ⟨g - 1, by omega⟩
      by_cases hn1 : n = 1
      · subst hn1; simp [treeF]
      · obtain ⟨c1, c2, c3⟩ := halfN_facts n (by omega) h3
        rw [treeF_step f n D h0 hn1, treeF_step g n D h0 hn1, ih g (halfN n) D (by omega) (by omega) (by omega), ih g (n - halfN n) _ (by omega) (by omega) (by omega)]
/-- The digest of a range. -/
def tr (D : Nat → Nat → BitVec 8) (a m : Nat) : Nat → BitVec 8 := treeF m m fun j => D (a + j)
theorem tr_split {D : Nat → Nat → BitVec 8} {a m k : Nat} (h1 : 2 ^ k < m) (h2 : m ≤ 2 ^ (k + 1)) (hm : m ≤ 1099511627776) : tr D a m = nodeD (tr D a (2 ^ k)) (tr D (a + 2 ^ k) (m - 2 ^ k)) := by
  have hp : 0 < 2 ^ k := Nat.two_pow_pos k
  have hk : k + 1 ≤ 64 := by
    apply Classical.byContradiction
    intro hn
    have : 2 ^ 41 ≤ 2 ^ k := Nat.pow_le_pow_right (by decide) (by omega)
    omega
  have hh := halfN_of m k h1 h2 hk
  obtain ⟨f, rfl⟩ : ∃ f, m = f + 1 := ⟨m - 1, by omega⟩
  unfold tr
  rw [treeF_step f (f + 1) _ (by omega) (by omega), hh, treeF_fuel f (2 ^ k) (2 ^ k) _ (by omega) (by omega) (by omega), treeF_fuel f (f + 1 - 2 ^ k) (f + 1 - 2 ^ k) _ (by omega) (by omega) (by omega)]
  congr 1
  funext j
  congr 2
  funext i
  rw [Nat.add_assoc]
theorem tr_double (D : Nat → Nat → BitVec 8) (a s : Nat) (hm : 2 ^ (s + 1) ≤ 1099511627776) : nodeD (tr D a (2 ^ s)) (tr D (a + 2 ^ s) (2 ^ s)) = tr D a (2 ^ (s + 1)) := by
  have hp : 0 < 2 ^ s := Nat.two_pow_pos s
  have hq : 2 ^ (s + 1) = 2 * 2 ^ s := by rw [Nat.pow_succ, Nat.mul_comm]
  rw [tr_split (k := s) (by omega) (Nat.le_refl _) hm, show 2 ^ (s + 1) - 2 ^ s = 2 ^ s by omega]
theorem tr_one (D : Nat → Nat → BitVec 8) (a : Nat) : tr D a 1 = leafD (D a) := by simp [tr, treeF]
/-- A leaf more: the tops of the cover. -/
theorem grow_plain (D : Nat → Nat → BitVec 8) (n : Nat) (hn : n + 1 ≤ 1099511627776) : ∀ (f s u k : Nat) (x : Nat → BitVec 8) (T : Nat → Nat → BitVec 8), u < 2 ^ f → n + 1 = 2 ^ s * u + 2 ^ s → k = (coverL 0 (2 ^ s * u)).length →
    (∀ i, i < k → T i = topT (coverL 0 (2 ^ s * u)) D i) → x = tr D (2 ^ s * u) (2 ^ s) →
    (growF f u k T x).1 + 1 = (coverL 0 (n + 1)).length ∧ ∀ i, i < (growF f u k T x).1 + 1 → snocT (growF f u k T x).1 T (growF f u k T x).2 i = topT (coverL 0 (n + 1)) D i := by
  have even : ∀ (f s v k : Nat) (x : Nat → BitVec 8) (T : Nat → Nat → BitVec 8), n + 1 = 2 ^ s * (2 * v) + 2 ^ s → k = (coverL 0 (2 ^ s * (2 * v))).length → (∀ i, i < k → T i = topT (coverL 0 (2 ^ s * (2 * v))) D i) → x = tr D (2 ^ s * (2 * v)) (2 ^ s) →
      k + 1 = (coverL 0 (n + 1)).length ∧ ∀ i, i < k + 1 → snocT k T x i = topT (coverL 0 (n + 1)) D i := by
    intro f s v k x T hnu hk hT hx
    have hc := coverL_snoc s (2 ^ s * (2 * v)) 0 (by omega) ⟨v, by rw [Nat.pow_succ, Nat.mul_assoc]⟩ (.inl rfl)
    rw [Nat.zero_add, Nat.zero_add, ← hnu] at hc
    rw [hc]
    refine ⟨by rw [List.length_append, List.length_singleton, hk], fun i hi => ?_⟩
    by_cases h : i < k
    · rw [snocT, if_pos h, hT i h]
      have e : (coverL 0 (2 ^ s * (2 * v)) ++ [(2 ^ s * (2 * v), 2 ^ s)]).getD i (0, 0) = (coverL 0 (2 ^ s * (2 * v))).getD i (0, 0) := by
        rw [List.getD, List.getD, List.getElem?_append_left (by omega)]
      rw [topT, topT, e]
    · have hi' : i = k := by omega
      subst hi'
      rw [snocT, if_neg h, hx, topT]
      have e : (coverL 0 (2 ^ s * (2 * v)) ++ [(2 ^ s * (2 * v), 2 ^ s)]).getD i (0, 0) = (2 ^ s * (2 * v), 2 ^ s) := by
        rw [List.getD, List.getElem?_append_right (by omega), hk, Nat.sub_self]
        rfl
      rw [e, tr]
  intro f
  induction f with
  | zero =>
    intro s u k x T hu hnu hk hT hx
    have : u = 0 := by simpa using hu
    subst this
    exact even 0 s 0 k x T hnu hk hT hx
  | succ f ih =>
    intro s u k x T hu hnu hk hT hx
    by_cases ho : u % 2 = 1
    · obtain ⟨v, rfl⟩ : ∃ v, u = 2 * v + 1 := ⟨u / 2, by omega⟩
      rw [growF, if_pos ho, show (2 * v + 1) / 2 = v by omega]
      have e1 : 2 ^ s * (2 * v + 1) = 2 ^ s * (2 * v) + 2 ^ s := by rw [Nat.mul_add, Nat.mul_one]
      have e2 : 2 ^ (s + 1) * v = 2 ^ s * (2 * v) := by rw [Nat.pow_succ, Nat.mul_assoc]
      have e3 : 2 ^ (s + 1) = 2 ^ s + 2 ^ s := by rw [Nat.pow_succ]; omega
      have e0 : 2 ^ s * (2 * v) + 2 ^ s ≤ n + 1 := by rw [hnu, e1]; exact Nat.le_add_right _ _
      have hc := coverL_snoc s (2 ^ s * (2 * v)) 0 (by rw [Nat.zero_add]; exact Nat.le_trans e0 hn) ⟨v, by rw [Nat.pow_succ, Nat.mul_assoc]⟩ (.inl rfl)
      rw [Nat.zero_add, Nat.zero_add, ← e1] at hc
      rw [hc] at hk hT
      rw [List.length_append, List.length_singleton] at hk
      subst hk
      rw [Nat.add_sub_cancel]
      have hT0 := hT _ (Nat.lt_succ_self _)
      have e4 : (coverL 0 (2 ^ s * (2 * v)) ++ [(2 ^ s * (2 * v), 2 ^ s)]).getD (coverL 0 (2 ^ s * (2 * v))).length (0, 0) = (2 ^ s * (2 * v), 2 ^ s) := by
        rw [List.getD, List.getElem?_append_right (Nat.le_refl _), Nat.sub_self]
        rfl
      rw [topT, e4] at hT0
      refine ih (s + 1) v (coverL 0 (2 ^ s * (2 * v))).length _ T (by rw [Nat.pow_succ] at hu; omega) (by rw [hnu, e2, e3, e1]; omega) (by rw [e2]) ?_ ?_
      · intro i hi
        rw [hT i (by omega), e2]
        have e : (coverL 0 (2 ^ s * (2 * v)) ++ [(2 ^ s * (2 * v), 2 ^ s)]).getD i (0, 0) = (coverL 0 (2 ^ s * (2 * v))).getD i (0, 0) := by
          rw [List.getD, List.getD, List.getElem?_append_left (by omega)]
        rw [topT, topT, e]
      · rw [hT0, hx, e1, e2]
        refine tr_double D (2 ^ s * (2 * v)) s ?_
        rw [e1] at hnu
        omega
    · obtain ⟨v, rfl⟩ : ∃ v, u = 2 * v := ⟨u / 2, by omega⟩
      rw [growF, if_neg ho]
      exact even (f + 1) s v k x T hnu hk hT hx
theorem grow_next (D : Nat → Nat → BitVec 8) (n : Nat) (hn : n + 1 ≤ 1099511627776) (T : Nat → Nat → BitVec 8) (hT : ∀ i, i < pcN 64 n → T i = topT (coverL 0 n) D i) :
    (growF 64 n (pcN 64 n) T (leafD (D n))).1 + 1 = (coverL 0 (n + 1)).length ∧ ∀ i, i < (growF 64 n (pcN 64 n) T (leafD (D n))).1 + 1 → snocT (growF 64 n (pcN 64 n) T (leafD (D n))).1 T (growF 64 n (pcN 64 n) T (leafD (D n))).2 i = topT (coverL 0 (n + 1)) D i := by
  have hpc := coverL_pc n 0 (by omega) (.inl rfl)
  rw [Nat.zero_add] at hpc
  refine grow_plain D n hn 64 0 n (pcN 64 n) _ T (Nat.lt_of_lt_of_le hn (by decide)) (by simp) (by rw [Nat.pow_zero, Nat.one_mul, hpc]) ?_ ?_
  · rw [Nat.pow_zero, Nat.one_mul]; exact hT
  · rw [Nat.pow_zero, Nat.one_mul, tr_one]
/-- The loop of Top. -/
def topF : Nat → (Nat → BitVec 8) → (Nat → Nat → BitVec 8) → (Nat → BitVec 8)
  | 0, x, _ => x
  | i + 1, x, T => topF i (nodeD (T i) x) T
theorem topF_first (T : Nat → Nat → BitVec 8) : ∀ (i : Nat) (x : Nat → BitVec 8), topF (i + 1) x T = nodeD (T 0) (topF i x fun i => T (i + 1))
  | 0, x => rfl
  | i + 1, x => by
    rw [topF, topF_first T i]
    rfl
theorem topF_congr {T U : Nat → Nat → BitVec 8} : ∀ (i : Nat) (x : Nat → BitVec 8), (∀ j, j < i → T j = U j) → topF i x T = topF i x U
  | 0, x, _ => rfl
  | i + 1, x, h => by rw [topF, topF, h i (by omega), topF_congr i _ fun j hj => h j (by omega)]
theorem top_plain (D : Nat → Nat → BitVec 8) : ∀ (M a : Nat), 0 < M → a + M ≤ 1099511627776 → Fits a M → 0 < (coverL a (a + M)).length ∧ topF ((coverL a (a + M)).length - 1) (topT (coverL a (a + M)) D ((coverL a (a + M)).length - 1)) (topT (coverL a (a + M)) D) = tr D a M := by
  intro M
  induction M using Nat.strongRecOn with
  | ind M ih =>
    intro a h0 hb hf
    obtain ⟨k, h1, h2⟩ := pow_of M h0 (by omega)
    have hp : 0 < 2 ^ k := Nat.two_pow_pos k
    rw [coverL_step hb hf h1 h2]
    by_cases he : M = 2 ^ k
    · rw [show M - 2 ^ k = 0 by omega, coverL_nil (by omega), he]
      exact ⟨by simp, rfl⟩
    · obtain ⟨i1, i2⟩ := ih (M - 2 ^ k) (by omega) (a + 2 ^ k) (by omega) (by omega) (hf.next h1 h2)
      generalize coverL (a + 2 ^ k) (a + 2 ^ k + (M - 2 ^ k)) = L at i1 i2 ⊢
      refine ⟨by simp, ?_⟩
      obtain ⟨j, hj⟩ : ∃ j, L.length = j + 1 := ⟨L.length - 1, by omega⟩
      rw [List.length_cons, hj, Nat.add_sub_cancel, topF_first]
      rw [hj, Nat.add_sub_cancel] at i2
      have e : ∀ i, topT ((a, 2 ^ k) :: L) D (i + 1) = topT L D i := fun i => by rw [topT, topT]; simp [List.getD]
      rw [e j, show (fun i => topT ((a, 2 ^ k) :: L) D (i + 1)) = topT L D from funext e, i2]
      exact (tr_split (by omega) (by omega) (by omega)).symm
end Go.Proofs.YtdpgebifeaakjaaDoor
