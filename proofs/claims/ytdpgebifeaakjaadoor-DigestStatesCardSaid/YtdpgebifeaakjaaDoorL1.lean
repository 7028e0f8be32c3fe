/- The plain law of the shift: what the matrices reckon is so many steps of the register. No program in sight. -/
import Derived.Test.YtdpgebifeaakjaaDoorC4
namespace Go.Proofs.YtdpgebifeaakjaaDoor
set_option linter.unusedSimpArgs false
set_option linter.unusedVariables false
open Go.RowKit

/-- The lowest bit's test. -/
theorem low_test (c : BitVec 32) : (c &&& 1#32 == 1#32) = c.getLsbD 0 := by
  have h : (c &&& 1#32).toNat = c.toNat % 2 := by rw [BitVec.toNat_and]; exact Nat.and_one_is_mod _
  have g : c.getLsbD 0 = decide (c.toNat % 2 = 1) := by simp [BitVec.getLsbD, Nat.testBit_zero]
  rw [g]
  by_cases e : c.toNat % 2 = 1
  · have : c &&& 1#32 = 1#32 := BitVec.eq_of_toNat_eq (by rw [h, e]; rfl)
    simp [this, e]
  · have : c &&& 1#32 ≠ 1#32 := fun h' => e (by rw [← h, h']; rfl)
    simp [this, e]

def Lin (f : BitVec 32 → BitVec 32) : Prop := ∀ x y, f (x ^^^ y) = f x ^^^ f y
theorem Lin.zero {f : BitVec 32 → BitVec 32} (h : Lin f) : f 0#32 = 0#32 := by
  have := h 0#32 0#32
  rw [BitVec.xor_self, BitVec.xor_self] at this
  exact this
theorem Lin.comp {f g : BitVec 32 → BitVec 32} (hf : Lin f) (hg : Lin g) : Lin (fun x => f (g x)) := fun x y => by
  show f (g (x ^^^ y)) = _
  rw [hg, hf]
theorem Lin.id : Lin (fun x => x) := fun _ _ => rfl

theorem crcBit_eq (c : BitVec 32) : crcBit c = c >>> 1 ^^^ (if c.getLsbD 0 then 0xedb88320#32 else 0#32) := by
  unfold crcBit
  rw [low_test]
  cases c.getLsbD 0 <;> simp
theorem xor4 (a b c d : BitVec 32) : (a ^^^ b) ^^^ (c ^^^ d) = (a ^^^ c) ^^^ (b ^^^ d) := by
  rw [BitVec.xor_assoc, BitVec.xor_assoc, ← BitVec.xor_assoc b c d, BitVec.xor_comm b c, BitVec.xor_assoc]
theorem crcBit_lin : Lin crcBit := by
  intro x y
  have key : (if (x.getLsbD 0 ^^ y.getLsbD 0) then 0xedb88320#32 else 0#32) = (if x.getLsbD 0 then 0xedb88320#32 else 0#32) ^^^ (if y.getLsbD 0 then 0xedb88320#32 else 0#32) := by
    cases x.getLsbD 0 <;> cases y.getLsbD 0 <;> simp
  rw [crcBit_eq, crcBit_eq, crcBit_eq, BitVec.ushiftRight_xor_distrib, BitVec.getLsbD_xor, key, xor4]
theorem crcBits_lin : ∀ n, Lin (crcBits n)
  | 0 => Lin.id
  | n + 1 => crcBit_lin.comp (crcBits_lin n)

theorem split_low (c : BitVec 32) (i : Nat) : c <<< i = ((c >>> 1) <<< (i + 1)) ^^^ (if c.getLsbD 0 then 1#32 <<< i else 0#32) := by
  apply BitVec.eq_of_getLsbD_eq
  intro j hj
  rw [BitVec.getLsbD_xor, BitVec.getLsbD_shiftLeft, BitVec.getLsbD_shiftLeft, BitVec.getLsbD_ushiftRight]
  have hb : (if c.getLsbD 0 = true then 1#32 <<< i else 0#32).getLsbD j = (c.getLsbD 0 && decide (j = i)) := by
    cases c.getLsbD 0
    · simp
    · simp only [if_true, Bool.true_and, BitVec.getLsbD_shiftLeft, hj, decide_true]
      by_cases e : j = i
      · subst e; simp
      · by_cases l : j < i
        · simp [l, e]
        · have : j - i ≠ 0 := by omega
          simp [l, e, BitVec.getLsbD_one, this]
  rw [hb]
  simp only [hj, decide_true, Bool.true_and]
  by_cases e : j = i
  · subst e
    simp
  · by_cases l : j < i
    · have l2 : j < i + 1 := by omega
      simp [l, l2, e]
    · have l2 : ¬ j < i + 1 := by omega
      have l3 : 1 + (j - (i + 1)) = j - i := by omega
      simp [l, l2, e, l3]

/-- The matrix m is the map f. -/
structure Rep (m : Nat → BitVec 32) (f : BitVec 32 → BitVec 32) : Prop where
  lin : Lin f
  at_ : ∀ i, i < 32 → m i = f (1#32 <<< i)
theorem Rep.go {m : Nat → BitVec 32} {f : BitVec 32 → BitVec 32} (h : Rep m f) : ∀ (n i : Nat) (c x : BitVec 32), n + i = 32 → matGo m n i c x = x ^^^ f (c <<< i)
  | 0, i, c, x, e => by
    have : c <<< i = 0#32 := by
      rw [show i = 32 by omega]
      exact BitVec.shiftLeft_eq_zero (by decide)
    rw [matGo, this, h.lin.zero, BitVec.xor_zero]
  | n + 1, i, c, x, e => by
    rw [matGo, Rep.go h n (i + 1) _ _ (by omega), split_low c i, h.lin, low_test]
    cases c.getLsbD 0
    · simp [h.lin.zero]
    · simp only [if_true]
      rw [h.at_ i (by omega), BitVec.xor_assoc, BitVec.xor_comm (f (1#32 <<< i))]
theorem Rep.of {m : Nat → BitVec 32} {f : BitVec 32 → BitVec 32} (h : Rep m f) (c : BitVec 32) : matOf m c = f c := by
  rw [matOf, h.go 32 0 c 0#32 (by decide), BitVec.zero_xor, BitVec.shiftLeft_zero]
theorem Rep.after {m n : Nat → BitVec 32} {f g : BitVec 32 → BitVec 32} (h : Rep m f) (k : Rep n g) : Rep (matAfter m n) (fun x => f (g x)) :=
  ⟨h.lin.comp k.lin, fun i hi => by rw [matAfter, h.of, k.at_ i hi]⟩
theorem Rep.unit : Rep matUnit (fun x => x) := ⟨Lin.id, fun _ _ => rfl⟩
theorem Rep.step : Rep step0 (crcBits 1) := ⟨crcBits_lin 1, fun _ _ => rfl⟩
theorem crcBits_add (a b : Nat) (x : BitVec 32) : crcBits (a + b) x = crcBits a (crcBits b x) := by
  induction a with
  | zero => rw [Nat.zero_add]; rfl
  | succ a ih => rw [Nat.succ_add]; show crcBit (crcBits (a + b) x) = crcBit (crcBits a (crcBits b x)); rw [ih]
theorem Rep.congr {m : Nat → BitVec 32} {f g : BitVec 32 → BitVec 32} (h : Rep m f) (e : ∀ x, f x = g x) : Rep m g := by
  have : f = g := funext e
  exact this ▸ h
theorem Rep.sq {m : Nat → BitVec 32} {a : Nat} (h : Rep m (crcBits a)) : Rep (Go.Proofs.YtdpgebifeaakjaaDoor.sq m) (crcBits (2 * a)) :=
  (h.after h).congr fun x => by rw [Nat.two_mul, crcBits_add]
theorem Rep.shiftGo : ∀ (f n : Nat) (step all : Nat → BitVec 32) (a b : Nat), n < 2 ^ f → Rep step (crcBits a) → Rep all (crcBits b) → Rep (Go.Proofs.YtdpgebifeaakjaaDoor.shiftGo f n step all) (crcBits (a * n + b))
  | 0, n, step, all, a, b, hn, h, k => by
    have : n = 0 := by simpa using hn
    subst this
    rw [Go.Proofs.YtdpgebifeaakjaaDoor.shiftGo, Nat.mul_zero, Nat.zero_add]
    exact k
  | f + 1, n, step, all, a, b, hn, h, k => by
    rw [Go.Proofs.YtdpgebifeaakjaaDoor.shiftGo]
    by_cases h0 : n = 0
    · rw [if_pos h0, h0, Nat.mul_zero, Nat.zero_add]; exact k
    · rw [if_neg h0]
      have hn2 : n / 2 < 2 ^ f := by rw [Nat.pow_succ] at hn; omega
      have hs : Rep (matAfter step step) (crcBits (2 * a)) := h.sq
      by_cases h1 : n % 2 = 1
      · rw [if_pos h1]
        have hk : Rep (matAfter step all) (crcBits (a + b)) := (h.after k).congr fun x => by rw [crcBits_add]
        have := Rep.shiftGo f (n / 2) _ _ (2 * a) (a + b) hn2 hs hk
        have e : 2 * a * (n / 2) + (a + b) = a * n + b := by
          have : n = 2 * (n / 2) + 1 := by omega
          calc 2 * a * (n / 2) + (a + b) = a * (2 * (n / 2) + 1) + b := by rw [Nat.mul_add, Nat.mul_one, Nat.mul_comm 2 a, Nat.mul_assoc]; omega
            _ = a * n + b := by rw [← this]
        rw [e] at this
        exact this
      · rw [if_neg h1]
        have := Rep.shiftGo f (n / 2) _ _ (2 * a) b hn2 hs k
        have e : 2 * a * (n / 2) + b = a * n + b := by
          have : n = 2 * (n / 2) := by omega
          calc 2 * a * (n / 2) + b = a * (2 * (n / 2)) + b := by rw [Nat.mul_comm 2 a, Nat.mul_assoc]
            _ = a * n + b := by rw [← this]
        rw [e] at this
        exact this
theorem shiftAll_rep (n : Nat) (hn : n < 2 ^ 64) : Rep (shiftAll n) (crcBits (8 * n)) := by
  have h8 : Rep (Go.Proofs.YtdpgebifeaakjaaDoor.sq (Go.Proofs.YtdpgebifeaakjaaDoor.sq (Go.Proofs.YtdpgebifeaakjaaDoor.sq step0))) (crcBits 8) := Rep.step.sq.sq.sq
  exact Rep.shiftGo 64 n _ _ 8 0 hn h8 Rep.unit
/-- The shift by n bytes is 8 n steps of the register. -/
theorem crcShift_eq (c : BitVec 32) (n : Nat) (hn : n < 2 ^ 64) : crcShift c n = crcBits (8 * n) c := by
  have h := shiftAll_rep n hn
  unfold crcShift
  by_cases e : eqRow 32 (shiftAll n) matUnit = true
  · rw [if_pos e]
    have hu : Rep matUnit (crcBits (8 * n)) := ⟨h.lin, fun i hi => by rw [← h.at_ i hi, (eqRow_iff 32 _ _).1 e i hi]⟩
    rw [← hu.of c, Rep.unit.of c]
  · rw [if_neg e, h.of c]
end Go.Proofs.YtdpgebifeaakjaaDoor
