/- The plain law of the product of two polynomials. No program in sight. -/
import Derived.Test.YtdpgebifeaakjaaDoorL3
namespace Go.Proofs.YtdpgebifeaakjaaDoor
set_option linter.unusedSimpArgs false
set_option linter.unusedVariables false

theorem lin_ext {f g : BitVec 32 → BitVec 32} (hf : Lin f) (hg : Lin g) (h : ∀ i, i < 32 → f (1#32 <<< i) = g (1#32 <<< i)) (x : BitVec 32) : f x = g x := by
  have r1 : Rep (fun i => f (1#32 <<< i)) f := ⟨hf, fun _ _ => rfl⟩
  have r2 : Rep (fun i => f (1#32 <<< i)) g := ⟨hg, h⟩
  rw [← r1.of x, r2.of x]
/-- The highest bit, k places down. -/
def topBit (k : Nat) : BitVec 32 := (1#32 <<< 31) >>> k
/-- The product of two polynomials, k rounds of it. -/
def timesP (a b : BitVec 32) : Nat → BitVec 32
  | 0 => 0#32
  | k + 1 => if a &&& topBit k = 0#32 then timesP a b k else timesP a b k ^^^ crcBits k b
theorem topBit_at (k i : Nat) (hk : k < 32) : (topBit k).getLsbD i = decide (i = 31 - k) := by
  rw [topBit, BitVec.getLsbD_ushiftRight, one_at 31 _ (by omega)]
  simp; omega
theorem topBit_test (a : BitVec 32) (k : Nat) (hk : k < 32) : (a &&& topBit k = 0#32) ↔ a.getLsbD (31 - k) = false := by
  constructor
  · intro h
    have := congrArg (fun y => BitVec.getLsbD y (31 - k)) h
    simp only [BitVec.getLsbD_and, topBit_at k _ hk] at this
    simpa using this
  · intro h
    apply BitVec.eq_of_getLsbD_eq
    intro i hi
    rw [BitVec.getLsbD_and, topBit_at k i hk]
    by_cases e : i = 31 - k
    · rw [e, h]; simp
    · simp [e]
theorem timesP_step (a b : BitVec 32) (k : Nat) (hk : k < 32) : timesP a b (k + 1) = timesP a b k ^^^ (if a.getLsbD (31 - k) then crcBits k b else 0#32) := by
  rw [timesP]
  cases h : a.getLsbD (31 - k)
  · rw [if_pos ((topBit_test a k hk).2 h)]; simp
  · rw [if_neg (fun e => by rw [(topBit_test a k hk).1 e] at h; cases h)]; simp
theorem timesP_lin1 (b : BitVec 32) : ∀ k, k ≤ 32 → Lin (fun a => timesP a b k)
  | 0, _ => fun _ _ => by show 0#32 = 0#32 ^^^ 0#32; simp
  | k + 1, hk => fun x y => by
    have key : (if (x.getLsbD (31 - k) ^^ y.getLsbD (31 - k)) then crcBits k b else 0#32) = (if x.getLsbD (31 - k) then crcBits k b else 0#32) ^^^ (if y.getLsbD (31 - k) then crcBits k b else 0#32) := by
      cases x.getLsbD (31 - k) <;> cases y.getLsbD (31 - k) <;> simp
    show timesP (x ^^^ y) b (k + 1) = timesP x b (k + 1) ^^^ timesP y b (k + 1)
    rw [timesP_step _ _ _ hk, timesP_step _ _ _ hk, timesP_step _ _ _ hk, BitVec.getLsbD_xor, key, ← xor4]
    rw [show timesP (x ^^^ y) b k = timesP x b k ^^^ timesP y b k from timesP_lin1 b k (by omega) x y]
theorem timesP_lin2 (a : BitVec 32) : ∀ k, k ≤ 32 → Lin (fun b => timesP a b k)
  | 0, _ => fun _ _ => by show 0#32 = 0#32 ^^^ 0#32; simp
  | k + 1, hk => fun x y => by
    show timesP a (x ^^^ y) (k + 1) = timesP a x (k + 1) ^^^ timesP a y (k + 1)
    rw [timesP_step _ _ _ hk, timesP_step _ _ _ hk, timesP_step _ _ _ hk, show timesP a (x ^^^ y) k = timesP a x k ^^^ timesP a y k from timesP_lin2 a k (by omega) x y, crcBits_lin k]
    cases a.getLsbD (31 - k)
    · simp
    · simp only [if_true]; rw [xor4]
/-- A single bit times a word. -/
theorem timesP_one (i : Nat) (hi : i < 32) (b : BitVec 32) : ∀ k, k ≤ 32 → timesP (1#32 <<< i) b k = if 31 - i < k then crcBits (31 - i) b else 0#32
  | 0, _ => by rw [if_neg (by omega)]; rfl
  | k + 1, hk => by
    rw [timesP_step _ _ _ hk, timesP_one i hi b k (by omega), one_at i _ hi]
    by_cases e : k = 31 - i
    · have e1 : decide (31 - k = i) = true := by simp; omega
      rw [if_neg (show ¬ 31 - i < k by omega), if_pos e1, if_pos (show 31 - i < k + 1 by omega), e]; simp
    · have e1 : ¬ decide (31 - k = i) = true := by simp; omega
      rw [if_neg e1, BitVec.xor_zero]
      by_cases l : 31 - i < k
      · rw [if_pos l, if_pos (by omega)]
      · rw [if_neg l, if_neg (by omega)]
theorem poly_times : ∀ j, j < 32 → timesP 0xedb88320#32 (1#32 <<< j) 32 = crcBits 32 (1#32 <<< j) := by decide +kernel
theorem crcBit_one : crcBit 1#32 = 0xedb88320#32 := by decide
/-- A step of the register ahead of the product is one behind it. -/
theorem timesP_bit (a b : BitVec 32) : timesP (crcBit a) b 32 = crcBit (timesP a b 32) := by
  refine lin_ext (f := fun a => timesP (crcBit a) b 32) (g := fun a => crcBit (timesP a b 32)) ?_ ?_ (fun i hi => ?_) a
  · exact fun x y => by
      show timesP (crcBit (x ^^^ y)) b 32 = _
      rw [crcBit_lin]; exact timesP_lin1 b 32 (Nat.le_refl _) _ _
  · exact fun x y => by
      show crcBit (timesP (x ^^^ y) b 32) = _
      rw [show timesP (x ^^^ y) b 32 = timesP x b 32 ^^^ timesP y b 32 from timesP_lin1 b 32 (Nat.le_refl _) x y, crcBit_lin]
  · show timesP (crcBit (1#32 <<< i)) b 32 = crcBit (timesP (1#32 <<< i) b 32)
    rw [timesP_one i hi b 32 (Nat.le_refl _), if_pos (by omega)]
    cases i with
    | zero =>
      rw [show (1#32 <<< 0) = 1#32 by decide, crcBit_one]
      have hL : ∀ x, timesP 0xedb88320#32 x 32 = crcBits 32 x := lin_ext (timesP_lin2 _ 32 (Nat.le_refl _)) (crcBits_lin 32) poly_times
      rw [hL]; rfl
    | succ i =>
      have e : crcBit (1#32 <<< (i + 1)) = 1#32 <<< i := by
        have h := crcBits_shr 1 (1#32 <<< (i + 1)) fun j hj => by rw [one_at (i + 1) j hi]; simp; omega
        have h2 : crcBits 1 (1#32 <<< (i + 1)) = crcBit (1#32 <<< (i + 1)) := rfl
        rw [← h2, h]
        apply BitVec.eq_of_getLsbD_eq
        intro j hj
        rw [BitVec.getLsbD_ushiftRight, one_at _ _ hi, one_at _ _ (by omega)]
        simp; omega
      rw [e, timesP_one i (by omega) b 32 (Nat.le_refl _), if_pos (by omega), show 31 - i = (31 - (i + 1)) + 1 by omega]
      rfl
theorem timesP_bits (b : BitVec 32) : ∀ (n : Nat) (a : BitVec 32), timesP (crcBits n a) b 32 = crcBits n (timesP a b 32)
  | 0, _ => rfl
  | n + 1, a => by
    show timesP (crcBit (crcBits n a)) b 32 = crcBit (crcBits n (timesP a b 32))
    rw [timesP_bit, timesP_bits b n a]
/-- The polynomial of n steps, times a word: n steps of it. -/
theorem times_steps (n : Nat) (b : BitVec 32) : timesP (crcBits n (1#32 <<< 31)) b 32 = crcBits n b := by
  rw [timesP_bits, timesP_one 31 (by omega) b 32 (Nat.le_refl _), if_pos (by omega)]
  rfl
theorem eight_steps : crcBits 8 (1#32 <<< 31) = 1#32 <<< 23 := by decide +kernel
end Go.Proofs.YtdpgebifeaakjaaDoor
