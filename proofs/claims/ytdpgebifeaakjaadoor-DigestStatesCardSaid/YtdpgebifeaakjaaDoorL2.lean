/- The compression function, reckoned step by step: a form that the kernel carries out. No program in sight. -/
import Derived.Test.YtdpgebifeaakjaaDoorS7
namespace Go.Proofs.YtdpgebifeaakjaaDoor
set_option linter.unusedSimpArgs false
set_option linter.unusedVariables false
open Go.RowKit

/-- Reckon x, then go on. -/
def forceB {α : Type} (x : BitVec 32) (k : BitVec 32 → α) : α := match x.toNat with
  | 0 => k 0#32
  | m + 1 => k (BitVec.ofNat 32 (m + 1))
theorem forceB_eq {α : Type} (x : BitVec 32) (k : BitVec 32 → α) : forceB x k = k x := by
  unfold forceB
  have h : BitVec.ofNat 32 x.toNat = x := by simp
  split
  · rename_i e
    rw [e] at h
    exact congrArg k h
  · rename_i m e
    rw [e] at h
    exact congrArg k h

/-- A state of eight words. -/
def st (a b c d e f g h : BitVec 32) (i : Nat) : BitVec 32 := [a, b, c, d, e, f, g, h].getD i 0#32
theorem st_round (k w a b c d e f g h : BitVec 32) : ∀ i, i < 8 → shaRound k w (st a b c d e f g h) i =
    st (shaX k w (st a b c d e f g h) + shaY (st a b c d e f g h)) a b c (d + shaX k w (st a b c d e f g h)) e f g i := by
  intro i hi
  match i, hi with
  | 0, _ => rfl
  | 1, _ => rfl
  | 2, _ => rfl
  | 3, _ => rfl
  | 4, _ => rfl
  | 5, _ => rfl
  | 6, _ => rfl
  | 7, _ => rfl
theorem shaX_congr (k w : BitVec 32) {v u : Nat → BitVec 32} (h : ∀ i, i < 8 → v i = u i) : shaX k w v = shaX k w u := by
  unfold shaX; rw [h 7 (by decide), h 4 (by decide), h 5 (by decide), h 6 (by decide)]
theorem shaY_congr {v u : Nat → BitVec 32} (h : ∀ i, i < 8 → v i = u i) : shaY v = shaY u := by
  unfold shaY; rw [h 0 (by decide), h 1 (by decide), h 2 (by decide)]
theorem shaRound_congr (k w : BitVec 32) {v u : Nat → BitVec 32} (h : ∀ i, i < 8 → v i = u i) : ∀ i, i < 8 → shaRound k w v i = shaRound k w u i := by
  intro i hi
  have hx := shaX_congr k w h
  have hy := shaY_congr h
  match i, hi with
  | 0, _ => show shaX k w v + shaY v = shaX k w u + shaY u; rw [hx, hy]
  | 1, _ => exact h 0 (by decide)
  | 2, _ => exact h 1 (by decide)
  | 3, _ => exact h 2 (by decide)
  | 4, _ => show v 3 + shaX k w v = u 3 + shaX k w u; rw [hx, h 3 (by decide)]
  | 5, _ => exact h 4 (by decide)
  | 6, _ => exact h 5 (by decide)
  | 7, _ => exact h 6 (by decide)

/-- n rounds from round t on. -/
def goF (k w : Nat → BitVec 32) : Nat → Nat → BitVec 32 → BitVec 32 → BitVec 32 → BitVec 32 → BitVec 32 → BitVec 32 → BitVec 32 → BitVec 32 → List (BitVec 32)
  | 0, _, a, b, c, d, e, f, g, h => [a, b, c, d, e, f, g, h]
  | n + 1, t, a, b, c, d, e, f, g, h =>
    forceB (shaX (k t) (w t) (st a b c d e f g h)) fun x => forceB (x + shaY (st a b c d e f g h)) fun a' => forceB (d + x) fun e' => goF k w n (t + 1) a' a b c e' e f g
theorem goF_eq (k w : Nat → BitVec 32) (v : Nat → BitVec 32) : ∀ (n t : Nat) (a b c d e f g h : BitVec 32), (∀ i, i < 8 → shaRounds k w t v i = st a b c d e f g h i) →
    ∀ i, i < 8 → shaRounds k w (t + n) v i = (goF k w n t a b c d e f g h).getD i 0#32
  | 0, t, a, b, c, d, e, f, g, h, hyp => hyp
  | n + 1, t, a, b, c, d, e, f, g, h, hyp => by
    intro i hi
    rw [show t + (n + 1) = (t + 1) + n by omega, goF, forceB_eq, forceB_eq, forceB_eq]
    refine goF_eq k w v n (t + 1) _ _ _ _ _ _ _ _ (fun j hj => ?_) i hi
    show shaRound (k t) (w t) (shaRounds k w t v) j = _
    rw [shaRound_congr (k t) (w t) hyp j hj, st_round _ _ _ _ _ _ _ _ _ _ j hj]

/-- The words of the schedule, the newest first. -/
def schedF (s : List (BitVec 8)) : Nat → Nat → List (BitVec 32) → List (BitVec 32)
  | 0, _, ws => ws
  | n + 1, t, ws => forceB (if t < 16 then wordAt s t else ws.getD 15 0#32 + sig0 (ws.getD 14 0#32) + ws.getD 6 0#32 + sig1 (ws.getD 1 0#32)) fun x => schedF s n (t + 1) (x :: ws)
theorem sched_stable (s : List (BitVec 8)) : ∀ (t i : Nat), i < t → sched s t i = wNew s (sched s i) i
  | 0, i, h => absurd h (by omega)
  | t + 1, i, h => by
    show (if i = t then wNew s (sched s t) t else sched s t i) = _
    by_cases e : i = t
    · rw [if_pos e, e]
    · rw [if_neg e, sched_stable s t i (by omega)]
/-- The list holds the words below t. -/
def Holds (s : List (BitVec 8)) (t : Nat) (ws : List (BitVec 32)) : Prop := ws.length = t ∧ ∀ i, i < t → ws.getD (t - 1 - i) 0#32 = wNew s (sched s i) i
theorem schedF_eq (s : List (BitVec 8)) : ∀ (n t : Nat) (ws : List (BitVec 32)), Holds s t ws → Holds s (t + n) (schedF s n t ws)
  | 0, t, ws, h => h
  | n + 1, t, ws, h => by
    rw [schedF, forceB_eq, show t + (n + 1) = (t + 1) + n by omega]
    refine schedF_eq s n (t + 1) _ ⟨by simp [h.1], fun i hi => ?_⟩
    by_cases e : i = t
    · rw [e, show t + 1 - 1 - t = 0 by omega, List.getD_cons_zero, wNew]
      by_cases h16 : t < 16
      · rw [if_pos h16, if_pos h16]
      · rw [if_neg h16, if_neg h16]
        have g : ∀ d, 1 ≤ d → d ≤ 16 → ws.getD (d - 1) 0#32 = sched s t (t - d) := fun d h1 h2 => by
          rw [sched_stable s t (t - d) (by omega), ← h.2 (t - d) (by omega), show t - 1 - (t - d) = d - 1 by omega]
        rw [← g 16 (by decide) (by decide), ← g 15 (by decide) (by decide), ← g 7 (by decide) (by decide), ← g 2 (by decide) (by decide)]
    · rw [show t + 1 - 1 - i = (t - 1 - i) + 1 by omega, List.getD_cons_succ]
      exact h.2 i (by omega)
/-- Reckon a list, then go on. -/
def forceL {α : Type} : List (BitVec 32) → (List (BitVec 32) → α) → α
  | [], k => k []
  | x :: l, k => forceL l fun l' => forceB x fun x' => k (x' :: l')
theorem forceL_eq {α : Type} : ∀ (l : List (BitVec 32)) (k : List (BitVec 32) → α), forceL l k = k l
  | [], _ => rfl
  | x :: l, k => by rw [forceL, forceL_eq l, forceB_eq]
/-- A block, reckoned. -/
def blockF (k h : Nat → BitVec 32) (s : List (BitVec 8)) : List (BitVec 32) :=
  forceL (schedF s 64 0 []) fun ws => goF k (fun t => ws.getD (63 - t) 0#32) 64 0 (h 0) (h 1) (h 2) (h 3) (h 4) (h 5) (h 6) (h 7)
theorem shaRounds_congr (k : Nat → BitVec 32) {w u : Nat → BitVec 32} (v : Nat → BitVec 32) : ∀ (n : Nat), (∀ t, t < n → w t = u t) → shaRounds k w n v = shaRounds k u n v
  | 0, _ => rfl
  | n + 1, h => by rw [shaRounds, shaRounds, h n (by omega), shaRounds_congr k v n fun t ht => h t (by omega)]
theorem shaBlock_eq (k h : Nat → BitVec 32) (s : List (BitVec 8)) : ∀ i, i < 8 → shaBlock k h s i = h i + (blockF k h s).getD i 0#32 := by
  intro i hi
  have hs := schedF_eq s 64 0 [] ⟨rfl, fun i hi => absurd hi (by omega)⟩
  rw [shaBlock, shaRounds_congr k h 64 (u := fun t => (schedF s 64 0 []).getD (63 - t) 0#32) fun t ht => by
    rw [sched_stable s 64 t ht, ← hs.2 t (by omega)]]
  rw [blockF, forceL_eq, ← goF_eq k _ h 64 0 _ _ _ _ _ _ _ _ (fun j hj => ?_) i hi]
  match j, hj with
  | 0, _ => rfl
  | 1, _ => rfl
  | 2, _ => rfl
  | 3, _ => rfl
  | 4, _ => rfl
  | 5, _ => rfl
  | 6, _ => rfl
  | 7, _ => rfl

def emptyBlock : List (BitVec 8) := 128#8 :: List.replicate 63 0#8
def abcBlock : List (BitVec 8) := [97#8, 98#8, 99#8, 128#8] ++ List.replicate 59 0#8 ++ [24#8]
theorem empty_words : (List.range 8).map (fun i => startK i + (blockF roundK startK emptyBlock).getD i 0#32) = [0xe3b0c442#32, 0x98fc1c14#32, 0x9afbf4c8#32, 0x996fb924#32, 0x27ae41e4#32, 0x649b934c#32, 0xa495991b#32, 0x7852b855#32] := by decide +kernel
theorem abc_words : (List.range 8).map (fun i => startK i + (blockF roundK startK abcBlock).getD i 0#32) = [0xba7816bf#32, 0x8f01cfea#32, 0x414140de#32, 0x5dae2223#32, 0xb00361a3#32, 0x96177a9c#32, 0xb410ff61#32, 0xf20015ad#32] := by decide +kernel
end Go.Proofs.YtdpgebifeaakjaaDoor
