/- Hex and Unhex are inverse: plain. What a region that draws keeps. -/
import Derived.Test.YtdpgebifeaakjaaDoorHU
namespace Go.Proofs.YtdpgebifeaakjaaDoor
set_option linter.unusedSimpArgs false
set_option linter.unusedVariables false
open Go.RowKit

def unhexD (s : ByteArray) : Nat → BitVec 8 := if okHex s then unhexAt s 32 else fun _ => 0#8
def unhexE (s : ByteArray) : Int := if okHex s then 0 else 2
theorem unhexV_eq (s : ByteArray) : unhexV s = .tuple #[.agg (A8 16 (unhexD s)), .int .i64 (unhexE s)] := by
  unfold unhexV unhexD unhexE
  split <;> rfl
theorem unhexC_eq (s : ByteArray) : unhexC s = digC (unhexD s) (unhexE s) := by
  unfold unhexC unhexD unhexE
  split <;> rfl
theorem hexDig_ok : ∀ x : BitVec 8, x.toNat < 16 → isDig (hexDig x) = true ∧ dig (hexDig x) = x := by decide +kernel
theorem two_nibs : ∀ x : BitVec 8, ((((0#8 <<< 4) ||| (x / 16#8)) <<< 4) ||| (x % 16#8)) = x := by decide +kernel
theorem hexByte (d : Nat → BitVec 8) (j : Nat) (h : j < 32) : byteAt (strOf (hexList d)) j = hexCell d j := by
  rw [byteAt, bts_strOf]
  simp [hexList, h]
theorem hexCell_nib (d : Nat → BitVec 8) (j : Nat) : ∃ x : BitVec 8, x.toNat < 16 ∧ hexCell d j = hexDig x := by
  unfold hexCell
  split
  · exact ⟨_, div16 _, rfl⟩
  · exact ⟨_, mod16 _, rfl⟩
theorem hexList_ok (d : Nat → BitVec 8) : okHex (strOf (hexList d)) := by
  refine ⟨by rw [size_strOf]; simp [hexList], fun i hi => ?_⟩
  rw [hexByte d i hi]
  obtain ⟨x, hx, e⟩ := hexCell_nib d i
  rw [e]
  exact (hexDig_ok x hx).1
theorem unhex_hex (d : Nat → BitVec 8) : ∀ m, m ≤ 16 → ∀ j, unhexAt (strOf (hexList d)) (2 * m) j = if j < m then d j else 0#8
  | 0, _, j => by rw [if_neg (by omega)]; rfl
  | m + 1, hm, j => by
    have ih := unhex_hex d m (by omega)
    rw [show 2 * (m + 1) = 2 * m + 1 + 1 by omega]
    have e1 : dig (byteAt (strOf (hexList d)) (2 * m)) = d m / 16#8 := by
      rw [hexByte d _ (by omega), hexCell, if_pos (by omega), show 2 * m / 2 = m by omega]
      exact (hexDig_ok _ (div16 _)).2
    have e2 : dig (byteAt (strOf (hexList d)) (2 * m + 1)) = d m % 16#8 := by
      rw [hexByte d _ (by omega), hexCell, if_neg (by omega), show (2 * m + 1) / 2 = m by omega]
      exact (hexDig_ok _ (mod16 _)).2
    have s1 : ∀ j, unhexAt (strOf (hexList d)) (2 * m + 1) j = if j = m then (unhexAt (strOf (hexList d)) (2 * m) m <<< 4) ||| (d m / 16#8) else unhexAt (strOf (hexList d)) (2 * m) j := fun j => by
      show (if j = 2 * m / 2 then _ else _) = _
      rw [show 2 * m / 2 = m by omega, e1]
    show (if j = (2 * m + 1) / 2 then _ else _) = _
    rw [show (2 * m + 1) / 2 = m by omega, e2]
    by_cases h : j = m
    · rw [if_pos h, if_pos (by omega), s1, if_pos rfl, ih m, if_neg (by omega), two_nibs, h]
    · rw [if_neg h, s1, if_neg h, ih j]
      by_cases h' : j < m
      · rw [if_pos h', if_pos (by omega)]
      · rw [if_neg h', if_neg (by omega)]
theorem unhexV_hex (d : Nat → BitVec 8) : unhexV (strOf (hexList d)) = .tuple #[.agg (A8 16 d), .int .i64 0] := by
  rw [unhexV, if_pos (hexList_ok d)]
  have : A8 16 (unhexAt (strOf (hexList d)) 32) = A8 16 d := A8.ext fun i hi => by
    rw [show (32 : Nat) = 2 * 16 from rfl, unhex_hex d 16 (Nat.le_refl _), if_pos hi]
  rw [this]

theorem keep6 {w W W' : World} {b1 o1 b2 o2 b3 o3 b4 o4 : Nat} {c1 c2 c3 c4 : List Value} {a : Addr} {v : Value}
    (h : Below w.heap.size w W ∧ W.rangeAt b1 o1 c1 ∧ W.rangeAt b2 o2 c2 ∧ W.rangeAt b3 o3 c3 ∧ W.rangeAt b4 o4 c4 ∧ W.cell? a = some v) (hb : Below W.heap.size W W') :
    Below w.heap.size w W' ∧ W'.rangeAt b1 o1 c1 ∧ W'.rangeAt b2 o2 c2 ∧ W'.rangeAt b3 o3 c3 ∧ W'.rangeAt b4 o4 c4 ∧ W'.cell? a = some v :=
  ⟨h.1.trans (hb.mono h.1.size), rangeAt_below h.2.1 hb, rangeAt_below h.2.2.1 hb, rangeAt_below h.2.2.2.1 hb, rangeAt_below h.2.2.2.2.1 hb, cell_below h.2.2.2.2.2 hb⟩
end Go.Proofs.YtdpgebifeaakjaaDoor
