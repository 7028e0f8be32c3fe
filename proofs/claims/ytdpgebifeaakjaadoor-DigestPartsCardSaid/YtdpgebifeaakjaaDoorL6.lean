/- States in plain: adding part after part. -/
import Derived.Test.YtdpgebifeaakjaaDoorPE
import Derived.Test.YtdpgebifeaakjaaDoorL5
namespace Go.Proofs.YtdpgebifeaakjaaDoor
set_option linter.unusedSimpArgs false
set_option linter.unusedVariables false
open Go.RowKit

theorem shaFold_left (k h : Nat → BitVec 32) (x y : List (BitVec 8)) : ∀ a, 64 * a ≤ x.length → shaFold k h (x ++ y) a = shaFold k h x a
  | 0, _ => rfl
  | a + 1, hl => by
    rw [shaFold, shaFold, shaFold_left k h x y a (by omega), List.drop_append_of_le_length (by omega), List.take_append_of_le_length (by rw [List.length_drop]; omega)]
theorem shaFold_go (k h : Nat → BitVec 32) (x : List (BitVec 8)) (a : Nat) : ∀ n, shaFold k (shaFold k h x a) (x.drop (64 * a)) n = shaFold k h x (a + n)
  | 0 => rfl
  | n + 1 => by
    rw [← Nat.add_assoc, shaFold, shaFold, shaFold_go k h x a n, List.drop_drop, Nat.mul_add]
theorem split_eq (x y : List (BitVec 8)) : addRest x ++ y = (x ++ y).drop (64 * (x.length / 64)) := by
  rw [addRest, List.drop_append_of_le_length (by omega)]
theorem addRest_append (x y : List (BitVec 8)) : addRest (addRest x ++ y) = addRest (x ++ y) := by
  rw [split_eq, addRest, addRest, List.drop_drop, List.length_drop, List.length_append]
  congr 1
  omega
theorem addH_append (k h : Nat → BitVec 32) (x y : List (BitVec 8)) : addH k (addH k h x) (addRest x ++ y) = addH k h (x ++ y) := by
  rw [split_eq, addH, addH, addH, ← shaFold_left k h x y _ (by omega), shaFold_go, List.length_drop, List.length_append]
  congr 1
  omega
theorem addRest_length (l : List (BitVec 8)) : (addRest l).length = l.length % 64 := by
  rw [addRest, List.length_drop]; omega
theorem validB_of (l : List (BitVec 8)) (hl : l.length ≤ 1099511627776) : validB (strOf (addRest l)) l.length = true := by
  unfold validB
  rw [size_strOf, addRest_length, Bool.and_eq_true, Bool.and_eq_true]
  refine ⟨⟨decide_eq_true (by omega), decide_eq_true (by omega)⟩, beq_iff_eq.2 (by omega)⟩
/-- The state behind a byte sequence. -/
def stP (l : List (BitVec 8)) : Array Value := stG (addH roundK startK l) (strOf (addRest l)) l.length
theorem stP_nil : stG startK ByteArray.empty 0 = stP [] := rfl
theorem addAns_ok (l : List (BitVec 8)) (s : ByteArray) (h : l.length + s.size ≤ 1099511627776) :
    addAns (addH roundK startK l) (strOf (addRest l)) l.length s = (stP (l ++ bts s), 0) := by
  rw [addAns, if_pos (validB_of l (by omega)), if_pos (by omega), bts_strOf, addH_append, addRest_append, stP, List.length_append, bts_length]
  push_cast
  rfl
theorem endAns_ok (l : List (BitVec 8)) (h : l.length ≤ 1099511627776) : endAns (addH roundK startK l) (strOf (addRest l)) l.length = (sha l, 0) := by
  rw [endAns, if_pos (validB_of l h), bts_strOf, size_strOf]
  rfl
end Go.Proofs.YtdpgebifeaakjaaDoor
