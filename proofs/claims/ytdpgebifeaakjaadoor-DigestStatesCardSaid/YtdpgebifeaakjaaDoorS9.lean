/- The walk of the hasher's method add. -/
import Derived.Test.YtdpgebifeaakjaaDoorS8
namespace Go.Proofs.YtdpgebifeaakjaaDoor
set_option linter.unusedSimpArgs false
set_option linter.unusedVariables false
open Go.RowKit

/-- The first n blocks of a byte sequence processed. -/
def shaFold (k h : Nat → BitVec 32) (l : List (BitVec 8)) : Nat → (Nat → BitVec 32)
  | 0 => h
  | n + 1 => shaBlock k (shaFold k h l n) ((l.drop (64 * n)).take 64)
/-- All whole blocks; what is left. -/
def addH (k h : Nat → BitVec 32) (l : List (BitVec 8)) : Nat → BitVec 32 := shaFold k h l (l.length / 64)
def addRest (l : List (BitVec 8)) : List (BitVec 8) := l.drop (64 * (l.length / 64))

theorem bts_append (x y : ByteArray) : bts (x ++ y) = bts x ++ bts y := by
  simp [bts, ByteArray.data_append]
theorem bts_extract (x : ByteArray) (i j : Nat) : bts (x.extract i j) = ((bts x).drop i).take (j - i) := by
  simp [bts, ByteArray.data_extract, List.map_take, List.map_drop, List.take_drop, List.extract_eq_take_drop]

/-- The length of the string in a slot: for a loop's measure. -/
def lenOfV : Value → Nat | .string s => s.size | _ => 0

set_option maxRecDepth 20000 in
set_option maxHeartbeats 1000000 in
theorem add_any (h k : Nat → BitVec 32) (rest : ByteArray) (len : Int) (b : Nat) (s : ByteArray) (hr : rest.size ≤ 4611686018427387904) (hs : s.size ≤ 4611686018427387903) (hl0 : 0 ≤ len) (hl : len ≤ 4611686018427387904) (w : World) (hb : Blk w b (hasherC h rest len k) 128) :
    Calls Tryd.prog 71 #[.pointer (some ⟨b, 0, none⟩), .string s] w fun e w' => e = .returned (.tuple #[]) ∧ But b w w' ∧ Blk w' b (hasherC (addH k h (bts rest ++ bts s)) (strOf (addRest (bts rest ++ bts s))) (len + s.size) k) 128 := by
  have hc9 := hb.cell 9
  have hc8 := hb.cell 8
  rw [hasherC_len] at hc9
  rw [hasherC_rest] at hc8
  have hf9 := hb.free 9
  have hsum := fun w : World => run_string_add_sum (P := Tryd.prog) w rest s (by omega)
  obtain ⟨L, hL⟩ : ∃ L, bts rest ++ bts s = L := ⟨_, rfl⟩
  have hX : bts (rest ++ s) = L := by rw [bts_append, hL]
  have hXs : (rest ++ s).size ≤ 9223372036854775807 := by rw [ByteArray.size_append]; omega
  rw [hL]
  have HX := hide hX
  have HXS := hide hXs
  clear hX hXs hL
  go_enter Tryd.func71, Tryd.ntmps71
  go_wp2_with fail
  have hb1 := hb.set 9 (.int .i64 (len + s.size))
  rw [hasherC_setLen] at hb1
  have hBut := (But.refl b w).setCell (p := ⟨b, 9, none⟩) (.inl rfl) (.int .i64 (len + s.size))
  clear hc9 hc8 hf9 hsum hb
  go_loopw [1] (fun s1 W => ∃ (n : Nat) (X : ByteArray), s1 = .string X ∧ X.size ≤ 9223372036854775807 ∧ bts X = L.drop (64 * n) ∧ 64 * n ≤ L.length ∧ Blk W b (hasherC (shaFold k h L n) rest (len + s.size) k) 128 ∧ But b w W) (fun s1 _ => lenOfV s1)
  case atStart => exact ⟨0, _, rfl, HXS.out, by rw [HX.out]; rfl, by omega, hb1, hBut⟩
  case round =>
    clear hb1 hBut HX HXS
    obtain ⟨n, X, rfl, hXs, hX, hn, hb1, hBut⟩ := hrel
    have hXl : X.size = L.length - 64 * n := by rw [← bts_length, hX, List.length_drop]
    have HX := hide hX; have HXL := hide hXl; clear hX hXl
    by_cases h64 : 64 ≤ X.size
    · have h641 : (64 : Int) ≤ (X.size : Int) := by omega
      go_wp2_with fail
      have hsz : (X.extract 0 64).size = 64 := by rw [ByteArray.size_extract]; omega
      refine (block_any (shaFold k h L n) k rest (len + s.size) b (X.extract 0 64) hsz _ hb1).mono ?_
      rintro e W1 ⟨rfl, hBut1, hb2⟩
      have hBut2 := hBut.trans hBut1
      have hfold : shaBlock k (shaFold k h L n) (bts (X.extract 0 64)) = shaFold k h L (n + 1) := by
        rw [shaFold, bts_extract, HX.out, List.drop_zero, Nat.sub_zero]
      rw [hfold] at hb2
      clear hfold hsz hBut1 hBut hb1
      go_wp2_with fail
      refine ⟨⟨n + 1, _, rfl, by rw [ByteArray.size_extract]; omega, ?_, by have := HXL.out; omega, hb2, hBut2⟩, ?_⟩
      · rw [bts_extract, HX.out, List.drop_drop, List.take_of_length_le (by rw [List.length_drop]; have := HXL.out; omega), show 64 * n + 64 = 64 * (n + 1) by omega]
      · show (X.extract 64 X.size).size < X.size
        rw [ByteArray.size_extract]; omega
    · have h641 : ¬ (64 : Int) ≤ (X.size : Int) := by omega
      have hf8 := hb1.free 8
      have hc8 := hb1.cell 8
      rw [hasherC_rest] at hc8
      go_wp2_with fail
      go_end0
      have hnn : n = L.length / 64 := by have := HXL.out; omega
      have hb2 := hb1.set 8 (.string X)
      rw [hasherC_setRest] at hb2
      have hXe : X = strOf (addRest L) := by rw [← strOf_bts X, HX.out, addRest, hnn]
      rw [← hXe, addH, ← hnn]
      exact ⟨rfl, hBut.setCell (.inl rfl) _, hb2⟩
end Go.Proofs.YtdpgebifeaakjaaDoor
