/- The walk of DigestAlgebra: true. -/
import Derived.Test.YtdpgebifeaakjaaDoorAX
import Derived.Test.YtdpgebifeaakjaaDoorSN
import Derived.Deep.OwnRows
namespace Go.Proofs.YtdpgebifeaakjaaDoor
set_option linter.unusedSimpArgs false
set_option linter.unusedVariables false
open Go.RowKit

theorem tabB {w w' : World} (h : TabAt 3 Lib.deBruijn64tab w) (h3 : 3 < w.heap.size) (hb : Below w.heap.size w w') : TabAt 3 Lib.deBruijn64tab w' :=
  fun j hj => (hb.cell (p := ⟨3, j, none⟩) h3).trans (h j hj)

/-- Combine of two CRCs is that of one behind the other. -/
theorem combine_two (x y : ByteArray) (n : Int) (hn : n = y.size) (hy : y.size ≤ 1099511627776) (w : World) :
    Calls Tryd.prog 27 #[U32 (crc (bts x)), U32 (crc (bts y)), .int .i64 n] w fun e w' => e = .returned (.tuple #[U32 (crc (bts (x ++ y))), .int .i64 0]) ∧ Below w.heap.size w w' := by
  subst hn
  have h := combine_any (crc (bts x)) (crc (bts y)) y.size w
  have e : combineS (crc (bts x)) (crc (bts y)) y.size = (crc (bts (x ++ y)), 0) := by
    rw [combineS, if_pos (by simp [countedB]; omega), Int.toNat_natCast, crcShift_eq _ _ (by omega), bts_append, crc_append, bts_length]
  rw [e] at h
  exact h
theorem zeros_two (x : ByteArray) (n : Nat) (hn : n ≤ 1099511627776) (w : World) :
    Calls Tryd.prog 26 #[U32 (crc (bts x)), .int .i64 n] w fun e w' => e = .returned (.tuple #[U32 (crc (bts (x ++ strOf (List.replicate n 0#8)))), .int .i64 0]) ∧ Below w.heap.size w w' := by
  have h := zeros_any (crc (bts x)) n w
  have e : zerosS (crc (bts x)) n = (crc (bts (x ++ strOf (List.replicate n 0#8))), 0) := by
    rw [zerosS, if_pos (by simp [countedB]; omega), Int.toNat_natCast, crcShift_eq _ _ (by omega), bts_append, bts_strOf, crc_zeros]
  rw [e] at h
  exact h
theorem patch_two (x y y' z : ByteArray) (n : Nat) (hn : z.size = n) (hy : y.size = y'.size) (hz : n ≤ 1099511627776) (hs : y.size ≤ maxLen) (w : World) :
    Calls Tryd.prog 28 #[U32 (crc (bts (x ++ y ++ z))), .int .i64 n, .string y, .string y'] w fun e w' => e = .returned (.tuple #[U32 (crc (bts (x ++ y' ++ z))), .int .i64 0]) ∧ Below w.heap.size w w' := by
  subst hn
  have h := patch_any (crc (bts (x ++ y ++ z))) z.size y y' w hs (hy ▸ hs)
  have e : patchS (crc (bts (x ++ y ++ z))) z.size (bts y) (bts y') = (crc (bts (x ++ y' ++ z)), 0) := by
    rw [patchS, if_pos ⟨by rw [bts_length, bts_length]; exact hy, by simp [countedB]; omega⟩, Int.toNat_natCast, crcShift_eq _ _ (by omega)]
    have := crc_patch (bts x) (bts y) (bts y') (bts z) (by rw [bts_length, bts_length]; exact hy)
    rw [bts_length] at this
    rw [bts_append, bts_append, this, bts_append, bts_append]
  rw [e] at h
  exact h
theorem info5 : (Tryd.prog.info? 5).map (fun i => (i.zero, i.size, i.bytes)) = some (some (.int .u8 0), 1, 1) := by kernel_rfl
theorem made_zeros (n : Nat) : madeCells #[Value.int .u8 0] n = A8 n fun _ => 0#8 := by
  apply Array.ext_getElem?
  intro j
  by_cases hj : j < n
  · rw [A8.get _ hj]
    simp [madeCells, hj, Nat.mod_one]
    rfl
  · rw [Array.getElem?_eq_none (by simp [madeCells]; omega), Array.getElem?_eq_none (by rw [A8.size]; omega)]

set_option maxRecDepth 100000 in
set_option maxHeartbeats 8000000 in
theorem algebra_any (x y z : ByteArray) (hx : x.size ≤ maxLen) (hy : y.size ≤ maxLen) (hz : z.size ≤ maxLen) (w : World) (hT : TabAt 3 Lib.deBruijn64tab w) (h3 : 3 < w.heap.size) :
    Calls Tryd.prog 7 #[.string x, .string y, .string z] w fun e w' => e = .returned (.bool true) ∧ Below w.heap.size w w' := by
  unfold maxLen at hx hy hz
  have hshort : (1000 : Int) < (x.size : Int) ∨ ¬ (1000 : Int) < (x.size : Int) ∧ (1000 : Int) < (y.size : Int) ∨ ¬ (1000 : Int) < (x.size : Int) ∧ ¬ (1000 : Int) < (y.size : Int) ∧ (1000 : Int) < (z.size : Int) ∨ ¬ (1000 : Int) < (x.size : Int) ∧ ¬ (1000 : Int) < (y.size : Int) ∧ ¬ (1000 : Int) < (z.size : Int) := by omega
  rcases hshort with h | ⟨h, h'⟩ | ⟨h, h', h''⟩ | ⟨h, h', h''⟩
  · go_enter Tryd.func7, Tryd.ntmps7
    go_wp2_with fail
    refine (sane_any _ hT h3).mono ?_
    rintro e w' ⟨rfl, hB⟩
    go_wp2_with fail
    go_ret
    exact ⟨rfl, hB⟩
  · go_enter Tryd.func7, Tryd.ntmps7
    go_wp2_with fail
    refine (sane_any _ hT h3).mono ?_
    rintro e w' ⟨rfl, hB⟩
    go_wp2_with fail
    go_ret
    exact ⟨rfl, hB⟩
  · go_enter Tryd.func7, Tryd.ntmps7
    go_wp2_with fail
    refine (sane_any _ hT h3).mono ?_
    rintro e w' ⟨rfl, hB⟩
    go_wp2_with fail
    go_ret
    exact ⟨rfl, hB⟩
  · have cx : ∀ s : ByteArray, s.size ≤ 5000 → ∀ w, Calls Tryd.prog 25 #[.string s] w fun e w' => e = .returned (U32 (crc (bts s))) ∧ Below w.heap.size w w' := fun s hs w => crc_any s w (by unfold maxLen; omega)
    have c1 := combine_two x y y.size rfl (by omega)
    have c2 := combine_two y z z.size rfl (by omega)
    have c3 := combine_two (x ++ y) z z.size rfl (by omega)
    have c4 := combine_two x (y ++ z) ((y.size : Int) + (z.size : Int)) (by rw [ByteArray.size_append]; omega) (by rw [ByteArray.size_append]; omega)
    rw [← ByteArray.append_assoc] at c4
    have s1 : (x ++ y).size ≤ 2000 := by rw [ByteArray.size_append]; omega
    have s2 : (x ++ y ++ z).size ≤ 3000 := by rw [ByteArray.size_append]; omega
    have kx := cx x (by omega)
    have ky := cx y (by omega)
    have kz := cx z (by omega)
    have kxy := cx (x ++ y) (by omega)
    have kxyz := cx (x ++ y ++ z) (by omega)
    have z1 := zeros_two x y.size (by omega)
    have hZ : (strOf (List.replicate y.size 0#8)).size ≤ 1000 := by rw [size_strOf, List.length_replicate]; omega
    have kxo := cx (x ++ strOf (List.replicate y.size 0#8)) (by rw [ByteArray.size_append]; omega)
    have hsum1 := fun w : World => run_string_add_sum (P := Tryd.prog) w x y (by omega)
    have hsum2 := fun w : World => run_string_add_sum (P := Tryd.prog) w (x ++ y) z (by omega)
    have hsum3 := fun w : World => run_string_add_sum (P := Tryd.prog) w x (strOf (List.replicate y.size 0#8)) (by omega)
    have hmk := run_make_row' (P := Tryd.prog) 43 5 (.int .u8 0) 1 Tryd.underlying43 info5 rfl .i64 .i64 y.size (by omega) (by omega)
    have hcz : ∀ w : World, (convert 43 9 (.slice (some ⟨w.heap.size, 0, none⟩) y.size y.size)).run Tryd.prog (w.alloc (.cells (madeCells #[.int .u8 0] y.size) 5)) = .ok (.string (strOf (List.replicate y.size 0#8))) (w.alloc (.cells (madeCells #[.int .u8 0] y.size) 5)) := fun w => by
      rw [made_zeros]
      refine run_bytes_str _ 43 9 5 _ 0 y.size _ y.size (by simp) Tryd.underlying43 Tryd.underlying5 Tryd.underlying9 fun j hj => ?_
      have hj' : j < y.size := by simpa using hj
      rw [(Blk.new w (A8 y.size fun _ => 0#8) 5).cell, Nat.zero_add, A8.get _ hj']
      simp
    generalize strOf (List.replicate y.size 0#8) = O at z1 hZ kxo hsum3 hcz
    generalize madeCells #[Value.int .u8 0] y.size = MC at hmk hcz
    have C1 := hide c1; have C2 := hide c2; have C3 := hide c3; have C4 := hide c4; have KX := hide kx; have KY := hide ky; have KZ := hide kz; have KXY := hide kxy; have KXYZ := hide kxyz; have Z1 := hide z1; have KXO := hide kxo; have CX := hide cx
    clear c1 c2 c3 c4 kx ky kz kxy kxyz z1 kxo cx
    go_enter Tryd.func7, Tryd.ntmps7
    go_wp2_with fail
    refine (KX.out _).mono ?_
    rintro e W1 ⟨rfl, hB⟩
    go_wp2_with fail
    refine (KY.out _).mono ?_
    rintro e W2 ⟨rfl, hB1⟩
    replace hB := hB.trans (hB1.mono hB.size)
    clear hB1
    go_wp2_with fail
    refine (KZ.out _).mono ?_
    rintro e W3 ⟨rfl, hB1⟩
    replace hB := hB.trans (hB1.mono hB.size)
    clear hB1
    go_wp2_with fail
    refine (C1.out _).mono ?_
    rintro e W4 ⟨rfl, hB1⟩
    replace hB := hB.trans (hB1.mono hB.size)
    clear hB1
    go_wp2_with fail
    refine (C2.out _).mono ?_
    rintro e W5 ⟨rfl, hB1⟩
    replace hB := hB.trans (hB1.mono hB.size)
    clear hB1
    go_wp2_with fail
    refine (C3.out _).mono ?_
    rintro e W6 ⟨rfl, hB1⟩
    replace hB := hB.trans (hB1.mono hB.size)
    clear hB1
    go_wp2_with fail
    refine (C4.out _).mono ?_
    rintro e W7 ⟨rfl, hB1⟩
    replace hB := hB.trans (hB1.mono hB.size)
    clear hB1
    go_wp2_with fail
    refine (KXY.out _).mono ?_
    rintro e W8 ⟨rfl, hB1⟩
    replace hB := hB.trans (hB1.mono hB.size)
    clear hB1
    go_wp2_with fail
    refine (KXYZ.out _).mono ?_
    rintro e W9 ⟨rfl, hB1⟩
    replace hB := hB.trans (hB1.mono hB.size)
    clear hB1
    replace hB := hB.alloc hB.size (.cells MC 5)
    clear hsum1 hsum2
    go_wp2_with fail
    clear hmk hcz
    refine (Z1.out _).mono ?_
    rintro e W10 ⟨rfl, hB1⟩
    replace hB := hB.trans (hB1.mono hB.size)
    clear hB1
    go_wp2_with fail
    refine (KXO.out _).mono ?_
    rintro e W11 ⟨rfl, hB1⟩
    replace hB := hB.trans (hB1.mono hB.size)
    clear hB1
    go_wp2_with fail
    · have sX : (x.extract 0 z.size).size = z.size := by rw [ByteArray.size_extract]; omega
      have sY : (y.extract 0 z.size).size = z.size := by rw [ByteArray.size_extract]; omega
      have sZ : z.size = z.size := rfl
      have hn : z.size ≤ 1000 := by omega
      clear hsum3 hZ
      generalize x.extract 0 z.size = X at sX ⊢
      generalize y.extract 0 z.size = Y at sY ⊢
      have b1 : (X ++ Y ++ z).size ≤ 3000 := by rw [ByteArray.size_append, ByteArray.size_append, sX, sY, sZ]; omega
      have b2 : (X ++ X ++ z).size ≤ 3000 := by rw [ByteArray.size_append, ByteArray.size_append, sX, sZ]; omega
      have b3 : (X ++ X).size ≤ 2000 := by rw [ByteArray.size_append, sX]; omega
      have sXY : X.size = Y.size := sX.trans sY.symm
      have sS : (strOf (List.zipWith (· ^^^ ·) (bts X) (bts Y))).size = z.size := by
        rw [size_strOf, List.length_zipWith, bts_length, bts_length, sX, sY, sZ, Nat.min_self]
      have e3 := crc_xor3 (bts X) (bts Y) (bts z) (by rw [bts_length, bts_length]; exact sXY) (by rw [bts_length, bts_length, sY, sZ])
      have bX : X.size ≤ 1000 := by omega
      have bY : Y.size ≤ 1000 := by omega
      have bZ : z.size ≤ 1000 := by omega
      have p1 := patch_two X Y X z (z.size) sZ sXY.symm (by omega) (by unfold maxLen; omega)
      have x1 := xor_any X Y sXY (by unfold maxLen; omega)
      have x2 := xor_any (strOf (List.zipWith (· ^^^ ·) (bts X) (bts Y))) z sS (by unfold maxLen; omega)
      rw [bts_strOf] at x2
      have k2 := CX.out (strOf (List.zipWith (· ^^^ ·) (List.zipWith (· ^^^ ·) (bts X) (bts Y)) (bts z))) (by rw [size_strOf, List.length_zipWith, bts_length, sZ]; omega)
      rw [bts_strOf, e3] at k2
      have hsum4 := fun w : World => run_string_add_sum (P := Tryd.prog) w X X (by omega)
      have hsum5 := fun w : World => run_string_add_sum (P := Tryd.prog) w (X ++ X) z (by omega)
      generalize strOf (List.zipWith (· ^^^ ·) (List.zipWith (· ^^^ ·) (bts X) (bts Y)) (bts z)) = S2 at x2 k2
      generalize strOf (List.zipWith (· ^^^ ·) (bts X) (bts Y)) = S1 at x1 x2
      have P1 := hide p1; have X1 := hide x1; have X2 := hide x2; have K2 := hide k2
      clear p1 x1 x2 k2 e3 sS sX sY sZ sXY
      refine (CX.out (X ++ Y ++ z) (by omega) _).mono ?_
      rintro e W12 ⟨rfl, hB1⟩
      replace hB := hB.trans (hB1.mono hB.size)
      clear hB1
      go_wp2_with fail
      refine (P1.out _).mono ?_
      rintro e W13 ⟨rfl, hB1⟩
      replace hB := hB.trans (hB1.mono hB.size)
      clear hB1
      go_wp2_with fail
      refine (sane_any _ (tabB hT h3 hB) (Nat.lt_of_lt_of_le h3 hB.size)).mono ?_
      rintro e W14 ⟨rfl, hB1⟩
      replace hB := hB.trans (hB1.mono hB.size)
      clear hB1
      go_wp2_with fail
      refine (CX.out (X ++ X ++ z) (by omega) _).mono ?_
      rintro e W15 ⟨rfl, hB1⟩
      replace hB := hB.trans (hB1.mono hB.size)
      clear hB1
      go_wp2_with fail
      refine (X1.out _).mono ?_
      rintro e W16 ⟨rfl, hB1⟩
      replace hB := hB.trans (hB1.mono hB.size)
      clear hB1
      go_wp2_with fail
      refine (X2.out _).mono ?_
      rintro e W17 ⟨rfl, hB1⟩
      replace hB := hB.trans (hB1.mono hB.size)
      clear hB1
      go_wp2_with fail
      refine (K2.out _).mono ?_
      rintro e W18 ⟨rfl, hB1⟩
      replace hB := hB.trans (hB1.mono hB.size)
      clear hB1
      go_wp2_with fail
      refine (CX.out X (by omega) _).mono ?_
      rintro e W19 ⟨rfl, hB1⟩
      replace hB := hB.trans (hB1.mono hB.size)
      clear hB1
      go_wp2_with fail
      refine (CX.out Y (by omega) _).mono ?_
      rintro e W20 ⟨rfl, hB1⟩
      replace hB := hB.trans (hB1.mono hB.size)
      clear hB1
      go_wp2_with fail
      refine (CX.out z (by omega) _).mono ?_
      rintro e W21 ⟨rfl, hB1⟩
      replace hB := hB.trans (hB1.mono hB.size)
      clear hB1
      go_wp2_with fail
      go_ret
      exact ⟨rfl, hB⟩
    · have sX : (x.extract 0 y.size).size = y.size := by rw [ByteArray.size_extract]; omega
      have sY : y.size = y.size := rfl
      have sZ : (z.extract 0 y.size).size = y.size := by rw [ByteArray.size_extract]; omega
      have hn : y.size ≤ 1000 := by omega
      clear hsum3 hZ
      generalize x.extract 0 y.size = X at sX ⊢
      generalize z.extract 0 y.size = Z at sZ ⊢
      have b1 : (X ++ y ++ Z).size ≤ 3000 := by rw [ByteArray.size_append, ByteArray.size_append, sX, sY, sZ]; omega
      have b2 : (X ++ X ++ Z).size ≤ 3000 := by rw [ByteArray.size_append, ByteArray.size_append, sX, sZ]; omega
      have b3 : (X ++ X).size ≤ 2000 := by rw [ByteArray.size_append, sX]; omega
      have sXY : X.size = y.size := sX.trans sY.symm
      have sS : (strOf (List.zipWith (· ^^^ ·) (bts X) (bts y))).size = Z.size := by
        rw [size_strOf, List.length_zipWith, bts_length, bts_length, sX, sY, sZ, Nat.min_self]
      have e3 := crc_xor3 (bts X) (bts y) (bts Z) (by rw [bts_length, bts_length]; exact sXY) (by rw [bts_length, bts_length, sY, sZ])
      have bX : X.size ≤ 1000 := by omega
      have bY : y.size ≤ 1000 := by omega
      have bZ : Z.size ≤ 1000 := by omega
      have p1 := patch_two X y X Z (y.size) sZ sXY.symm (by omega) (by unfold maxLen; omega)
      have x1 := xor_any X y sXY (by unfold maxLen; omega)
      have x2 := xor_any (strOf (List.zipWith (· ^^^ ·) (bts X) (bts y))) Z sS (by unfold maxLen; omega)
      rw [bts_strOf] at x2
      have k2 := CX.out (strOf (List.zipWith (· ^^^ ·) (List.zipWith (· ^^^ ·) (bts X) (bts y)) (bts Z))) (by rw [size_strOf, List.length_zipWith, bts_length, sZ]; omega)
      rw [bts_strOf, e3] at k2
      have hsum4 := fun w : World => run_string_add_sum (P := Tryd.prog) w X X (by omega)
      have hsum5 := fun w : World => run_string_add_sum (P := Tryd.prog) w (X ++ X) Z (by omega)
      generalize strOf (List.zipWith (· ^^^ ·) (List.zipWith (· ^^^ ·) (bts X) (bts y)) (bts Z)) = S2 at x2 k2
      generalize strOf (List.zipWith (· ^^^ ·) (bts X) (bts y)) = S1 at x1 x2
      have P1 := hide p1; have X1 := hide x1; have X2 := hide x2; have K2 := hide k2
      clear p1 x1 x2 k2 e3 sS sX sY sZ sXY
      refine (CX.out (X ++ y ++ Z) (by omega) _).mono ?_
      rintro e W12 ⟨rfl, hB1⟩
      replace hB := hB.trans (hB1.mono hB.size)
      clear hB1
      go_wp2_with fail
      refine (P1.out _).mono ?_
      rintro e W13 ⟨rfl, hB1⟩
      replace hB := hB.trans (hB1.mono hB.size)
      clear hB1
      go_wp2_with fail
      refine (sane_any _ (tabB hT h3 hB) (Nat.lt_of_lt_of_le h3 hB.size)).mono ?_
      rintro e W14 ⟨rfl, hB1⟩
      replace hB := hB.trans (hB1.mono hB.size)
      clear hB1
      go_wp2_with fail
      refine (CX.out (X ++ X ++ Z) (by omega) _).mono ?_
      rintro e W15 ⟨rfl, hB1⟩
      replace hB := hB.trans (hB1.mono hB.size)
      clear hB1
      go_wp2_with fail
      refine (X1.out _).mono ?_
      rintro e W16 ⟨rfl, hB1⟩
      replace hB := hB.trans (hB1.mono hB.size)
      clear hB1
      go_wp2_with fail
      refine (X2.out _).mono ?_
      rintro e W17 ⟨rfl, hB1⟩
      replace hB := hB.trans (hB1.mono hB.size)
      clear hB1
      go_wp2_with fail
      refine (K2.out _).mono ?_
      rintro e W18 ⟨rfl, hB1⟩
      replace hB := hB.trans (hB1.mono hB.size)
      clear hB1
      go_wp2_with fail
      refine (CX.out X (by omega) _).mono ?_
      rintro e W19 ⟨rfl, hB1⟩
      replace hB := hB.trans (hB1.mono hB.size)
      clear hB1
      go_wp2_with fail
      refine (CX.out y (by omega) _).mono ?_
      rintro e W20 ⟨rfl, hB1⟩
      replace hB := hB.trans (hB1.mono hB.size)
      clear hB1
      go_wp2_with fail
      refine (CX.out Z (by omega) _).mono ?_
      rintro e W21 ⟨rfl, hB1⟩
      replace hB := hB.trans (hB1.mono hB.size)
      clear hB1
      go_wp2_with fail
      go_ret
      exact ⟨rfl, hB⟩
    · have sX : x.size = x.size := rfl
      have sY : (y.extract 0 x.size).size = x.size := by rw [ByteArray.size_extract]; omega
      have sZ : (z.extract 0 x.size).size = x.size := by rw [ByteArray.size_extract]; omega
      have hn : x.size ≤ 1000 := by omega
      clear hsum3 hZ
      generalize y.extract 0 x.size = Y at sY ⊢
      generalize z.extract 0 x.size = Z at sZ ⊢
      have b1 : (x ++ Y ++ Z).size ≤ 3000 := by rw [ByteArray.size_append, ByteArray.size_append, sX, sY, sZ]; omega
      have b2 : (x ++ x ++ Z).size ≤ 3000 := by rw [ByteArray.size_append, ByteArray.size_append, sX, sZ]; omega
      have b3 : (x ++ x).size ≤ 2000 := by rw [ByteArray.size_append, sX]; omega
      have sXY : x.size = Y.size := sX.trans sY.symm
      have sS : (strOf (List.zipWith (· ^^^ ·) (bts x) (bts Y))).size = Z.size := by
        rw [size_strOf, List.length_zipWith, bts_length, bts_length, sX, sY, sZ, Nat.min_self]
      have e3 := crc_xor3 (bts x) (bts Y) (bts Z) (by rw [bts_length, bts_length]; exact sXY) (by rw [bts_length, bts_length, sY, sZ])
      have bX : x.size ≤ 1000 := by omega
      have bY : Y.size ≤ 1000 := by omega
      have bZ : Z.size ≤ 1000 := by omega
      have p1 := patch_two x Y x Z (x.size) sZ sXY.symm (by omega) (by unfold maxLen; omega)
      have x1 := xor_any x Y sXY (by unfold maxLen; omega)
      have x2 := xor_any (strOf (List.zipWith (· ^^^ ·) (bts x) (bts Y))) Z sS (by unfold maxLen; omega)
      rw [bts_strOf] at x2
      have k2 := CX.out (strOf (List.zipWith (· ^^^ ·) (List.zipWith (· ^^^ ·) (bts x) (bts Y)) (bts Z))) (by rw [size_strOf, List.length_zipWith, bts_length, sZ]; omega)
      rw [bts_strOf, e3] at k2
      have hsum4 := fun w : World => run_string_add_sum (P := Tryd.prog) w x x (by omega)
      have hsum5 := fun w : World => run_string_add_sum (P := Tryd.prog) w (x ++ x) Z (by omega)
      generalize strOf (List.zipWith (· ^^^ ·) (List.zipWith (· ^^^ ·) (bts x) (bts Y)) (bts Z)) = S2 at x2 k2
      generalize strOf (List.zipWith (· ^^^ ·) (bts x) (bts Y)) = S1 at x1 x2
      have P1 := hide p1; have X1 := hide x1; have X2 := hide x2; have K2 := hide k2
      clear p1 x1 x2 k2 e3 sS sX sY sZ sXY
      refine (CX.out (x ++ Y ++ Z) (by omega) _).mono ?_
      rintro e W12 ⟨rfl, hB1⟩
      replace hB := hB.trans (hB1.mono hB.size)
      clear hB1
      go_wp2_with fail
      refine (P1.out _).mono ?_
      rintro e W13 ⟨rfl, hB1⟩
      replace hB := hB.trans (hB1.mono hB.size)
      clear hB1
      go_wp2_with fail
      refine (sane_any _ (tabB hT h3 hB) (Nat.lt_of_lt_of_le h3 hB.size)).mono ?_
      rintro e W14 ⟨rfl, hB1⟩
      replace hB := hB.trans (hB1.mono hB.size)
      clear hB1
      go_wp2_with fail
      refine (CX.out (x ++ x ++ Z) (by omega) _).mono ?_
      rintro e W15 ⟨rfl, hB1⟩
      replace hB := hB.trans (hB1.mono hB.size)
      clear hB1
      go_wp2_with fail
      refine (X1.out _).mono ?_
      rintro e W16 ⟨rfl, hB1⟩
      replace hB := hB.trans (hB1.mono hB.size)
      clear hB1
      go_wp2_with fail
      refine (X2.out _).mono ?_
      rintro e W17 ⟨rfl, hB1⟩
      replace hB := hB.trans (hB1.mono hB.size)
      clear hB1
      go_wp2_with fail
      refine (K2.out _).mono ?_
      rintro e W18 ⟨rfl, hB1⟩
      replace hB := hB.trans (hB1.mono hB.size)
      clear hB1
      go_wp2_with fail
      refine (CX.out x (by omega) _).mono ?_
      rintro e W19 ⟨rfl, hB1⟩
      replace hB := hB.trans (hB1.mono hB.size)
      clear hB1
      go_wp2_with fail
      refine (CX.out Y (by omega) _).mono ?_
      rintro e W20 ⟨rfl, hB1⟩
      replace hB := hB.trans (hB1.mono hB.size)
      clear hB1
      go_wp2_with fail
      refine (CX.out Z (by omega) _).mono ?_
      rintro e W21 ⟨rfl, hB1⟩
      replace hB := hB.trans (hB1.mono hB.size)
      clear hB1
      go_wp2_with fail
      go_ret
      exact ⟨rfl, hB⟩
end Go.Proofs.YtdpgebifeaakjaaDoor
