/- The walk of DigestCRCs: true. -/
import Derived.Test.YtdpgebifeaakjaaDoorCS
import Derived.Test.YtdpgebifeaakjaaDoorSN
namespace Go.Proofs.YtdpgebifeaakjaaDoor
set_option linter.unusedSimpArgs false
set_option linter.unusedVariables false
open Go.RowKit

theorem tab_below'' {w w' : World} (h : TabAt 3 Lib.deBruijn64tab w) (h3 : 3 < w.heap.size) (hb : Below w.heap.size w w') : TabAt 3 Lib.deBruijn64tab w' :=
  fun j hj => (hb.cell (p := ⟨3, j, none⟩) h3).trans (h j hj)

set_option maxRecDepth 100000 in
set_option maxHeartbeats 4000000 in
theorem crcs_any (a b : BitVec 32) (n : Int) (hn0 : -9223372036854775808 ≤ n) (hn1 : n ≤ 9223372036854775807) (s t : ByteArray) (hs : s.size ≤ maxLen) (ht : t.size ≤ maxLen) (w : World) (hT : TabAt 3 Lib.deBruijn64tab w) (h3 : 3 < w.heap.size) :
    Calls Tryd.prog 6 #[U32 a, U32 b, .int .i64 n, .string s, .string t] w fun e w' => e = .returned (.bool true) ∧ Below w.heap.size w w' := by
  have hs' := hs
  have ht' := ht
  unfold maxLen at hs' ht'
  have hshort : (3000 : Int) < (s.size : Int) ∨ ¬ (3000 : Int) < (s.size : Int) ∧ (3000 : Int) < (t.size : Int) ∨ ¬ (3000 : Int) < (s.size : Int) ∧ ¬ (3000 : Int) < (t.size : Int) := by omega
  have cz := zeros_any a n
  have cc := combine_any a b n
  have cp := fun w => patch_any a n s t w hs ht
  have rz := rzeros_any a n
  have rc := rcombine_any a b n
  have rp := fun w => rpatch_any a n s t w hs ht
  generalize zerosS a n = z at cz rz
  generalize combineS a b n = c at cc rc
  generalize patchS a n (bts s) (bts t) = p at cp rp
  obtain ⟨z, ze⟩ := z
  obtain ⟨c, ce⟩ := c
  obtain ⟨p, pe⟩ := p
  unfold pairV at cz cc cp
  unfold pairA at rz rc rp
  have CZ := hide cz; have CC := hide cc; have CP := hide cp; have RZ := hide rz; have RC := hide rc; have RP := hide rp
  clear cz cc cp rz rc rp
  rcases hshort with h | ⟨h, h'⟩ | ⟨h, h'⟩
  · go_enter Tryd.func6, Tryd.ntmps6
    go_wp2_with fail
    refine (sane_any _ hT h3).mono ?_
    rintro e w' ⟨rfl, hB⟩
    go_wp2_with fail
    go_ret
    exact ⟨rfl, hB⟩
  · go_enter Tryd.func6, Tryd.ntmps6
    go_wp2_with fail
    refine (sane_any _ hT h3).mono ?_
    rintro e w' ⟨rfl, hB⟩
    go_wp2_with fail
    go_ret
    exact ⟨rfl, hB⟩
  · go_enter Tryd.func6, Tryd.ntmps6
    go_wp2_with fail
    refine (CZ.out _).mono ?_
    rintro e W1 ⟨rfl, hB⟩
    go_wp2_with fail
    refine (CC.out _).mono ?_
    rintro e W2 ⟨rfl, hB1⟩
    replace hB := hB.trans (hB1.mono hB.size)
    clear hB1
    go_wp2_with fail
    refine (CP.out _).mono ?_
    rintro e W3 ⟨rfl, hB1⟩
    replace hB := hB.trans (hB1.mono hB.size)
    clear hB1
    go_wp2_with fail
    refine (RZ.out _).mono ?_
    rintro e W4 ⟨rfl, hB1⟩
    replace hB := hB.trans (hB1.mono hB.size)
    clear hB1
    have k1 := Blk.new W4 #[U32 z, .int .i64 ze] 52
    replace hB := hB.alloc hB.size (.cells #[U32 z, .int .i64 ze] 52)
    go_wp2_with fail
    generalize W4.alloc (.cells #[U32 z, .int .i64 ze] 52) = W5 at k1 hB ⊢
    refine (RC.out _).mono ?_
    rintro e W6 ⟨rfl, hB1⟩
    replace k1 := k1.below hB1 k1.lt
    replace hB := (hB.trans (hB1.mono hB.size))
    replace k1 := k1.alloc (.cells #[U32 c, .int .i64 ce] 52)
    have k2 := Blk.new W6 #[U32 c, .int .i64 ce] 52
    replace hB := hB.alloc hB.size (.cells #[U32 c, .int .i64 ce] 52)
    clear hB1
    go_wp2_with fail
    generalize W6.alloc (.cells #[U32 c, .int .i64 ce] 52) = W7 at k1 k2 hB ⊢
    refine (RP.out _).mono ?_
    rintro e W8 ⟨rfl, hB1⟩
    replace k1 := k1.below hB1 k1.lt
    replace k2 := k2.below hB1 k2.lt
    replace hB := (hB.trans (hB1.mono hB.size))
    replace k1 := k1.alloc (.cells #[U32 p, .int .i64 pe] 52)
    replace k2 := k2.alloc (.cells #[U32 p, .int .i64 pe] 52)
    have k3 := Blk.new W8 #[U32 p, .int .i64 pe] 52
    replace hB := hB.alloc hB.size (.cells #[U32 p, .int .i64 pe] 52)
    clear hB1
    have c10 := k1.cell 0
    have c11 := k1.cell 1
    have c20 := k2.cell 0
    have c21 := k2.cell 1
    have c30 := k3.cell 0
    have c31 := k3.cell 1
    simp at c10 c11 c20 c21 c30 c31
    go_wp2_with fail
    clear c10 c11 c20 c21 c30 c31 k1 k2 k3
    refine (sane_any _ (tab_below'' hT h3 hB) (Nat.lt_of_lt_of_le h3 hB.size)).mono ?_
    rintro e W10 ⟨rfl, hB1⟩
    replace hB := hB.trans (hB1.mono hB.size)
    clear hB1
    go_wp2_with fail
    refine (crc_any s _ hs).mono ?_
    rintro e W11 ⟨rfl, hB1⟩
    replace hB := hB.trans (hB1.mono hB.size)
    clear hB1
    go_wp2_with fail
    refine (rcrc_any s _ hs).mono ?_
    rintro e W12 ⟨rfl, rfl⟩
    go_wp2_with fail
    refine (extend_any a s _ hs).mono ?_
    rintro e W13 ⟨rfl, hB1⟩
    replace hB := hB.trans (hB1.mono hB.size)
    clear hB1
    go_wp2_with fail
    refine (rextend_any a s _ hs).mono ?_
    rintro e W14 ⟨rfl, rfl⟩
    go_wp2_with fail
    refine (force_any a b _).mono ?_
    rintro e W15 ⟨rfl, hB1⟩
    replace hB := hB.trans (hB1.mono hB.size)
    clear hB1
    go_wp2_with fail
    refine (rforce_any a b _).mono ?_
    rintro e W16 ⟨rfl, hB1⟩
    replace hB := hB.trans (hB1.mono hB.size)
    clear hB1
    go_wp2_with fail
    go_ret
    exact ⟨rfl, hB⟩
end Go.Proofs.YtdpgebifeaakjaaDoor
