/- Sane; the cover and Hex of the specification. -/
import Derived.Test.YtdpgebifeaakjaaDoorMC
import Derived.Test.YtdpgebifeaakjaaDoorMD
import Derived.Test.YtdpgebifeaakjaaDoorMB
import Derived.Test.YtdpgebifeaakjaaDoorME
import Derived.OwnWalk
import Derived.StillTactics
import Derived.Deep.RegionHeld3
import Derived.Deep.AppendLies
import Derived.Test.YtdpgebifeaakjaaDoorMA
import Derived.Deep.Cut

/- The examples of the chapter, reckoned by the kernel. -/
namespace Go.Proofs.YtdpgebifeaakjaaDoor
set_option linter.unusedSimpArgs false
set_option linter.unusedVariables false
open Go.RowKit

theorem sha_short (l P : List (BitVec 8)) (ws : List (BitVec 32)) (hl : l.length / 64 = 0) (hP : l ++ padList l.length (BitVec.ofInt 64 (l.length : Int) * 8#64) = P) (h64 : P.length = 64)
    (hw : (List.range 8).map (fun i => startK i + (blockF roundK startK P).getD i 0#32) = ws) : ∀ j, j < 32 → sha l j = digestOf (fun i => ws.getD i 0#32) j := by
  intro j hj
  have h1 : addRest l = l := by rw [addRest, hl]; rfl
  have h2 : addH roundK startK l = startK := by rw [addH, hl]; rfl
  have h3 : addH roundK startK P = shaBlock roundK startK P := by
    rw [addH, h64]
    show shaBlock roundK startK ((P.drop 0).take 64) = _
    rw [List.drop_zero, List.take_of_length_le (by omega)]
  rw [sha, h1, h2, hP, h3, digestOf, digestOf]
  have h8 : j / 4 < 8 := by omega
  have e : shaBlock roundK startK P (j / 4) = ws.getD (j / 4) 0#32 := by
    rw [shaBlock_eq _ _ _ _ h8, ← hw]
    simp [h8]
  rw [e]
theorem hexList_congr {d e : Nat → BitVec 8} (h : ∀ j, j < 32 → d j = e j) : hexList d = hexList e := by
  unfold hexList
  refine List.map_congr_left fun j hj => ?_
  have hj32 : j < 32 := by simpa using hj
  unfold hexCell
  rw [h (j / 2) (by omega)]

theorem hex_empty : strOf (hexList (sha (bts ⟨#[]⟩))) = ⟨#[101, 51, 98, 48, 99, 52, 52, 50, 57, 56, 102, 99, 49, 99, 49, 52, 57, 97, 102, 98, 102, 52, 99, 56, 57, 57, 54, 102, 98, 57, 50, 52]⟩ := by
  rw [show bts ⟨#[]⟩ = [] from rfl, hexList_congr (sha_short [] emptyBlock _ rfl (by decide +kernel) rfl empty_words)]
  kernel_rfl
theorem hex_abc : strOf (hexList (sha (bts ⟨#[97, 98, 99]⟩))) = ⟨#[98, 97, 55, 56, 49, 54, 98, 102, 56, 102, 48, 49, 99, 102, 101, 97, 52, 49, 52, 49, 52, 48, 100, 101, 53, 100, 97, 101, 50, 50, 50, 51]⟩ := by
  rw [show bts ⟨#[97, 98, 99]⟩ = [97#8, 98#8, 99#8] from rfl, hexList_congr (sha_short [97#8, 98#8, 99#8] abcBlock _ rfl (by decide +kernel) rfl abc_words)]
  kernel_rfl

def c1234 : BitVec 32 := crc (bts ⟨#[49, 50, 51, 52]⟩)
def c56789 : BitVec 32 := crc (bts ⟨#[53, 54, 55, 56, 57]⟩)
theorem crc_nine : crc (bts ⟨#[49, 50, 51, 52, 53, 54, 55, 56, 57]⟩) = 3421780262#32 := by decide +kernel
theorem crc_none : crc (bts ⟨#[]⟩) = 0#32 := by decide +kernel
theorem combine_ex : combineS c1234 c56789 5 = (3421780262#32, 0) := by
  rw [combineS, if_pos (by decide), crcShift_eq _ _ (by decide)]
  decide +kernel
theorem patch_ex : patchS c1234 1 (bts ⟨#[51]⟩) (bts ⟨#[57]⟩) = (crc (bts ⟨#[49, 50, 57, 52]⟩), 0) := by
  rw [patchS, if_pos (by decide), crcShift_eq _ _ (by decide)]
  decide +kernel
theorem patch_ex2 : patchS c1234 1 (bts ⟨#[51]⟩) (bts ⟨#[57, 57]⟩) = (0#32, 1) := by
  rw [patchS, if_neg (by decide)]
theorem force_ex : crcExt (crc (bts ⟨#[120]⟩)) (wordBytes (forceW (crc (bts ⟨#[120]⟩)) 7#32)) = 7#32 := by decide +kernel
theorem unhex_ex : unhexV ⟨#[65, 66]⟩ = .tuple #[.agg (A8 16 fun _ => 0#8), .int .i64 2] := by
  rw [unhexV, if_neg (fun h => absurd h.1 (by decide))]
theorem cover_ex : coverL 3 8 = [(3, 1), (4, 4)] := by decide +kernel
end Go.Proofs.YtdpgebifeaakjaaDoor

/- The walk of sane: the examples hold. -/
namespace Go.Proofs.YtdpgebifeaakjaaDoor
set_option linter.unusedSimpArgs false
set_option linter.unusedVariables false
open Go.RowKit

theorem SlB.below {W W' : World} {u : Value} {l : List (Nat × Nat)} (h : SlB W u l) (hb : Below W.heap.size W W') : SlB W' u l := by
  obtain ⟨p, c, rfl, hc⟩ := h
  refine ⟨p, c, rfl, fun j x hx => ?_⟩
  obtain ⟨g, o, hp, h1, h2⟩ := hc j x hx
  exact ⟨g, o, hp, (hb.cell (World.block_lt_of_cell? W _ h1)).trans h1, (hb.cell (World.block_lt_of_cell? W _ h2)).trans h2⟩
theorem cellsOf_at : ∀ (l : List (Nat × Nat)) (j : Nat) (x : Nat × Nat), l[j]? = some x → (cellsOf l)[j * 2]? = some (.int .i64 x.1) ∧ (cellsOf l)[j * 2 + 1]? = some (.int .i64 x.2)
  | [], j, x, h => by simp at h
  | y :: l, 0, x, h => by
    have : y = x := by simpa using h
    subst this
    exact ⟨rfl, rfl⟩
  | y :: l, j + 1, x, h => by
    have := cellsOf_at l j x (by simpa using h)
    rw [show (j + 1) * 2 = j * 2 + 1 + 1 by omega]
    exact this
theorem cellsOf_length : ∀ l, (cellsOf l).length = l.length * 2
  | [] => rfl
  | _ :: l => by simp [cellsOf, cellsOf_length l]; omega
theorem SlB.of_owns {W : World} {base : Nat} {v : Value} {l : List (Nat × Nat)} (h : W.ownsRow base 106 2 v l.length (cellsOf l)) : SlB W v l := by
  rcases h.2 with ⟨rfl, h0⟩ | ⟨g, cap, cur, rfl, hrest⟩
  · have : l = [] := List.eq_nil_of_length_eq_zero h0
    subst this
    exact ⟨none, 0, rfl, fun j x hx => by simp at hx⟩
  · refine ⟨_, cap, rfl, fun j x hx => ?_⟩
    obtain ⟨c1, c2⟩ := cellsOf_at l j x hx
    have hj : j < l.length := (List.getElem?_eq_some_iff.1 hx).1
    exact ⟨g, 0, rfl, by rw [Nat.zero_add, World.ownsRow.cellAt h _ (by omega), c1], by rw [Nat.zero_add, World.ownsRow.cellAt h _ (by omega), c2]⟩

theorem lit_blocks (W : World) : SlB (W.alloc (.cells #[.int .i64 3, .int .i64 1, .int .i64 4, .int .i64 4] 106)) (.slice (some ⟨W.heap.size, 0, none⟩) 2 2) [(3, 1), (4, 4)] := by
  have h := Blk.new W #[.int .i64 3, .int .i64 1, .int .i64 4, .int .i64 4] 106
  refine ⟨_, _, rfl, fun j x hx => ⟨W.heap.size, 0, rfl, ?_⟩⟩
  match j, hx with
  | 0, hx =>
    have : ((3 : Nat), (1 : Nat)) = x := by simpa using hx
    subst this
    exact ⟨(h.cell _).trans rfl, (h.cell _).trans rfl⟩
  | 1, hx =>
    have : ((4 : Nat), (4 : Nat)) = x := by simpa using hx
    subst this
    exact ⟨(h.cell _).trans rfl, (h.cell _).trans rfl⟩
  | j + 2, hx => simp at hx

set_option maxRecDepth 100000 in
set_option maxHeartbeats 4000000 in
theorem sane_any (w : World) (hT : TabAt 3 Lib.deBruijn64tab w) (h3l : 3 < w.heap.size) :
    Calls Tryd.prog 17 #[] w fun e w' => e = .returned (.bool true) ∧ Below w.heap.size w w' := by
  have cmb : ∀ w, Calls Tryd.prog 27 #[U32 (crc (bts ⟨#[49, 50, 51, 52]⟩)), U32 (crc (bts ⟨#[53, 54, 55, 56, 57]⟩)), .int .i64 5] w fun e w' => e = .returned (.tuple #[U32 3421780262#32, .int .i64 0]) ∧ Below w.heap.size w w' := fun w => by
    have h := combine_any c1234 c56789 5 w
    rw [combine_ex] at h
    exact h
  have ptc : ∀ w, Calls Tryd.prog 28 #[U32 (crc (bts ⟨#[49, 50, 51, 52]⟩)), .int .i64 1, .string ⟨#[51]⟩, .string ⟨#[57]⟩] w fun e w' => e = .returned (.tuple #[U32 (crc (bts ⟨#[49, 50, 57, 52]⟩)), .int .i64 0]) ∧ Below w.heap.size w w' := fun w => by
    have h := patch_any c1234 1 ⟨#[51]⟩ ⟨#[57]⟩ w (by decide) (by decide)
    rw [patch_ex] at h
    exact h
  have ptc2 : ∀ w, Calls Tryd.prog 28 #[U32 (crc (bts ⟨#[49, 50, 51, 52]⟩)), .int .i64 1, .string ⟨#[51]⟩, .string ⟨#[57, 57]⟩] w fun e w' => e = .returned (.tuple #[U32 0#32, .int .i64 1]) ∧ Below w.heap.size w w' := fun w => by
    have h := patch_any c1234 1 ⟨#[51]⟩ ⟨#[57, 57]⟩ w (by decide) (by decide)
    rw [patch_ex2] at h
    exact h
  go_enter Tryd.func17, Tryd.ntmps17
  go_wp2_with fail
  refine (crc_any _ _ (by decide)).mono ?_
  rintro e W1 ⟨rfl, hB⟩
  go_wp2_with fail
  refine (crc_any _ _ (by decide)).mono ?_
  rintro e W2 ⟨rfl, hB2⟩
  replace hB := hB.trans (hB2.mono hB.size)
  clear hB2
  go_wp2_with fail
  refine (cmb _).mono ?_
  rintro e W3 ⟨rfl, hB2⟩
  replace hB := hB.trans (hB2.mono hB.size)
  clear hB2 cmb
  go_wp2_with fail
  refine (crc_any _ _ (by decide)).mono ?_
  rintro e W4 ⟨rfl, hB2⟩
  replace hB := hB.trans (hB2.mono hB.size)
  clear hB2
  go_wp2_with fail
  refine (ptc _).mono ?_
  rintro e W5 ⟨rfl, hB2⟩
  replace hB := hB.trans (hB2.mono hB.size)
  clear hB2 ptc
  go_wp2_with fail
  refine (crc_any _ _ (by decide)).mono ?_
  rintro e W6 ⟨rfl, hB2⟩
  replace hB := hB.trans (hB2.mono hB.size)
  clear hB2
  go_wp2_with fail
  refine (ptc2 _).mono ?_
  rintro e W7 ⟨rfl, hB2⟩
  replace hB := hB.trans (hB2.mono hB.size)
  clear hB2 ptc2
  go_wp2_with fail
  have hT7 : TabAt 3 Lib.deBruijn64tab W7 := fun j hj => (hB.cell (p := ⟨3, j, none⟩) h3l).trans (hT j hj)
  have cv := cover_ok 3 8 (by decide) (by decide) W7 hT7 (Nat.lt_of_lt_of_le h3l hB.size)
  rw [cover_ex] at cv
  refine cv.mono ?_
  rintro e W8 ⟨v, rfl, hown, hB2⟩
  have hS := SlB.of_owns hown
  obtain ⟨p, c, rfl, hSc⟩ := id hS
  replace hB := hB.trans (hB2.mono hB.size)
  clear hB2 cv hT7 hown hSc
  have HS := hide hS
  clear hS
  go_wp2_with fail
  have uh := unhex_any ⟨#[65, 66]⟩ (by decide) W8
  rw [unhex_ex] at uh
  refine uh.mono ?_
  rintro e W9 ⟨rfl, hB2⟩
  replace HS := hide (HS.out.below hB2)
  replace hB := hB.trans (hB2.mono hB.size)
  clear hB2 uh
  have hN := Blk.new W9 (A8 16 fun _ => 0#8) 23
  go_wp2_with (refine wp_storeRow rfl 23 _ _ rfl _ rfl rfl hN size23 (A8.size _ _) (A8.size _ _) (A8.one _) rfl ?_; intro W11 hu hN1)
  have hB2 : Below W9.heap.size W9 W11 := hu.below ((Below.refl _ _).alloc (Nat.le_refl _) _) (Nat.le_refl _)
  clear hu hN hN1
  replace HS := hide (HS.out.below hB2)
  replace hB := hB.trans (hB2.mono hB.size)
  clear hB2
  refine (sum_any ⟨#[]⟩ (by decide) _).mono ?_
  rintro e W12 ⟨rfl, hB2⟩
  replace HS := hide (HS.out.below hB2)
  replace hB := hB.trans (hB2.mono hB.size)
  clear hB2
  go_wp2_with fail
  have hx := hex_any (sha (bts ⟨#[]⟩)) W12
  rw [hex_empty] at hx
  refine (hx).mono ?_
  rintro e W13 ⟨rfl, hB2⟩
  replace HS := hide (HS.out.below hB2)
  replace hB := hB.trans (hB2.mono hB.size)
  clear hB2
  go_wp2_with fail
  clear hx
  refine (sum_any ⟨#[97, 98, 99]⟩ (by decide) _).mono ?_
  rintro e W14 ⟨rfl, hB2⟩
  replace HS := hide (HS.out.below hB2)
  replace hB := hB.trans (hB2.mono hB.size)
  clear hB2
  go_wp2_with fail
  have hx := hex_any (sha (bts ⟨#[97, 98, 99]⟩)) W14
  rw [hex_abc] at hx
  refine (hx).mono ?_
  rintro e W15 ⟨rfl, hB2⟩
  replace HS := hide (HS.out.below hB2)
  replace hB := hB.trans (hB2.mono hB.size)
  clear hB2
  go_wp2_with fail
  clear hx
  have hx := crc_any ⟨#[49, 50, 51, 52, 53, 54, 55, 56, 57]⟩ W15 (by decide)
  rw [crc_nine] at hx
  refine (hx).mono ?_
  rintro e W16 ⟨rfl, hB2⟩
  replace HS := hide (HS.out.below hB2)
  replace hB := hB.trans (hB2.mono hB.size)
  clear hB2
  go_wp2_with fail
  clear hx
  have hx := crc_any ⟨#[]⟩ W16 (by decide)
  rw [crc_none] at hx
  refine (hx).mono ?_
  rintro e W17 ⟨rfl, hB2⟩
  replace HS := hide (HS.out.below hB2)
  replace hB := hB.trans (hB2.mono hB.size)
  clear hB2
  go_wp2_with fail
  clear hx
  refine (crc_any ⟨#[49, 50, 57, 52]⟩ _ (by decide)).mono ?_
  rintro e W18 ⟨rfl, hB2⟩
  replace HS := hide (HS.out.below hB2)
  replace hB := hB.trans (hB2.mono hB.size)
  clear hB2
  go_wp2_with fail
  refine (crc_any ⟨#[120]⟩ _ (by decide)).mono ?_
  rintro e W19 ⟨rfl, hB2⟩
  replace HS := hide (HS.out.below hB2)
  replace hB := hB.trans (hB2.mono hB.size)
  clear hB2
  go_wp2_with fail
  refine (crc_any ⟨#[120]⟩ _ (by decide)).mono ?_
  rintro e W20 ⟨rfl, hB2⟩
  replace HS := hide (HS.out.below hB2)
  replace hB := hB.trans (hB2.mono hB.size)
  clear hB2
  go_wp2_with fail
  refine (force_any (crc (bts ⟨#[120]⟩)) 7#32 _).mono ?_
  rintro e W21 ⟨rfl, hB2⟩
  replace HS := hide (HS.out.below hB2)
  replace hB := hB.trans (hB2.mono hB.size)
  clear hB2
  go_wp2_with fail
  have hx := extend_any (crc (bts ⟨#[120]⟩)) (strOf (wordBytes (forceW (crc (bts ⟨#[120]⟩)) 7#32))) W21 (by decide)
  rw [bts_strOf, force_ex] at hx
  refine (hx).mono ?_
  rintro e W22 ⟨rfl, hB2⟩
  replace HS := hide (HS.out.below hB2)
  replace hB := hB.trans (hB2.mono hB.size)
  clear hB2
  go_wp2_with fail
  clear hx
  have hL := HS.out.below ((Below.refl _ _).alloc (Nat.le_refl _) (.cells #[.int .i64 3, .int .i64 1, .int .i64 4, .int .i64 4] 106))
  have hM := lit_blocks W22
  have hB3 := hB.alloc hB.size (.cells #[.int .i64 3, .int .i64 1, .int .i64 4, .int .i64 4] 106)
  clear HS hB
  refine (blocks_any _ _ _ _ _ hL hM (by decide)).mono ?_
  rintro e W23 ⟨rfl, k, rfl⟩
  clear hL hM
  rw [show decide ([((3 : Nat), (1 : Nat)), (4, 4)] = [(3, 1), (4, 4)]) = true from by decide]
  go_wp2_with fail
  go_ret
  exact ⟨rfl, ⟨hB3.os, hB3.tape, hB3.output, hB3.size, hB3.block⟩⟩
end Go.Proofs.YtdpgebifeaakjaaDoor

/- The plain law of a cover's step; the walk of the specification's cover. -/
namespace Go.Proofs.YtdpgebifeaakjaaDoor
set_option linter.unusedSimpArgs false
set_option linter.unusedVariables false
open Go.RowKit

theorem bitLen_of (x k : Nat) (h1 : 2 ^ k ≤ x) (h2 : x < 2 ^ (k + 1)) (hk : k + 1 ≤ 64) : Lib.bitLen x - 1 = k := by
  have hp : 0 < 2 ^ k := Nat.two_pow_pos k
  obtain ⟨a1, a2, a3⟩ := bitLen_spec x (by omega) (Nat.lt_of_lt_of_le h2 (Nat.pow_le_pow_right (by decide) hk))
  have u : Lib.bitLen x ≤ k + 1 := by
    apply Classical.byContradiction
    intro hn
    have : 2 ^ (k + 1) ≤ 2 ^ (Lib.bitLen x - 1) := Nat.pow_le_pow_right (by decide) (by omega)
    omega
  have l : k + 1 ≤ Lib.bitLen x := by
    apply Classical.byContradiction
    intro hn
    have : 2 ^ Lib.bitLen x ≤ 2 ^ k := Nat.pow_le_pow_right (by decide) (by omega)
    omega
  omega
/-- What the doubling finds is the step. -/
theorem step_found (a b k : Nat) (hb : b ≤ 1099511627776) (hd : 2 ^ k ∣ a) (hle : a + 2 ^ k ≤ b) (hstop : ¬ (2 ^ (k + 1) ∣ a ∧ a + 2 ^ (k + 1) ≤ b)) : stepN a b = 2 ^ k := by
  have hk : k ≤ 40 := by
    apply Classical.byContradiction
    intro hn
    have h1 : 2 ^ 41 ≤ 2 ^ k := Nat.pow_le_pow_right (by decide) (by omega)
    have h2 : (2 : Nat) ^ 41 = 2199023255552 := rfl
    omega
  have hx64 : b - a < 2 ^ 64 := by have : (2:Nat) ^ 64 = 18446744073709551616 := rfl; omega
  by_cases h0 : a = 0
  · subst h0
    have : ¬ 2 ^ (k + 1) ≤ b := fun h => hstop ⟨Nat.dvd_zero _, by omega⟩
    have e := bitLen_of (b - 0) k (by omega) (by omega) (by omega)
    rw [stepN, if_neg (by omega), e]
  · have hx : a < 2 ^ 64 := by have : (2:Nat) ^ 64 = 18446744073709551616 := rfl; omega
    obtain ⟨m, e1, e2⟩ := Lib.ctzFrom_spec 64 a (by omega) hx
    have ez : Lib.ctz 64 a = Lib.ctzFrom 64 a := by rw [Lib.ctz, if_neg h0]
    rw [← ez] at e1 e2
    rw [stepN, if_pos (by omega)]
    generalize Lib.ctz 64 a = z at e1 e2
    have hkz : k ≤ z := by
      apply Classical.byContradiction
      intro hn
      have h1 : 2 ^ (z + 1) ∣ a := Nat.dvd_trans (Nat.pow_dvd_pow 2 (by omega)) hd
      rw [e1, Nat.pow_succ] at h1
      have h2 : 2 ∣ 2 * m + 1 := Nat.dvd_of_mul_dvd_mul_left (Nat.two_pow_pos z) h1
      omega
    have hpz : 2 ^ k ≤ 2 ^ z := Nat.pow_le_pow_right (by decide) hkz
    by_cases h1 : a + 2 ^ (k + 1) ≤ b
    · have hnd : ¬ 2 ^ (k + 1) ∣ a := fun h => hstop ⟨h, h1⟩
      have hz : z = k := by
        apply Classical.byContradiction
        intro hn
        exact hnd (by rw [e1]; exact Nat.dvd_trans (Nat.pow_dvd_pow 2 (by omega)) (Nat.dvd_mul_right _ _))
      subst hz
      obtain ⟨a1, a2, a3⟩ := bitLen_spec (b - a) (by have := Nat.two_pow_pos z; omega) hx64
      have hl : z ≤ Lib.bitLen (b - a) - 1 := by
        apply Classical.byContradiction
        intro hn
        have : 2 ^ Lib.bitLen (b - a) ≤ 2 ^ z := Nat.pow_le_pow_right (by decide) (by omega)
        omega
      exact Nat.min_eq_right (Nat.pow_le_pow_right (by decide) hl)
    · have e := bitLen_of (b - a) k (by omega) (by omega) (by omega)
      rw [e]
      exact Nat.min_eq_left hpz
end Go.Proofs.YtdpgebifeaakjaaDoor

/- The walk of the specification's cover. -/
namespace Go.Proofs.YtdpgebifeaakjaaDoor
set_option linter.unusedSimpArgs false
set_option linter.unusedVariables false
open Go.RowKit

set_option maxRecDepth 100000 in
set_option maxHeartbeats 2000000 in
theorem rcover_any (a b : Nat) (hab : a ≤ b) (hb : b ≤ 1099511627776) (w : World) :
    Calls Tryd.prog 63 #[.int .i64 a, .int .i64 b] w fun e w' => ∃ v, e = .returned v ∧ w'.ownsRow w.heap.size 106 2 v (coverL a b).length (cellsOf (coverL a b)) ∧ Below w.heap.size w w' := by
  obtain ⟨i0, hi, hz0, hz1, hz2⟩ := info_parts info106
  go_enter Tryd.func63, Tryd.ntmps63
  go_wp2_with fail
  go_loopw [0, 5] (fun s0 s5 W => ∃ (c : Nat) (pre : List (Nat × Nat)), c ≤ b ∧ s0 = .int .i64 c ∧ coverL a b = pre ++ coverL c b ∧ W.ownsRow w.heap.size 106 2 s5 pre.length (cellsOf pre) ∧ Below w.heap.size w W) (fun s0 _ _ => b - (intOf s0).toNat)
  case atStart => exact ⟨a, [], hab, rfl, rfl, World.ownsRow_nil _ _ _ _, Below.refl _ _⟩
  case round =>
    obtain ⟨c, pre, hc, rfl, hx, hrow, hB⟩ := hrel
    have HX := hide hx
    clear hx
    by_cases hlt : c < b
    · have hlt1 : (c : Int) < (b : Int) := by omega
      go_wp2_with fail
      go_loopw [6] (fun s6 W => ∃ n : Nat, s6 = .int .i64 n ∧ Hid (∃ k, n = 2 ^ k) ∧ n ∣ c ∧ c + n ≤ b ∧ 0 < n ∧ W = wr) (fun s6 _ => b - (intOf s6).toNat)
      case atStart => exact ⟨1, rfl, hide ⟨0, rfl⟩, Nat.one_dvd c, by omega, by omega, rfl⟩
      case round =>
        obtain ⟨n, rfl, hk, hd, hn, hn0, rfl⟩ := hrel
        have HD := hide hd
        clear hd
        have q0 : (0 : Int) < (n : Int) := by omega
        have q1 : 2 * (n : Int) ≤ 2199023255552 := by omega
        have q2 : (0 : Int) ≤ (c : Int) := by omega
        by_cases ht1 : c % (2 * n) = 0
        · have ht1' : (c : Int) % (2 * (n : Int)) = 0 := by have := congrArg (Nat.cast (R := Int)) ht1; simpa using this
          by_cases ht2 : c + 2 * n ≤ b
          · have ht2' : (c : Int) + 2 * (n : Int) ≤ (b : Int) := by omega
            go_wp2_with fail
            refine ⟨⟨2 * n, by go_num, ?_, Nat.dvd_of_mod_eq_zero ht1, ht2, by omega, trivial⟩, by simp [intOf]; omega⟩
            obtain ⟨k, rfl⟩ := hk.out
            exact hide ⟨k + 1, by rw [Nat.pow_succ, Nat.mul_comm]⟩
          · have ht2' : ¬ (c : Int) + 2 * (n : Int) ≤ (b : Int) := by omega
            have hst : stepN c b = n := by
              obtain ⟨k, rfl⟩ := hk.out
              exact step_found c b k hb HD.out hn (fun h => ht2 (by have h2 := h.2; rw [Nat.pow_succ, Nat.mul_comm] at h2; exact h2))
            clear hk
            have HST := hide hst
            have hl1 : pre.length + 1 ≤ 1099511627776 := by
              have h1 := coverL_length a b
              rw [HX.out, coverL_cons hlt] at h1
              simp at h1
              omega
            have hml : pre.length + 1 ≤ maxLen := by unfold maxLen; omega
            have hby : (pre.length + 1) * 16 ≤ 140737488355328 := by omega
            have hbs : w.heap.size ≤ (wr.alloc (.cells #[.int .i64 c, .int .i64 n] 106)).heap.size := by have := hB.size; simp; omega
            have hs1 : (c : Int) + (n : Int) ≤ 1099511627776 := by omega
            clear hst
            go_wp2_with (at_builtin; go_loud (refine wpList_append_own _ rfl _ _ 33 rfl w.heap.size 106 i0 (.agg #[.int .i64 0, .int .i64 0]) 2 16 Tryd.underlying33 hi hz0 hz1 hz2 rfl (by decide) _ _ _ rfl (hrow.alloc _) ⟨wr.heap.size, 0, none⟩ 1 1 [.int .i64 c, .int .i64 n] rfl rfl (cells_two_new _ _ _ _) (by simp [Value.oneCell']) hml hby hbs ?_); intro v' w1 hown' hgrow _)
            refine ⟨⟨c + n, pre ++ [(c, n)], hn, by go_num, ?_, ?_, ?_⟩, by simp [intOf]; omega⟩
            · rw [HX.out, coverL_cons hlt, HST.out, List.append_assoc]; rfl
            · rw [cellsOf_snoc, List.length_append]; exact hown'
            · exact (hB.alloc hB.size _).grown hgrow hbs (fun k e => (hrow.lt k e).1)
        · have ht1' : ¬ (c : Int) % (2 * (n : Int)) = 0 := by
            intro h
            apply ht1
            have : ((c % (2 * n) : Nat) : Int) = 0 := by simpa using h
            exact Int.ofNat.inj this
          have hst : stepN c b = n := by
            obtain ⟨k, rfl⟩ := hk.out
            exact step_found c b k hb HD.out hn (fun h => ht1 (Nat.mod_eq_zero_of_dvd (by have h1 := h.1; rw [Nat.pow_succ, Nat.mul_comm] at h1; exact h1)))
          clear hk
          have HST := hide hst
          have hl1 : pre.length + 1 ≤ 1099511627776 := by
            have h1 := coverL_length a b
            rw [HX.out, coverL_cons hlt] at h1
            simp at h1
            omega
          have hml : pre.length + 1 ≤ maxLen := by unfold maxLen; omega
          have hby : (pre.length + 1) * 16 ≤ 140737488355328 := by omega
          have hbs : w.heap.size ≤ (wr.alloc (.cells #[.int .i64 c, .int .i64 n] 106)).heap.size := by have := hB.size; simp; omega
          have hs1 : (c : Int) + (n : Int) ≤ 1099511627776 := by omega
          clear hst
          go_wp2_with (at_builtin; go_loud (refine wpList_append_own _ rfl _ _ 33 rfl w.heap.size 106 i0 (.agg #[.int .i64 0, .int .i64 0]) 2 16 Tryd.underlying33 hi hz0 hz1 hz2 rfl (by decide) _ _ _ rfl (hrow.alloc _) ⟨wr.heap.size, 0, none⟩ 1 1 [.int .i64 c, .int .i64 n] rfl rfl (cells_two_new _ _ _ _) (by simp [Value.oneCell']) hml hby hbs ?_); intro v' w1 hown' hgrow _)
          refine ⟨⟨c + n, pre ++ [(c, n)], hn, by go_num, ?_, ?_, ?_⟩, by simp [intOf]; omega⟩
          · rw [HX.out, coverL_cons hlt, HST.out, List.append_assoc]; rfl
          · rw [cellsOf_snoc, List.length_append]; exact hown'
          · exact (hB.alloc hB.size _).grown hgrow hbs (fun k e => (hrow.lt k e).1)
    · have hlt1 : ¬ (c : Int) < (b : Int) := by omega
      have hfin : coverL a b = pre := by rw [HX.out, coverL_nil hlt, List.append_nil]
      have HF := hide hfin
      clear hfin
      go_wp2_with fail
      go_ret
      rw [HF.out]
      exact ⟨_, rfl, hrow, hB⟩
end Go.Proofs.YtdpgebifeaakjaaDoor

/- The greatest power of two below a number, of both sides. -/
namespace Go.Proofs.YtdpgebifeaakjaaDoor
set_option linter.unusedSimpArgs false
set_option linter.unusedVariables false
open Go.RowKit

/-- The greatest power of two below n. -/
def halfN (n : Nat) : Nat := 2 ^ (Lib.bitLen (n - 1) - 1)
theorem halfN_of (n k : Nat) (h1 : 2 ^ k < n) (h2 : n ≤ 2 ^ (k + 1)) (hk : k + 1 ≤ 64) : halfN n = 2 ^ k := by
  rw [halfN, bitLen_of (n - 1) k (by omega) (by omega) hk]
theorem halfN_facts (n : Nat) (h : 2 ≤ n) (hn : n ≤ 1099511627776) : 1 ≤ halfN n ∧ halfN n < n ∧ n ≤ 2 * halfN n := by
  have h0 : n - 1 ≠ 0 := by omega
  have h1 := Nat.log2_self_le h0
  have h2 := @Nat.lt_log2_self (n - 1)
  have h3 : Nat.log2 (n - 1) < 41 := (Nat.log2_lt h0).2 (by omega)
  have h4 := Nat.two_pow_pos (Nat.log2 (n - 1))
  rw [halfN_of n (Nat.log2 (n - 1)) (by omega) (by omega) (by omega)]
  rw [Nat.pow_succ] at h2
  omega

set_option maxHeartbeats 400000 in
theorem rhalf_any (n : Nat) (h : 2 ≤ n) (hn : n ≤ 1099511627776) (w : World) :
    Calls Tryd.prog 82 #[.int .i64 (n : Int)] w fun e w' => e = .returned (.int .i64 (halfN n : Int)) ∧ w = w' := by
  go_enter Tryd.func82, Tryd.ntmps82
  go_wp2_with fail
  go_loopw [3] (fun s3 W => ∃ k p : Nat, k ≤ 40 ∧ p = 2 ^ k ∧ s3 = .int .i64 (p : Int) ∧ p < n ∧ w = W) (fun s3 _ => n - (intOf s3).toNat)
  case atStart => exact ⟨0, 1, by omega, rfl, rfl, by omega, rfl⟩
  case round =>
    obtain ⟨k, p, hk, hp, rfl, hlt, rfl⟩ := hrel
    have hp1 : 1 ≤ p := by rw [hp]; exact Nat.two_pow_pos k
    have hw : IntKind.i64.wrap (2 * (p : Int)) = 2 * (p : Int) := IntWalk.i64_in _ (by omega)
    by_cases h2 : 2 * p < n
    · have h21 : 2 * (p : Int) < (n : Int) := by omega
      have hp2 : 2 * p = 2 ^ (k + 1) := by rw [hp, Nat.pow_succ]; omega
      have hk1 : k + 1 ≤ 40 := by
        rcases Nat.lt_or_ge k 40 with hh | hh
        · omega
        · have hk40 : k = 40 := by omega
          subst hk40
          have : p = 1099511627776 := by rw [hp]
          omega
      clear hp
      go_wp2_with fail
      exact ⟨⟨k + 1, 2 * p, hk1, hp2, by push_cast; rfl, h2, trivial⟩, by simp [intOf]; omega⟩
    · have h21 : ¬ 2 * (p : Int) < (n : Int) := by omega
      have he : halfN n = p := by rw [hp]; exact halfN_of n k (by omega) (by rw [Nat.pow_succ]; omega) (by omega)
      have HE := hide he
      clear hp he
      go_wp2_with fail
      go_ret
      exact ⟨by rw [HE.out]; rfl, rfl⟩
theorem wrap_pow40 (b : Nat) (hb : b ≤ 40) : wrap64 ((2 : Int) ^ b) = ((2 ^ b : Nat) : Int) := by
  have h : 2 ^ b ≤ 1099511627776 := Nat.le_trans (Nat.pow_le_pow_right (by decide) hb) (by decide)
  have e : ((2 : Int) ^ b) = ((2 ^ b : Nat) : Int) := by push_cast; rfl
  rw [e]
  generalize 2 ^ b = p at h ⊢
  unfold wrap64
  omega
set_option maxHeartbeats 400000 in
theorem half_any (n : Nat) (h : 2 ≤ n) (hn : n ≤ 1099511627776) (w : World) :
    Calls Tryd.prog 78 #[.int .i64 (n : Int)] w fun e w' => e = .returned (.int .i64 (halfN n : Int)) ∧ w = w' := by
  have hw : IntKind.i64.wrap ((n : Int) - 1) = (n : Int) - 1 := IntWalk.i64_in _ (by omega)
  obtain ⟨b, hb⟩ : ∃ b, Lib.bitLen (n - 1) = b + 1 ∧ b ≤ 40 := by
    have h0 : n - 1 ≠ 0 := by omega
    have h1 := Nat.log2_self_le h0
    have h2 := @Nat.lt_log2_self (n - 1)
    have h3 : Nat.log2 (n - 1) < 41 := (Nat.log2_lt h0).2 (by omega)
    have h4 := bitLen_of (n - 1) (Nat.log2 (n - 1)) h1 h2 (by omega)
    refine ⟨Lib.bitLen (n - 1) - 1, ?_, by omega⟩
    rcases Nat.eq_zero_or_pos (Lib.bitLen (n - 1)) with hz | hz
    · rw [hz] at h4
      have hl : Nat.log2 (n - 1) = 0 := by omega
      rw [hl] at h2
      have hn2 : n - 1 = 1 := by omega
      rw [hn2] at hz
      exact absurd hz (by decide)
    · omega
  have c1 : ∀ w, Calls Tryd.prog 98 #[U64 (BitVec.ofInt 64 ((n : Int) - 1))] w fun e w' => e = .returned (.int .i64 ((b : Int) + 1)) ∧ w' = w := fun w => by
    have hh := len_any ((n : Int) - 1) w (by omega) (by omega)
    rw [show ((n : Int) - 1).toNat = n - 1 by omega, hb.1, U64_lit _ (by omega) (by omega)] at hh
    exact hh
  have HE := hide (show halfN n = 2 ^ b by rw [halfN, hb.1]; rfl)
  have hb0 : (0 : Int) ≤ (b : Int) := by omega
  have hb1 : b ≤ 40 := hb.2
  clear hb
  go_enter Tryd.func78, Tryd.ntmps78
  go_wp2_with fail
  refine (c1 _).mono ?_
  rintro e w' ⟨rfl, rfl⟩
  go_wp2_with fail
  go_ret
  refine ⟨?_, rfl⟩
  rw [HE.out, ← wrap_pow40 b hb1]
  rfl
end Go.Proofs.YtdpgebifeaakjaaDoor

/- The walks of the specification's Hex and Unhex. -/
namespace Go.Proofs.YtdpgebifeaakjaaDoor
set_option linter.unusedSimpArgs false
set_option linter.unusedVariables false
open Go.RowKit

theorem info5' : (Tryd.prog.info? 5).map (fun i => (i.zero, i.size, i.bytes)) = some (some (.int .u8 0), 1, 1) := by kernel_rfl
theorem cells_two_u8 (W : World) (u v : Value) (t : Nat) : ∀ j c, [u, v][j]? = some c → (W.alloc (.cells #[u, v] t)).cell? ((⟨W.heap.size, 0, none⟩ : Addr).add j) = some c := by
  intro j c hj
  rw [Addr.add_lit, (Blk.new W #[u, v] t).cell, Nat.zero_add]
  simpa using hj
/-- The letters of the first k bytes. -/
def hexUp (d : Nat → BitVec 8) (k : Nat) : List Value := ((List.range (2 * k)).map (hexCell d)).map U8
theorem hexUp_length (d : Nat → BitVec 8) (k : Nat) : (hexUp d k).length = 2 * k := by simp [hexUp]
theorem hexUp_next (d : Nat → BitVec 8) (k : Nat) : hexUp d k ++ [U8 (hexDig (d k / 16#8)), U8 (hexDig (d k % 16#8))] = hexUp d (k + 1) := by
  unfold hexUp
  rw [show 2 * (k + 1) = 2 * k + 1 + 1 by omega, List.range_succ, List.range_succ]
  simp only [List.map_append, List.map_cons, List.map_nil, List.append_assoc, List.cons_append, List.nil_append]
  rw [hexCell, if_pos (by omega), hexCell, if_neg (by omega), show 2 * k / 2 = k by omega, show (2 * k + 1) / 2 = k by omega]
theorem owns_far {W : World} {base e size n : Nat} {v : Value} {xs : List Value} (h : W.ownsRow base e size v n xs) {k : Nat} (hk : k < base) : v.ownBlock ≠ some k := fun e => by
  have := (h.lt _ e).1
  omega
theorem ownsRow_slice' {W : World} {base e size n : Nat} {v : Value} {xs : List Value} (h : W.ownsRow base e size v n xs) : ∃ p k c, v = .slice p k c := by
  rcases h.2 with ⟨rfl, _⟩ | ⟨g, cap, cur, rfl, _⟩
  · exact ⟨_, _, _, rfl⟩
  · exact ⟨_, _, _, rfl⟩

set_option maxRecDepth 20000 in
set_option maxHeartbeats 2000000 in
theorem rhex_any (d : Nat → BitVec 8) (w : World) :
    Calls Tryd.prog 21 #[.agg (A8 16 d)] w fun e w' => e = .returned (.string (strOf (hexList d))) ∧ Below w.heap.size w w' := by
  obtain ⟨i0, hi, hz0, hz1, hz2⟩ := info_parts info5'
  have hbx := box23 d
  have hB0 : Below w.heap.size w (w.alloc (.cells (A8 16 d) 23)) := (Below.refl _ _).alloc (Nat.le_refl _) _
  have h1 := Blk.new w (A8 16 d) 23
  go_enter Tryd.func21, Tryd.ntmps21
  go_wp2_with fail
  go_loopw [3, 4] (fun s3 s4 W => ∃ k : Nat, k ≤ 16 ∧ s4 = .int .i64 k ∧ Blk W w.heap.size (A8 16 d) 23 ∧ W.ownsRow (w.heap.size + 1) 5 1 s3 (hexUp d k).length (hexUp d k) ∧ Below w.heap.size w W ∧ w.heap.size + 1 ≤ W.heap.size) (fun _ s4 _ => 16 - (intOf s4).toNat)
  case atStart => exact ⟨0, by omega, rfl, h1, World.ownsRow_nil _ _ _ _, hB0, by simp⟩
  case round =>
    clear h1 hB0
    obtain ⟨k, hk, rfl, h1, hrow, hB, hsz⟩ := hrel
    by_cases hlt : k < 16
    · have hlt1 : (k : Int) < 16 := by omega
      have hc := h1.cell k
      rw [A8.get _ hlt] at hc
      have hp : (0 : Int) ≤ (k : Int) := by omega
      obtain ⟨x, hx⟩ : ∃ x, d k = x := ⟨_, rfl⟩
      rw [hx] at hc
      have hnx := hexUp_next d k
      rw [hx] at hnx
      have hi1 := index_digits (x / 16#8) (div16 _)
      have hi2 := index_digits (x % 16#8) (mod16 _)
      have HNX := hide hnx
      clear hnx hx
      go_wp2_with fail
      have ak := owns_far hrow (k := w.heap.size) (by omega)
      have hlk : w.heap.size < wr.heap.size := by omega
      go_region_held3 (fun w' => w'.cell? ⟨w.heap.size, k, none⟩ = some (U8 x))
        (first | go_keep | (rw [hgrow.cell_far _ (by simp; omega) (Ne.symm ak)]; assumption))
        ((refine step_append_lies _ (by rfl) _ _ _ (by rfl) (w.heap.size + 1) 5 i0 _ 1 1 Tryd.underlying43 hi hz0 hz1 hz2 rfl (by omega) _ (hexUp d k).length (hexUp d k) (by rfl) ((hrow.alloc _).drew)
            ⟨wr.heap.size, 0, none⟩ 2 2 [U8 (hexDig (x / 16#8)), U8 (hexDig (x % 16#8))] (by rfl) (by rfl) (World.news_of_block (cs := #[U8 (hexDig (x / 16#8)), U8 (hexDig (x % 16#8))]) (t := 5) (fr := (0, 0)) (heap_alloc_new wr _)) (by simp [Value.oneCell'])
            (by omega) (by rw [hexUp_length]; unfold maxLen; omega) (by rw [hexUp_length]; omega) (by simp; omega) (wr.heap.size + 1) (by simp) ?_; intro gg cap w1 hown1 hgrow hat hlt))
      all_goals
        have hb2 : Blk w1 w.heap.size (A8 16 d) 23 := (hgrow.block w.heap.size (by simp; omega) (Ne.symm ak)).trans (h1.alloc _)
        have hB2 : Below w.heap.size w w1 := ((hB.alloc hB.size _).drew).grown hgrow (by simp; omega) (fun q e => by have := (hrow.lt q e).1; omega)
        have hsz2 : w.heap.size + 1 ≤ w1.heap.size := by have := hgrow.size; simp at this; omega
        have HE := hide (show (hexUp d k).length + 2 = (hexUp d (k + 1)).length by rw [hexUp_length, hexUp_length]; omega)
        rw [HNX.out] at hown1
        clear hc hi1 hi2 hp h1 hrow hB hsz hgrow ak hlk
        go_wp2_with fail
        exact ⟨⟨k + 1, by omega, by go_num, hb2, by rw [HE.out] at hown1 ⊢; exact hown1, hB2, hsz2⟩, by simp [intOf]; omega⟩
    · have hlt1 : ¬ (k : Int) < 16 := by omega
      have hlen : (hexUp d k).length = 32 := by rw [hexUp_length]; omega
      have hd : hexUp d k = (hexList d).map U8 := by rw [hexUp, hexList, show k = 16 by omega]
      rw [hlen, hd] at hrow
      clear hlen hd
      obtain ⟨g, cap, rfl, _, _⟩ := hrow.form (by omega)
      have hconv : (convert 43 9 (.slice (some ⟨g, 0, none⟩) 32 cap)).run Tryd.prog wr = .ok (.string (strOf (hexList d))) wr := by
        refine run_bytes_str wr 43 9 5 _ 0 cap _ 32 (by simp [hexList]) Tryd.underlying43 Tryd.underlying5 Tryd.underlying9 fun j hj => ?_
        rw [Nat.zero_add, World.ownsRow.cellAt hrow _ (by simpa [hexList] using hj), List.getElem?_map, List.getElem?_eq_getElem hj]
        rfl
      clear hrow
      go_wp2_with fail
      go_ret
      exact ⟨rfl, hB⟩
end Go.Proofs.YtdpgebifeaakjaaDoor

/- The walk of the specification's Unhex. -/
namespace Go.Proofs.YtdpgebifeaakjaaDoor
set_option linter.unusedSimpArgs false
set_option linter.unusedVariables false
open Go.RowKit

/-- A digest and an error, in a struct. -/
def digC (d : Nat → BitVec 8) (e : Int) : Array Value := Row 17 fun i => if i < 16 then U8 (d i) else .int .i64 e
theorem digC_size (d : Nat → BitVec 8) (e : Int) : (digC d e).size = 17 := Row.size _ _
theorem digC_one (d : Nat → BitVec 8) (e : Int) : (digC d e).all (·.oneCell') = true := Row.all fun i hi => by
  split <;> rfl
theorem size29 : (Tryd.prog.info? 29).map (·.size) = some 17 := by kernel_rfl
theorem build29e (w : World) : (Instr.build 29 #[(1, .int .i64 2)]).run Tryd.prog w = .ok (.agg (digC (fun _ => 0#8) 2)) w := by kernel_rfl
theorem build29 (d : Nat → BitVec 8) (w : World) : (Instr.build 29 #[(0, .agg (A8 16 d))]).run Tryd.prog w = .ok (.agg (digC d 0)) w := by kernel_rfl
@[go_sem] theorem lit29 : (#[Value.int .u8 0, Value.int .u8 0, Value.int .u8 0, Value.int .u8 0, Value.int .u8 0, Value.int .u8 0, Value.int .u8 0, Value.int .u8 0, Value.int .u8 0, Value.int .u8 0, Value.int .u8 0, Value.int .u8 0, Value.int .u8 0, Value.int .u8 0, Value.int .u8 0, Value.int .u8 0, Value.int .i64 0] : Array Value) = digC (fun _ => 0#8) 0 := by kernel_rfl

@[go_sem] theorem digC_set16 (d : Nat → BitVec 8) (e n : Int) : (digC d e).setIfInBounds 16 (.int .i64 n) = digC d n := by
  unfold digC
  rw [Row.set]
  apply Row.ext
  intro i hi
  by_cases h : i = 16
  · subst h; rw [if_pos rfl, if_neg (by omega)]
  · rw [if_neg h]
    by_cases h' : i < 16
    · rw [if_pos h', if_pos h']
    · omega
def nib (n : Nat) : BitVec 8 := hexDig (BitVec.ofNat 8 n)
theorem nib_digit : ∀ (c : BitVec 8), isDig c = true → dig c = BitVec.ofNat 8 (dig c).toNat ∧ (dig c).toNat < 16 ∧ nib (dig c).toNat = c := by decide +kernel
theorem nib_only : ∀ (n : Nat), n < 16 → isDig (nib n) = true ∧ dig (nib n) = BitVec.ofNat 8 n := by decide +kernel
theorem put_nib : ∀ (n : Nat), n < 16 → ∀ (x : BitVec 8), x * 16#8 + BitVec.ofNat 8 n = (x <<< 4) ||| BitVec.ofNat 8 n := by decide +kernel
theorem index_nib (n : Nat) (h : n < 16) (w : World) :
    (Instr.index 9 (.string ⟨#[48, 49, 50, 51, 52, 53, 54, 55, 56, 57, 97, 98, 99, 100, 101, 102]⟩) (.int .i64 (n : Int))).run Tryd.prog w = .ok (U8 (nib n)) w := by
  have := run_index_strK (P := Tryd.prog) (T := 9) Tryd.underlying9 ⟨#[48, 49, 50, 51, 52, 53, 54, 55, 56, 57, 97, 98, 99, 100, 101, 102]⟩ .i64 n h w
  rw [this]
  have e := hexDig_q (BitVec.ofNat 8 n) (by rw [BitVec.toNat_ofNat]; omega)
  rw [BitVec.toNat_ofNat, Nat.mod_eq_of_lt (by omega)] at e
  rw [e]
  rfl
def unhexC (s : ByteArray) : Array Value := if okHex s then digC (unhexAt s 32) 0 else digC (fun _ => 0#8) 2
theorem digC_get (d : Nat → BitVec 8) (e : Int) (i : Nat) (h : i < 16) : (digC d e)[i]? = some (U8 (d i)) := by
  rw [digC, Row.get _ (by omega), if_pos h]

set_option maxRecDepth 20000 in
set_option maxHeartbeats 1000000 in
theorem runhex_any (s : ByteArray) (hs : s.size ≤ 9223372036854775807) (w : World) :
    Calls Tryd.prog 19 #[.string s] w fun e w' => e = .returned (.agg (unhexC s)) ∧ Below w.heap.size w w' := by
  have hb1 := build29
  have hb2 := build29e
  have h1 := (Blk.new w (digC (fun _ => 0#8) 0) 29).alloc (.cells (A8 16 fun _ => 0#8) 23)
  have h2 := Blk.new (w.alloc (.cells (digC (fun _ => 0#8) 0) 29)) (A8 16 fun _ => 0#8) 23
  rw [World.size_alloc] at h2
  have hB0 : Below w.heap.size w ((w.alloc (.cells (digC (fun _ => 0#8) 0) 29)).alloc (.cells (A8 16 fun _ => 0#8) 23)) := ((Below.refl _ _).alloc (Nat.le_refl _) _).alloc (by simp) _
  by_cases h32 : s.size = 32
  · have HZ := hide h32
    have hz1 : (s.size : Int) = 32 := by omega
    clear h32
    go_enter Tryd.func19, Tryd.ntmps19
    go_wp2_with fail
    clear hz1
    have hcells : (A8 16 fun _ => 0#8) = A8 16 (unhexAt s 0) := rfl
    rw [hcells] at h2
    clear hcells
    go_loopw [4, 5] (fun s4 _ W => ∃ k : Nat, k ≤ 32 ∧ s4 = .int .i64 k ∧ (∀ i, i < k → isDig (byteAt s i) = true) ∧ Blk W w.heap.size (digC (fun _ => 0#8) 0) 29 ∧ Blk W (w.heap.size + 1) (A8 16 (unhexAt s k)) 23 ∧ Below w.heap.size w W) (fun s4 _ _ => 32 - (intOf s4).toNat)
    case atStart => exact ⟨0, by omega, rfl, fun i hi => absurd hi (by omega), h1, h2, hB0⟩
    case round =>
      clear h1 h2 hB0
      obtain ⟨k, hk, rfl, hall, h1, h2, hB⟩ := hrel
      by_cases hk32 : k < 32
      · have hk1 : (k : Int) < 32 := by omega
        have hix := run_index_str (P := Tryd.prog) (T := 9) Tryd.underlying9 s k (by rw [HZ.out]; exact hk32)
        obtain ⟨c, hc⟩ : ∃ c, byteAt s k = c := ⟨_, rfl⟩
        rw [hc] at hix
        have HC := hide hc
        have HALL := hide hall
        clear hc hall
        go_wp2_with fail
        go_loopw [5] (fun s5 W => ∃ j : Nat, j ≤ 16 ∧ s5 = .int .i64 j ∧ Hid (∀ i, i < j → nib i ≠ c) ∧ Blk W w.heap.size (digC (fun _ => 0#8) 0) 29 ∧ Blk W (w.heap.size + 1) (A8 16 (unhexAt s k)) 23 ∧ Below w.heap.size w W) (fun s5 _ => 16 - (intOf s5).toNat)
        case atStart => exact ⟨0, by omega, rfl, hide fun i hi => absurd hi (by omega), h1, h2, hB⟩
        case round =>
          clear h1 h2 hB
          obtain ⟨j, hj, rfl, hno, h1, h2, hB⟩ := hrel
          by_cases hj16 : j < 16
          · have hj1 : (j : Int) < 16 := by omega
            have hin := index_nib j hj16
            by_cases hnc : nib j = c
            · have hne : (nib j != c) = false := by simp [hnc]
              have hge := nib_only j hj16
              rw [hnc] at hge
              have HG := hide hge
              clear hge hnc
              go_wp2_with fail
              go_quiet (fail)
              replace h1 := h1.drewN nq
              replace h2 := h2.drewN nq
              replace hB := below_drewN' nq hB
              generalize wr.drewN nq = W1 at h1 h2 hB ⊢
              clear hin hix hne
              have hcell := h2.cell (k / 2)
              rw [A8.get _ (by omega)] at hcell
              have hfree := h2.free (k / 2)
              have hj17 : ((j : Int) == 16) = false := by simp; omega
              go_wp2_with fail
              have e8 : unhexAt s k (k / 2) * 16#8 + BitVec.ofNat 8 j = (unhexAt s k (k / 2) <<< 4) ||| BitVec.ofNat 8 j := put_nib j hj16 _
              have hb4 := h2.set (k / 2) (U8 (unhexAt s k (k / 2) * 16#8 + BitVec.ofNat 8 j))
              rw [e8, unhex_step s k _ (by rw [HC.out]; exact HG.out.2.symm), ← e8] at hb4
              refine ⟨⟨k + 1, by omega, by go_num, fun i hi => ?_, h1.other (by simp) _, hb4, hB.setCell (p := ⟨w.heap.size + 1, k / 2, none⟩) (by simp) _⟩, by simp [intOf]; omega⟩
              by_cases e : i = k
              · rw [e, HC.out]; exact HG.out.1
              · exact HALL.out i (by omega)
            · have hne : (nib j != c) = true := by simp [hnc]
              have HN := hide hnc
              clear hnc
              go_wp2_with fail
              go_quiet (fail)
              replace h1 := h1.drewN nq
              replace h2 := h2.drewN nq
              replace hB := below_drewN' nq hB
              generalize wr.drewN nq = W1 at h1 h2 hB ⊢
              clear hin hix hne
              go_wp2_with fail
              refine ⟨⟨j + 1, by omega, by go_num, hide fun i hi => ?_, h1, h2, hB⟩, by simp [intOf]; omega⟩
              by_cases e : i = j
              · rw [e]; exact HN.out
              · exact hno.out i (by omega)
          · obtain rfl : j = 16 := by omega
            have hbad : ¬ okHex s := fun hok => by
              have hd := hok.2 k hk32
              rw [HC.out] at hd
              obtain ⟨e1, e2, e3⟩ := nib_digit c hd
              exact hno.out _ (by omega) e3
            have HBAD := hide hbad
            clear hbad
            go_wp2_with fail
            go_quiet (fail)
            replace h1 := h1.drewN nq
            replace h2 := h2.drewN nq
            replace hB := below_drewN' nq hB
            generalize wr.drewN nq = W1 at h1 h2 hB ⊢
            clear hix
            go_wp2_with (refine wp_storeRow rfl 29 _ _ rfl _ rfl rfl h1 size29 (digC_size _ _) (digC_size _ _) (digC_one _ _) rfl ?_; intro W2 hu hb3)
            refine ret_row rfl w.heap.size rfl hb3 Tryd.underlying29 rfl size29 (digC_size _ _) rfl ⟨?_, hu.below hB (Nat.le_refl _)⟩
            rw [unhexC, if_neg HBAD.out]
      · have hk1 : ¬ (k : Int) < 32 := by omega
        have hyes : okHex s := ⟨HZ.out, fun i hi => hall i (by omega)⟩
        have hk32' : k = 32 := by omega
        have HY := hide hyes
        obtain ⟨D, hD⟩ : ∃ D, unhexAt s k = D := ⟨_, rfl⟩
        have hDK : unhexAt s 32 = D := by rw [← hk32']; exact hD
        rw [hD] at h2
        have HK := hide hDK
        clear hyes hk32' hall hD hDK
        go_upto_region 13 with (fail)
        apply wp_region_lit
        refine wp_loadRow (t := 23) (C := A8 16 D) (n := 16) rfl 23 (.tmp 3) rfl (w.heap.size + 1) rfl h2 Tryd.underlying23 rfl size23 (A8.size _ _) ?_
        refine wp_buildL rfl 29 #[(0, .tmp 40)] rfl #[(0, .agg (A8 16 D))] rfl (.agg (digC D 0)) (build29 D) ?_
        refine wp_storeRow (C' := digC D 0) (n := 17) rfl 29 (.tmp 2) (.tmp 41) rfl w.heap.size rfl rfl h1 size29 (digC_size _ _) (digC_size _ _) (digC_one _ _) rfl ?_
        intro W2 hu hb3
        go_wp2_with fail
        refine ret_row rfl w.heap.size rfl hb3 Tryd.underlying29 rfl size29 (digC_size _ _) rfl ⟨?_, hu.below hB (Nat.le_refl _)⟩
        rw [unhexC, if_pos HY.out, HK.out]
  · have hz1 : ((s.size : Int) != 32) = true := by simp; omega
    have hno : ¬ okHex s := fun e => h32 e.1
    have HNO := hide hno
    clear h32 hno h2
    have h1 := Blk.new w (digC (fun _ => 0#8) 0) 29
    go_enter Tryd.func19, Tryd.ntmps19
    go_wp2_with (refine wp_storeRow rfl 29 _ _ rfl _ rfl rfl (h1.alloc _) size29 (digC_size _ _) (digC_size _ _) (digC_one _ _) rfl ?_; intro W2 hu hb3)
    refine ret_row rfl w.heap.size rfl hb3 Tryd.underlying29 rfl size29 (digC_size _ _) rfl ⟨?_, hu.below hB0 (Nat.le_refl _)⟩
    rw [unhexC, if_neg HNO.out]
end Go.Proofs.YtdpgebifeaakjaaDoor
