/- Texts put together for one claim: part 5. -/
import Derived.Test.YtdpgebifeaakjaaDoorProg
import Derived.WalkKit
import Derived.WalkSpells
import Derived.WalkLawsBesides
import Derived.ChangeKeysEq
import Derived.Deep.RegionHeld3
import Derived.BigQuiet
import Derived.Deep.QuietTactic
import Derived.Deep.MidRow
import Derived.StillTailTactics
import Derived.Laws.AppendOwn
import Derived.Lib.ConvBytes
import Derived.Shelf.Spec.TrailingZeros
import Derived.Laws.FloatArith
import Derived.Laws.CopyOwn
import Derived.BigRegion
import Derived.Deep.Cut
import Derived.ArgAppend
import Derived.Shelf.Strconv.Itoa0
import Derived.RangeFuncNested
import Derived.RangeFuncBound
import Derived.RangeFuncCalls
import Derived.RangeFuncLeaves
import Derived.Shelf.Abstract
import Derived.OwnWalkIn
import Derived.TacticsInMore
import Derived.LoopNIn
import Derived.LoopIn
import Derived.RangeFuncBox
import Derived.Maps.AppendAt
import Derived.Laws.OwnMore
import Derived.Laws.StructEq
import Derived.Deep.RegionHeld
import Derived.Laws.BitsLemmas
import Derived.OwnWalk
import Derived.StillTactics
import Derived.Deep.AppendLies
import Derived.Test.YtdpgebifeaakjaaDoorRows
import Derived.ProofKit
import Derived.LaidMore
import Derived.OpenShut
import Derived.Stop.Joined
import Derived.Carry
import Derived.SevenTiedAt
import Derived.Deep.Slices
import Derived.Laws.AppendOwnNone
import Derived.Defers
import Derived.Recover
import Derived.Test.YtdpgebifeaakjaaDoorX4
/- Sane; the cover and Hex of the specification. -/

/- The examples of the chapter, reckoned by the kernel. -/
namespace Go.Proofs.YtdpgebifeaakjaaDoor
set_option linter.unusedSimpArgs false
set_option linter.unusedVariables false
open Go.RowKit

theorem sha_short (l P : List (BitVec 8)) (ws : List (BitVec 32)) (hl : l.length / 64 = 0) (hP : l ++ padList l.length (BitVec.ofInt 64 (l.length : Int) * 8#64) = P) (h64 : P.length = 64)
    (hw : (List.range 8).map (fun i => startK i + (blockF roundK startK P).getD i 0#32) = ws) : ∀ j, j < 32 → sha l j = digestOf (fun i => ws.getD i 0#32) j := by
  intro j hj
  have h1 : addRest l = l := by rw [addRest, hl]; rfl
  have h2 : addH roundK startK l = startK := by rw [addH, hl]; rfl
  have h3 : addH roundK startK P = shaBlock roundK startK P := by
    rw [addH, h64]
    show shaBlock roundK startK ((P.drop 0).take 64) = _
    rw [List.drop_zero, List.take_of_length_le (by omega)]
  rw [sha, h1, h2, hP, h3, digestOf, digestOf]
  have h8 : j / 4 < 8 := by omega
  have e : shaBlock roundK startK P (j / 4) = ws.getD (j / 4) 0#32 := by
    rw [shaBlock_eq _ _ _ _ h8, ← hw]
    simp [h8]
  rw [e]
theorem hexList_congr {d e : Nat → BitVec 8} (h : ∀ j, j < 32 → d j = e j) : hexList d = hexList e := by
  unfold hexList
  refine List.map_congr_left fun j hj => ?_
  have hj32 : j < 32 := by simpa using hj
  unfold hexCell
  rw [h (j / 2) (by omega)]

theorem hex_empty : strOf (hexList (sha (bts ⟨#[]⟩))) = ⟨#[101, 51, 98, 48, 99, 52, 52, 50, 57, 56, 102, 99, 49, 99, 49, 52, 57, 97, 102, 98, 102, 52, 99, 56, 57, 57, 54, 102, 98, 57, 50, 52]⟩ := by
  rw [show bts ⟨#[]⟩ = [] from rfl, hexList_congr (sha_short [] emptyBlock _ rfl (by decide +kernel) rfl empty_words)]
  kernel_rfl
theorem hex_abc : strOf (hexList (sha (bts ⟨#[97, 98, 99]⟩))) = ⟨#[98, 97, 55, 56, 49, 54, 98, 102, 56, 102, 48, 49, 99, 102, 101, 97, 52, 49, 52, 49, 52, 48, 100, 101, 53, 100, 97, 101, 50, 50, 50, 51]⟩ := by
  rw [show bts ⟨#[97, 98, 99]⟩ = [97#8, 98#8, 99#8] from rfl, hexList_congr (sha_short [97#8, 98#8, 99#8] abcBlock _ rfl (by decide +kernel) rfl abc_words)]
  kernel_rfl

def c1234 : BitVec 32 := crc (bts ⟨#[49, 50, 51, 52]⟩)
def c56789 : BitVec 32 := crc (bts ⟨#[53, 54, 55, 56, 57]⟩)
theorem crc_nine : crc (bts ⟨#[49, 50, 51, 52, 53, 54, 55, 56, 57]⟩) = 3421780262#32 := by decide +kernel
theorem crc_none : crc (bts ⟨#[]⟩) = 0#32 := by decide +kernel
theorem combine_ex : combineS c1234 c56789 5 = (3421780262#32, 0) := by
  rw [combineS, if_pos (by decide), crcShift_eq _ _ (by decide)]
  decide +kernel
theorem patch_ex : patchS c1234 1 (bts ⟨#[51]⟩) (bts ⟨#[57]⟩) = (crc (bts ⟨#[49, 50, 57, 52]⟩), 0) := by
  rw [patchS, if_pos (by decide), crcShift_eq _ _ (by decide)]
  decide +kernel
theorem patch_ex2 : patchS c1234 1 (bts ⟨#[51]⟩) (bts ⟨#[57, 57]⟩) = (0#32, 1) := by
  rw [patchS, if_neg (by decide)]
theorem force_ex : crcExt (crc (bts ⟨#[120]⟩)) (wordBytes (forceW (crc (bts ⟨#[120]⟩)) 7#32)) = 7#32 := by decide +kernel
theorem unhex_ex : unhexV ⟨#[65, 66]⟩ = .tuple #[.agg (A8 16 fun _ => 0#8), .int .i64 2] := by
  rw [unhexV, if_neg (fun h => absurd h.1 (by decide))]
theorem cover_ex : coverL 3 8 = [(3, 1), (4, 4)] := by decide +kernel
end Go.Proofs.YtdpgebifeaakjaaDoor

/- The walk of sane: the examples hold. -/
namespace Go.Proofs.YtdpgebifeaakjaaDoor
set_option linter.unusedSimpArgs false
set_option linter.unusedVariables false
open Go.RowKit

theorem SlB.below {W W' : World} {u : Value} {l : List (Nat × Nat)} (h : SlB W u l) (hb : Below W.heap.size W W') : SlB W' u l := by
  obtain ⟨p, c, rfl, hc⟩ := h
  refine ⟨p, c, rfl, fun j x hx => ?_⟩
  obtain ⟨g, o, hp, h1, h2⟩ := hc j x hx
  exact ⟨g, o, hp, (hb.cell (World.block_lt_of_cell? W _ h1)).trans h1, (hb.cell (World.block_lt_of_cell? W _ h2)).trans h2⟩
theorem cellsOf_at : ∀ (l : List (Nat × Nat)) (j : Nat) (x : Nat × Nat), l[j]? = some x → (cellsOf l)[j * 2]? = some (.int .i64 x.1) ∧ (cellsOf l)[j * 2 + 1]? = some (.int .i64 x.2)
  | [], j, x, h => by simp at h
  | y :: l, 0, x, h => by
    have : y = x := by simpa using h
    subst this
    exact ⟨rfl, rfl⟩
  | y :: l, j + 1, x, h => by
    have := cellsOf_at l j x (by simpa using h)
    rw [show (j + 1) * 2 = j * 2 + 1 + 1 by omega]
    exact this
theorem SlB.of_owns {W : World} {base : Nat} {v : Value} {l : List (Nat × Nat)} (h : W.ownsRow base 106 2 v l.length (cellsOf l)) : SlB W v l := by
  rcases h.2 with ⟨rfl, h0⟩ | ⟨g, cap, cur, rfl, hrest⟩
  · have : l = [] := List.eq_nil_of_length_eq_zero h0
    subst this
    exact ⟨none, 0, rfl, fun j x hx => by simp at hx⟩
  · refine ⟨_, cap, rfl, fun j x hx => ?_⟩
    obtain ⟨c1, c2⟩ := cellsOf_at l j x hx
    have hj : j < l.length := (List.getElem?_eq_some_iff.1 hx).1
    exact ⟨g, 0, rfl, by rw [Nat.zero_add, World.ownsRow.cellAt h _ (by omega), c1], by rw [Nat.zero_add, World.ownsRow.cellAt h _ (by omega), c2]⟩

theorem lit_blocks (W : World) : SlB (W.alloc (.cells #[.int .i64 3, .int .i64 1, .int .i64 4, .int .i64 4] 106)) (.slice (some ⟨W.heap.size, 0, none⟩) 2 2) [(3, 1), (4, 4)] := by
  have h := Blk.new W #[.int .i64 3, .int .i64 1, .int .i64 4, .int .i64 4] 106
  refine ⟨_, _, rfl, fun j x hx => ⟨W.heap.size, 0, rfl, ?_⟩⟩
  match j, hx with
  | 0, hx =>
    have : ((3 : Nat), (1 : Nat)) = x := by simpa using hx
    subst this
    exact ⟨(h.cell _).trans rfl, (h.cell _).trans rfl⟩
  | 1, hx =>
    have : ((4 : Nat), (4 : Nat)) = x := by simpa using hx
    subst this
    exact ⟨(h.cell _).trans rfl, (h.cell _).trans rfl⟩
  | j + 2, hx => simp at hx

set_option maxRecDepth 100000 in
set_option maxHeartbeats 4000000 in
theorem sane_any (w : World) (hT : TabAt 3 Lib.deBruijn64tab w) (h3l : 3 < w.heap.size) :
    Calls Tryd.prog 17 #[] w fun e w' => e = .returned (.bool true) ∧ Below w.heap.size w w' := by
  have cmb : ∀ w, Calls Tryd.prog 27 #[U32 (crc (bts ⟨#[49, 50, 51, 52]⟩)), U32 (crc (bts ⟨#[53, 54, 55, 56, 57]⟩)), .int .i64 5] w fun e w' => e = .returned (.tuple #[U32 3421780262#32, .int .i64 0]) ∧ Below w.heap.size w w' := fun w => by
    have h := combine_any c1234 c56789 5 w
    rw [combine_ex] at h
    exact h
  have ptc : ∀ w, Calls Tryd.prog 28 #[U32 (crc (bts ⟨#[49, 50, 51, 52]⟩)), .int .i64 1, .string ⟨#[51]⟩, .string ⟨#[57]⟩] w fun e w' => e = .returned (.tuple #[U32 (crc (bts ⟨#[49, 50, 57, 52]⟩)), .int .i64 0]) ∧ Below w.heap.size w w' := fun w => by
    have h := patch_any c1234 1 ⟨#[51]⟩ ⟨#[57]⟩ w (by decide) (by decide)
    rw [patch_ex] at h
    exact h
  have ptc2 : ∀ w, Calls Tryd.prog 28 #[U32 (crc (bts ⟨#[49, 50, 51, 52]⟩)), .int .i64 1, .string ⟨#[51]⟩, .string ⟨#[57, 57]⟩] w fun e w' => e = .returned (.tuple #[U32 0#32, .int .i64 1]) ∧ Below w.heap.size w w' := fun w => by
    have h := patch_any c1234 1 ⟨#[51]⟩ ⟨#[57, 57]⟩ w (by decide) (by decide)
    rw [patch_ex2] at h
    exact h
  go_enter Tryd.func17, Tryd.ntmps17
  go_wp2_with fail
  refine (crc_any _ _ (by decide)).mono ?_
  rintro e W1 ⟨rfl, hB⟩
  go_wp2_with fail
  refine (crc_any _ _ (by decide)).mono ?_
  rintro e W2 ⟨rfl, hB2⟩
  replace hB := hB.trans (hB2.mono hB.size)
  clear hB2
  go_wp2_with fail
  refine (cmb _).mono ?_
  rintro e W3 ⟨rfl, hB2⟩
  replace hB := hB.trans (hB2.mono hB.size)
  clear hB2 cmb
  go_wp2_with fail
  refine (crc_any _ _ (by decide)).mono ?_
  rintro e W4 ⟨rfl, hB2⟩
  replace hB := hB.trans (hB2.mono hB.size)
  clear hB2
  go_wp2_with fail
  refine (ptc _).mono ?_
  rintro e W5 ⟨rfl, hB2⟩
  replace hB := hB.trans (hB2.mono hB.size)
  clear hB2 ptc
  go_wp2_with fail
  refine (crc_any _ _ (by decide)).mono ?_
  rintro e W6 ⟨rfl, hB2⟩
  replace hB := hB.trans (hB2.mono hB.size)
  clear hB2
  go_wp2_with fail
  refine (ptc2 _).mono ?_
  rintro e W7 ⟨rfl, hB2⟩
  replace hB := hB.trans (hB2.mono hB.size)
  clear hB2 ptc2
  go_wp2_with fail
  have hT7 : TabAt 3 Lib.deBruijn64tab W7 := fun j hj => (hB.cell (p := ⟨3, j, none⟩) h3l).trans (hT j hj)
  have cv := cover_ok 3 8 (by decide) (by decide) W7 hT7 (Nat.lt_of_lt_of_le h3l hB.size)
  rw [cover_ex] at cv
  refine cv.mono ?_
  rintro e W8 ⟨v, rfl, hown, hB2⟩
  have hS := SlB.of_owns hown
  obtain ⟨p, c, rfl, hSc⟩ := id hS
  replace hB := hB.trans (hB2.mono hB.size)
  clear hB2 cv hT7 hown hSc
  have HS := hide hS
  clear hS
  go_wp2_with fail
  have uh := unhex_any ⟨#[65, 66]⟩ (by decide) W8
  rw [unhex_ex] at uh
  refine uh.mono ?_
  rintro e W9 ⟨rfl, hB2⟩
  replace HS := hide (HS.out.below hB2)
  replace hB := hB.trans (hB2.mono hB.size)
  clear hB2 uh
  have hN := Blk.new W9 (A8 16 fun _ => 0#8) 23
  go_wp2_with (refine wp_storeRow rfl 23 _ _ rfl _ rfl rfl hN size23 (A8.size _ _) (A8.size _ _) (A8.one _) rfl ?_; intro W11 hu hN1)
  have hB2 : Below W9.heap.size W9 W11 := hu.below ((Below.refl _ _).alloc (Nat.le_refl _) _) (Nat.le_refl _)
  clear hu hN hN1
  replace HS := hide (HS.out.below hB2)
  replace hB := hB.trans (hB2.mono hB.size)
  clear hB2
  refine (sum_any ⟨#[]⟩ (by decide) _).mono ?_
  rintro e W12 ⟨rfl, hB2⟩
  replace HS := hide (HS.out.below hB2)
  replace hB := hB.trans (hB2.mono hB.size)
  clear hB2
  go_wp2_with fail
  have hx := hex_any (sha (bts ⟨#[]⟩)) W12
  rw [hex_empty] at hx
  refine (hx).mono ?_
  rintro e W13 ⟨rfl, hB2⟩
  replace HS := hide (HS.out.below hB2)
  replace hB := hB.trans (hB2.mono hB.size)
  clear hB2
  go_wp2_with fail
  clear hx
  refine (sum_any ⟨#[97, 98, 99]⟩ (by decide) _).mono ?_
  rintro e W14 ⟨rfl, hB2⟩
  replace HS := hide (HS.out.below hB2)
  replace hB := hB.trans (hB2.mono hB.size)
  clear hB2
  go_wp2_with fail
  have hx := hex_any (sha (bts ⟨#[97, 98, 99]⟩)) W14
  rw [hex_abc] at hx
  refine (hx).mono ?_
  rintro e W15 ⟨rfl, hB2⟩
  replace HS := hide (HS.out.below hB2)
  replace hB := hB.trans (hB2.mono hB.size)
  clear hB2
  go_wp2_with fail
  clear hx
  have hx := crc_any ⟨#[49, 50, 51, 52, 53, 54, 55, 56, 57]⟩ W15 (by decide)
  rw [crc_nine] at hx
  refine (hx).mono ?_
  rintro e W16 ⟨rfl, hB2⟩
  replace HS := hide (HS.out.below hB2)
  replace hB := hB.trans (hB2.mono hB.size)
  clear hB2
  go_wp2_with fail
  clear hx
  have hx := crc_any ⟨#[]⟩ W16 (by decide)
  rw [crc_none] at hx
  refine (hx).mono ?_
  rintro e W17 ⟨rfl, hB2⟩
  replace HS := hide (HS.out.below hB2)
  replace hB := hB.trans (hB2.mono hB.size)
  clear hB2
  go_wp2_with fail
  clear hx
  refine (crc_any ⟨#[49, 50, 57, 52]⟩ _ (by decide)).mono ?_
  rintro e W18 ⟨rfl, hB2⟩
  replace HS := hide (HS.out.below hB2)
  replace hB := hB.trans (hB2.mono hB.size)
  clear hB2
  go_wp2_with fail
  refine (crc_any ⟨#[120]⟩ _ (by decide)).mono ?_
  rintro e W19 ⟨rfl, hB2⟩
  replace HS := hide (HS.out.below hB2)
  replace hB := hB.trans (hB2.mono hB.size)
  clear hB2
  go_wp2_with fail
  refine (crc_any ⟨#[120]⟩ _ (by decide)).mono ?_
  rintro e W20 ⟨rfl, hB2⟩
  replace HS := hide (HS.out.below hB2)
  replace hB := hB.trans (hB2.mono hB.size)
  clear hB2
  go_wp2_with fail
  refine (force_any (crc (bts ⟨#[120]⟩)) 7#32 _).mono ?_
  rintro e W21 ⟨rfl, hB2⟩
  replace HS := hide (HS.out.below hB2)
  replace hB := hB.trans (hB2.mono hB.size)
  clear hB2
  go_wp2_with fail
  have hx := extend_any (crc (bts ⟨#[120]⟩)) (strOf (wordBytes (forceW (crc (bts ⟨#[120]⟩)) 7#32))) W21 (by decide)
  rw [bts_strOf, force_ex] at hx
  refine (hx).mono ?_
  rintro e W22 ⟨rfl, hB2⟩
  replace HS := hide (HS.out.below hB2)
  replace hB := hB.trans (hB2.mono hB.size)
  clear hB2
  go_wp2_with fail
  clear hx
  have hL := HS.out.below ((Below.refl _ _).alloc (Nat.le_refl _) (.cells #[.int .i64 3, .int .i64 1, .int .i64 4, .int .i64 4] 106))
  have hM := lit_blocks W22
  have hB3 := hB.alloc hB.size (.cells #[.int .i64 3, .int .i64 1, .int .i64 4, .int .i64 4] 106)
  clear HS hB
  refine (blocks_any _ _ _ _ _ hL hM (by decide)).mono ?_
  rintro e W23 ⟨rfl, k, rfl⟩
  clear hL hM
  rw [show decide ([((3 : Nat), (1 : Nat)), (4, 4)] = [(3, 1), (4, 4)]) = true from by decide]
  go_wp2_with fail
  go_ret
  exact ⟨rfl, ⟨hB3.os, hB3.tape, hB3.output, hB3.size, hB3.block⟩⟩
end Go.Proofs.YtdpgebifeaakjaaDoor

/- The plain law of a cover's step; the walk of the specification's cover. -/
namespace Go.Proofs.YtdpgebifeaakjaaDoor
set_option linter.unusedSimpArgs false
set_option linter.unusedVariables false
open Go.RowKit

theorem bitLen_of (x k : Nat) (h1 : 2 ^ k ≤ x) (h2 : x < 2 ^ (k + 1)) (hk : k + 1 ≤ 64) : Lib.bitLen x - 1 = k := by
  have hp : 0 < 2 ^ k := Nat.two_pow_pos k
  obtain ⟨a1, a2, a3⟩ := bitLen_spec x (by omega) (Nat.lt_of_lt_of_le h2 (Nat.pow_le_pow_right (by decide) hk))
  have u : Lib.bitLen x ≤ k + 1 := by
    apply Classical.byContradiction
    intro hn
    have : 2 ^ (k + 1) ≤ 2 ^ (Lib.bitLen x - 1) := Nat.pow_le_pow_right (by decide) (by omega)
    omega
  have l : k + 1 ≤ Lib.bitLen x := by
    apply Classical.byContradiction
    intro hn
    have : 2 ^ Lib.bitLen x ≤ 2 ^ k := Nat.pow_le_pow_right (by decide) (by omega)
    omega
  omega
/-- What the doubling finds is the step. -/
theorem step_found (a b k : Nat) (hb : b ≤ 1099511627776) (hd : 2 ^ k ∣ a) (hle : a + 2 ^ k ≤ b) (hstop : ¬ (2 ^ (k + 1) ∣ a ∧ a + 2 ^ (k + 1) ≤ b)) : stepN a b = 2 ^ k := by
  have hk : k ≤ 40 := by
    apply Classical.byContradiction
    intro hn
    have h1 : 2 ^ 41 ≤ 2 ^ k := Nat.pow_le_pow_right (by decide) (by omega)
    have h2 : (2 : Nat) ^ 41 = 2199023255552 := rfl
    omega
  have hx64 : b - a < 2 ^ 64 := by have : (2:Nat) ^ 64 = 18446744073709551616 := rfl; omega
  by_cases h0 : a = 0
  · subst h0
    have : ¬ 2 ^ (k + 1) ≤ b := fun h => hstop ⟨Nat.dvd_zero _, by omega⟩
    have e := bitLen_of (b - 0) k (by omega) (by omega) (by omega)
    rw [stepN, if_neg (by omega), e]
  · have hx : a < 2 ^ 64 := by have : (2:Nat) ^ 64 = 18446744073709551616 := rfl; omega
    obtain ⟨m, e1, e2⟩ := Lib.ctzFrom_spec 64 a (by omega) hx
    have ez : Lib.ctz 64 a = Lib.ctzFrom 64 a := by rw [Lib.ctz, if_neg h0]
    rw [← ez] at e1 e2
    rw [stepN, if_pos (by omega)]
    generalize Lib.ctz 64 a = z at e1 e2
    have hkz : k ≤ z := by
      apply Classical.byContradiction
      intro hn
      have h1 : 2 ^ (z + 1) ∣ a := Nat.dvd_trans (Nat.pow_dvd_pow 2 (by omega)) hd
      rw [e1, Nat.pow_succ] at h1
      have h2 : 2 ∣ 2 * m + 1 := Nat.dvd_of_mul_dvd_mul_left (Nat.two_pow_pos z) h1
      omega
    have hpz : 2 ^ k ≤ 2 ^ z := Nat.pow_le_pow_right (by decide) hkz
    by_cases h1 : a + 2 ^ (k + 1) ≤ b
    · have hnd : ¬ 2 ^ (k + 1) ∣ a := fun h => hstop ⟨h, h1⟩
      have hz : z = k := by
        apply Classical.byContradiction
        intro hn
        exact hnd (by rw [e1]; exact Nat.dvd_trans (Nat.pow_dvd_pow 2 (by omega)) (Nat.dvd_mul_right _ _))
      subst hz
      obtain ⟨a1, a2, a3⟩ := bitLen_spec (b - a) (by have := Nat.two_pow_pos z; omega) hx64
      have hl : z ≤ Lib.bitLen (b - a) - 1 := by
        apply Classical.byContradiction
        intro hn
        have : 2 ^ Lib.bitLen (b - a) ≤ 2 ^ z := Nat.pow_le_pow_right (by decide) (by omega)
        omega
      exact Nat.min_eq_right (Nat.pow_le_pow_right (by decide) hl)
    · have e := bitLen_of (b - a) k (by omega) (by omega) (by omega)
      rw [e]
      exact Nat.min_eq_left hpz
end Go.Proofs.YtdpgebifeaakjaaDoor

/- The walk of the specification's cover. -/
namespace Go.Proofs.YtdpgebifeaakjaaDoor
set_option linter.unusedSimpArgs false
set_option linter.unusedVariables false
open Go.RowKit

set_option maxRecDepth 100000 in
set_option maxHeartbeats 2000000 in
theorem rcover_any (a b : Nat) (hab : a ≤ b) (hb : b ≤ 1099511627776) (w : World) :
    Calls Tryd.prog 63 #[.int .i64 a, .int .i64 b] w fun e w' => ∃ v, e = .returned v ∧ w'.ownsRow w.heap.size 106 2 v (coverL a b).length (cellsOf (coverL a b)) ∧ Below w.heap.size w w' := by
  obtain ⟨i0, hi, hz0, hz1, hz2⟩ := info_parts info106
  go_enter Tryd.func63, Tryd.ntmps63
  go_wp2_with fail
  go_loopw [0, 5] (fun s0 s5 W => ∃ (c : Nat) (pre : List (Nat × Nat)), c ≤ b ∧ s0 = .int .i64 c ∧ coverL a b = pre ++ coverL c b ∧ W.ownsRow w.heap.size 106 2 s5 pre.length (cellsOf pre) ∧ Below w.heap.size w W) (fun s0 _ _ => b - (intOf s0).toNat)
  case atStart => exact ⟨a, [], hab, rfl, rfl, World.ownsRow_nil _ _ _ _, Below.refl _ _⟩
  case round =>
    obtain ⟨c, pre, hc, rfl, hx, hrow, hB⟩ := hrel
    have HX := hide hx
    clear hx
    by_cases hlt : c < b
    · have hlt1 : (c : Int) < (b : Int) := by omega
      go_wp2_with fail
      go_loopw [6] (fun s6 W => ∃ n : Nat, s6 = .int .i64 n ∧ Hid (∃ k, n = 2 ^ k) ∧ n ∣ c ∧ c + n ≤ b ∧ 0 < n ∧ W = wr) (fun s6 _ => b - (intOf s6).toNat)
      case atStart => exact ⟨1, rfl, hide ⟨0, rfl⟩, Nat.one_dvd c, by omega, by omega, rfl⟩
      case round =>
        obtain ⟨n, rfl, hk, hd, hn, hn0, rfl⟩ := hrel
        have HD := hide hd
        clear hd
        have q0 : (0 : Int) < (n : Int) := by omega
        have q1 : 2 * (n : Int) ≤ 2199023255552 := by omega
        have q2 : (0 : Int) ≤ (c : Int) := by omega
        by_cases ht1 : c % (2 * n) = 0
        · have ht1' : (c : Int) % (2 * (n : Int)) = 0 := by have := congrArg (Nat.cast (R := Int)) ht1; simpa using this
          by_cases ht2 : c + 2 * n ≤ b
          · have ht2' : (c : Int) + 2 * (n : Int) ≤ (b : Int) := by omega
            go_wp2_with fail
            refine ⟨⟨2 * n, by go_num, ?_, Nat.dvd_of_mod_eq_zero ht1, ht2, by omega, trivial⟩, by simp [intOf]; omega⟩
            obtain ⟨k, rfl⟩ := hk.out
            exact hide ⟨k + 1, by rw [Nat.pow_succ, Nat.mul_comm]⟩
          · have ht2' : ¬ (c : Int) + 2 * (n : Int) ≤ (b : Int) := by omega
            have hst : stepN c b = n := by
              obtain ⟨k, rfl⟩ := hk.out
              exact step_found c b k hb HD.out hn (fun h => ht2 (by have h2 := h.2; rw [Nat.pow_succ, Nat.mul_comm] at h2; exact h2))
            clear hk
            have HST := hide hst
            have hl1 : pre.length + 1 ≤ 1099511627776 := by
              have h1 := coverL_length a b
              rw [HX.out, coverL_cons hlt] at h1
              simp at h1
              omega
            have hml : pre.length + 1 ≤ maxLen := by unfold maxLen; omega
            have hby : (pre.length + 1) * 16 ≤ 140737488355328 := by omega
            have hbs : w.heap.size ≤ (wr.alloc (.cells #[.int .i64 c, .int .i64 n] 106)).heap.size := by have := hB.size; simp; omega
            have hs1 : (c : Int) + (n : Int) ≤ 1099511627776 := by omega
            clear hst
            go_wp2_with (at_builtin; go_loud (refine wpList_append_own _ rfl _ _ 33 rfl w.heap.size 106 i0 (.agg #[.int .i64 0, .int .i64 0]) 2 16 Tryd.underlying33 hi hz0 hz1 hz2 rfl (by decide) _ _ _ rfl (hrow.alloc _) ⟨wr.heap.size, 0, none⟩ 1 1 [.int .i64 c, .int .i64 n] rfl rfl (cells_two_new _ _ _ _) (by simp [Value.oneCell']) hml hby hbs ?_); intro v' w1 hown' hgrow _)
            refine ⟨⟨c + n, pre ++ [(c, n)], hn, by go_num, ?_, ?_, ?_⟩, by simp [intOf]; omega⟩
            · rw [HX.out, coverL_cons hlt, HST.out, List.append_assoc]; rfl
            · rw [cellsOf_snoc, List.length_append]; exact hown'
            · exact (hB.alloc hB.size _).grown hgrow hbs (fun k e => (hrow.lt k e).1)
        · have ht1' : ¬ (c : Int) % (2 * (n : Int)) = 0 := by
            intro h
            apply ht1
            have : ((c % (2 * n) : Nat) : Int) = 0 := by simpa using h
            exact Int.ofNat.inj this
          have hst : stepN c b = n := by
            obtain ⟨k, rfl⟩ := hk.out
            exact step_found c b k hb HD.out hn (fun h => ht1 (Nat.mod_eq_zero_of_dvd (by have h1 := h.1; rw [Nat.pow_succ, Nat.mul_comm] at h1; exact h1)))
          clear hk
          have HST := hide hst
          have hl1 : pre.length + 1 ≤ 1099511627776 := by
            have h1 := coverL_length a b
            rw [HX.out, coverL_cons hlt] at h1
            simp at h1
            omega
          have hml : pre.length + 1 ≤ maxLen := by unfold maxLen; omega
          have hby : (pre.length + 1) * 16 ≤ 140737488355328 := by omega
          have hbs : w.heap.size ≤ (wr.alloc (.cells #[.int .i64 c, .int .i64 n] 106)).heap.size := by have := hB.size; simp; omega
          have hs1 : (c : Int) + (n : Int) ≤ 1099511627776 := by omega
          clear hst
          go_wp2_with (at_builtin; go_loud (refine wpList_append_own _ rfl _ _ 33 rfl w.heap.size 106 i0 (.agg #[.int .i64 0, .int .i64 0]) 2 16 Tryd.underlying33 hi hz0 hz1 hz2 rfl (by decide) _ _ _ rfl (hrow.alloc _) ⟨wr.heap.size, 0, none⟩ 1 1 [.int .i64 c, .int .i64 n] rfl rfl (cells_two_new _ _ _ _) (by simp [Value.oneCell']) hml hby hbs ?_); intro v' w1 hown' hgrow _)
          refine ⟨⟨c + n, pre ++ [(c, n)], hn, by go_num, ?_, ?_, ?_⟩, by simp [intOf]; omega⟩
          · rw [HX.out, coverL_cons hlt, HST.out, List.append_assoc]; rfl
          · rw [cellsOf_snoc, List.length_append]; exact hown'
          · exact (hB.alloc hB.size _).grown hgrow hbs (fun k e => (hrow.lt k e).1)
    · have hlt1 : ¬ (c : Int) < (b : Int) := by omega
      have hfin : coverL a b = pre := by rw [HX.out, coverL_nil hlt, List.append_nil]
      have HF := hide hfin
      clear hfin
      go_wp2_with fail
      go_ret
      rw [HF.out]
      exact ⟨_, rfl, hrow, hB⟩
end Go.Proofs.YtdpgebifeaakjaaDoor

/- The greatest power of two below a number, of both sides. -/
namespace Go.Proofs.YtdpgebifeaakjaaDoor
set_option linter.unusedSimpArgs false
set_option linter.unusedVariables false
open Go.RowKit

/-- The greatest power of two below n. -/
def halfN (n : Nat) : Nat := 2 ^ (Lib.bitLen (n - 1) - 1)
theorem halfN_of (n k : Nat) (h1 : 2 ^ k < n) (h2 : n ≤ 2 ^ (k + 1)) (hk : k + 1 ≤ 64) : halfN n = 2 ^ k := by
  rw [halfN, bitLen_of (n - 1) k (by omega) (by omega) hk]
theorem halfN_facts (n : Nat) (h : 2 ≤ n) (hn : n ≤ 1099511627776) : 1 ≤ halfN n ∧ halfN n < n ∧ n ≤ 2 * halfN n := by
  have h0 : n - 1 ≠ 0 := by omega
  have h1 := Nat.log2_self_le h0
  have h2 := @Nat.lt_log2_self (n - 1)
  have h3 : Nat.log2 (n - 1) < 41 := (Nat.log2_lt h0).2 (by omega)
  have h4 := Nat.two_pow_pos (Nat.log2 (n - 1))
  rw [halfN_of n (Nat.log2 (n - 1)) (by omega) (by omega) (by omega)]
  rw [Nat.pow_succ] at h2
  omega

set_option maxHeartbeats 400000 in
theorem rhalf_any (n : Nat) (h : 2 ≤ n) (hn : n ≤ 1099511627776) (w : World) :
    Calls Tryd.prog 82 #[.int .i64 (n : Int)] w fun e w' => e = .returned (.int .i64 (halfN n : Int)) ∧ w = w' := by
  go_enter Tryd.func82, Tryd.ntmps82
  go_wp2_with fail
  go_loopw [3] (fun s3 W => ∃ k p : Nat, k ≤ 40 ∧ p = 2 ^ k ∧ s3 = .int .i64 (p : Int) ∧ p < n ∧ w = W) (fun s3 _ => n - (intOf s3).toNat)
  case atStart => exact ⟨0, 1, by omega, rfl, rfl, by omega, rfl⟩
  case round =>
    obtain ⟨k, p, hk, hp, rfl, hlt, rfl⟩ := hrel
    have hp1 : 1 ≤ p := by rw [hp]; exact Nat.two_pow_pos k
    have hw : IntKind.i64.wrap (2 * (p : Int)) = 2 * (p : Int) := IntWalk.i64_in _ (by omega)
    by_cases h2 : 2 * p < n
    · have h21 : 2 * (p : Int) < (n : Int) := by omega
      have hp2 : 2 * p = 2 ^ (k + 1) := by rw [hp, Nat.pow_succ]; omega
      have hk1 : k + 1 ≤ 40 := by
        rcases Nat.lt_or_ge k 40 with hh | hh
        · omega
        · have hk40 : k = 40 := by omega
          subst hk40
          have : p = 1099511627776 := by rw [hp]
          omega
      clear hp
      go_wp2_with fail
      exact ⟨⟨k + 1, 2 * p, hk1, hp2, by push_cast; rfl, h2, trivial⟩, by simp [intOf]; omega⟩
    · have h21 : ¬ 2 * (p : Int) < (n : Int) := by omega
      have he : halfN n = p := by rw [hp]; exact halfN_of n k (by omega) (by rw [Nat.pow_succ]; omega) (by omega)
      have HE := hide he
      clear hp he
      go_wp2_with fail
      go_ret
      exact ⟨by rw [HE.out]; rfl, rfl⟩
theorem wrap_pow40 (b : Nat) (hb : b ≤ 40) : wrap64 ((2 : Int) ^ b) = ((2 ^ b : Nat) : Int) := by
  have h : 2 ^ b ≤ 1099511627776 := Nat.le_trans (Nat.pow_le_pow_right (by decide) hb) (by decide)
  have e : ((2 : Int) ^ b) = ((2 ^ b : Nat) : Int) := by push_cast; rfl
  rw [e]
  generalize 2 ^ b = p at h ⊢
  unfold wrap64
  omega
set_option maxHeartbeats 400000 in
theorem half_any (n : Nat) (h : 2 ≤ n) (hn : n ≤ 1099511627776) (w : World) :
    Calls Tryd.prog 78 #[.int .i64 (n : Int)] w fun e w' => e = .returned (.int .i64 (halfN n : Int)) ∧ w = w' := by
  have hw : IntKind.i64.wrap ((n : Int) - 1) = (n : Int) - 1 := IntWalk.i64_in _ (by omega)
  obtain ⟨b, hb⟩ : ∃ b, Lib.bitLen (n - 1) = b + 1 ∧ b ≤ 40 := by
    have h0 : n - 1 ≠ 0 := by omega
    have h1 := Nat.log2_self_le h0
    have h2 := @Nat.lt_log2_self (n - 1)
    have h3 : Nat.log2 (n - 1) < 41 := (Nat.log2_lt h0).2 (by omega)
    have h4 := bitLen_of (n - 1) (Nat.log2 (n - 1)) h1 h2 (by omega)
    refine ⟨Lib.bitLen (n - 1) - 1, ?_, by omega⟩
    rcases Nat.eq_zero_or_pos (Lib.bitLen (n - 1)) with hz | hz
    · rw [hz] at h4
      have hl : Nat.log2 (n - 1) = 0 := by omega
      rw [hl] at h2
      have hn2 : n - 1 = 1 := by omega
      rw [hn2] at hz
      exact absurd hz (by decide)
    · omega
  have c1 : ∀ w, Calls Tryd.prog 98 #[U64 (BitVec.ofInt 64 ((n : Int) - 1))] w fun e w' => e = .returned (.int .i64 ((b : Int) + 1)) ∧ w' = w := fun w => by
    have hh := len_any ((n : Int) - 1) w (by omega) (by omega)
    rw [show ((n : Int) - 1).toNat = n - 1 by omega, hb.1, U64_lit _ (by omega) (by omega)] at hh
    exact hh
  have HE := hide (show halfN n = 2 ^ b by rw [halfN, hb.1]; rfl)
  have hb0 : (0 : Int) ≤ (b : Int) := by omega
  have hb1 : b ≤ 40 := hb.2
  clear hb
  go_enter Tryd.func78, Tryd.ntmps78
  go_wp2_with fail
  refine (c1 _).mono ?_
  rintro e w' ⟨rfl, rfl⟩
  go_wp2_with fail
  go_ret
  refine ⟨?_, rfl⟩
  rw [HE.out, ← wrap_pow40 b hb1]
  rfl
end Go.Proofs.YtdpgebifeaakjaaDoor

/- The walks of the specification's Hex and Unhex. -/
namespace Go.Proofs.YtdpgebifeaakjaaDoor
set_option linter.unusedSimpArgs false
set_option linter.unusedVariables false
open Go.RowKit

theorem ownsRow_slice' {W : World} {base e size n : Nat} {v : Value} {xs : List Value} (h : W.ownsRow base e size v n xs) : ∃ p k c, v = .slice p k c := by
  rcases h.2 with ⟨rfl, _⟩ | ⟨g, cap, cur, rfl, _⟩
  · exact ⟨_, _, _, rfl⟩
  · exact ⟨_, _, _, rfl⟩

end Go.Proofs.YtdpgebifeaakjaaDoor

/- The walk of the specification's Unhex. -/
namespace Go.Proofs.YtdpgebifeaakjaaDoor
set_option linter.unusedSimpArgs false
set_option linter.unusedVariables false
open Go.RowKit

/-- A digest and an error, in a struct. -/
def digC (d : Nat → BitVec 8) (e : Int) : Array Value := Row 17 fun i => if i < 16 then U8 (d i) else .int .i64 e
@[go_sem] theorem lit29 : (#[Value.int .u8 0, Value.int .u8 0, Value.int .u8 0, Value.int .u8 0, Value.int .u8 0, Value.int .u8 0, Value.int .u8 0, Value.int .u8 0, Value.int .u8 0, Value.int .u8 0, Value.int .u8 0, Value.int .u8 0, Value.int .u8 0, Value.int .u8 0, Value.int .u8 0, Value.int .u8 0, Value.int .i64 0] : Array Value) = digC (fun _ => 0#8) 0 := by kernel_rfl

@[go_sem] theorem digC_set16 (d : Nat → BitVec 8) (e n : Int) : (digC d e).setIfInBounds 16 (.int .i64 n) = digC d n := by
  unfold digC
  rw [Row.set]
  apply Row.ext
  intro i hi
  by_cases h : i = 16
  · subst h; rw [if_pos rfl, if_neg (by omega)]
  · rw [if_neg h]
    by_cases h' : i < 16
    · rw [if_pos h', if_pos h']
    · omega
end Go.Proofs.YtdpgebifeaakjaaDoor

/- The specification's Add, End, Sum and Leaf. -/

/- The walk of the specification's Add. -/
namespace Go.Proofs.YtdpgebifeaakjaaDoor
set_option linter.unusedSimpArgs false
set_option linter.unusedVariables false
open Go.RowKit

theorem rangeAt_A32 {W : World} {B n : Nat} {f : Nat → BitVec 32} {E : TypeId} (h : Blk W B (A32 n f) E) : W.rangeAt B 0 (A32 n f).toList :=
  Blk.rangeAt (n := n) h 0 n _ (by omega) (fun j hj => by rw [Nat.zero_add])

set_option maxRecDepth 20000 in
set_option maxHeartbeats 2000000 in
theorem radd_any (h : Nat → BitVec 32) (rest : ByteArray) (len : Int) (hr : rest.size ≤ maxLen) (s : ByteArray) (hs : s.size ≤ 4611686018427387903) (w : World) (hKK : KAt w) :
    Calls Tryd.prog 39 #[.agg (stG h rest len), .string s] w fun e w' => e = .returned (.agg (stE (addS h rest len s).1 (addS h rest len s).2.1 (addS h rest len s).2.2.1 (addS h rest len s).2.2.2)) ∧ Below w.heap.size w w' := by
  have hw0 := hKK.pos
  have hbx := box63g h rest len
  have hV := fun w => rvalid_any h rest len hr w
  have hn := (Blk.new w (stG h rest len) 63).alloc (.cells (stE (fun _ => 0#32) ByteArray.empty 0 0) 67)
  have ho := Blk.new (w.alloc (.cells (stG h rest len) 63)) (stE (fun _ => 0#32) ByteArray.empty 0 0) 67
  have hB : Below w.heap.size w ((w.alloc (.cells (stG h rest len) 63)).alloc (.cells (stE (fun _ => 0#32) ByteArray.empty 0 0) 67)) := ((Below.refl _ _).alloc (Nat.le_refl _) _).alloc (by simp) _
  rw [World.size_alloc] at ho
  go_enter Tryd.func39, Tryd.ntmps39
  go_wp2_with (refine wp_loadRow rfl 63 _ rfl w.heap.size rfl hn Tryd.underlying63 rfl size63 (stG.size _ _ _) ?_)
  refine (hV _).mono ?_
  rintro e W ⟨rfl, hB1⟩
  have hn1 := hn.below hB1 hn.lt
  have ho1 := ho.below hB1 ho.lt
  have hBb := hB.trans (hB1.mono hB.size)
  clear hn ho hB hB1
  by_cases hv : validB rest len = true
  · obtain ⟨g0, g1, g2⟩ := validB_facts hv
    have hrs : rest.size < 64 := by omega
    have h9 := hn1.cell 9
    rw [stG.len] at h9
    have hwl : IntKind.i64.wrap (1099511627776 - len) = 1099511627776 - len := IntWalk.i64_in _ (by omega)
    by_cases hl : (s.size : Int) ≤ 1099511627776 - len
    · have h8 := hn1.cell 8
      rw [stG.rest] at h8
      have hsum := fun w : World => run_string_add_sum (P := Tryd.prog) w rest s (by omega)
      obtain ⟨L, hL⟩ : ∃ L, bts rest ++ bts s = L := ⟨_, rfl⟩
      have hX0 : bts (rest ++ s) = L := by rw [bts_append, hL]
      have hXs0 : (rest ++ s).size ≤ 1099511627840 := by rw [ByteArray.size_append]; omega
      obtain ⟨X, hXe⟩ : ∃ X, rest ++ s = X := ⟨_, rfl⟩
      rw [hXe] at hX0 hXs0 hsum
      have HXS := hide hXs0
      have hlen : L.length = X.size := by rw [← hX0, bts_length]
      have HX := hide hX0
      have HL := hide hL
      clear hX0 hXs0 hXe hL
      have hH : (Row 8 fun i => (fun i => if i < 8 then U32 (h i) else if i = 8 then .string rest else .int .i64 len) (0 + i)) = A32 8 h := Row.ext fun i hi => by
        dsimp only; rw [Nat.zero_add, if_pos hi]
      have hf1 := ho1.lt
      go_wp2_with (first
        | (refine wp_loadMid rfl 61 _ rfl w.heap.size 0 rfl hn1 Tryd.underlying61 rfl size61 (by omega) hH ?_)
        | (refine wp_storeRow (C' := A32 8 h) rfl 61 _ _ rfl _ rfl rfl (Blk.new _ _ _) size61 (A32.size _ _) (A32.size _ _) (A32.one _) rfl ?_; intro W1 hu1 k1))
      replace hn1 := (hn1.alloc (.cells (A32 8 fun _ => 0#32) 61)).upd hu1 (by omega)
      replace ho1 := (ho1.alloc (.cells (A32 8 fun _ => 0#32) 61)).upd hu1 (by omega)
      replace hB := hu1.below (hBb.alloc hBb.size (.cells (A32 8 fun _ => 0#32) 61)) hBb.size
      obtain ⟨B, hBe⟩ : ∃ B, W.heap.size = B := ⟨_, rfl⟩
      rw [hBe] at k1 hf1 ⊢
      clear hBe hu1 hBb h8 h9 hsum hwl
      go_loopw [7] (fun s7 W => ∃ n : Nat, 64 * n ≤ X.size ∧ s7 = .int .i64 (64 * (n : Int)) ∧ Blk W w.heap.size (stG h rest len) 63 ∧ Blk W (w.heap.size + 1) (stE (fun _ => 0#32) ByteArray.empty 0 0) 67 ∧ Blk W B (A32 8 (shaFold roundK h L n)) 61 ∧ Below w.heap.size w W) (fun s7 _ => X.size - (intOf s7).toNat)
      case atStart => exact ⟨0, by omega, rfl, hn1, ho1, k1, hB⟩
      case round =>
        clear hn1 ho1 k1 hB
        obtain ⟨n, hnl, rfl, hn1, ho1, k1, hB⟩ := hrel
        have hXl := HXS.out
        have hw0' : IntKind.i64.wrap ((X.size : Int) - 64 * (n : Int)) = (X.size : Int) - 64 * (n : Int) := IntWalk.i64_in _ (by omega)
        have hw1' : IntKind.i64.wrap (64 * (n : Int) + 64) = 64 * (n : Int) + 64 := IntWalk.i64_in _ (by omega)
        by_cases h64 : 64 * n + 64 ≤ X.size
        · have h641 : (64 : Int) ≤ (X.size : Int) - 64 * (n : Int) := by omega
          have hp0 : (0 : Int) ≤ 64 * (n : Int) := by omega
          have hp1 : 64 * (n : Int) + 64 ≤ (X.size : Int) := by omega
          have hp3 : ¬ (64 * (n : Int) + 64 < 64 * (n : Int)) := by omega
          have hp2 : (0 : Int) ≤ 64 * (n : Int) + 64 := by omega
          have hq1 : (64 * (n : Int)).toNat = 64 * n := by omega
          have hq2 : (64 * (n : Int) + 64).toNat = 64 * n + 64 := by omega
          have hfold : shaBlock roundK (shaFold roundK h L n) (bts (X.extract (64 * n) (64 * n + 64))) = shaFold roundK h L (n + 1) := by
            rw [shaFold, bts_extract, HX.out, show 64 * n + 64 - 64 * n = 64 by omega]
          have cb : ∀ w, KAt w → Calls Tryd.prog 73 #[.agg (A32 8 (shaFold roundK h L n)), .string (X.extract (64 * n) (64 * n + 64))] w fun e w' => e = .returned (.agg (A32 8 (shaFold roundK h L (n + 1)))) ∧ Below w.heap.size w w' := fun w hk => by
            have hh := rblock_any (shaFold roundK h L n) (X.extract (64 * n) (64 * n + 64)) (by rw [ByteArray.size_extract]; omega) w hk
            rw [hfold] at hh
            exact hh
          clear hfold
          go_wp2_with fail
          refine wp_region_held_drew (S := fun w' => Below w.heap.size w w' ∧ Blk w' w.heap.size (stG h rest len) 63 ∧ Blk w' (w.heap.size + 1) (stE (fun _ => 0#32) ByteArray.empty 0 0) 67) (by kernel_rfl) (⟨hB.drew, hn1.drew, ho1.drew⟩) (fun hS => ?_)
          refine take_at (i := 1) 31 (.string X) rfl rfl (by kernel_rfl) (by kernel_rfl) (by kernel_rfl) (fun _ _ _ h => h) (Or.inl ⟨by rfl, fun W hW => by go_simp⟩) hS ?_
          simp only [List.setIfInBounds_toArray, List.set_cons_zero, List.set_cons_succ]
          refine take_at (i := 2) 32 (.int .i64 (64 * (n : Int))) rfl rfl (by kernel_rfl) (by kernel_rfl) (by kernel_rfl) (fun _ _ _ h => h) (Or.inl ⟨by rfl, fun W hW => by go_simp⟩) hS ?_
          simp only [List.setIfInBounds_toArray, List.set_cons_zero, List.set_cons_succ]
          refine take_at (i := 3) 33 (.int .i64 (64 * (n : Int))) rfl rfl (by kernel_rfl) (by kernel_rfl) (by kernel_rfl) (fun _ _ _ h => h) (Or.inl ⟨by rfl, fun W hW => by go_simp⟩) hS ?_
          simp only [List.setIfInBounds_toArray, List.set_cons_zero, List.set_cons_succ]
          refine take_at (i := 4) 34 (.int .i64 (64 * (n : Int) + 64)) rfl rfl (by kernel_rfl) (by kernel_rfl) (by kernel_rfl) (fun _ _ _ h => h) (Or.inl ⟨by rfl, fun W hW => by go_simp⟩) hS ?_
          simp only [List.setIfInBounds_toArray, List.set_cons_zero, List.set_cons_succ]
          refine take_at (i := 5) 35 (.string (X.extract (64 * n) (64 * n + 64))) rfl rfl (by kernel_rfl) (by kernel_rfl) (by kernel_rfl) (fun _ _ _ h => h) (Or.inl ⟨by rfl, fun W hW => by go_simp⟩) hS ?_
          simp only [List.setIfInBounds_toArray, List.set_cons_zero, List.set_cons_succ]
          refine wpAnyH_ready (rs := [0]) (by kernel_rfl) (by simp) ?_
          refine AllReadyH.cons rfl (fun K hK => ?_) AllReadyH.nil
          rw [if_pos (by rfl)]
          refine wpo_loadRow 61 (.tmp 6) rfl B rfl (run_loadVar_Blk k1.drew Tryd.underlying61 rfl size61 (A32.size _ _)) ?_
          refine hK.out _ _ (hS) (fun hS => ?_)
          clear hK K
          try simp only [Act.put, List.setIfInBounds_toArray, List.set_cons_zero, List.set_cons_succ]
          refine wpAnyH_ready (rs := [6]) (by kernel_rfl) (by simp) ?_
          refine AllReadyH.cons rfl (fun K hK => ?_) AllReadyH.nil
          go_simp
          refine (cb _ (hKK.below hw0 hS.1)).mono ?_
          rintro e X2 ⟨rfl, hb⟩
          refine hK.out _ _ (⟨hS.1.trans (hb.mono hS.1.size), hS.2.1.below hb hS.2.1.lt, hS.2.2.below hb hS.2.2.lt⟩) (fun hS => ?_)
          clear hK K
          have k2 := k1.drew.below hb k1.drew.lt
          try simp only [Act.put, List.setIfInBounds_toArray, List.set_cons_zero, List.set_cons_succ]
          refine wpAnyH_ready (rs := [7]) (by kernel_rfl) (by simp) ?_
          refine AllReadyH.cons rfl (fun K hK => ?_) AllReadyH.nil
          rw [if_pos (by rfl)]
          refine wpo_storeRow (C' := A32 8 (shaFold roundK h L (n + 1))) 61 (.tmp 6) (.tmp 36) rfl B rfl rfl k2 size61 (A32.size _ _) (A32.size _ _) (A32.one _) rfl ?_
          intro X3 hu k3
          refine hK.out _ _ (⟨hu.below hS.1 (by omega), hS.2.1.upd hu (by omega), hS.2.2.upd hu (by omega)⟩) (fun hS => ?_)
          clear hK K
          try simp only [Act.put, List.setIfInBounds_toArray, List.set_cons_zero, List.set_cons_succ]
          refine wpAnyH_done (by kernel_rfl) ?_ _
          go_wp2_with fail
          exact ⟨⟨n + 1, by omega, by go_num, hS.2.1, hS.2.2, k3, hS.1⟩, by simp [intOf]; omega⟩
        · have h641 : ¬ (64 : Int) ≤ (X.size : Int) - 64 * (n : Int) := by omega
          have hp0 : (0 : Int) ≤ 64 * (n : Int) := by omega
          have hp1 : 64 * (n : Int) ≤ (X.size : Int) := by omega
          have hq1 : (64 * (n : Int)).toNat = 64 * n := by omega
          have hwl : IntKind.i64.wrap (len + (s.size : Int)) = len + (s.size : Int) := IntWalk.i64_in _ (by omega)
          have hn64 : n = L.length / 64 := by omega
          have hZ : (addH roundK h L, strOf (addRest L)) = (shaFold roundK h L n, X.extract (64 * n) X.size) := by
            rw [addH, addRest, ← hn64]
            congr 1
            rw [← strOf_bts (X.extract (64 * n) X.size), bts_extract, HX.out, List.take_of_length_le (by rw [List.length_drop]; omega)]
          have HZ := hide hZ
          clear hZ hn64
          go_wp2_with fail
          refine wp_region_held_drew (S := fun w' => Below w.heap.size w w' ∧ Blk w' w.heap.size (stG h rest len) 63 ∧ Blk w' B (A32 8 (shaFold roundK h L n)) 61) (by kernel_rfl) (⟨hB.drew, hn1.drew, k1.drew⟩) (fun hS => ?_)
          refine take_at (i := 0) 39 (.agg (A32 8 (shaFold roundK h L n))) rfl rfl (by kernel_rfl) (by kernel_rfl) (by kernel_rfl) (fun _ _ _ h => h) (Or.inl ⟨by rfl, fun W hW => exec_load_range _ 61 _ rfl B 0 rfl (rangeAt_A32 hW.2.2) Tryd.underlying61 rfl size61 (A32.size _ _)⟩) hS ?_
          simp only [List.setIfInBounds_toArray, List.set_cons_zero, List.set_cons_succ]
          refine take_at (i := 1) 40 (.string X) rfl rfl (by kernel_rfl) (by kernel_rfl) (by kernel_rfl) (fun _ _ _ h => h) (Or.inl ⟨by rfl, fun W hW => by go_simp⟩) hS ?_
          simp only [List.setIfInBounds_toArray, List.set_cons_zero, List.set_cons_succ]
          refine take_at (i := 2) 41 (.int .i64 (64 * (n : Int))) rfl rfl (by kernel_rfl) (by kernel_rfl) (by kernel_rfl) (fun _ _ _ h => h) (Or.inl ⟨by rfl, fun W hW => by go_simp⟩) hS ?_
          simp only [List.setIfInBounds_toArray, List.set_cons_zero, List.set_cons_succ]
          refine take_at (i := 3) 42 (.string (X.extract (64 * n) X.size)) rfl rfl (by kernel_rfl) (by kernel_rfl) (by kernel_rfl) (fun _ _ _ h => h) (Or.inl ⟨by rfl, fun W hW => by go_simp⟩) hS ?_
          simp only [List.setIfInBounds_toArray, List.set_cons_zero, List.set_cons_succ]
          refine take_at (i := 4) 43 (.pointer (some ⟨w.heap.size, 9, none⟩)) rfl rfl (by kernel_rfl) (by kernel_rfl) (by kernel_rfl) (fun _ _ _ h => h) (Or.inl ⟨by rfl, fun W hW => by go_simp⟩) hS ?_
          simp only [List.setIfInBounds_toArray, List.set_cons_zero, List.set_cons_succ]
          refine take_at (i := 5) 44 (.int .i64 len) rfl rfl (by kernel_rfl) (by kernel_rfl) (by kernel_rfl) (fun _ _ _ h => h) (Or.inl ⟨by rfl, fun W hW => by have hc := hW.2.1.cell 9; rw [stG.len] at hc; go_simp⟩) hS ?_
          simp only [List.setIfInBounds_toArray, List.set_cons_zero, List.set_cons_succ]
          refine take_at (i := 6) 45 (.string s) rfl rfl (by kernel_rfl) (by kernel_rfl) (by kernel_rfl) (fun _ _ _ h => h) (Or.inl ⟨by rfl, fun W hW => by go_simp⟩) hS ?_
          simp only [List.setIfInBounds_toArray, List.set_cons_zero, List.set_cons_succ]
          refine take_at (i := 7) 46 (.int .i64 (s.size : Int)) rfl rfl (by kernel_rfl) (by kernel_rfl) (by kernel_rfl) (fun _ _ _ h => h) (Or.inl ⟨by rfl, fun W hW => by go_simp⟩) hS ?_
          simp only [List.setIfInBounds_toArray, List.set_cons_zero, List.set_cons_succ]
          refine take_at (i := 8) 47 (.int .i64 (len + (s.size : Int))) rfl rfl (by kernel_rfl) (by kernel_rfl) (by kernel_rfl) (fun _ _ _ h => h) (Or.inl ⟨by rfl, fun W hW => by go_simp⟩) hS ?_
          simp only [List.setIfInBounds_toArray, List.set_cons_zero, List.set_cons_succ]
          refine take_at (i := 9) 48 (.agg (stG (shaFold roundK h L n) (X.extract (64 * n) X.size) (len + s.size))) rfl rfl (by kernel_rfl) (by kernel_rfl) (by kernel_rfl) (fun _ _ _ h => h) (Or.inl ⟨by rfl, fun W hW => exec_build _ 63 #[(0, .tmp 39), (1, .tmp 42), (2, .tmp 47)] rfl #[(0, .agg (A32 8 (shaFold roundK h L n))), (1, .string (X.extract (64 * n) X.size)), (2, .int .i64 (len + (s.size : Int)))] rfl _ (build63f _ _ _)⟩) hS ?_
          simp only [List.setIfInBounds_toArray, List.set_cons_zero, List.set_cons_succ]
          refine take_at (i := 10) 49 (.agg (stE (shaFold roundK h L n) (X.extract (64 * n) X.size) (len + s.size) 0)) rfl rfl (by kernel_rfl) (by kernel_rfl) (by kernel_rfl) (fun _ _ _ h => h) (Or.inl ⟨by rfl, fun W hW => exec_build _ 67 #[(0, .tmp 48)] rfl #[(0, .agg (stG (shaFold roundK h L n) (X.extract (64 * n) X.size) (len + s.size)))] rfl _ (build67 _ _ _)⟩) hS ?_
          simp only [List.setIfInBounds_toArray, List.set_cons_zero, List.set_cons_succ]
          refine wpAnyH_ready (rs := [11]) (by kernel_rfl) (by simp) ?_
          refine AllReadyH.cons rfl (fun K hK => ?_) AllReadyH.nil
          rw [if_pos (by rfl)]
          refine wpo_storeRow (C' := stE (shaFold roundK h L n) (X.extract (64 * n) X.size) (len + s.size) 0) 67 (.tmp 4) (.tmp 49) rfl (w.heap.size + 1) rfl rfl ho1.drew size67 (stE.size _ _ _ _) (stE.size _ _ _ _) (stE.one _ _ _ _) rfl ?_
          intro X1 hu k3
          refine hK.out _ _ (⟨hu.below hS.1 (by omega), hS.2.1.upd hu (by omega), hS.2.2.upd hu (by omega)⟩) (fun hS => ?_)
          clear hK K
          try simp only [Act.put, List.setIfInBounds_toArray, List.set_cons_zero, List.set_cons_succ]
          refine wpAnyH_done (by kernel_rfl) ?_ _
          go_wp2_with fail
          refine ret_row rfl (w.heap.size + 1) rfl k3 Tryd.underlying67 rfl size67 (stE.size _ _ _ _) rfl ⟨?_, hS.1⟩
          obtain ⟨z1, z2⟩ := Prod.mk.inj HZ.out
          rw [addS, if_pos hv, if_pos hl, HL.out]
          dsimp only
          rw [z1, z2]
    ·
      go_upto_region 4 with fail
      apply wp_region_lit
      refine wp_buildL rfl 67 #[(1, .const (.int .i64 3))] rfl #[(1, .int .i64 3)] rfl (.agg (stE (fun _ => 0#32) ByteArray.empty 0 3)) (build67e 3) ?_
      refine wp_storeRow (C' := stE (fun _ => 0#32) ByteArray.empty 0 3) (n := 11) rfl 67 (.tmp 4) (.tmp 18) rfl (w.heap.size + 1) rfl rfl ho1 size67 (stE.size _ _ _ _) (stE.size _ _ _ _) (stE.one _ _ _ _) rfl ?_
      intro W3 hu3 ho3
      go_wp2_with fail
      exact ret_row rfl (w.heap.size + 1) rfl ho3 Tryd.underlying67 rfl size67 (stE.size _ _ _ _) rfl ⟨by rw [addS, if_pos hv, if_neg (by omega)], hu3.below hBb (by omega)⟩
  · have hv' : validB rest len = false := by
      cases e : validB rest len
      · rfl
      · exact absurd e hv
    go_upto_region 2 with fail
    apply wp_region_lit
    refine wp_buildL rfl 67 #[(1, .const (.int .i64 2))] rfl #[(1, .int .i64 2)] rfl (.agg (stE (fun _ => 0#32) ByteArray.empty 0 2)) (build67e 2) ?_
    refine wp_storeRow (C' := stE (fun _ => 0#32) ByteArray.empty 0 2) (n := 11) rfl 67 (.tmp 4) (.tmp 11) rfl (w.heap.size + 1) rfl rfl ho1 size67 (stE.size _ _ _ _) (stE.size _ _ _ _) (stE.one _ _ _ _) rfl ?_
    intro W3 hu3 ho3
    go_wp2_with fail
    exact ret_row rfl (w.heap.size + 1) rfl ho3 Tryd.underlying67 rfl size67 (stE.size _ _ _ _) rfl ⟨by rw [addS, if_neg hv], hu3.below hBb (by omega)⟩
end Go.Proofs.YtdpgebifeaakjaaDoor

/- The walk of the specification's End. -/
namespace Go.Proofs.YtdpgebifeaakjaaDoor
set_option linter.unusedSimpArgs false
set_option linter.unusedVariables false
open Go.RowKit

/-- A digest of 32 bytes and an error, in a struct. -/
def dgE (D : Nat → BitVec 8) (e : Int) : Array Value := Row 33 fun i => if i < 32 then U8 (D i) else .int .i64 e
theorem dgE.size (D : Nat → BitVec 8) (e : Int) : (dgE D e).size = 33 := Row.size _ _
theorem dgE.one (D : Nat → BitVec 8) (e : Int) : (dgE D e).all (·.oneCell') = true := Row.all fun i hi => by
  by_cases h1 : i < 32
  · simp [h1]; rfl
  · simp [h1]; rfl
theorem size73 : (Tryd.prog.info? 73).map (·.size) = some 33 := by kernel_rfl
theorem build73e (e : Int) (w : World) : (Instr.build 73 #[(1, .int .i64 e)]).run Tryd.prog w = .ok (.agg (dgE (fun _ => 0#8) e)) w := by kernel_rfl
theorem build73 (D : Nat → BitVec 8) (w : World) : (Instr.build 73 #[(0, .agg (A8 32 D))]).run Tryd.prog w = .ok (.agg (dgE D 0)) w := by kernel_rfl
theorem zero73 : (#[Value.int .u8 0, Value.int .u8 0, Value.int .u8 0, Value.int .u8 0, Value.int .u8 0, Value.int .u8 0, Value.int .u8 0, Value.int .u8 0, Value.int .u8 0, Value.int .u8 0, Value.int .u8 0, Value.int .u8 0, Value.int .u8 0, Value.int .u8 0, Value.int .u8 0, Value.int .u8 0, Value.int .u8 0, Value.int .u8 0, Value.int .u8 0, Value.int .u8 0, Value.int .u8 0, Value.int .u8 0, Value.int .u8 0, Value.int .u8 0, Value.int .u8 0, Value.int .u8 0, Value.int .u8 0, Value.int .u8 0, Value.int .u8 0, Value.int .u8 0, Value.int .u8 0, Value.int .u8 0, Value.int .i64 0] : Array Value) = dgE (fun _ => 0#8) 0 := by kernel_rfl
attribute [go_sem] zero73
theorem infoU8 : (Tryd.prog.info? 5).map (fun i => (i.zero, i.size, i.bytes)) = some (some (.int .u8 0), 1, 1) := by kernel_rfl
theorem Rw.form {W : World} {base : Nat} {v : Value} {l : List (BitVec 8)} (h : Rw W base v l) : ∃ g cap n, v = .slice (some ⟨g, 0, none⟩) n cap ∧ n = l.length := by
  obtain ⟨g, cap, C, fz, h1, _⟩ := h
  exact ⟨g, cap, _, h1, rfl⟩
/-- The bytes so far. -/
def padUp (rest : ByteArray) (x : BitVec 64) (k : Nat) : List (BitVec 8) := bts rest ++ (List.range k).map (padCell (padZ rest.size) x)
theorem padUp_length (rest : ByteArray) (x : BitVec 64) (k : Nat) : (padUp rest x k).length = rest.size + k := by simp [padUp, bts_length]
theorem padUp_next (rest : ByteArray) (x : BitVec 64) (k : Nat) : padUp rest x k ++ [padCell (padZ rest.size) x k] = padUp rest x (k + 1) := by
  unfold padUp
  rw [List.range_succ, List.map_append, List.append_assoc]
  rfl
theorem padUp_one (rest : ByteArray) (x : BitVec 64) : bts rest ++ [128#8] = padUp rest x 1 := rfl

theorem byteL (len : Int) (h0 : 0 ≤ len) (h1 : len ≤ 1099511627776) (z j : Nat) (hz : 1 ≤ z) (hj : j < 8) (x : BitVec 64) (hx : BitVec.ofInt 64 len * 8#64 = x) :
    BitVec.ofInt 8 (8 * len / 2 ^ (8 * (7 - j))) = padCell z x (z + j) := by
  subst hx
  obtain ⟨m, rfl⟩ := Int.eq_ofNat_of_zero_le h0
  rw [padCell, if_neg (by omega), if_neg (by omega), show (56 - 8 * ((z + j - z : Nat) : Int)).toNat = 8 * (7 - j) by omega]
  have e : (8 * (m : Int) / 2 ^ (8 * (7 - j))) = ((8 * m / 2 ^ (8 * (7 - j)) : Nat) : Int) := by push_cast; rfl
  rw [e, BitVec.ofInt_natCast, BitVec.ofInt_natCast]
  apply BitVec.eq_of_toNat_eq
  rw [BitVec.toNat_ofNat, BitVec.toNat_setWidth, BitVec.toNat_ushiftRight, BitVec.toNat_mul, BitVec.toNat_ofNat, Nat.shiftRight_eq_div_pow]
  rw [show m % 2 ^ 64 * (8#64).toNat % 2 ^ 64 = 8 * m by simp; omega]
/-- Bytes that lie at the head of a block. -/
def Bts (W : World) (g : Nat) (l : List (BitVec 8)) : Prop := g < W.heap.size ∧ ∀ j, j < l.length → W.cell? ⟨g, j, none⟩ = some (U8 (l.getD j 0#8))
theorem Bts.below {W W' : World} {g : Nat} {l : List (BitVec 8)} (h : Bts W g l) (hb : Below W.heap.size W W') : Bts W' g l :=
  ⟨Nat.lt_of_lt_of_le h.1 hb.size, fun j hj => cell_below (h.2 j hj) hb⟩
theorem Bts.drew {W : World} {g : Nat} {l : List (BitVec 8)} (h : Bts W g l) : Bts W.drew g l := h
theorem Bts.alloc {W : World} {g : Nat} {l : List (BitVec 8)} (h : Bts W g l) (o : Obj) : Bts (W.alloc o) g l := h.below ((Below.refl _ _).alloc (Nat.le_refl _) o)
theorem Bts.upd {W W' : World} {g b : Nat} {l : List (BitVec 8)} (h : Bts W g l) (hu : Upd b W W') (hne : g ≠ b) : Bts W' g l :=
  ⟨by rw [hu.size]; exact h.1, fun j hj => (World.cell?_of_block (a := ⟨g, j, none⟩) (hu.block g hne)).trans (h.2 j hj)⟩
theorem Bts.conv {W : World} {g : Nat} {l : List (BitVec 8)} (h : Bts W g l) (off c : Nat) (hl : off + 64 ≤ l.length) :
    (convert 43 9 (.slice (some ⟨g, off, none⟩) 64 c)).run Tryd.prog W = .ok (.string (strOf ((l.drop off).take 64))) W := by
  refine run_bytes_str W 43 9 5 _ off c _ 64 (by simp; omega) Tryd.underlying43 Tryd.underlying5 Tryd.underlying9 fun j hj => ?_
  have hj' : j < 64 := by simp at hj; omega
  rw [h.2 (off + j) (by omega)]
  simp [List.getD, List.getElem?_eq_getElem (show off + j < l.length by omega)]
theorem Rw.bts {W : World} {base g n cap : Nat} {l : List (BitVec 8)} (h : Rw W base (.slice (some ⟨g, 0, none⟩) n cap) l) : Bts W g l ∧ base ≤ g ∧ n ≤ cap ∧ n = l.length := by
  obtain ⟨g', cap', C, fz, h1, h2, h3, h4, h5, h6, h7⟩ := h
  injection h1 with a b c
  injection a with a
  injection a with a
  subst a b c
  exact ⟨⟨(Array.getElem?_eq_some_iff.1 h4).1, fun j hj => by simp [World.cell?, h4]; exact h7 j hj⟩, h2, h3, rfl⟩

set_option maxRecDepth 100000 in
set_option maxHeartbeats 4000000 in
theorem rend_any (h : Nat → BitVec 32) (rest : ByteArray) (len : Int) (hr : rest.size ≤ maxLen) (w : World) (hKK : KAt w) :
    Calls Tryd.prog 41 #[.agg (stG h rest len)] w fun e w' => e = .returned (.agg (dgE (endAns h rest len).1 (endAns h rest len).2)) ∧ Below w.heap.size w w' := by
  have hw0 := hKK.pos
  have hbx := box63g h rest len
  have hV := fun w => rvalid_any h rest len hr w
  have hn := (Blk.new w (stG h rest len) 63).alloc (.cells (dgE (fun _ => 0#8) 0) 73)
  have ho := Blk.new (w.alloc (.cells (stG h rest len) 63)) (dgE (fun _ => 0#8) 0) 73
  have hB : Below w.heap.size w ((w.alloc (.cells (stG h rest len) 63)).alloc (.cells (dgE (fun _ => 0#8) 0) 73)) := ((Below.refl _ _).alloc (Nat.le_refl _) _).alloc (by simp) _
  rw [World.size_alloc] at ho
  go_enter Tryd.func41, Tryd.ntmps41
  go_wp2_with (refine wp_loadRow rfl 63 _ rfl w.heap.size rfl hn Tryd.underlying63 rfl size63 (stG.size _ _ _) ?_)
  refine (hV _).mono ?_
  rintro e W ⟨rfl, hB1⟩
  have hn1 := hn.below hB1 hn.lt
  have ho1 := ho.below hB1 ho.lt
  have hBb := hB.trans (hB1.mono hB.size)
  clear hn ho hB hB1
  by_cases hv : validB rest len = true
  · obtain ⟨g0, g1, g2⟩ := validB_facts hv
    have hrs : rest.size < 64 := by omega
    have h8 := hn1.cell 8
    rw [stG.rest] at h8
    have hcv := fun w : World => Lib.run_convert_string_bytes (P := Tryd.prog) w 9 43 5 rest Tryd.underlying9 Tryd.underlying43 Tryd.underlying5
    obtain ⟨x, hxe⟩ : ∃ x, BitVec.ofInt 64 len * 8#64 = x := ⟨_, rfl⟩
    have r0 := Rw.conv W rest
    have bW := below_bytesWorld W 5 rest
    have sW := hBb.size
    have hBc := hBb.trans (bW.mono hBb.size)
    replace hn1 := hn1.below bW hn1.lt
    have lo := ho1.lt
    replace ho1 := ho1.below bW ho1.lt
    go_wp2_with (at_builtin; go_loud (refine wp_append_rw rfl _ _ 43 rfl Tryd.underlying43 infoU8 (base := W.heap.size) rfl (r0.alloc _) _ 1 rfl (y := 128#8) (by rw [(Blk.new _ _ _).cell]; rfl) (by rw [bts_length]; omega) (by have := bW.size; simp; omega) ?_); intro v0 W1 r1 hb1)
    rw [padUp_one rest x] at r1
    have sB : w.heap.size + 1 + 1 ≤ W.heap.size := by have := lo; omega
    have hBd : Below w.heap.size w W1 := (hBc.alloc hBc.size (.cells #[U8 128#8] 5)).trans (hb1.mono sW)
    have hn2 := (hn1.alloc (.cells #[U8 128#8] 5)).below hb1 (by omega)
    have ho2 := (ho1.alloc (.cells #[U8 128#8] 5)).below hb1 (by omega)
    have sW1 : W.heap.size ≤ W1.heap.size := by have := hb1.size; have := bW.size; simp at *; omega
    obtain ⟨B0, hB0⟩ : ∃ B0, W.heap.size = B0 := ⟨_, rfl⟩
    rw [hB0] at r1 sB sW1
    clear hBb hBc hb1 hn1 ho1 r0 bW hcv h8 sW lo hB0
    have hzz : padZ rest.size ≤ 64 ∧ 1 ≤ padZ rest.size := by unfold padZ; split <;> omega
    go_loopw [3] (fun s3 X => ∃ k : Nat, 1 ≤ k ∧ k ≤ padZ rest.size ∧ Rw X B0 s3 (padUp rest x k) ∧ Blk X w.heap.size (stG h rest len) 63 ∧ Blk X (w.heap.size + 1) (dgE (fun _ => 0#8) 0) 73 ∧ Below w.heap.size w X ∧ B0 ≤ X.heap.size) (fun s3 _ => 200 - lenOfSl s3)
    case atStart => exact ⟨1, by omega, by omega, r1, hn2, ho2, hBd, sW1⟩
    case round =>
      clear r1 hn2 ho2 hBd sW1
      obtain ⟨k, hk1, hk2, r1, hn2, ho2, hBd, sW1⟩ := hrel
      obtain ⟨g, cap, n, rfl, hnl⟩ := r1.form
      rw [padUp_length] at hnl
      by_cases hz : k = padZ rest.size
      · have ht : ((n : Int) % 64 != 56) = false := by
          have : (n : Int) % 64 = 56 := by rw [hnl, hz]; unfold padZ; split <;> omega
          rw [this]; rfl
        clear hnl
        go_wp2_with fail
        rw [hz] at r1
        clear hz ht hk1 hk2
        go_loopw [3, 4] (fun s3 s4 X => ∃ j : Nat, j ≤ 8 ∧ s4 = .int .i64 (7 - (j : Int)) ∧ Rw X B0 s3 (padUp rest x (padZ rest.size + j)) ∧ Blk X w.heap.size (stG h rest len) 63 ∧ Blk X (w.heap.size + 1) (dgE (fun _ => 0#8) 0) 73 ∧ Below w.heap.size w X ∧ B0 ≤ X.heap.size) (fun _ s4 _ => (intOf s4 + 1).toNat)
        case atStart => exact ⟨0, by omega, rfl, r1, hn2, ho2, hBd, sW1⟩
        case round =>
          clear r1 hn2 ho2 hBd sW1
          obtain ⟨j, hj, rfl, r1, hn2, ho2, hBd, sW1⟩ := hrel
          obtain ⟨g, cap, n, rfl, hnl⟩ := r1.form
          rw [padUp_length] at hnl
          by_cases hj8 : j < 8
          · have hj81 : (0 : Int) ≤ 7 - (j : Int) := by omega
            have h9 := hn2.cell 9
            rw [stG.len] at h9
            have hwm : IntKind.i64.wrap (8 * len) = 8 * len := IntWalk.i64_in _ (by omega)
            have hwi : IntKind.i64.wrap (8 * (7 - (j : Int))) = 8 * (7 - (j : Int)) := IntWalk.i64_in _ (by omega)
            have hs0 : (0 : Int) ≤ 8 * (7 - (j : Int)) := by omega
            have HBY := hide (byteL len g0 g1 _ j hzz.2 hj8 x hxe)
            go_wp2_with (at_builtin; go_loud (refine wp_append_rw rfl _ _ 43 rfl Tryd.underlying43 infoU8 (base := B0) rfl (r1.alloc _) _ 1 rfl (y := padCell (padZ rest.size) x (padZ rest.size + j)) (by rw [(Blk.new _ _ _).cell, HBY.out]; rfl) (by rw [padUp_length]; omega) (by simp; omega) ?_); intro v1 W2 r2 hb2)
            rw [padUp_next] at r2
            exact ⟨⟨j + 1, by omega, by go_num, r2, (hn2.alloc _).below hb2 (by omega), (ho2.alloc _).below hb2 (by omega), (hBd.alloc hBd.size _).trans (hb2.mono (by omega)), by have := hb2.size; simp at this; omega⟩, by simp [intOf]; omega⟩
          · have hj81 : ¬ (0 : Int) ≤ 7 - (j : Int) := by omega
            have hj' : j = 8 := by omega
            subst hj'
            obtain ⟨l, hle⟩ : ∃ l, padUp rest x (padZ rest.size + 8) = l := ⟨_, rfl⟩
            have hll : n % 64 = 0 ∧ n ≤ 300 := by
              rw [hnl]; unfold padZ; split <;> omega
            rw [hle] at r1
            have HLE := hide hle
            obtain ⟨b1, hg, hnc, hnl2⟩ := r1.bts
            have HNL2 := hide hnl2
            clear hnl hle r1 hj hnl2
            have hH : (Row 8 fun i => (fun i => if i < 8 then U32 (h i) else if i = 8 then .string rest else .int .i64 len) (0 + i)) = A32 8 h := Row.ext fun i hi => by
              dsimp only; rw [Nat.zero_add, if_pos hi]
            have sW2 := b1.1
            go_wp2_with (first
              | (refine wp_loadMid rfl 61 _ rfl w.heap.size 0 rfl hn2 Tryd.underlying61 rfl size61 (by omega) hH ?_)
              | (refine wp_storeRow (C' := A32 8 h) rfl 61 _ _ rfl _ rfl rfl (Blk.new _ _ _) size61 (A32.size _ _) (A32.size _ _) (A32.one _) rfl ?_; intro W3 hu3 k3))
            replace b1 := (b1.alloc (.cells (A32 8 fun _ => 0#32) 61)).upd hu3 (by omega)
            replace ho2 := (ho2.alloc (.cells (A32 8 fun _ => 0#32) 61)).upd hu3 (by omega)
            replace hBd := hu3.below (hBd.alloc hBd.size (.cells (A32 8 fun _ => 0#32) 61)) hBd.size
            have sB2 : w.heap.size + 1 < wr.heap.size := by omega
            obtain ⟨B, hBe⟩ : ∃ B, wr.heap.size = B := ⟨_, rfl⟩
            rw [hBe] at k3 sW2 sB2 ⊢
            clear hBe hu3 hn2 hH sW1
            go_loopw [6] (fun s6 X => ∃ m : Nat, 64 * m ≤ n ∧ s6 = .int .i64 (64 * (m : Int)) ∧ Bts X g l ∧ Blk X (w.heap.size + 1) (dgE (fun _ => 0#8) 0) 73 ∧ Blk X B (A32 8 (shaFold roundK h l m)) 61 ∧ Below w.heap.size w X) (fun s6 _ => n - (intOf s6).toNat)
            case atStart => exact ⟨0, by omega, rfl, b1, ho2, k3, hBd⟩
            case round =>
              clear b1 ho2 k3 hBd
              obtain ⟨m, hm, rfl, b1, ho2, k1, hBd⟩ := hrel
              by_cases hmn : 64 * m < n
              · have hm1 : 64 * (m : Int) < (n : Int) := by omega
                have hp0 : (0 : Int) ≤ 64 * (m : Int) := by omega
                have hp1 : 64 * (m : Int) + 64 ≤ (cap : Int) := by omega
                have hp2 : (0 : Int) ≤ 64 * (m : Int) + 64 := by omega
                have hp3 : ¬ (64 * (m : Int) + 64 < 64 * (m : Int)) := by omega
                have hq1 : (64 * (m : Int)).toNat = 64 * m := by omega
                have hq2 : (64 * (m : Int) + 64).toNat = 64 * m + 64 := by omega
                have hq3 : 64 * m + 64 - 64 * m = 64 := by omega
                have hw1' : IntKind.i64.wrap (64 * (m : Int) + 64) = 64 * (m : Int) + 64 := IntWalk.i64_in _ (by omega)
                have hfold : shaBlock roundK (shaFold roundK h l m) ((l.drop (64 * m)).take 64) = shaFold roundK h l (m + 1) := rfl
                have cb : ∀ w, KAt w → Calls Tryd.prog 73 #[.agg (A32 8 (shaFold roundK h l m)), .string (strOf ((l.drop (64 * m)).take 64))] w fun e w' => e = .returned (.agg (A32 8 (shaFold roundK h l (m + 1)))) ∧ Below w.heap.size w w' := fun w hk => by
                  have hh := rblock_any (shaFold roundK h l m) (strOf ((l.drop (64 * m)).take 64)) (by rw [size_strOf, List.length_take, List.length_drop]; have := HNL2.out; omega) w hk
                  rw [bts_strOf, hfold] at hh
                  exact hh
                have hcl : 64 * m + 64 ≤ l.length := by have := HNL2.out; omega
                have hcap : ¬ cap = 64 * m := by omega
                clear hfold
                go_wp2_with fail
                refine wp_region_held_drew (S := fun w' => Below w.heap.size w w' ∧ Blk w' (w.heap.size + 1) (dgE (fun _ => 0#8) 0) 73 ∧ Bts w' g l) (by kernel_rfl) (⟨hBd.drew, ho2.drew, b1.drew⟩) (fun hS => ?_)
                refine take_at (i := 1) 49 (.slice (some ⟨g, 0, none⟩) n cap) rfl rfl (by kernel_rfl) (by kernel_rfl) (by kernel_rfl) (fun _ _ _ h => h) (Or.inl ⟨by rfl, fun W hW => by go_simp⟩) hS ?_
                simp only [List.setIfInBounds_toArray, List.set_cons_zero, List.set_cons_succ]
                refine take_at (i := 2) 50 (.int .i64 (64 * (m : Int))) rfl rfl (by kernel_rfl) (by kernel_rfl) (by kernel_rfl) (fun _ _ _ h => h) (Or.inl ⟨by rfl, fun W hW => by go_simp⟩) hS ?_
                simp only [List.setIfInBounds_toArray, List.set_cons_zero, List.set_cons_succ]
                refine take_at (i := 3) 51 (.int .i64 (64 * (m : Int))) rfl rfl (by kernel_rfl) (by kernel_rfl) (by kernel_rfl) (fun _ _ _ h => h) (Or.inl ⟨by rfl, fun W hW => by go_simp⟩) hS ?_
                simp only [List.setIfInBounds_toArray, List.set_cons_zero, List.set_cons_succ]
                refine take_at (i := 4) 52 (.int .i64 (64 * (m : Int) + 64)) rfl rfl (by kernel_rfl) (by kernel_rfl) (by kernel_rfl) (fun _ _ _ h => h) (Or.inl ⟨by rfl, fun W hW => by go_simp⟩) hS ?_
                simp only [List.setIfInBounds_toArray, List.set_cons_zero, List.set_cons_succ]
                refine take_at (i := 5) 53 (.slice (some ⟨g, 64 * m, none⟩) 64 (cap - 64 * m)) rfl rfl (by kernel_rfl) (by kernel_rfl) (by kernel_rfl) (fun _ _ _ h => h) (Or.inl ⟨by rfl, fun W hW => by go_simp⟩) hS ?_
                simp only [List.setIfInBounds_toArray, List.set_cons_zero, List.set_cons_succ]
                refine take_at (i := 6) 54 (.string (strOf ((l.drop (64 * m)).take 64))) rfl rfl (by kernel_rfl) (by kernel_rfl) (by kernel_rfl) (fun _ _ _ h => h) (Or.inl ⟨by rfl, fun W hW => by have hcv := hW.2.2.conv (64 * m) (cap - 64 * m) hcl; go_simp⟩) hS ?_
                simp only [List.setIfInBounds_toArray, List.set_cons_zero, List.set_cons_succ]
                refine wpAnyH_ready (rs := [0]) (by kernel_rfl) (by simp) ?_
                refine AllReadyH.cons rfl (fun K hK => ?_) AllReadyH.nil
                rw [if_pos (by rfl)]
                refine wpo_loadRow 61 (.tmp 5) rfl B rfl (run_loadVar_Blk k1.drew Tryd.underlying61 rfl size61 (A32.size _ _)) ?_
                refine hK.out _ _ (hS) (fun hS => ?_)
                clear hK K
                try simp only [Act.put, List.setIfInBounds_toArray, List.set_cons_zero, List.set_cons_succ]
                refine wpAnyH_ready (rs := [7]) (by kernel_rfl) (by simp) ?_
                refine AllReadyH.cons rfl (fun K hK => ?_) AllReadyH.nil
                go_simp
                refine (cb _ (hKK.below hw0 hS.1)).mono ?_
                rintro e X2 ⟨rfl, hb⟩
                refine hK.out _ _ (⟨hS.1.trans (hb.mono hS.1.size), hS.2.1.below hb hS.2.1.lt, hS.2.2.below hb⟩) (fun hS => ?_)
                clear hK K
                have k2 := k1.drew.below hb k1.drew.lt
                try simp only [Act.put, List.setIfInBounds_toArray, List.set_cons_zero, List.set_cons_succ]
                refine wpAnyH_ready (rs := [8]) (by kernel_rfl) (by simp) ?_
                refine AllReadyH.cons rfl (fun K hK => ?_) AllReadyH.nil
                rw [if_pos (by rfl)]
                refine wpo_storeRow (C' := A32 8 (shaFold roundK h l (m + 1))) 61 (.tmp 5) (.tmp 55) rfl B rfl rfl k2 size61 (A32.size _ _) (A32.size _ _) (A32.one _) rfl ?_
                intro X3 hu k3
                refine hK.out _ _ (⟨hu.below hS.1 (by omega), hS.2.1.upd hu (by omega), hS.2.2.upd hu (by omega)⟩) (fun hS => ?_)
                clear hK K
                try simp only [Act.put, List.setIfInBounds_toArray, List.set_cons_zero, List.set_cons_succ]
                refine wpAnyH_done (by kernel_rfl) ?_ _
                go_wp2_with fail
                exact ⟨⟨m + 1, by omega, by go_num, hS.2.2, hS.2.1, k3, hS.1⟩, by simp [intOf]; omega⟩
              · have hm1 : ¬ 64 * (m : Int) < (n : Int) := by omega
                obtain ⟨H, hH⟩ : ∃ H, addH roundK h l = H := ⟨_, rfl⟩
                have hm2 : m = l.length / 64 := by have := HNL2.out; omega
                have hH2 : shaFold roundK h l m = H := by rw [← hH, addH, ← hm2]
                rw [hH2] at k1
                have HH := hide hH
                have lB := k1.lt
                clear hH hH2 hm2 b1
                go_wp2_with fail
                have k2 := k1.alloc (.cells (A8 32 fun _ => 0#8) 69)
                have ho3 := ho2.alloc (.cells (A8 32 fun _ => 0#8) 69)
                have hBe := hBd.alloc hBd.size (.cells (A8 32 fun _ => 0#8) 69)
                have kO := Blk.new wr (A8 32 fun _ => 0#8) 69
                have sO := hBd.size
                obtain ⟨O, hOe⟩ : ∃ O, wr.heap.size = O := ⟨_, rfl⟩
                rw [hOe] at kO lB sO ⊢
                clear hOe k1 ho2 hBd
                have kO' : Blk (wr.alloc (.cells (A8 32 fun _ => 0#8) 69)) O (A8 32 fun j => if j < 0 then digestOf H j else 0#8) 69 := kO
                go_loopw [8] (fun s8 X => ∃ t : Nat, t ≤ 32 ∧ s8 = .int .i64 (t : Int) ∧ Blk X (w.heap.size + 1) (dgE (fun _ => 0#8) 0) 73 ∧ Blk X B (A32 8 H) 61 ∧ Blk X O (A8 32 fun j => if j < t then digestOf H j else 0#8) 69 ∧ Below w.heap.size w X) (fun s8 _ => 32 - (intOf s8).toNat)
                case atStart => exact ⟨0, by omega, rfl, ho3, k2, kO', hBe⟩
                case round =>
                  clear kO kO' k2 ho3 hBe
                  obtain ⟨t, ht, rfl, ho3, k2, kO, hBe⟩ := hrel
                  by_cases ht32 : t < 32
                  · have ht1 : (t : Int) < 32 := by omega
                    have hc := k2.cell (t / 4)
                    rw [A32.get _ (by omega)] at hc
                    have hcO := kO.cell t
                    have hfO := kO.free t
                    rw [A8.get _ ht32, if_neg (Nat.lt_irrefl t)] at hcO
                    have ht0 : (0 : Int) ≤ (t : Int) := by omega
                    have hd0 : (0 : Int) ≤ (t : Int) / 4 := by omega
                    have hd1 : (t : Int) / 4 < 8 := by omega
                    have hd2 : ((t : Int) / 4).toNat = t / 4 := by omega
                    have hwm : IntKind.i64.wrap (8 * ((t : Int) % 4)) = 8 * ((t : Int) % 4) := IntWalk.i64_in _ (by omega)
                    have hws : IntKind.i64.wrap (24 - 8 * ((t : Int) % 4)) = 24 - 8 * ((t : Int) % 4) := IntWalk.i64_in _ (by omega)
                    have hs0 : (0 : Int) ≤ 24 - 8 * ((t : Int) % 4) := by omega
                    have hs1 : 8 * ((t : Int) % 4) ≤ 24 := by omega
                    go_wp2_with fail
                    have k9 := kO.set t (U8 (digestOf H t))
                    rw [A8.step] at k9
                    exact ⟨⟨t + 1, by omega, by go_num, ho3.other (by simp; omega) _, k2.other (by simp; omega) _, k9, hBe.setCell (p := ⟨O, t, none⟩) (by simp; omega) _⟩, by simp [intOf]; omega⟩
                  · have ht1 : ¬ (t : Int) < 32 := by omega
                    have ht' : t = 32 := by omega
                    subst ht'
                    go_upto_region 21 with fail
                    apply wp_region_lit
                    have kF : Blk wr O (A8 32 (digestOf H)) 69 := by
                      have e : (A8 32 fun j => if j < 32 then digestOf H j else 0#8) = A8 32 (digestOf H) := A8.ext fun j hj => if_pos hj
                      rw [← e]; exact kO
                    refine wp_loadRow (t := 69) (C := A8 32 (digestOf H)) (n := 32) rfl 69 (.tmp 7) rfl O rfl kF Tryd.underlying69 rfl size69 (A8.size _ _) ?_
                    refine wp_buildL rfl 73 #[(0, .tmp 72)] rfl #[(0, .agg (A8 32 (digestOf H)))] rfl (.agg (dgE (digestOf H) 0)) (build73 _) ?_
                    refine wp_storeRow (C' := dgE (digestOf H) 0) (n := 33) rfl 73 (.tmp 2) (.tmp 73) rfl (w.heap.size + 1) rfl rfl ho3 size73 (dgE.size _ _) (dgE.size _ _) (dgE.one _ _) rfl ?_
                    intro W9 hu9 k9
                    go_wp2_with fail
                    refine ret_row rfl (w.heap.size + 1) rfl k9 Tryd.underlying73 rfl size73 (dgE.size _ _) rfl ⟨?_, hu9.below hBe (by omega)⟩
                    rw [endAns, if_pos hv, ← HH.out, ← HLE.out, ← hxe]
                    rfl
      · have ht : ((n : Int) % 64 != 56) = true := by
          have : (n : Int) % 64 ≠ 56 := by rw [hnl]; unfold padZ at hz hk2; split at hz <;> split at hk2 <;> omega
          simpa using this
        have hy : padCell (padZ rest.size) x k = 0#8 := by rw [padCell, if_neg (by omega), if_pos (by omega)]
        go_wp2_with (at_builtin; go_loud (refine wp_append_rw rfl _ _ 43 rfl Tryd.underlying43 infoU8 (base := B0) rfl (r1.alloc _) _ 1 rfl (y := 0#8) (by rw [(Blk.new _ _ _).cell]; rfl) (by rw [padUp_length]; omega) (by simp; omega) ?_); intro v1 W2 r2 hb2)
        rw [← hy, padUp_next] at r2
        refine ⟨⟨k + 1, by omega, by omega, r2, (hn2.alloc _).below hb2 (by omega), (ho2.alloc _).below hb2 (by omega), (hBd.alloc hBd.size _).trans (hb2.mono (by omega)), by have := hb2.size; simp at this; omega⟩, ?_⟩
        obtain ⟨g', cap', n', rfl, hnl'⟩ := r2.form
        rw [padUp_length] at hnl'
        simp [lenOfSl]
        omega
  · have hv' : validB rest len = false := by
      cases e : validB rest len
      · rfl
      · exact absurd e hv
    go_upto_region 2 with fail
    apply wp_region_lit
    refine wp_buildL rfl 73 #[(1, .const (.int .i64 2))] rfl #[(1, .int .i64 2)] rfl (.agg (dgE (fun _ => 0#8) 2)) (build73e 2) ?_
    refine wp_storeRow (C' := dgE (fun _ => 0#8) 2) (n := 33) rfl 73 (.tmp 2) (.tmp 12) rfl (w.heap.size + 1) rfl rfl ho1 size73 (dgE.size _ _) (dgE.size _ _) (dgE.one _ _) rfl ?_
    intro W3 hu3 ho3
    go_wp2_with fail
    exact ret_row rfl (w.heap.size + 1) rfl ho3 Tryd.underlying73 rfl size73 (dgE.size _ _) rfl ⟨by rw [endAns, if_neg hv], hu3.below hBb (by omega)⟩
end Go.Proofs.YtdpgebifeaakjaaDoor

/- States in plain: adding part after part. -/
namespace Go.Proofs.YtdpgebifeaakjaaDoor
set_option linter.unusedSimpArgs false
set_option linter.unusedVariables false
open Go.RowKit

theorem shaFold_left (k h : Nat → BitVec 32) (x y : List (BitVec 8)) : ∀ a, 64 * a ≤ x.length → shaFold k h (x ++ y) a = shaFold k h x a
  | 0, _ => rfl
  | a + 1, hl => by
    rw [shaFold, shaFold, shaFold_left k h x y a (by omega), List.drop_append_of_le_length (by omega), List.take_append_of_le_length (by rw [List.length_drop]; omega)]
theorem shaFold_go (k h : Nat → BitVec 32) (x : List (BitVec 8)) (a : Nat) : ∀ n, shaFold k (shaFold k h x a) (x.drop (64 * a)) n = shaFold k h x (a + n)
  | 0 => rfl
  | n + 1 => by
    rw [← Nat.add_assoc, shaFold, shaFold, shaFold_go k h x a n, List.drop_drop, Nat.mul_add]
theorem split_eq (x y : List (BitVec 8)) : addRest x ++ y = (x ++ y).drop (64 * (x.length / 64)) := by
  rw [addRest, List.drop_append_of_le_length (by omega)]
theorem addRest_append (x y : List (BitVec 8)) : addRest (addRest x ++ y) = addRest (x ++ y) := by
  rw [split_eq, addRest, addRest, List.drop_drop, List.length_drop, List.length_append]
  congr 1
  omega
theorem addH_append (k h : Nat → BitVec 32) (x y : List (BitVec 8)) : addH k (addH k h x) (addRest x ++ y) = addH k h (x ++ y) := by
  rw [split_eq, addH, addH, addH, ← shaFold_left k h x y _ (by omega), shaFold_go, List.length_drop, List.length_append]
  congr 1
  omega
theorem addRest_length (l : List (BitVec 8)) : (addRest l).length = l.length % 64 := by
  rw [addRest, List.length_drop]; omega
theorem validB_of (l : List (BitVec 8)) (hl : l.length ≤ 1099511627776) : validB (strOf (addRest l)) l.length = true := by
  unfold validB
  rw [size_strOf, addRest_length, Bool.and_eq_true, Bool.and_eq_true]
  refine ⟨⟨decide_eq_true (by omega), decide_eq_true (by omega)⟩, beq_iff_eq.2 (by omega)⟩
/-- The state behind a byte sequence. -/
def stP (l : List (BitVec 8)) : Array Value := stG (addH roundK startK l) (strOf (addRest l)) l.length
theorem endAns_ok (l : List (BitVec 8)) (h : l.length ≤ 1099511627776) : endAns (addH roundK startK l) (strOf (addRest l)) l.length = (sha l, 0) := by
  rw [endAns, if_pos (validB_of l h), bts_strOf, size_strOf]
  rfl
end Go.Proofs.YtdpgebifeaakjaaDoor

/- The specification's Start, Sum256 and Sum. -/
namespace Go.Proofs.YtdpgebifeaakjaaDoor
set_option linter.unusedSimpArgs false
set_option linter.unusedVariables false
open Go.RowKit

theorem build61s (w : World) : (Instr.build 61 #[(0, .int .u32 1779033703), (1, .int .u32 3144134277), (2, .int .u32 1013904242), (3, .int .u32 2773480762), (4, .int .u32 1359893119), (5, .int .u32 2600822924), (6, .int .u32 528734635), (7, .int .u32 1541459225)]).run Tryd.prog w = .ok (.agg (A32 8 startK)) w := by kernel_rfl
set_option maxRecDepth 20000 in
set_option maxHeartbeats 400000 in
theorem rstart_any (w : World) :
    Calls Tryd.prog 130 #[] w fun e w' => e = .returned (.agg (stP [])) ∧ Below w.heap.size w w' := by
  have ho := Blk.new w (stG (fun _ => 0#32) ByteArray.empty 0) 63
  have hB : Below w.heap.size w (w.alloc (.cells (stG (fun _ => 0#32) ByteArray.empty 0) 63)) := (Below.refl _ _).alloc (Nat.le_refl _) _
  go_enter Tryd.func130, Tryd.ntmps130
  go_upto_region 1 with fail
  apply wp_region_lit
  refine wp_buildL rfl 61 _ rfl #[(0, .int .u32 1779033703), (1, .int .u32 3144134277), (2, .int .u32 1013904242), (3, .int .u32 2773480762), (4, .int .u32 1359893119), (5, .int .u32 2600822924), (6, .int .u32 528734635), (7, .int .u32 1541459225)] rfl (.agg (A32 8 startK)) build61s ?_
  refine wp_buildL rfl 63 #[(0, .tmp 1)] rfl #[(0, .agg (A32 8 startK))] rfl (.agg (stP [])) (build63g startK) ?_
  refine wp_storeRow (C' := stP []) (n := 10) rfl 63 (.tmp 0) (.tmp 2) rfl w.heap.size rfl rfl ho size63 (stG.size _ _ _) (stG.size _ _ _) (stG.one _ _ _) rfl ?_
  intro W1 hu k1
  go_wp2_with fail
  exact ret_row rfl w.heap.size rfl k1 Tryd.underlying63 rfl size63 (stG.size _ _ _) rfl ⟨rfl, hu.below hB (Nat.le_refl _)⟩
theorem field67 (h : Nat → BitVec 32) (rest : ByteArray) (len e : Int) (w : World) : (Instr.field 67 (.agg (stE h rest len e)) 0).run Tryd.prog w = .ok (.agg (stG h rest len)) w := by kernel_rfl
theorem field73 (D : Nat → BitVec 8) (e : Int) (w : World) : (Instr.field 73 (.agg (dgE D e)) 0).run Tryd.prog w = .ok (.agg (A8 32 D)) w := by kernel_rfl
theorem addS_ok (l : List (BitVec 8)) (s : ByteArray) (h : l.length + s.size ≤ 1099511627776) :
    addS (addH roundK startK l) (strOf (addRest l)) l.length s = (addH roundK startK (l ++ bts s), strOf (addRest (l ++ bts s)), ((l ++ bts s).length : Int), 0) := by
  rw [addS, if_pos (validB_of l (by omega)), if_pos (by omega), bts_strOf, addH_append, addRest_append, List.length_append, bts_length]
  push_cast
  rfl
set_option maxRecDepth 20000 in
set_option maxHeartbeats 400000 in
theorem rsum256_any (s : ByteArray) (hs : s.size ≤ 1099511627776) (w : World) (hKK : KAt w) :
    Calls Tryd.prog 113 #[.string s] w fun e w' => e = .returned (.agg (A8 32 (sha (bts s)))) ∧ Below w.heap.size w w' := by
  have hw0 := hKK.pos
  have c1 := rstart_any
  have c2 : ∀ w, KAt w → Calls Tryd.prog 39 #[.agg (stP []), .string s] w fun e w' => e = .returned (.agg (stE (addH roundK startK (bts s)) (strOf (addRest (bts s))) (bts s).length 0)) ∧ Below w.heap.size w w' := fun w hk => by
    have h := radd_any (addH roundK startK []) (strOf (addRest [])) ([] : List (BitVec 8)).length (by decide) s (by omega) w hk
    rw [addS_ok [] s (by simpa using hs)] at h
    exact h
  have c3 : ∀ w, KAt w → Calls Tryd.prog 41 #[.agg (stG (addH roundK startK (bts s)) (strOf (addRest (bts s))) (bts s).length)] w fun e w' => e = .returned (.agg (dgE (sha (bts s)) 0)) ∧ Below w.heap.size w w' := fun w hk => by
    have h := rend_any (addH roundK startK (bts s)) (strOf (addRest (bts s))) (bts s).length (by rw [size_strOf, addRest_length]; unfold maxLen; omega) w hk
    rw [endAns_ok _ (by rw [bts_length]; exact hs)] at h
    exact h
  have f1 := field67 (addH roundK startK (bts s)) (strOf (addRest (bts s))) (bts s).length 0
  have f2 := field73 (sha (bts s)) 0
  have ho := Blk.new w (A8 32 fun _ => 0#8) 69
  have hB : Below w.heap.size w (w.alloc (.cells (A8 32 fun _ => 0#8) 69)) := (Below.refl _ _).alloc (Nat.le_refl _) _
  go_enter Tryd.func113, Tryd.ntmps113
  go_wp2_with fail
  refine (c1 _).mono ?_
  rintro e W1 ⟨rfl, hb⟩
  replace hB := hB.trans (hb.mono hB.size)
  replace ho := ho.below hb ho.lt
  clear hb
  go_wp2_with fail
  refine (c2 _ (hKK.below hw0 hB)).mono ?_
  rintro e W2 ⟨rfl, hb⟩
  replace hB := hB.trans (hb.mono hB.size)
  replace ho := ho.below hb ho.lt
  clear hb
  go_wp2_with fail
  refine (c3 _ (hKK.below hw0 hB)).mono ?_
  rintro e W3 ⟨rfl, hb⟩
  replace hB := hB.trans (hb.mono hB.size)
  replace ho := ho.below hb ho.lt
  clear hb
  go_wp2_with (refine wp_storeRow (C' := A8 32 (sha (bts s))) rfl 69 _ _ rfl _ rfl rfl ho size69 (A8.size _ _) (A8.size _ _) (A8.one _) rfl ?_; intro W4 hu k1)
  exact ret_row rfl w.heap.size rfl k1 Tryd.underlying69 rfl size69 (A8.size _ _) rfl ⟨rfl, hu.below hB (Nat.le_refl _)⟩
end Go.Proofs.YtdpgebifeaakjaaDoor

/- Leaves and joins of a tree, of both sides; the specification's Sum. -/
namespace Go.Proofs.YtdpgebifeaakjaaDoor
set_option linter.unusedSimpArgs false
set_option linter.unusedVariables false
open Go.RowKit

set_option maxRecDepth 20000 in
set_option maxHeartbeats 400000 in
theorem rsum_any (s : ByteArray) (hs : s.size ≤ 1099511627776) (w : World) (hKK : KAt w) :
    Calls Tryd.prog 80 #[.string s] w fun e w' => e = .returned (.agg (A8 16 (sha (bts s)))) ∧ Below w.heap.size w w' := by
  have hw0 := hKK.pos
  have c1 := fun w hk => rsum256_any s hs w hk
  obtain ⟨D, hD⟩ : ∃ D, sha (bts s) = D := ⟨_, rfl⟩
  rw [hD] at c1 ⊢
  clear hD
  have ho := Blk.new w (A8 16 fun _ => 0#8) 23
  have hB : Below w.heap.size w (w.alloc (.cells (A8 16 fun _ => 0#8) 23)) := (Below.refl _ _).alloc (Nat.le_refl _) _
  go_enter Tryd.func80, Tryd.ntmps80
  go_wp2_with fail
  refine (c1 _ (hKK.below hw0 hB)).mono ?_
  rintro e W1 ⟨rfl, hb⟩
  replace hB := hB.trans (hb.mono hB.size)
  replace ho := ho.below hb ho.lt
  have l1 := ho.lt
  clear hb c1
  go_wp2_with (refine wp_storeRow (C' := A8 32 D) rfl 69 _ _ rfl _ rfl rfl (Blk.new _ _ _) size69 (A8.size _ _) (A8.size _ _) (A8.one _) rfl ?_; intro W2 hu k1)
  replace hB := hu.below (hB.alloc hB.size (.cells (A8 32 fun _ => 0#8) 69)) hB.size
  replace ho := (ho.alloc (.cells (A8 32 fun _ => 0#8) 69)).upd hu (by omega)
  have l2 := k1.lt
  have k2 := k1.alloc (.cells (A8 16 fun _ => 0#8) 23)
  have ho2 := ho.alloc (.cells (A8 16 fun _ => 0#8) 23)
  have hBe := hB.alloc hB.size (.cells (A8 16 fun _ => 0#8) 23)
  have kO : Blk (W2.alloc (.cells (A8 16 fun _ => 0#8) 23)) W2.heap.size (A8 16 fun j => if j < 0 then D j else 0#8) 23 := Blk.new W2 (A8 16 fun _ => 0#8) 23
  have sO := hB.size
  obtain ⟨O, hOe⟩ : ∃ O, W2.heap.size = O := ⟨_, rfl⟩
  rw [hOe] at kO l2 sO ⊢
  obtain ⟨B, hBE⟩ : ∃ B, W1.heap.size = B := ⟨_, rfl⟩
  rw [hBE] at k2 l2 l1 ⊢
  clear hOe hBE k1 ho hB hu
  go_loopw [5] (fun s5 X => ∃ t : Nat, t ≤ 16 ∧ s5 = .int .i64 (t : Int) ∧ Blk X w.heap.size (A8 16 fun _ => 0#8) 23 ∧ Blk X B (A8 32 D) 69 ∧ Blk X O (A8 16 fun j => if j < t then D j else 0#8) 23 ∧ Below w.heap.size w X) (fun s5 _ => 16 - (intOf s5).toNat)
  case atStart => exact ⟨0, by omega, rfl, ho2, k2, kO, hBe⟩
  case round =>
    clear kO k2 ho2 hBe
    obtain ⟨t, ht, rfl, ho2, k2, kO, hBe⟩ := hrel
    by_cases ht16 : t < 16
    · have ht1 : (t : Int) < 16 := by omega
      have ht2 : (t : Int) < 32 := by omega
      have ht0 : (0 : Int) ≤ (t : Int) := by omega
      have hc := k2.cell t
      rw [A8.get _ (by omega)] at hc
      have hcO := kO.cell t
      have hfO := kO.free t
      rw [A8.get _ ht16, if_neg (Nat.lt_irrefl t)] at hcO
      go_wp2_with fail
      have k9 := kO.set t (U8 (D t))
      rw [A8.step] at k9
      exact ⟨⟨t + 1, by omega, by go_num, ho2.other (by simp; omega) _, k2.other (by simp; omega) _, k9, hBe.setCell (p := ⟨O, t, none⟩) (by simp; omega) _⟩, by simp [intOf]; omega⟩
    · have ht1 : ¬ (t : Int) < 16 := by omega
      have kF : Blk wr O (A8 16 D) 23 := by
        have e : (A8 16 fun j => if j < t then D j else 0#8) = A8 16 D := A8.ext fun j hj => if_pos (by omega)
        rw [← e]; exact kO
      go_wp2_with (first | (refine wp_loadRow (C := A8 16 D) rfl 23 _ rfl O rfl kF Tryd.underlying23 rfl size23 (A8.size _ _) ?_) | (refine wp_storeRow (C' := A8 16 D) rfl 23 _ _ rfl w.heap.size rfl rfl ho2 size23 (A8.size _ _) (A8.size _ _) (A8.one _) rfl ?_; intro W4 hu k9))
      exact ret_row rfl w.heap.size rfl k9 Tryd.underlying23 rfl size23 (A8.size _ _) rfl ⟨rfl, hu.below hBe (Nat.le_refl _)⟩
end Go.Proofs.YtdpgebifeaakjaaDoor

/- Leaves and joins of a tree, of both sides. -/
namespace Go.Proofs.YtdpgebifeaakjaaDoor
set_option linter.unusedSimpArgs false
set_option linter.unusedVariables false
open Go.RowKit

theorem step_storeRow {P : Program} {ops : Array Oper} {o : Oper} {a : Act} {w : World} {K : Act → World → Prop} {Q : Exit → Act → World → Prop} {E : Prop} (hgd : o.guard = none) (ty : TypeId) (x y : Operand) (ho : o.op = .store ty x y)
    (b : Nat) (hx : a.eval x = .pointer (some ⟨b, 0, none⟩)) {C' : Array Value} (hy : a.eval y = .agg C') {t : TypeId} {C : Array Value} (hb : Blk w b C t) {n : Nat}
    (hi : (P.info? ty).map (·.size) = some n) (hn' : C'.size = n) (hn : C.size = n) (h1 : C'.all (·.oneCell') = true) (hdst : o.dst = none)
    (h : ∀ w', Upd b w w' → Blk w' b C' t → K a w') : if Region.wanted o (yielded ops a.tmps) = true then Oper.wp P o a w K Q else E := by
  have hw : Region.wanted o (yielded ops a.tmps) = true := by simp [Region.wanted, hgd]
  rw [if_pos hw]
  exact wpo_storeRow ty x y ho b hx hy hb hi hn' hn h1 hdst h
/-- The bytes of a digest. -/
def dl (d : Nat → BitVec 8) : List (BitVec 8) := (List.range 16).map d
theorem dl_length (d : Nat → BitVec 8) : (dl d).length = 16 := by simp [dl]
def leafD (d : Nat → BitVec 8) : Nat → BitVec 8 := sha (0#8 :: dl d)
def nodeD (d f : Nat → BitVec 8) : Nat → BitVec 8 := sha (1#8 :: (dl d ++ dl f))
theorem leaf_bytes (d : Nat → BitVec 8) : sha (bts (⟨#[0]⟩ ++ strOf (dl d))) = leafD d := by rw [bts_append, bts_strOf]; rfl
theorem node_bytes (d f : Nat → BitVec 8) : sha (bts (⟨#[1]⟩ ++ strOf (dl d) ++ strOf (dl f))) = nodeD d f := by rw [bts_append, bts_append, bts_strOf, bts_strOf, List.append_assoc]; rfl
theorem conv_dl {W : World} {b : Nat} {d : Nat → BitVec 8} (k : Blk W b (A8 16 d) 23) : (convert 43 9 (.slice (some ⟨b, 0, none⟩) 16 16)).run Tryd.prog W = .ok (.string (strOf (dl d))) W :=
  run_bytes_str W 43 9 5 b 0 16 _ 16 (dl_length d) Tryd.underlying43 Tryd.underlying5 Tryd.underlying9 fun j hj => by
    have hj' : j < 16 := by rw [dl_length] at hj; exact hj
    rw [Nat.zero_add, k.cell, A8.get _ hj']
    simp [dl]

set_option maxRecDepth 20000 in
set_option maxHeartbeats 400000 in
theorem leaf_any (d : Nat → BitVec 8) (w : World) :
    Calls Tryd.prog 77 #[.agg (A8 16 d)] w fun e w' => e = .returned (.agg (A8 16 (leafD d))) ∧ Below w.heap.size w w' := by
  have hbx := box23 d
  have c1 := fun w => sum_any (⟨#[0]⟩ ++ strOf (dl d)) (by rw [ByteArray.size_append, size_strOf, dl_length]; decide) w
  simp only [leaf_bytes] at c1
  have k1 := (Blk.new w (A8 16 d) 23).alloc (.cells (A8 16 fun _ => 0#8) 23)
  have ho := Blk.new (w.alloc (.cells (A8 16 d) 23)) (A8 16 fun _ => 0#8) 23
  rw [World.size_alloc] at ho
  have hB : Below w.heap.size w ((w.alloc (.cells (A8 16 d) 23)).alloc (.cells (A8 16 fun _ => 0#8) 23)) := ((Below.refl _ _).alloc (Nat.le_refl _) _).alloc (by simp) _
  have hcv := conv_dl k1
  have hsum := fun w : World => run_string_add_sum (P := Tryd.prog) w ⟨#[0]⟩ (strOf (dl d)) (by rw [size_strOf, dl_length]; decide)
  generalize strOf (dl d) = X at c1 hcv hsum
  generalize (⟨#[0]⟩ : ByteArray) ++ X = Y at c1 hsum
  generalize leafD d = D at c1 ⊢
  go_enter Tryd.func77, Tryd.ntmps77
  go_wp2_with fail
  refine (c1 _).mono ?_
  rintro e W1 ⟨rfl, hb⟩
  replace hB := hB.trans (hb.mono hB.size)
  replace ho := ho.below hb ho.lt
  go_wp2_with (refine wp_storeRow (C' := A8 16 D) rfl 23 _ _ rfl _ rfl rfl ho size23 (A8.size _ _) (A8.size _ _) (A8.one _) rfl ?_; intro W4 hu k9)
  exact ret_row rfl (w.heap.size + 1) rfl k9 Tryd.underlying23 rfl size23 (A8.size _ _) rfl ⟨rfl, hu.below hB (by omega)⟩

set_option maxRecDepth 20000 in
set_option maxHeartbeats 400000 in
theorem rleaf_any (d : Nat → BitVec 8) (w : World) (hKK : KAt w) :
    Calls Tryd.prog 81 #[.agg (A8 16 d)] w fun e w' => e = .returned (.agg (A8 16 (leafD d))) ∧ Below w.heap.size w w' := by
  have hbx := box23 d
  have c1 := fun w hk => rsum_any (⟨#[0]⟩ ++ strOf (dl d)) (by rw [ByteArray.size_append, size_strOf, dl_length]; decide) w hk
  simp only [leaf_bytes] at c1
  have k1 := (Blk.new w (A8 16 d) 23).alloc (.cells (A8 16 fun _ => 0#8) 23)
  have ho := Blk.new (w.alloc (.cells (A8 16 d) 23)) (A8 16 fun _ => 0#8) 23
  rw [World.size_alloc] at ho
  have hB : Below w.heap.size w ((w.alloc (.cells (A8 16 d) 23)).alloc (.cells (A8 16 fun _ => 0#8) 23)) := ((Below.refl _ _).alloc (Nat.le_refl _) _).alloc (by simp) _
  have hcv := conv_dl k1
  have hsum := fun w : World => run_string_add_sum (P := Tryd.prog) w ⟨#[0]⟩ (strOf (dl d)) (by rw [size_strOf, dl_length]; decide)
  generalize strOf (dl d) = X at c1 hcv hsum
  generalize (⟨#[0]⟩ : ByteArray) ++ X = Y at c1 hsum
  generalize leafD d = D at c1 ⊢
  go_enter Tryd.func81, Tryd.ntmps81
  go_wp2_with fail
  refine (c1 _ (hKK.below hKK.pos hB)).mono ?_
  rintro e W1 ⟨rfl, hb⟩
  replace hB := hB.trans (hb.mono hB.size)
  replace ho := ho.below hb ho.lt
  go_wp2_with (refine wp_storeRow (C' := A8 16 D) rfl 23 _ _ rfl _ rfl rfl ho size23 (A8.size _ _) (A8.size _ _) (A8.one _) rfl ?_; intro W4 hu k9)
  exact ret_row rfl (w.heap.size + 1) rfl k9 Tryd.underlying23 rfl size23 (A8.size _ _) rfl ⟨rfl, hu.below hB (by omega)⟩

end Go.Proofs.YtdpgebifeaakjaaDoor

/- What came in through the door. -/

/- What the row's condition on the library's table gives the walks; a start that meets it. -/
namespace Go.Proofs.YtdpgebifeaakjaaDoor
set_option linter.unusedSimpArgs false
set_option linter.unusedVariables false
open Go.ChangeShapes Go.WideShapes Go.ChangeAt Go.RowKit

theorem own : ownKnob Tryd.prog.godebug = none := by kernel_rfl
theorem g64 : Tryd.prog.globalNamed "math/bits.deBruijn64tab" = some 3 := by kernel_rfl
theorem gt64 : (Tryd.prog.globals[3]?).map (·.type) = some 185 := by kernel_rfl
def laid2 : List (String × DataW Unit) := [("math/bits.deBruijn32tab", Rows.laid_math_bits_deBruijn32tab), ("math/bits.deBruijn64tab", Rows.laid_math_bits_deBruijn64tab)]

/-- An array of bytes that reads as listed holds them. -/
theorem bytes_of_trod {H : Type} {enc : TypeId × Value → H} {W : World} {base : Nat} {spare : Nat → Bool} {held : Bool} {fuel T n : Nat} {cs : List Value} {L : List Nat} {p : List MemPlace}
    (ht : Tryd.prog.underlying T = some (.array n 5)) (hL : L.length = n) (h : DataW.trod enc Tryd.prog W base spare held fuel T cs = some (.agg (L.map fun k : Nat => .lit (.int .u8 (k : Int))), p)) :
    ∀ i, i < n → cs[i]? = some (.int .u8 ((L.getD i 0 : Nat) : Int)) := by
  intro i hi
  obtain ⟨xs, m, _, hx, _, hn, hel⟩ := DataW.trod_array ht h
  simp only [Prod.mk.injEq, DataW.agg.injEq] at hx
  have c5 : Tryd.prog.cellsOf 5 = 1 := by kernel_rfl
  have hi' := hel i hi
  rw [c5, Nat.mul_one] at hi'
  have hix : i < xs.length := by omega
  rw [List.getElem?_eq_getElem hix] at hi'
  obtain ⟨k, e1, e2, _⟩ := DataW.trod_int Tryd.underlying5 hi'
  have hk : (xs.map (·.1))[i]? = some (.lit (.int .u8 k)) := by
    rw [List.getElem?_map, List.getElem?_eq_getElem hix, e2]; rfl
  rw [← hx.1, List.getElem?_map, List.getElem?_eq_getElem (by omega : i < L.length)] at hk
  have hk' : ((L[i]'(by omega) : Nat) : Int) = k := by simpa using hk
  have hc : cs[i]? = some (.int .u8 k) := by
    have := congrArg (fun l => l[0]?) e1
    simpa using this
  rw [hc, ← hk']
  simp [List.getD_eq_getElem?_getD, List.getElem?_eq_getElem (by omega : i < L.length)]

end Go.Proofs.YtdpgebifeaakjaaDoor

/- The frame of a law's row: the arguments read as they read before where nothing old has turned; no parameter wants a stand-in. -/
namespace Go.Proofs.YtdpgebifeaakjaaDoor
set_option linter.unusedSimpArgs false
set_option linter.unusedVariables false
open Go.ChangeShapes Go.WideShapes Go.ChangeAt Go.RowKit

theorem laidOut_ok : laidOutB Tryd.prog = true := by kernel_rfl
theorem trodAll_stays_of {P : Program} (hl : laidOutB P = true) {H : Type} {enc : TypeId × Value → H} {W W' : World} (hb : Below W.heap.size W W') :
    ∀ (ts : List TypeId) (vs : List Value) (ds : List (DataW H)) (p : List MemPlace), (ts.all fun t => P.readableRec t && decide (t < P.types.size)) = true →
      DataW.TrodAll enc P W 0 (fun _ => true) true ts vs ds p → (∀ x ∈ p, x.block < W.heap.size) → DataW.TrodAll enc P W' 0 (fun b => decide (b < W.heap.size)) true ts vs ds p := by
  intro ts
  induction ts with
  | nil =>
    intro vs ds p _ h _
    obtain ⟨rfl, rfl, rfl⟩ := trodAll_nil h
    exact trodAll_mk0
  | cons t ts ih =>
    intro vs ds p hr h hlt
    obtain ⟨v, vs', d, ds', p1, p2, rfl, rfl, rfl, h1, h2⟩ := trodAll_cons h
    rw [List.all_cons, Bool.and_eq_true, Bool.and_eq_true, decide_eq_true_eq] at hr
    exact trodAll_cons_mk (Below.trod hl hr.1.1 hr.1.2 h1 hb fun x hx => hlt x (List.mem_append_left _ hx))
      (ih vs' ds' p2 hr.2 h2 fun x hx => hlt x (List.mem_append_right _ hx))
/-- All arguments read behind the call as they read before. -/
theorem trodAll_stays {H : Type} {enc : TypeId × Value → H} {W W' : World} (hb : Below W.heap.size W W') (ts : List TypeId) (vs : List Value) (ds : List (DataW H)) (p : List MemPlace)
    (hr : (ts.all fun t => Tryd.prog.readableRec t && decide (t < Tryd.prog.types.size)) = true) (h : DataW.TrodAll enc Tryd.prog W 0 (fun _ => true) true ts vs ds p) (hlt : ∀ x ∈ p, x.block < W.heap.size) :
    DataW.TrodAll enc Tryd.prog W' 0 (fun b => decide (b < W.heap.size)) true ts vs ds p := trodAll_stays_of laidOut_ok hb ts vs ds p hr h hlt
theorem no_stand_ins (ts : Array TypeId) (h : (ts.toList.all fun t => !Tryd.prog.wantsStandIn t) = true) : ∀ (j : Nat) t, ts[j]? = some t → Tryd.prog.wantsStandIn t = false := by
  intro j t ht
  rw [List.all_eq_true] at h
  have := h t (by rw [Array.mem_toList_iff]; exact Array.mem_of_getElem? ht)
  simpa using this
end Go.Proofs.YtdpgebifeaakjaaDoor

/- A digest that came in, opened. -/
namespace Go.Proofs.YtdpgebifeaakjaaDoor
set_option linter.unusedSimpArgs false
set_option linter.unusedVariables false
open Go.ChangeShapes Go.WideShapes Go.ChangeAt Go.RowKit

theorem cells5 : Tryd.prog.cellsOf 5 = 1 := by kernel_rfl
/-- Cells that read as n bytes are n bytes. -/
theorem bytes_of_row {H : Type} {enc : TypeId × Value → H} {W : World} {base : Nat} {spare : Nat → Bool} {held : Bool} {fuel T n : Nat} {cs : List Value} {x : DataW H × List MemPlace}
    (ht : Tryd.prog.underlying T = some (.array n 5)) (hn : cs.length = n) (h : DataW.trod enc Tryd.prog W base spare held fuel T cs = some x) : ∃ f : Nat → BitVec 8, cs = (A8 n f).toList := by
  obtain ⟨xs, m, _, _, _, hxn, hel⟩ := DataW.trod_array ht h
  have key : ∀ i, i < n → ∃ b : BitVec 8, cs[i]? = some (U8 b) := fun i hi => by
    have hi' := hel i hi
    rw [cells5, Nat.mul_one, List.getElem?_eq_getElem (by omega)] at hi'
    obtain ⟨k, e1, _, e3⟩ := DataW.trod_int Tryd.underlying5 hi'
    obtain ⟨k0, k1⟩ := bounds_u8 e3
    have hc : cs[i]? = some (.int .u8 k) := by
      have := congrArg (fun l => l[0]?) e1
      simpa using this
    exact ⟨BitVec.ofInt 8 k, by rw [hc, U8_lit k k0 (by omega)]⟩
  refine ⟨fun i => match cs[i]? with | some (.int _ k) => BitVec.ofInt 8 k | _ => 0#8, ?_⟩
  apply List.ext_getElem?
  intro i
  by_cases hi : i < n
  · obtain ⟨b, hb⟩ := key i hi
    have hr : (A8 n fun i => match cs[i]? with | some (.int _ k) => BitVec.ofInt 8 k | _ => 0#8).toList[i]? = some (U8 (match cs[i]? with | some (.int _ k) => BitVec.ofInt 8 k | _ => 0#8)) := by
      rw [Array.getElem?_toList, A8.get _ hi]
    rw [hr, hb]
    simp only [ofInt_n8]
  · rw [List.getElem?_eq_none (by omega), List.getElem?_eq_none (by rw [Array.length_toList, A8.size]; omega)]
theorem cells23 : Tryd.prog.cellsOf 23 = 16 := by kernel_rfl
theorem okWide_arr {P : Program} {w : World} {r : Reach} {b0 t n e : Nat} {v : Value} (hu : P.underlying t = some (.array n e)) (hv : Value.okWide P w r b0 t v) : ∃ cs, v = .agg cs ∧ cs.size = P.cellsOf t := by
  unfold Value.okWide at hv
  rw [hu] at hv
  obtain ⟨cs, h1, h2, _⟩ := hv
  exact ⟨cs, h1, h2⟩
set_option maxRecDepth 20000 in
theorem open_dig {H : Type} {enc : TypeId × Value → H} {W : World} {base b0 : Nat} {spare : Nat → Bool} {held : Bool} {r : Reach} {v : Value} {d : DataW H} {p : List MemPlace}
    (hv : Value.okWide Tryd.prog W r b0 23 v) (h : DataW.Trod enc Tryd.prog W base spare held 23 v d p) : ∃ f : Nat → BitVec 8, v = .agg (A8 16 f) := by
  obtain ⟨cs, rfl, hsz⟩ := okWide_arr Tryd.underlying23 hv
  rw [cells23] at hsz
  obtain ⟨fuel, hf⟩ := h
  obtain ⟨f, hc⟩ := bytes_of_row (n := 16) Tryd.underlying23 hsz hf
  refine ⟨f, ?_⟩
  have : cs = A8 16 f := by
    rw [← Array.toList_inj]
    exact hc
  rw [this]
end Go.Proofs.YtdpgebifeaakjaaDoor

/- What the row's condition on the round constants gives the walks; a state that came in, opened. -/
namespace Go.Proofs.YtdpgebifeaakjaaDoor
set_option linter.unusedSimpArgs false
set_option linter.unusedVariables false
open Go.ChangeShapes Go.WideShapes Go.ChangeAt Go.RowKit

def laid3 : List (String × DataW Unit) := [("math/bits.deBruijn32tab", Rows.laid_math_bits_deBruijn32tab), ("math/bits.deBruijn64tab", Rows.laid_math_bits_deBruijn64tab), ("understory/understoryref02.constants", Rows.laid_understory_understoryref02_constants)]
theorem gK : Tryd.prog.globalNamed "understory/understoryref02.constants" = some 0 := by kernel_rfl
theorem gtK : (Tryd.prog.globals[0]?).map (·.type) = some 123 := by kernel_rfl
theorem cells42 : Tryd.prog.cellsOf 42 = 1 := by kernel_rfl
theorem laidK_eq {H : Type} : (Rows.laid_understory_understoryref02_constants : DataW H) = .agg (roundList.map fun k : Nat => .lit (.int .u32 (k : Int))) := by kernel_rfl
/-- An array of words that reads as listed holds them. -/
theorem words_of_trod {H : Type} {enc : TypeId × Value → H} {W : World} {base : Nat} {spare : Nat → Bool} {held : Bool} {fuel T n : Nat} {cs : List Value} {L : List Nat} {p : List MemPlace}
    (ht : Tryd.prog.underlying T = some (.array n 42)) (hL : L.length = n) (h : DataW.trod enc Tryd.prog W base spare held fuel T cs = some (.agg (L.map fun k : Nat => .lit (.int .u32 (k : Int))), p)) :
    ∀ i, i < n → cs[i]? = some (.int .u32 ((L.getD i 0 : Nat) : Int)) := by
  intro i hi
  obtain ⟨xs, m, _, hx, _, hn, hel⟩ := DataW.trod_array ht h
  simp only [Prod.mk.injEq, DataW.agg.injEq] at hx
  have hi' := hel i hi
  rw [cells42, Nat.mul_one] at hi'
  have hix : i < xs.length := by omega
  rw [List.getElem?_eq_getElem hix] at hi'
  obtain ⟨k, e1, e2, _⟩ := DataW.trod_int Tryd.underlying42 hi'
  have hk : (xs.map (·.1))[i]? = some (.lit (.int .u32 k)) := by
    rw [List.getElem?_map, List.getElem?_eq_getElem hix, e2]; rfl
  rw [← hx.1, List.getElem?_map, List.getElem?_eq_getElem (by omega : i < L.length)] at hk
  have hk' : ((L[i]'(by omega) : Nat) : Int) = k := by simpa using hk
  have hc : cs[i]? = some (.int .u32 k) := by
    have := congrArg (fun l => l[0]?) e1
    simpa using this
  rw [hc, ← hk']
  simp [List.getD_eq_getElem?_getD, List.getElem?_eq_getElem (by omega : i < L.length)]
theorem roundList_small : roundList.all (fun k => decide (k < 4294967296)) = true := by decide +kernel
theorem roundK_lit (j : Nat) : Value.int .u32 ((roundList.getD j 0 : Nat) : Int) = U32 (roundK j) := by
  have h : roundList.getD j 0 < 4294967296 := by
    by_cases hj : j < roundList.length
    · rw [List.getD, List.getElem?_eq_getElem hj]
      exact of_decide_eq_true (List.all_eq_true.1 roundList_small _ (List.getElem_mem hj))
    · rw [List.getD, List.getElem?_eq_none (by omega)]; decide
  rw [U32_lit _ (by omega) (by omega), roundK, BitVec.ofInt_natCast]
theorem laid3_parts {W : World} (h : laidMetH Tryd.prog laid3 W) : TabAt 3 Lib.deBruijn64tab W ∧ KAt W := by
  rw [MakeChecks.laidMetH_plain _ _ _ (by kernel_rfl)] at h
  obtain ⟨ps, ⟨g0, t0, cs0, f0, p0, q0, hg0, ht0, hv0, hd0, ⟨g1, t1, cs1, f1, p1, q1, hg1, ht1, hv1, hd1, ⟨g2, t2, cs2, f2, p2, q2, hg2, ht2, hv2, hd2, _, _⟩, _⟩, _⟩, _, _⟩ := h
  obtain rfl := Option.some.inj (g64.symm.trans hg1)
  obtain rfl := Option.some.inj (gt64.symm.trans ht1)
  obtain rfl := Option.some.inj (gK.symm.trans hg2)
  obtain rfl := Option.some.inj (gtK.symm.trans ht2)
  refine ⟨fun j hj => ?_, fun j hj => ?_⟩
  · have hj64 : j < 64 := hj
    have hb := bytes_of_trod (L := Lib.deBruijn64tab) Tryd.underlying185 rfl hd1 j hj64
    have := World.var?_cell hg1 hv1 j
    rw [this, ← Array.getElem?_toList]
    exact hb
  · rw [laidK_eq] at hd2
    have hb := words_of_trod (L := roundList) Tryd.underlying123 (by decide +kernel) hd2 j hj
    have := World.var?_cell hg2 hv2 j
    rw [this, ← Array.getElem?_toList, hb, roundK_lit]
theorem tab_of_laid3 {W : World} (h : laidMetH Tryd.prog laid3 W) : TabAt 3 Lib.deBruijn64tab W := (laid3_parts h).1
theorem k_of_laid3 {W : World} (h : laidMetH Tryd.prog laid3 W) : KAt W := (laid3_parts h).2
theorem door_met3 (os : Os) (args : Array Value) : laidMetH Tryd.prog laid3 ((World.doorLaid Tryd.prog 400 os).forCall (fun _ _ => 0) ⟨#[], args, []⟩).memory :=
  laidMetH_of_parts3 (fuel := 8) (laidMet_of_run' 8 (by kernel_rfl) (by kernel_rfl)) (by kernel_rfl) (by kernel_rfl)
end Go.Proofs.YtdpgebifeaakjaaDoor

/- A state that came in, opened; a state compared with itself. -/
namespace Go.Proofs.YtdpgebifeaakjaaDoor
set_option linter.unusedSimpArgs false
set_option linter.unusedVariables false
open Go.ChangeShapes Go.WideShapes Go.ChangeAt Go.RowKit

end Go.Proofs.YtdpgebifeaakjaaDoor

/- The walk of DigestStates: true. -/
namespace Go.Proofs.YtdpgebifeaakjaaDoor
set_option linter.unusedSimpArgs false
set_option linter.unusedVariables false
open Go.RowKit

/-- An array loaded, whether the load is guarded or not. -/
theorem wp_loadRun {P : Program} {ops : Array Oper} {rest : List Oper} {o : Oper} {a : Act} {w : World} {Q : Exit → Act → World → Prop} (hw : Region.wanted o (yielded ops a.tmps) = true) (ty : TypeId) (x : Operand) (ho : o.op = .load ty x)
    (b off : Nat) (hx : a.eval x = .pointer (some ⟨b, off, none⟩)) {C : Array Value} (hrun : (loadVar ty ⟨b, off, none⟩).run P w = .ok (.agg C) w)
    (h : wpList P ops Q rest (a.put o.dst (.agg C)) w) : wpList P ops Q (o :: rest) a w := by
  refine wpList_step fun K hK => ?_
  rw [if_pos hw]
  unfold Oper.wp execOp
  simp only [ho, hx, Instr.loadAt, Instr.sureAddr, Sem.run_bind, Sem.run_pure, Result.andThen_ok, hrun]
  exact hK _ _ h
end Go.Proofs.YtdpgebifeaakjaaDoor

/- Trees in plain; slices of digests. -/

/- Trees in plain; a slice of digests, as it lies. -/
namespace Go.Proofs.YtdpgebifeaakjaaDoor
set_option linter.unusedSimpArgs false
set_option linter.unusedVariables false
open Go.RowKit

/-- The digest of a tree (f: how deep at most). -/
def treeF : Nat → Nat → (Nat → Nat → BitVec 8) → (Nat → BitVec 8)
  | 0, _, _ => sha []
  | f + 1, n, D => if n = 0 then sha [] else if n = 1 then leafD (D 0) else nodeD (treeF f (halfN n) D) (treeF f (n - halfN n) fun j => D (halfN n + j))
theorem treeF_step (f n : Nat) (D : Nat → Nat → BitVec 8) (h0 : ¬ n = 0) (h1 : ¬ n = 1) : treeF (f + 1) n D = nodeD (treeF f (halfN n) D) (treeF f (n - halfN n) fun j => D (halfN n + j)) := by
  rw [treeF, if_neg h0, if_neg h1]
/-- A slice of digests, as it lies. -/
def Digs (W : World) (v : Value) (n : Nat) (D : Nat → Nat → BitVec 8) : Prop :=
  ∃ p cap, v = .slice p n cap ∧ n ≤ cap ∧ ∀ j, j < n → ∃ g o, p = some ⟨g, o, none⟩ ∧ W.rangeAt g (o + j * 16) (A8 16 (D j)).toList
theorem Digs.below {W W' : World} {v : Value} {n : Nat} {D : Nat → Nat → BitVec 8} (h : Digs W v n D) (hb : Below W.heap.size W W') : Digs W' v n D := by
  obtain ⟨p, cap, h1, h2, h3⟩ := h
  refine ⟨p, cap, h1, h2, fun j hj => ?_⟩
  obtain ⟨g, o, e, hr⟩ := h3 j hj
  exact ⟨g, o, e, rangeAt_below hr hb⟩
theorem Digs.left {W : World} {g o n cap : Nat} {D : Nat → Nat → BitVec 8} (h : Digs W (.slice (some ⟨g, o, none⟩) n cap) n D) (m : Nat) (hm : m ≤ n) : Digs W (.slice (some ⟨g, o, none⟩) m cap) m D := by
  obtain ⟨p, c, h1, h2, h3⟩ := h
  injection h1 with a b c'
  subst a c'
  exact ⟨_, _, rfl, by omega, fun j hj => h3 j (by omega)⟩
theorem Digs.right {W : World} {g o n cap : Nat} {D : Nat → Nat → BitVec 8} (h : Digs W (.slice (some ⟨g, o, none⟩) n cap) n D) (m : Nat) (hm : m ≤ n) : Digs W (.slice (some ⟨g, o + m * 16, none⟩) (n - m) (cap - m)) (n - m) (fun j => D (m + j)) := by
  obtain ⟨p, c, h1, h2, h3⟩ := h
  injection h1 with a b c'
  subst a c'
  refine ⟨_, _, rfl, by omega, fun j hj => ?_⟩
  obtain ⟨g', o', e, hr⟩ := h3 (m + j) (by omega)
  injection e with e
  injection e with e1 e2
  subst e1 e2
  refine ⟨_, _, rfl, ?_⟩
  rw [show o + m * 16 + j * 16 = o + (m + j) * 16 by omega]
  exact hr
theorem run_dig {W : World} {g o : Nat} {d : Nat → BitVec 8} (h : W.rangeAt g (o + 0 * 16) (A8 16 d).toList) : (loadVar 23 ⟨g, o, none⟩).run Tryd.prog W = .ok (.agg (A8 16 d)) W := by
  rw [Nat.zero_mul, Nat.add_zero] at h
  have := run_loadVar_mid W g o 23 (A8 16 d).toList _ h Tryd.underlying23 rfl (by rw [Array.length_toList, A8.size]; exact size23)
  rw [Array.toArray_toList] at this
  exact this
end Go.Proofs.YtdpgebifeaakjaaDoor

/- Rows of digests that grow: steps. -/
namespace Go.Proofs.YtdpgebifeaakjaaDoor
set_option linter.unusedSimpArgs false
set_option linter.unusedVariables false
open Go.RowKit

theorem build80 (T : Nat → BitVec 8) (w : World) : (Instr.buildSlice 80 1 #[(0, .agg (A8 16 T))]).run Tryd.prog w = .ok (.slice (some ⟨w.heap.size, 0, none⟩) 1 1) (w.alloc (.cells (A8 16 T) 23)) := by kernel_rfl
theorem info23 : (Tryd.prog.info? 23).map (fun i => (i.zero, i.size, i.bytes)) = some (some (.agg (A8 16 fun _ => 0#8)), 16, 16) := by kernel_rfl
/-- The cells of k digests. -/
def digCells (T : Nat → Nat → BitVec 8) : Nat → List Value
  | 0 => []
  | k + 1 => digCells T k ++ (A8 16 (T k)).toList
theorem digCells_length (T : Nat → Nat → BitVec 8) : ∀ k, (digCells T k).length = k * 16
  | 0 => rfl
  | k + 1 => by rw [digCells, List.length_append, digCells_length T k, Array.length_toList, A8.size]; omega
theorem digCells_at (T : Nat → Nat → BitVec 8) : ∀ (k i j : Nat), i < k → j < 16 → (digCells T k)[i * 16 + j]? = some (U8 (T i j))
  | 0, _, _, h, _ => by omega
  | k + 1, i, j, h, hj => by
    rw [digCells]
    by_cases e : i < k
    · rw [List.getElem?_append_left (by rw [digCells_length]; omega), digCells_at T k i j e hj]
    · have e' : i = k := by omega
      subst e'
      rw [List.getElem?_append_right (by rw [digCells_length]; omega), digCells_length, Nat.add_sub_cancel_left, Array.getElem?_toList, A8.get _ hj]
/-- A step of a region that makes a slice of one digest. -/
theorem step_build80 {ops : Array Oper} {o : Oper} {a : Act} {w : World} {K : Act → World → Prop} {Q : Exit → Act → World → Prop} {E : Prop} (hgd : o.guard = none) (x : Operand) (ho : o.op = .buildSlice 80 1 #[(0, x)])
    {T : Nat → BitVec 8} (hx : a.eval x = .agg (A8 16 T))
    (h : K (a.put o.dst (.slice (some ⟨w.heap.size, 0, none⟩) 1 1)) (w.alloc (.cells (A8 16 T) 23))) : if Region.wanted o (yielded ops a.tmps) = true then Oper.wp Tryd.prog o a w K Q else E := by
  have hw : Region.wanted o (yielded ops a.tmps) = true := by simp [Region.wanted, hgd]
  rw [if_pos hw]
  unfold Oper.wp execOp
  have e : (#[(0, x)].map fun (i, x) => (i, a.eval x)) = #[(0, .agg (A8 16 T))] := by
    simp [hx]
  simp only [ho, Sem.run_bind, e, build80, Result.andThen_ok, Sem.run_pure]
  exact h
/-- Owned cells that are digests read as a slice of them. -/
theorem Digs.of_owns {W : World} {base k : Nat} {v : Value} {T : Nat → Nat → BitVec 8} (h : W.ownsRow base 23 16 v k (digCells T k)) : Digs W v k T := by
  obtain ⟨_, ⟨rfl, rfl⟩ | ⟨g, cap, cur, rfl, _, hh, hk, _, hc, ht⟩⟩ := h
  · exact ⟨none, 0, rfl, Nat.le_refl _, fun j hj => by omega⟩
  · refine ⟨_, cap, rfl, hk, fun i hi => ⟨g, 0, rfl, fun j v hv => ?_⟩⟩
    have hj : j < 16 := by
      have := (List.getElem?_eq_some_iff.1 hv).1
      rw [Array.length_toList, A8.size] at this
      exact this
    rw [Array.getElem?_toList, A8.get _ hj] at hv
    have e : (cur.toList.take (k * 16))[i * 16 + j]? = (digCells T k)[i * 16 + j]? := by rw [ht]
    rw [digCells_at T k i j hi hj, List.getElem?_take_of_lt (by omega), Array.getElem?_toList] at e
    rw [← hv, ← e]
    simp [World.cell?, hh]
end Go.Proofs.YtdpgebifeaakjaaDoor

/- Two runs of digests as one. -/
namespace Go.Proofs.YtdpgebifeaakjaaDoor
set_option linter.unusedSimpArgs false
set_option linter.unusedVariables false

theorem digCells_congr {T U : Nat → Nat → BitVec 8} : ∀ k, (∀ i, i < k → T i = U i) → digCells T k = digCells U k
  | 0, _ => rfl
  | k + 1, h => by rw [digCells, digCells, digCells_congr k fun i hi => h i (by omega), h k (by omega)]
/-- Two runs joined. -/
def joinT (k : Nat) (T U : Nat → Nat → BitVec 8) (i : Nat) : Nat → BitVec 8 := if i < k then T i else U (i - k)
theorem digCells_join (T U : Nat → Nat → BitVec 8) (k : Nat) : ∀ m, digCells T k ++ digCells U m = digCells (joinT k T U) (k + m)
  | 0 => by
    rw [digCells, List.append_nil]
    exact digCells_congr k fun i hi => by rw [joinT, if_pos hi]
  | m + 1 => by
    rw [← Nat.add_assoc, digCells, digCells, ← digCells_join T U k m, List.append_assoc]
    congr 3
    rw [joinT, if_neg (by omega), Nat.add_sub_cancel_left]
end Go.Proofs.YtdpgebifeaakjaaDoor

/- The specification's Same, of two slices that read alike. -/
namespace Go.Proofs.YtdpgebifeaakjaaDoor
set_option linter.unusedSimpArgs false
set_option linter.unusedVariables false
open Go.RowKit

end Go.Proofs.YtdpgebifeaakjaaDoor

/- A slice of digests that came in, opened. -/
namespace Go.Proofs.YtdpgebifeaakjaaDoor
set_option linter.unusedSimpArgs false
set_option linter.unusedVariables false
open Go.ChangeShapes Go.WideShapes Go.ChangeAt Go.RowKit

set_option maxRecDepth 20000 in
theorem open_digs {H : Type} {enc : TypeId × Value → H} {W : World} {base b0 : Nat} {spare : Nat → Bool} {held : Bool} {r : Reach} {v : Value} {d : DataW H} {p : List MemPlace}
    (hv : Value.okWide Tryd.prog W r b0 80 v) (h : DataW.Trod enc Tryd.prog W base spare held 80 v d p) : ∃ (n : Nat) (D : Nat → Nat → BitVec 8), Digs W v n D ∧ n ≤ maxLen := by
  obtain ⟨a0, len, cap, rfl⟩ := okWide_slice Tryd.underlying80 hv
  obtain ⟨fuel, hf⟩ := h
  rcases Go.Deep.open_slice Tryd.underlying80 hf with ⟨hcs, hx⟩ | ⟨a, len', cap', m, n, E, Pl, hcs, hb, hle, hmax, hm, hx, hel⟩
  · simp [Value.cells] at hcs
    obtain ⟨rfl, rfl, rfl⟩ := hcs
    exact ⟨0, fun _ _ => 0#8, ⟨none, 0, rfl, Nat.le_refl _, fun j hj => by omega⟩, by decide⟩
  · simp [Value.cells] at hcs
    obtain ⟨rfl, rfl, rfl⟩ := hcs
    have hlm : len ≤ m := by rw [hm]; split <;> omega
    have key : ∀ i, i < len → ∃ f : Nat → BitVec 8, ∀ j, j < 16 → W.cell? ((a.add (i * 16)).add j) = some (U8 (f j)) := fun i hi => by
      obtain ⟨cs', h1, h2⟩ := hel i (by omega)
      rw [cells23] at h1
      obtain ⟨_, hl, hc⟩ := World.cells?_some h1
      obtain ⟨f, hcf⟩ := bytes_of_row (n := 16) Tryd.underlying23 hl h2
      refine ⟨f, fun j hj => ?_⟩
      rw [hc j (by omega), hcf, Array.getElem?_toList, A8.get _ hj]
    obtain ⟨D, hD⟩ := Go.Deep.choose_lt (α := Nat → BitVec 8) (p := fun i f => ∀ j, j < 16 → W.cell? ((a.add (i * 16)).add j) = some (U8 (f j))) (n := len) key
    refine ⟨len, D, ⟨some a, cap, rfl, hle, fun i hi => ?_⟩, Nat.le_trans hle hmax⟩
    have hp := hD i hi
    obtain ⟨b, o, spot⟩ := a
    have hspot : spot = none := by simpa [Addr.add] using World.cell?_spot (hD 0 (by omega) 0 (by omega))
    subst hspot
    refine ⟨b, o, rfl, fun j v hv => ?_⟩
    have hj : j < 16 := by
      have := (List.getElem?_eq_some_iff.1 hv).1
      rw [Array.length_toList, A8.size] at this
      exact this
    rw [Array.getElem?_toList, A8.get _ hj] at hv
    have hv' : U8 (D i j) = v := by simpa using hv
    have := hp j hj
    rw [Go.WideShapes.add_plain, Go.WideShapes.add_plain] at this
    rw [this, hv']
end Go.Proofs.YtdpgebifeaakjaaDoor

