/- The examples of the chapter, reckoned by the kernel. -/
import Derived.Test.YtdpgebifeaakjaaDoorH2
import Derived.Test.YtdpgebifeaakjaaDoorL1
import Derived.Test.YtdpgebifeaakjaaDoorL2
import Derived.Test.YtdpgebifeaakjaaDoorR4
namespace Go.Proofs.YtdpgebifeaakjaaDoor
set_option linter.unusedSimpArgs false
set_option linter.unusedVariables false
open Go.RowKit

theorem sha_short (l P : List (BitVec 8)) (ws : List (BitVec 32)) (hl : l.length / 64 = 0) (hP : l ++ padList l.length (BitVec.ofInt 64 (l.length : Int) * 8#64) = P) (h64 : P.length = 64)
    (hw : (List.range 8).map (fun i => startK i + (blockF roundK startK P).getD i 0#32) = ws) : ∀ j, j < 32 → sha l j = digestOf (fun i => ws.getD i 0#32) j := by
  intro j hj
  have h1 : addRest l = l := by rw [addRest, hl]; rfl
  have h2 : addH roundK startK l = startK := by rw [addH, hl]; rfl
  have h3 : addH roundK startK P = shaBlock roundK startK P := by
    rw [addH, h64]
    show shaBlock roundK startK ((P.drop 0).take 64) = _
    rw [List.drop_zero, List.take_of_length_le (by omega)]
  rw [sha, h1, h2, hP, h3, digestOf, digestOf]
  have h8 : j / 4 < 8 := by omega
  have e : shaBlock roundK startK P (j / 4) = ws.getD (j / 4) 0#32 := by
    rw [shaBlock_eq _ _ _ _ h8, ← hw]
    simp [h8]
  rw [e]
theorem hexList_congr {d e : Nat → BitVec 8} (h : ∀ j, j < 32 → d j = e j) : hexList d = hexList e := by
  unfold hexList
  refine List.map_congr_left fun j hj => ?_
  have hj32 : j < 32 := by simpa using hj
  unfold hexCell
  rw [h (j / 2) (by omega)]

theorem hex_empty : strOf (hexList (sha (bts ⟨#[]⟩))) = ⟨#[101, 51, 98, 48, 99, 52, 52, 50, 57, 56, 102, 99, 49, 99, 49, 52, 57, 97, 102, 98, 102, 52, 99, 56, 57, 57, 54, 102, 98, 57, 50, 52]⟩ := by
  rw [show bts ⟨#[]⟩ = [] from rfl, hexList_congr (sha_short [] emptyBlock _ rfl (by decide +kernel) rfl empty_words)]
  kernel_rfl
theorem hex_abc : strOf (hexList (sha (bts ⟨#[97, 98, 99]⟩))) = ⟨#[98, 97, 55, 56, 49, 54, 98, 102, 56, 102, 48, 49, 99, 102, 101, 97, 52, 49, 52, 49, 52, 48, 100, 101, 53, 100, 97, 101, 50, 50, 50, 51]⟩ := by
  rw [show bts ⟨#[97, 98, 99]⟩ = [97#8, 98#8, 99#8] from rfl, hexList_congr (sha_short [97#8, 98#8, 99#8] abcBlock _ rfl (by decide +kernel) rfl abc_words)]
  kernel_rfl

def c1234 : BitVec 32 := crc (bts ⟨#[49, 50, 51, 52]⟩)
def c56789 : BitVec 32 := crc (bts ⟨#[53, 54, 55, 56, 57]⟩)
theorem crc_nine : crc (bts ⟨#[49, 50, 51, 52, 53, 54, 55, 56, 57]⟩) = 3421780262#32 := by decide +kernel
theorem crc_none : crc (bts ⟨#[]⟩) = 0#32 := by decide +kernel
theorem combine_ex : combineS c1234 c56789 5 = (3421780262#32, 0) := by
  rw [combineS, if_pos (by decide), crcShift_eq _ _ (by decide)]
  decide +kernel
theorem patch_ex : patchS c1234 1 (bts ⟨#[51]⟩) (bts ⟨#[57]⟩) = (crc (bts ⟨#[49, 50, 57, 52]⟩), 0) := by
  rw [patchS, if_pos (by decide), crcShift_eq _ _ (by decide)]
  decide +kernel
theorem patch_ex2 : patchS c1234 1 (bts ⟨#[51]⟩) (bts ⟨#[57, 57]⟩) = (0#32, 1) := by
  rw [patchS, if_neg (by decide)]
theorem force_ex : crcExt (crc (bts ⟨#[120]⟩)) (wordBytes (forceW (crc (bts ⟨#[120]⟩)) 7#32)) = 7#32 := by decide +kernel
theorem unhex_ex : unhexV ⟨#[65, 66]⟩ = .tuple #[.agg (A8 16 fun _ => 0#8), .int .i64 2] := by
  rw [unhexV, if_neg (fun h => absurd h.1 (by decide))]
theorem cover_ex : coverL 3 8 = [(3, 1), (4, 4)] := by decide +kernel
end Go.Proofs.YtdpgebifeaakjaaDoor
