/- The walk of sane: the examples hold. -/
import Derived.Test.YtdpgebifeaakjaaDoorE1
namespace Go.Proofs.YtdpgebifeaakjaaDoor
set_option linter.unusedSimpArgs false
set_option linter.unusedVariables false
open Go.RowKit

theorem SlB.below {W W' : World} {u : Value} {l : List (Nat × Nat)} (h : SlB W u l) (hb : Below W.heap.size W W') : SlB W' u l := by
  obtain ⟨p, c, rfl, hc⟩ := h
  refine ⟨p, c, rfl, fun j x hx => ?_⟩
  obtain ⟨g, o, hp, h1, h2⟩ := hc j x hx
  exact ⟨g, o, hp, (hb.cell (World.block_lt_of_cell? W _ h1)).trans h1, (hb.cell (World.block_lt_of_cell? W _ h2)).trans h2⟩
theorem cellsOf_at : ∀ (l : List (Nat × Nat)) (j : Nat) (x : Nat × Nat), l[j]? = some x → (cellsOf l)[j * 2]? = some (.int .i64 x.1) ∧ (cellsOf l)[j * 2 + 1]? = some (.int .i64 x.2)
  | [], j, x, h => by simp at h
  | y :: l, 0, x, h => by
    have : y = x := by simpa using h
    subst this
    exact ⟨rfl, rfl⟩
  | y :: l, j + 1, x, h => by
    have := cellsOf_at l j x (by simpa using h)
    rw [show (j + 1) * 2 = j * 2 + 1 + 1 by omega]
    exact this
theorem cellsOf_length : ∀ l, (cellsOf l).length = l.length * 2
  | [] => rfl
  | _ :: l => by simp [cellsOf, cellsOf_length l]; omega
theorem SlB.of_owns {W : World} {base : Nat} {v : Value} {l : List (Nat × Nat)} (h : W.ownsRow base 106 2 v l.length (cellsOf l)) : SlB W v l := by
  rcases h.2 with ⟨rfl, h0⟩ | ⟨g, cap, cur, rfl, hrest⟩
  · have : l = [] := List.eq_nil_of_length_eq_zero h0
    subst this
    exact ⟨none, 0, rfl, fun j x hx => by simp at hx⟩
  · refine ⟨_, cap, rfl, fun j x hx => ?_⟩
    obtain ⟨c1, c2⟩ := cellsOf_at l j x hx
    have hj : j < l.length := (List.getElem?_eq_some_iff.1 hx).1
    exact ⟨g, 0, rfl, by rw [Nat.zero_add, World.ownsRow.cellAt h _ (by omega), c1], by rw [Nat.zero_add, World.ownsRow.cellAt h _ (by omega), c2]⟩

theorem lit_blocks (W : World) : SlB (W.alloc (.cells #[.int .i64 3, .int .i64 1, .int .i64 4, .int .i64 4] 106)) (.slice (some ⟨W.heap.size, 0, none⟩) 2 2) [(3, 1), (4, 4)] := by
  have h := Blk.new W #[.int .i64 3, .int .i64 1, .int .i64 4, .int .i64 4] 106
  refine ⟨_, _, rfl, fun j x hx => ⟨W.heap.size, 0, rfl, ?_⟩⟩
  match j, hx with
  | 0, hx =>
    have : ((3 : Nat), (1 : Nat)) = x := by simpa using hx
    subst this
    exact ⟨(h.cell _).trans rfl, (h.cell _).trans rfl⟩
  | 1, hx =>
    have : ((4 : Nat), (4 : Nat)) = x := by simpa using hx
    subst this
    exact ⟨(h.cell _).trans rfl, (h.cell _).trans rfl⟩
  | j + 2, hx => simp at hx

set_option maxRecDepth 100000 in
set_option maxHeartbeats 4000000 in
theorem sane_any (w : World) (hT : TabAt 3 Lib.deBruijn64tab w) (h3l : 3 < w.heap.size) :
    Calls Tryd.prog 17 #[] w fun e w' => e = .returned (.bool true) ∧ Below w.heap.size w w' := by
  have cmb : ∀ w, Calls Tryd.prog 27 #[U32 (crc (bts ⟨#[49, 50, 51, 52]⟩)), U32 (crc (bts ⟨#[53, 54, 55, 56, 57]⟩)), .int .i64 5] w fun e w' => e = .returned (.tuple #[U32 3421780262#32, .int .i64 0]) ∧ Below w.heap.size w w' := fun w => by
    have h := combine_any c1234 c56789 5 w
    rw [combine_ex] at h
    exact h
  have ptc : ∀ w, Calls Tryd.prog 28 #[U32 (crc (bts ⟨#[49, 50, 51, 52]⟩)), .int .i64 1, .string ⟨#[51]⟩, .string ⟨#[57]⟩] w fun e w' => e = .returned (.tuple #[U32 (crc (bts ⟨#[49, 50, 57, 52]⟩)), .int .i64 0]) ∧ Below w.heap.size w w' := fun w => by
    have h := patch_any c1234 1 ⟨#[51]⟩ ⟨#[57]⟩ w (by decide) (by decide)
    rw [patch_ex] at h
    exact h
  have ptc2 : ∀ w, Calls Tryd.prog 28 #[U32 (crc (bts ⟨#[49, 50, 51, 52]⟩)), .int .i64 1, .string ⟨#[51]⟩, .string ⟨#[57, 57]⟩] w fun e w' => e = .returned (.tuple #[U32 0#32, .int .i64 1]) ∧ Below w.heap.size w w' := fun w => by
    have h := patch_any c1234 1 ⟨#[51]⟩ ⟨#[57, 57]⟩ w (by decide) (by decide)
    rw [patch_ex2] at h
    exact h
  go_enter Tryd.func17, Tryd.ntmps17
  go_wp2_with fail
  refine (crc_any _ _ (by decide)).mono ?_
  rintro e W1 ⟨rfl, hB⟩
  go_wp2_with fail
  refine (crc_any _ _ (by decide)).mono ?_
  rintro e W2 ⟨rfl, hB2⟩
  replace hB := hB.trans (hB2.mono hB.size)
  clear hB2
  go_wp2_with fail
  refine (cmb _).mono ?_
  rintro e W3 ⟨rfl, hB2⟩
  replace hB := hB.trans (hB2.mono hB.size)
  clear hB2 cmb
  go_wp2_with fail
  refine (crc_any _ _ (by decide)).mono ?_
  rintro e W4 ⟨rfl, hB2⟩
  replace hB := hB.trans (hB2.mono hB.size)
  clear hB2
  go_wp2_with fail
  refine (ptc _).mono ?_
  rintro e W5 ⟨rfl, hB2⟩
  replace hB := hB.trans (hB2.mono hB.size)
  clear hB2 ptc
  go_wp2_with fail
  refine (crc_any _ _ (by decide)).mono ?_
  rintro e W6 ⟨rfl, hB2⟩
  replace hB := hB.trans (hB2.mono hB.size)
  clear hB2
  go_wp2_with fail
  refine (ptc2 _).mono ?_
  rintro e W7 ⟨rfl, hB2⟩
  replace hB := hB.trans (hB2.mono hB.size)
  clear hB2 ptc2
  go_wp2_with fail
  have hT7 : TabAt 3 Lib.deBruijn64tab W7 := fun j hj => (hB.cell (p := ⟨3, j, none⟩) h3l).trans (hT j hj)
  have cv := cover_ok 3 8 (by decide) (by decide) W7 hT7 (Nat.lt_of_lt_of_le h3l hB.size)
  rw [cover_ex] at cv
  refine cv.mono ?_
  rintro e W8 ⟨v, rfl, hown, hB2⟩
  have hS := SlB.of_owns hown
  obtain ⟨p, c, rfl, hSc⟩ := id hS
  replace hB := hB.trans (hB2.mono hB.size)
  clear hB2 cv hT7 hown hSc
  have HS := hide hS
  clear hS
  go_wp2_with fail
  have uh := unhex_any ⟨#[65, 66]⟩ (by decide) W8
  rw [unhex_ex] at uh
  refine uh.mono ?_
  rintro e W9 ⟨rfl, hB2⟩
  replace HS := hide (HS.out.below hB2)
  replace hB := hB.trans (hB2.mono hB.size)
  clear hB2 uh
  have hN := Blk.new W9 (A8 16 fun _ => 0#8) 23
  go_wp2_with (refine wp_storeRow rfl 23 _ _ rfl _ rfl rfl hN size23 (A8.size _ _) (A8.size _ _) (A8.one _) rfl ?_; intro W11 hu hN1)
  have hB2 : Below W9.heap.size W9 W11 := hu.below ((Below.refl _ _).alloc (Nat.le_refl _) _) (Nat.le_refl _)
  clear hu hN hN1
  replace HS := hide (HS.out.below hB2)
  replace hB := hB.trans (hB2.mono hB.size)
  clear hB2
  refine (sum_any ⟨#[]⟩ (by decide) _).mono ?_
  rintro e W12 ⟨rfl, hB2⟩
  replace HS := hide (HS.out.below hB2)
  replace hB := hB.trans (hB2.mono hB.size)
  clear hB2
  go_wp2_with fail
  have hx := hex_any (sha (bts ⟨#[]⟩)) W12
  rw [hex_empty] at hx
  refine (hx).mono ?_
  rintro e W13 ⟨rfl, hB2⟩
  replace HS := hide (HS.out.below hB2)
  replace hB := hB.trans (hB2.mono hB.size)
  clear hB2
  go_wp2_with fail
  clear hx
  refine (sum_any ⟨#[97, 98, 99]⟩ (by decide) _).mono ?_
  rintro e W14 ⟨rfl, hB2⟩
  replace HS := hide (HS.out.below hB2)
  replace hB := hB.trans (hB2.mono hB.size)
  clear hB2
  go_wp2_with fail
  have hx := hex_any (sha (bts ⟨#[97, 98, 99]⟩)) W14
  rw [hex_abc] at hx
  refine (hx).mono ?_
  rintro e W15 ⟨rfl, hB2⟩
  replace HS := hide (HS.out.below hB2)
  replace hB := hB.trans (hB2.mono hB.size)
  clear hB2
  go_wp2_with fail
  clear hx
  have hx := crc_any ⟨#[49, 50, 51, 52, 53, 54, 55, 56, 57]⟩ W15 (by decide)
  rw [crc_nine] at hx
  refine (hx).mono ?_
  rintro e W16 ⟨rfl, hB2⟩
  replace HS := hide (HS.out.below hB2)
  replace hB := hB.trans (hB2.mono hB.size)
  clear hB2
  go_wp2_with fail
  clear hx
  have hx := crc_any ⟨#[]⟩ W16 (by decide)
  rw [crc_none] at hx
  refine (hx).mono ?_
  rintro e W17 ⟨rfl, hB2⟩
  replace HS := hide (HS.out.below hB2)
  replace hB := hB.trans (hB2.mono hB.size)
  clear hB2
  go_wp2_with fail
  clear hx
  refine (crc_any ⟨#[49, 50, 57, 52]⟩ _ (by decide)).mono ?_
  rintro e W18 ⟨rfl, hB2⟩
  replace HS := hide (HS.out.below hB2)
  replace hB := hB.trans (hB2.mono hB.size)
  clear hB2
  go_wp2_with fail
  refine (crc_any ⟨#[120]⟩ _ (by decide)).mono ?_
  rintro e W19 ⟨rfl, hB2⟩
  replace HS := hide (HS.out.below hB2)
  replace hB := hB.trans (hB2.mono hB.size)
  clear hB2
  go_wp2_with fail
  refine (crc_any ⟨#[120]⟩ _ (by decide)).mono ?_
  rintro e W20 ⟨rfl, hB2⟩
  replace HS := hide (HS.out.below hB2)
  replace hB := hB.trans (hB2.mono hB.size)
  clear hB2
  go_wp2_with fail
  refine (force_any (crc (bts ⟨#[120]⟩)) 7#32 _).mono ?_
  rintro e W21 ⟨rfl, hB2⟩
  replace HS := hide (HS.out.below hB2)
  replace hB := hB.trans (hB2.mono hB.size)
  clear hB2
  go_wp2_with fail
  have hx := extend_any (crc (bts ⟨#[120]⟩)) (strOf (wordBytes (forceW (crc (bts ⟨#[120]⟩)) 7#32))) W21 (by decide)
  rw [bts_strOf, force_ex] at hx
  refine (hx).mono ?_
  rintro e W22 ⟨rfl, hB2⟩
  replace HS := hide (HS.out.below hB2)
  replace hB := hB.trans (hB2.mono hB.size)
  clear hB2
  go_wp2_with fail
  clear hx
  have hL := HS.out.below ((Below.refl _ _).alloc (Nat.le_refl _) (.cells #[.int .i64 3, .int .i64 1, .int .i64 4, .int .i64 4] 106))
  have hM := lit_blocks W22
  have hB3 := hB.alloc hB.size (.cells #[.int .i64 3, .int .i64 1, .int .i64 4, .int .i64 4] 106)
  clear HS hB
  refine (blocks_any _ _ _ _ _ hL hM (by decide)).mono ?_
  rintro e W23 ⟨rfl, k, rfl⟩
  clear hL hM
  rw [show decide ([((3 : Nat), (1 : Nat)), (4, 4)] = [(3, 1), (4, 4)]) = true from by decide]
  go_wp2_with fail
  go_ret
  exact ⟨rfl, ⟨hB3.os, hB3.tape, hB3.output, hB3.size, hB3.block⟩⟩
end Go.Proofs.YtdpgebifeaakjaaDoor
