/- Texts put together for one claim: part 10. -/
import Derived.Test.YtdpgebifeaakjaaDoorProg
import Derived.WalkKit
import Derived.WalkSpells
import Derived.WalkLawsBesides
import Derived.ChangeKeysEq
import Derived.Deep.RegionHeld3
import Derived.BigQuiet
import Derived.Deep.QuietTactic
import Derived.Deep.MidRow
import Derived.StillTailTactics
import Derived.Laws.AppendOwn
import Derived.Lib.ConvBytes
import Derived.Shelf.Spec.TrailingZeros
import Derived.Laws.FloatArith
import Derived.Laws.CopyOwn
import Derived.BigRegion
import Derived.Deep.Cut
import Derived.ArgAppend
import Derived.Shelf.Strconv.Itoa0
import Derived.RangeFuncNested
import Derived.RangeFuncBound
import Derived.RangeFuncCalls
import Derived.RangeFuncLeaves
import Derived.Shelf.Abstract
import Derived.OwnWalkIn
import Derived.TacticsInMore
import Derived.LoopNIn
import Derived.LoopIn
import Derived.RangeFuncBox
import Derived.Maps.AppendAt
import Derived.Laws.OwnMore
import Derived.Laws.StructEq
import Derived.Deep.RegionHeld
import Derived.Laws.BitsLemmas
import Derived.OwnWalk
import Derived.StillTactics
import Derived.Deep.AppendLies
import Derived.Test.YtdpgebifeaakjaaDoorRows
import Derived.ProofKit
import Derived.LaidMore
import Derived.OpenShut
import Derived.Stop.Joined
import Derived.Carry
import Derived.SevenTiedAt
import Derived.Deep.Slices
import Derived.Laws.AppendOwnNone
import Derived.Defers
import Derived.Recover
import Derived.Test.YtdpgebifeaakjaaDoorX9
/- ways of two parts, walked. -/
namespace Go.Proofs.YtdpgebifeaakjaaDoor
set_option linter.unusedSimpArgs false
set_option linter.unusedVariables false
open Go.RowKit
set_option maxRecDepth 20000 in
set_option maxHeartbeats 1000000 in
theorem ways_step (w0 : World) (x : Nat × Nat) (R R1 R2 : List (Nat × Nat)) (H1 H2 : List (List (BitVec 8))) (a h m b r r1 r2 : Nat) (T0 T1 T2 : Nat → Nat → BitVec 8) (Da Db : Nat → BitVec 8) (v1 v2 : Value) (w : World) (hW0 : Below w0.heap.size w0 w) (hm : 2 ≤ m) (hb : b = a + m) (hb2 : b ≤ 1099511627776) (hh : halfN m = h) (hx : x.2 < m) (hR : R.length ≤ 1000) (hr : r ≤ 1000) (hH1 : H1.length ≤ 1000) (hH2 : H2.length ≤ 1000) (h1 : SlC w0 v1 (x :: R)) (h2 : Digs w0 v2 (r + 1) T0) (hKK : KAt w)
    (base : ∀ W, Below w.heap.size w W → Calls Tryd.prog 119 #[v1, v2, .int .i64 (a : Int), .int .i64 ((a : Int) + (h : Int))] W fun e w' => ∃ u0 u1 u2, e = .returned (.agg (wayC Da u0 u1 u2)) ∧ SlC w0 u1 R1 ∧ Digs w0 u2 r1 T1 ∧ Sees w' 1 u0 H1.length (strCells H1) ∧ Below W.heap.size W w')
    (recu : ∀ u1 u2 W, SlC w0 u1 R1 → Digs w0 u2 r1 T1 → Below w0.heap.size w0 W → KAt W → Calls Tryd.prog 119 #[u1, u2, .int .i64 ((a : Int) + (h : Int)), .int .i64 (b : Int)] W fun e w' => ∃ u0 u1 u2, e = .returned (.agg (wayC Db u0 u1 u2)) ∧ SlC w0 u1 R2 ∧ Digs w0 u2 r2 T2 ∧ Sees w' 1 u0 H2.length (strCells H2) ∧ Below W.heap.size W w') :
    Calls Tryd.prog 119 #[v1, v2, .int .i64 (a : Int), .int .i64 (b : Int)] w fun e w' => ∃ u0 u1 u2, e = .returned (.agg (wayC (nodeD Da Db) u0 u1 u2)) ∧ SlC w0 u1 R2 ∧ Digs w0 u2 r2 T2 ∧ Sees w' 1 u0 (H1 ++ H2 ++ [1#8 :: (dl Da ++ dl Db)]).length (strCells (H1 ++ H2 ++ [1#8 :: (dl Da ++ dl Db)])) ∧ Below w.heap.size w w' := by
  obtain ⟨HX, hHX⟩ : ∃ X, H1 ++ H2 ++ [1#8 :: (dl Da ++ dl Db)] = X := ⟨_, rfl⟩
  rw [hHX]
  have HHX := hide hHX
  clear hHX
  have hfa := halfN_facts m hm (by omega)
  have hsum : (a : Int) + (h : Int) ≤ 1099511627776 := by omega
  obtain ⟨p, c, rfl, hc, hcell⟩ := h1
  obtain ⟨bg, bo, rfl, c0, c1⟩ := hcell 0 _ rfl
  rw [Nat.zero_mul, Nat.add_zero] at c1
  replace c1 := cell_below c1 hW0
  obtain ⟨s, hs⟩ : ∃ s, x.2 = s := ⟨_, rfl⟩
  rw [hs] at c1 hx
  obtain ⟨q, c2, rfl, hc2, hd⟩ := h2
  have ko := Blk.new w (wayC (fun _ => 0#8) (.slice none 0 0) (.slice none 0 0) (.slice none 0 0)) 177
  have hB : Below w.heap.size w (w.alloc (.cells (wayC (fun _ => 0#8) (.slice none 0 0) (.slice none 0 0) (.slice none 0 0)) 177)) := (Below.refl _ _).alloc (Nat.le_refl _) _
  obtain ⟨W1, hW1⟩ : ∃ W1, w.alloc (.cells (wayC (fun _ => 0#8) (.slice none 0 0) (.slice none 0 0) (.slice none 0 0)) 177) = W1 := ⟨_, rfl⟩
  rw [hW1] at ko hB
  have c1' := cell_below c1 hB
  have hbm : (b : Int) - (a : Int) = (m : Int) := by omega
  have hr0 : (0 : Int) < (R.length : Int) + 1 := by omega
  have hr1 : ¬ ((R.length : Int) + 1 ≤ 0) := by omega
  have hr2 : ¬ ((R.length : Int) + 1 = 0) := by omega
  have hs0 : (0 : Int) < (r : Int) + 1 := by omega
  have hs1 : ¬ ((r : Int) + 1 ≤ 0) := by omega
  have hs2 : ¬ ((r : Int) + 1 = 0) := by omega
  have hr3 : ((R.length : Int) + 1 == 0) = false := beq_eq_false_iff_ne.2 hr2
  have hs3 : ((r : Int) + 1 == 0) = false := beq_eq_false_iff_ne.2 hs2
  have hne2 : ¬ (m : Int) ≤ (s : Int) := by omega
  have l0 := ko.lt
  have hmb : m ≤ 1099511627776 := by omega
  have BASE := hide base; have REC := hide recu; have HH := hide hh
  clear base recu hcell hd hc hc2 c0 hb hx hs hh hfa
  have hw2 := wrap_small a h hsum
  have hw1 : wrap64 (m : Int) = (m : Int) := by clear hw2; unfold wrap64; omega
  have HW2 := hide hw2
  clear hw2 hw1 hsum
  go_enter Tryd.func119, Tryd.ntmps119
  go_wp2_with fail
  go_loopw [9] (fun s9 W => ∃ k p : Nat, k ≤ 40 ∧ p = 2 ^ k ∧ s9 = .int .i64 (p : Int) ∧ p < m ∧ W1 = W) (fun s9 _ => m - (intOf s9).toNat)
  case atStart => exact ⟨0, 1, by omega, rfl, rfl, by omega, rfl⟩
  case round =>
    obtain ⟨k, pp, hk, hp, rfl, hlt, rfl⟩ := hrel
    have hp1 : 1 ≤ pp := by rw [hp]; exact Nat.two_pow_pos k
    have hw : IntKind.i64.wrap (2 * (pp : Int)) = 2 * (pp : Int) := IntWalk.i64_in _ (by omega)
    by_cases h2 : 2 * pp < m
    · have h21 : 2 * (pp : Int) < (m : Int) := by omega
      have hp2 : 2 * pp = 2 ^ (k + 1) := by rw [hp, Nat.pow_succ]; omega
      have hk1 : k + 1 ≤ 40 := by
        rcases Nat.lt_or_ge k 40 with hh | hh
        · omega
        · have hk40 : k = 40 := by omega
          subst hk40
          have : pp = 1099511627776 := by rw [hp]
          omega
      clear hp
      go_wp2_with fail
      exact ⟨⟨k + 1, 2 * pp, hk1, hp2, by push_cast; rfl, h2, trivial⟩, by simp [intOf]; omega⟩
    · have h21 : ¬ 2 * (pp : Int) < (m : Int) := by omega
      have he : halfN m = pp := by rw [hp]; exact halfN_of m k (by omega) (by rw [Nat.pow_succ]; omega) (by omega)
      obtain rfl : pp = h := he.symm.trans HH.out
      clear hp he HH hk
      go_upto_region 8 with (fail)
      have hw2 := HW2.out
      clear hw h21 h2 hlt hp1
      go_wp2_with fail
      clear hw2
      refine (BASE.out _ hB).mono ?_
      rintro e W2 ⟨x0, u1, u2, rfl, s1, s2, sx, hb⟩
      replace ko := ko.below hb ko.lt
      replace hB := hB.trans (hb.mono hB.size)
      clear hb c1'
      have n10 := Blk.new W2 (wayC (fun _ => 0#8) (.slice none 0 0) (.slice none 0 0) (.slice none 0 0)) 177
      obtain ⟨a1, a2, rfl, _⟩ := id s1
      obtain ⟨a3, a4, rfl, _⟩ := id s2
      obtain ⟨x1, xc, rfl, _⟩ := id sx
      have hw2 := HW2.out
      go_wp2_with (refine wp_storeRow (C' := (wayC Da (.slice x1 H1.length xc) (.slice a1 R1.length a2) (.slice a3 r1 a4))) rfl 177 _ _ rfl _ rfl rfl n10 size177 (wayC.size _ _ _ _) (wayC.size _ _ _ _) (wayC.one _ _ _ _ rfl rfl rfl) rfl ?_; intro W3 hu k10; have q17 := wayC.cell17 k10; have q18 := wayC.cell18 k10)
      clear hw2
      have hb3 : Below W2.heap.size W2 W3 := hu.below ((Below.refl _ _).alloc (Nat.le_refl _) _) (Nat.le_refl _)
      have l10 := ko.lt
      replace ko := ko.below hb3 ko.lt
      replace sx := sx.below hb3
      replace hB := hB.trans (hb3.mono hB.size)
      clear hb3 hu n10
      generalize W2.heap.size = b10 at k10 q17 q18 l10 ⊢
      refine (REC.out _ _ _ s1 s2 (hW0.trans (hB.mono hW0.size)) (hKK.below hKK.pos hB)).mono ?_
      rintro e W5 ⟨y0, z1, z2, rfl, t1, t2, sy, hb⟩
      obtain ⟨e1, f1, rfl, _⟩ := id t1
      obtain ⟨e2, f2, rfl, _⟩ := id t2
      obtain ⟨y1, yc, rfl, _⟩ := id sy
      have l11 := k10.lt
      have l12 := hb.size
      replace ko := ko.below hb ko.lt
      replace k10 := k10.below hb k10.lt
      replace sx := sx.below hb
      replace hB := hB.trans (hb.mono hB.size)
      clear hb s1 s2 q17 q18
      have n11 := Blk.new W5 (wayC (fun _ => 0#8) (.slice none 0 0) (.slice none 0 0) (.slice none 0 0)) 177
      go_wp2_with (refine wp_storeRow (C' := (wayC Db (.slice y1 H2.length yc) (.slice e1 R2.length f1) (.slice e2 r2 f2))) rfl 177 _ _ rfl _ rfl rfl n11 size177 (wayC.size _ _ _ _) (wayC.size _ _ _ _) (wayC.one _ _ _ _ rfl rfl rfl) rfl ?_; intro W8 hu k11)
      have hb3 : Below W5.heap.size W5 W8 := hu.below ((Below.refl _ _).alloc (Nat.le_refl _) _) (Nat.le_refl _)
      replace ko := ko.below hb3 ko.lt
      replace k10 := k10.below hb3 k10.lt
      replace sx := sx.below hb3
      replace sy := sy.below hb3
      replace hB := hB.trans (hb3.mono hB.size)
      have l13 : w.heap.size < W5.heap.size := by omega
      clear hb3 hu n11 l10 l11 l12
      generalize W5.heap.size = b11 at k11 l13 ⊢
      have hc1 := fun (W : World) (k : Blk W b10 (wayC Da (.slice x1 H1.length xc) (.slice a1 R1.length a2) (.slice a3 r1 a4)) 177) => conv_at (wayC.range k)
      have hc2 := fun (W : World) (k : Blk W b11 (wayC Db (.slice y1 H2.length yc) (.slice e1 R2.length f1) (.slice e2 r2 f2)) 177) => conv_at (wayC.range k)
      have hsum := fun w : World => run_string_add_sum (P := Tryd.prog) w ⟨#[1]⟩ (strOf (dl Da)) (by rw [size_strOf, dl_length]; decide)
      have hsum2 := fun w : World => run_string_add_sum (P := Tryd.prog) w (⟨#[1]⟩ ++ strOf (dl Da)) (strOf (dl Db)) (by rw [ByteArray.size_append, size_strOf, size_strOf, dl_length, dl_length]; decide)
      have hz := strOf_node Da Db
      have cs := fun W hK => rsum_any (strOf (1#8 :: (dl Da ++ dl Db))) (by rw [size_strOf, List.length_cons, List.length_append, dl_length, dl_length]; decide) W hK
      rw [bts_strOf, ← hz] at cs
      have hfn : ∀ (W : World) (v : Value), Sees W 1 v (0 + H1.length + H2.length + 1) ([] ++ strCells H1 ++ strCells H2 ++ (#[Value.string (strOf (1#8 :: (dl Da ++ dl Db)))] : Array Value).toList) → Sees W 1 v HX.length (strCells HX) := fun W v h => by
        rw [← HHX.out, strCells_append, strCells_append, List.length_append, List.length_append]
        rw [List.nil_append, Nat.zero_add] at h
        exact h
      rw [← hz] at hfn
      have HF := hide hfn
      generalize strOf (dl Da) = X1 at hc1 hsum hsum2 cs HF
      generalize strOf (dl Db) = X2 at hc2 hsum2 cs HF
      generalize (⟨#[1]⟩ : ByteArray) ++ X1 = Y1 at hsum hsum2 cs HF
      generalize Y1 ++ X2 = s at hsum2 cs HF
      have HC1 := hide hc1; have HC2 := hide hc2; have HS1 := hide hsum; have HS2 := hide hsum2
      have CS : Hid (∀ W, KAt W → Calls Tryd.prog 80 #[.string s] W fun e w' => e = .returned (.agg (A8 16 (nodeD Da Db))) ∧ Below W.heap.size W w') := hide cs
      clear hc1 hc2 hsum hsum2 cs hfn hz
      refine wp_region_held_drew (S := fun w' => Below w.heap.size w w' ∧ Blk w' b10 (wayC Da (.slice x1 H1.length xc) (.slice a1 R1.length a2) (.slice a3 r1 a4)) 177 ∧ Blk w' b11 (wayC Db (.slice y1 H2.length yc) (.slice e1 R2.length f1) (.slice e2 r2 f2)) 177) (by kernel_rfl) (⟨hB.drew, k10.drew, k11.drew⟩) (fun hS => ?_)
      simp only [List.size_toArray, List.length_cons, List.length_nil, Nat.reduceAdd, Array.replicate_succ, Array.replicate_zero, List.push_toArray, List.nil_append, List.cons_append]
      refine take_at (i := 0) 62 (.pointer (some ⟨b10, 0, none⟩)) rfl rfl (by kernel_rfl) (by kernel_rfl) (by kernel_rfl) (fun _ _ _ h => h) (Or.inl ⟨by rfl, fun W hW => by go_simp⟩) hS ?_
      try simp only [List.setIfInBounds_toArray, List.set_cons_zero, List.set_cons_succ]
      refine take_at (i := 1) 63 (.slice (some ⟨b10, 0, none⟩) 16 16) rfl rfl (by kernel_rfl) (by kernel_rfl) (by kernel_rfl) (fun _ _ _ h => h) (Or.inl ⟨by rfl, fun W hW => by go_simp⟩) hS ?_
      try simp only [List.setIfInBounds_toArray, List.set_cons_zero, List.set_cons_succ]
      refine take_at (i := 2) 64 (.string X1) rfl rfl (by kernel_rfl) (by kernel_rfl) (by kernel_rfl) (fun _ _ _ h => h) (Or.inl ⟨by rfl, fun W hW => by have hcv := HC1.out W hW.2.1; go_simp⟩) hS ?_
      try simp only [List.setIfInBounds_toArray, List.set_cons_zero, List.set_cons_succ]
      refine take_at (i := 3) 65 (.string Y1) rfl rfl (by kernel_rfl) (by kernel_rfl) (by kernel_rfl) (fun _ _ _ h => h) (Or.inl ⟨by rfl, fun W hW => by have hsm := HS1.out W; go_simp⟩) hS ?_
      try simp only [List.setIfInBounds_toArray, List.set_cons_zero, List.set_cons_succ]
      refine take_at (i := 4) 66 (.pointer (some ⟨b11, 0, none⟩)) rfl rfl (by kernel_rfl) (by kernel_rfl) (by kernel_rfl) (fun _ _ _ h => h) (Or.inl ⟨by rfl, fun W hW => by go_simp⟩) hS ?_
      try simp only [List.setIfInBounds_toArray, List.set_cons_zero, List.set_cons_succ]
      refine take_at (i := 5) 67 (.slice (some ⟨b11, 0, none⟩) 16 16) rfl rfl (by kernel_rfl) (by kernel_rfl) (by kernel_rfl) (fun _ _ _ h => h) (Or.inl ⟨by rfl, fun W hW => by go_simp⟩) hS ?_
      try simp only [List.setIfInBounds_toArray, List.set_cons_zero, List.set_cons_succ]
      refine take_at (i := 6) 68 (.string X2) rfl rfl (by kernel_rfl) (by kernel_rfl) (by kernel_rfl) (fun _ _ _ h => h) (Or.inl ⟨by rfl, fun W hW => by have hcv := HC2.out W hW.2.2; go_simp⟩) hS ?_
      try simp only [List.setIfInBounds_toArray, List.set_cons_zero, List.set_cons_succ]
      refine take_at (i := 7) 69 (.string s) rfl rfl (by kernel_rfl) (by kernel_rfl) (by kernel_rfl) (fun _ _ _ h => h) (Or.inl ⟨by rfl, fun W hW => by have hsm := HS2.out W; go_simp⟩) hS ?_
      try simp only [List.setIfInBounds_toArray, List.set_cons_zero, List.set_cons_succ]
      refine take_at (i := 8) 12 (.string s) rfl rfl (by kernel_rfl) (by kernel_rfl) (by kernel_rfl) (fun _ _ _ h => h) (Or.inl ⟨by rfl, fun W hW => by go_simp⟩) hS ?_
      try simp only [List.setIfInBounds_toArray, List.set_cons_zero, List.set_cons_succ]
      refine wpAnyH_done (by kernel_rfl) ?_ _
      go_wp2_with fail
      replace ko := ko.drew
      replace k10 := k10.drew
      replace k11 := k11.drew
      replace hB := hB.drew
      have SX : Sees W8.drew 1 (.slice x1 H1.length xc) H1.length (strCells H1) := sx
      have SY : Sees W8.drew 1 (.slice y1 H2.length yc) H2.length (strCells H2) := sy
      clear sx sy hS
      generalize W8.drew = Wd at ko k10 k11 hB SX SY ⊢
      have l10 := k10.lt
      have l11 := k11.lt
      have lo := ko.lt
      have K8 := hide fun (W : World) (hW : Below Wd.heap.size Wd W) => hKK.below hKK.pos (hB.trans (hW.mono hB.size))
      refine wp_region_keptK (S := fun w' => Below Wd.heap.size Wd w') 17 (by kernel_rfl) ((Below.refl _ _).drew) (fun hS => ?_)
      simp only [List.size_toArray, List.length_cons, List.length_nil, Nat.reduceAdd, Array.replicate_succ, Array.replicate_zero, List.push_toArray, List.nil_append, List.cons_append]
      refine take_atK (i := 0) 70 (.string s) [17] rfl rfl (by kernel_rfl) (by decide) (by decide) (by kernel_rfl) (by kernel_rfl) (by kernel_rfl) (by kernel_rfl) (fun _ _ _ h => h) (Or.inl ⟨by rfl, fun W hW => by go_simp⟩) hS ?_
      try simp only [List.setIfInBounds_toArray, List.set_cons_zero, List.set_cons_succ]
      refine take_atK (i := 3) 73 (.pointer (some ⟨b10, 16, none⟩)) [17] rfl rfl (by kernel_rfl) (by decide) (by decide) (by kernel_rfl) (by kernel_rfl) (by kernel_rfl) (by kernel_rfl) (fun _ _ _ h => h) (Or.inl ⟨by rfl, fun W hW => by go_simp⟩) hS ?_
      try simp only [List.setIfInBounds_toArray, List.set_cons_zero, List.set_cons_succ]
      refine take_atK (i := 4) 74 (.slice x1 H1.length xc) [17] rfl rfl (by kernel_rfl) (by decide) (by decide) (by kernel_rfl) (by kernel_rfl) (by kernel_rfl) (by kernel_rfl) (fun _ _ _ h => h) (Or.inl ⟨by rfl, fun W hW => by have hc := wayC.cell16 (k10.below hW l10); go_simp⟩) hS ?_
      try simp only [List.setIfInBounds_toArray, List.set_cons_zero, List.set_cons_succ]
      refine take_atK (i := 6) 76 (.pointer (some ⟨b11, 16, none⟩)) [17] rfl rfl (by kernel_rfl) (by decide) (by decide) (by kernel_rfl) (by kernel_rfl) (by kernel_rfl) (by kernel_rfl) (fun _ _ _ h => h) (Or.inl ⟨by rfl, fun W hW => by go_simp⟩) hS ?_
      try simp only [List.setIfInBounds_toArray, List.set_cons_zero, List.set_cons_succ]
      refine take_atK (i := 7) 77 (.slice y1 H2.length yc) [17] rfl rfl (by kernel_rfl) (by decide) (by decide) (by kernel_rfl) (by kernel_rfl) (by kernel_rfl) (by kernel_rfl) (fun _ _ _ h => h) (Or.inl ⟨by rfl, fun W hW => by have hc := wayC.cell16 (k11.below hW l11); go_simp⟩) hS ?_
      try simp only [List.setIfInBounds_toArray, List.set_cons_zero, List.set_cons_succ]
      refine take_atK (i := 9) 79 (.string s) [17] rfl rfl (by kernel_rfl) (by decide) (by decide) (by kernel_rfl) (by kernel_rfl) (by kernel_rfl) (by kernel_rfl) (fun _ _ _ h => h) (Or.inl ⟨by rfl, fun W hW => by go_simp⟩) hS ?_
      try simp only [List.setIfInBounds_toArray, List.set_cons_zero, List.set_cons_succ]
      refine take_atK (i := 12) 82 (.pointer (some ⟨b11, 17, none⟩)) [17] rfl rfl (by kernel_rfl) (by decide) (by decide) (by kernel_rfl) (by kernel_rfl) (by kernel_rfl) (by kernel_rfl) (fun _ _ _ h => h) (Or.inl ⟨by rfl, fun W hW => by go_simp⟩) hS ?_
      try simp only [List.setIfInBounds_toArray, List.set_cons_zero, List.set_cons_succ]
      refine take_atK (i := 13) 83 (.slice e1 R2.length f1) [17] rfl rfl (by kernel_rfl) (by decide) (by decide) (by kernel_rfl) (by kernel_rfl) (by kernel_rfl) (by kernel_rfl) (fun _ _ _ h => h) (Or.inl ⟨by rfl, fun W hW => by have hc := wayC.cell17 (k11.below hW l11); go_simp⟩) hS ?_
      try simp only [List.setIfInBounds_toArray, List.set_cons_zero, List.set_cons_succ]
      refine take_atK (i := 14) 84 (.pointer (some ⟨b11, 18, none⟩)) [17] rfl rfl (by kernel_rfl) (by decide) (by decide) (by kernel_rfl) (by kernel_rfl) (by kernel_rfl) (by kernel_rfl) (fun _ _ _ h => h) (Or.inl ⟨by rfl, fun W hW => by go_simp⟩) hS ?_
      try simp only [List.setIfInBounds_toArray, List.set_cons_zero, List.set_cons_succ]
      refine take_atK (i := 15) 85 (.slice e2 r2 f2) [17] rfl rfl (by kernel_rfl) (by decide) (by decide) (by kernel_rfl) (by kernel_rfl) (by kernel_rfl) (by kernel_rfl) (fun _ _ _ h => h) (Or.inl ⟨by rfl, fun W hW => by have hc := wayC.cell18 (k11.below hW l11); go_simp⟩) hS ?_
      try simp only [List.setIfInBounds_toArray, List.set_cons_zero, List.set_cons_succ]
      refine wpAnyK_ready (rs := [1, 2, 10]) (by kernel_rfl) (by simp) ?_
      refine AllReadyK.cons rfl (fun K hK => ?_) ?_
      · skip
        go_simp
        refine (CS.out _ (K8.out _ hS)).mono ?_
        rintro e X1 ⟨rfl, hb⟩
        have hS2 := hS.trans (hb.mono hS.size)
        try replace o7 := ownsRow_below o7 hb
        try replace z80 := ownsRow_below z80 hb
        refine hK.out _ _ (hS2) (fun hS => ?_)
        clear hK K
        clear hb hS2
        try simp only [Act.put, List.getElem_toArray, List.getElem_cons_succ, List.getElem_cons_zero, List.setIfInBounds_toArray, List.set_cons_zero, List.set_cons_succ]
        refine wpAnyK_ready (rs := [2, 10]) (by kernel_rfl) (by simp) ?_
        refine AllReadyK.cons rfl (fun K hK => ?_) ?_
        · skip
          rw [if_pos (by rfl)]
          refine oper_buildz rfl (build148z _) ?_
          have hb := (Below.refl X1.heap.size X1).alloc (Nat.le_refl _) (.cells #[] 9)
          try have hz := Nat.ne_of_lt (z80.lt zq rfl).2
          have hS2 := hS.trans (hb.mono hS.size)
          try replace z80 := ownsRow_below z80 hb
          have o7 := owns_z X1 Wd.heap.size 9 1 hS.size
          obtain ⟨V2, hV⟩ : ∃ V, X1.alloc (.cells #[] 9) = V := ⟨_, rfl⟩
          rw [hV] at o7 hS2 ⊢
          try rw [hV] at z80
          obtain ⟨zb, hzz⟩ : ∃ z, X1.heap.size = z := ⟨_, rfl⟩
          rw [hzz] at o7 ⊢
          try rw [hzz] at hz
          clear hV hzz hb
          refine hK.out _ _ (hS2) (fun hS => ?_)
          clear hK K
          clear hS2
          try simp only [Act.put, List.getElem_toArray, List.getElem_cons_succ, List.getElem_cons_zero, List.setIfInBounds_toArray, List.set_cons_zero, List.set_cons_succ]
          refine wpAnyK_ready (rs := [5, 10]) (by kernel_rfl) (by simp) ?_
          refine AllReadyK.cons rfl (fun K hK => ?_) ?_
          · skip
            rw [if_pos (by rfl)]
            try have zlt := (z80.lt zq rfl).2
            refine oper_appendN elem148 _ _ rfl rfl o7 rfl (SX.below hS) (strCells_one _) (by omega) hS.size ?_
            intro g5 c5 Y5 o7n hg hgc
            try replace z80 := z80.kept hg (.inr (fun e => hz (Option.some.inj e)))
            try replace hz := hgc.elim (fun e => by rw [e]; exact hz) (fun h => Nat.ne_of_lt (Nat.lt_of_lt_of_le zlt h))
            have hS2 := hS.trans (grown_below o7 hg hS.size)
            replace o7 := o7n
            clear hg hgc o7n
            refine hK.out _ _ (hS2) (fun hS => ?_)
            clear hK K
            clear hS2
            try simp only [Act.put, List.getElem_toArray, List.getElem_cons_succ, List.getElem_cons_zero, List.setIfInBounds_toArray, List.set_cons_zero, List.set_cons_succ]
            refine wpAnyK_ready (rs := [8, 10]) (by kernel_rfl) (by simp) ?_
            refine AllReadyK.cons rfl (fun K hK => ?_) ?_
            · skip
              rw [if_pos (by rfl)]
              try have zlt := (z80.lt zq rfl).2
              refine oper_appendN elem148 _ _ rfl rfl o7 rfl (SY.below hS) (strCells_one _) (by omega) hS.size ?_
              intro g8 c8 Y8 o7n hg hgc
              try replace z80 := z80.kept hg (.inr (fun e => hz (Option.some.inj e)))
              try replace hz := hgc.elim (fun e => by rw [e]; exact hz) (fun h => Nat.ne_of_lt (Nat.lt_of_lt_of_le zlt h))
              have hS2 := hS.trans (grown_below o7 hg hS.size)
              replace o7 := o7n
              clear hg hgc o7n
              refine hK.out _ _ (hS2) (fun hS => ?_)
              clear hK K
              clear hS2
              try simp only [Act.put, List.getElem_toArray, List.getElem_cons_succ, List.getElem_cons_zero, List.setIfInBounds_toArray, List.set_cons_zero, List.set_cons_succ]
              refine wpAnyK_ready (rs := [10]) (by kernel_rfl) (by simp) ?_
              refine AllReadyK.cons rfl (fun K hK => ?_) AllReadyK.nil
              rw [if_pos (by rfl)]
              refine oper_build1 (.tmp 79) rfl (u := .string s) (C := #[.string s]) rfl (build148 _ _) ?_
              have hb := (Below.refl Y8.heap.size Y8).alloc (Nat.le_refl _) (.cells #[.string s] 9)
              try have hz := Nat.ne_of_gt (o7.lt _ rfl).2
              have hS2 := hS.trans (hb.mono hS.size)
              try replace o7 := ownsRow_below o7 hb
              have z80 := owns_one Y8 Wd.heap.size 9 1 #[.string s] rfl hS.size
              obtain ⟨V10, hV⟩ : ∃ V, Y8.alloc (.cells #[.string s] 9) = V := ⟨_, rfl⟩
              rw [hV] at z80 hS2 ⊢
              try rw [hV] at o7
              obtain ⟨zq, hzz⟩ : ∃ z, Y8.heap.size = z := ⟨_, rfl⟩
              rw [hzz] at z80 ⊢
              try rw [hzz] at hz
              clear hV hzz hb
              refine hK.out _ _ (hS2) (fun hS => ?_)
              clear hK K
              clear hS2
              try simp only [Act.put, List.getElem_toArray, List.getElem_cons_succ, List.getElem_cons_zero, List.setIfInBounds_toArray, List.set_cons_zero, List.set_cons_succ]
              refine wpAnyK_ready (rs := [11]) (by kernel_rfl) (by simp) ?_
              refine AllReadyK.cons rfl (fun K hK => ?_) AllReadyK.nil
              rw [if_pos (by rfl)]
              try have zlt := (z80.lt zq rfl).2
              refine oper_appendN elem148 _ _ rfl rfl o7 rfl (Sees.of_owns z80) (by simp [Value.oneCell']) (by omega) hS.size ?_
              intro g11 c11 Y11 o7n hg hgc
              try replace z80 := z80.kept hg (.inr (fun e => hz (Option.some.inj e)))
              try replace hz := hgc.elim (fun e => by rw [e]; exact hz) (fun h => Nat.ne_of_lt (Nat.lt_of_lt_of_le zlt h))
              have hS2 := hS.trans (grown_below o7 hg hS.size)
              replace o7 := o7n
              clear hg hgc o7n
              refine hK.out _ _ (hS2) (fun hS => ?_)
              clear hK K
              clear hS2
              try simp only [Act.put, List.getElem_toArray, List.getElem_cons_succ, List.getElem_cons_zero, List.setIfInBounds_toArray, List.set_cons_zero, List.set_cons_succ]
              refine take_atK (i := 16) 86 (.agg (wayC (nodeD Da Db) (.slice (some ⟨g11, 0, none⟩) (0 + H1.length + H2.length + 1) c11) (.slice e1 R2.length f1) (.slice e2 r2 f2))) [17] rfl rfl (by kernel_rfl) (by decide) (by decide) (by kernel_rfl) (by kernel_rfl) (by kernel_rfl) (by kernel_rfl) (fun _ _ _ h => h) (Or.inl ⟨by rfl, fun W hW => exec_build _ 177 #[(0, .tmp 71), (1, .tmp 81), (2, .tmp 83), (3, .tmp 85)] rfl #[(0, .agg (A8 16 (nodeD Da Db))), (1, .slice (some ⟨g11, 0, none⟩) (0 + H1.length + H2.length + 1) c11), (2, .slice e1 R2.length f1), (3, .slice e2 r2 f2)] rfl _ (build177 _ _ _ _ _ _ _ _ _ _)⟩) hS ?_
              try simp only [List.setIfInBounds_toArray, List.set_cons_zero, List.set_cons_succ]
              refine storeK_row (by kernel_rfl) (by decide) rfl rfl 177 (.tmp 8) (.tmp 86) rfl w.heap.size rfl (C' := (wayC (nodeD Da Db) (.slice (some ⟨g11, 0, none⟩) (0 + H1.length + H2.length + 1) c11) (.slice e1 R2.length f1) (.slice e2 r2 f2))) rfl (ko.below hS (by omega)) size177 (wayC.size _ _ _ _) (wayC.size _ _ _ _) (wayC.one _ _ _ _ rfl rfl rfl) rfl (fun W9 hu k9 => ?_)
              have hS0 := hS
              clear hS
              have hS : True := trivial
              try simp only [Act.put, List.getElem_toArray, List.getElem_cons_succ, List.getElem_cons_zero, List.setIfInBounds_toArray, List.set_cons_zero, List.set_cons_succ]
              refine wpAnyH_done (by kernel_rfl) ?_ _
              have hfo := owns_upd o7 hu lo
              have hBe := hu.below (hB.trans (hS0.mono hB.size)) (Nat.le_refl _)
              go_wp2_with fail
              exact ret_row rfl w.heap.size rfl k9 Tryd.underlying177 rfl size177 (wayC.size _ _ _ _) rfl ⟨_, _, _, rfl, t1, t2, HF.out _ _ (Sees.of_owns hfo), hBe⟩
            refine AllReadyK.cons rfl (fun K hK => ?_) AllReadyK.nil
            rw [if_pos (by rfl)]
            refine oper_build1 (.tmp 79) rfl (u := .string s) (C := #[.string s]) rfl (build148 _ _) ?_
            have hb := (Below.refl Y5.heap.size Y5).alloc (Nat.le_refl _) (.cells #[.string s] 9)
            try have hz := Nat.ne_of_gt (o7.lt _ rfl).2
            have hS2 := hS.trans (hb.mono hS.size)
            try replace o7 := ownsRow_below o7 hb
            have z80 := owns_one Y5 Wd.heap.size 9 1 #[.string s] rfl hS.size
            obtain ⟨V10, hV⟩ : ∃ V, Y5.alloc (.cells #[.string s] 9) = V := ⟨_, rfl⟩
            rw [hV] at z80 hS2 ⊢
            try rw [hV] at o7
            obtain ⟨zq, hzz⟩ : ∃ z, Y5.heap.size = z := ⟨_, rfl⟩
            rw [hzz] at z80 ⊢
            try rw [hzz] at hz
            clear hV hzz hb
            refine hK.out _ _ (hS2) (fun hS => ?_)
            clear hK K
            clear hS2
            try simp only [Act.put, List.getElem_toArray, List.getElem_cons_succ, List.getElem_cons_zero, List.setIfInBounds_toArray, List.set_cons_zero, List.set_cons_succ]
            refine wpAnyK_ready (rs := [8]) (by kernel_rfl) (by simp) ?_
            refine AllReadyK.cons rfl (fun K hK => ?_) AllReadyK.nil
            rw [if_pos (by rfl)]
            try have zlt := (z80.lt zq rfl).2
            refine oper_appendN elem148 _ _ rfl rfl o7 rfl (SY.below hS) (strCells_one _) (by omega) hS.size ?_
            intro g8 c8 Y8 o7n hg hgc
            try replace z80 := z80.kept hg (.inr (fun e => hz (Option.some.inj e)))
            try replace hz := hgc.elim (fun e => by rw [e]; exact hz) (fun h => Nat.ne_of_lt (Nat.lt_of_lt_of_le zlt h))
            have hS2 := hS.trans (grown_below o7 hg hS.size)
            replace o7 := o7n
            clear hg hgc o7n
            refine hK.out _ _ (hS2) (fun hS => ?_)
            clear hK K
            clear hS2
            try simp only [Act.put, List.getElem_toArray, List.getElem_cons_succ, List.getElem_cons_zero, List.setIfInBounds_toArray, List.set_cons_zero, List.set_cons_succ]
            refine wpAnyK_ready (rs := [11]) (by kernel_rfl) (by simp) ?_
            refine AllReadyK.cons rfl (fun K hK => ?_) AllReadyK.nil
            rw [if_pos (by rfl)]
            try have zlt := (z80.lt zq rfl).2
            refine oper_appendN elem148 _ _ rfl rfl o7 rfl (Sees.of_owns z80) (by simp [Value.oneCell']) (by omega) hS.size ?_
            intro g11 c11 Y11 o7n hg hgc
            try replace z80 := z80.kept hg (.inr (fun e => hz (Option.some.inj e)))
            try replace hz := hgc.elim (fun e => by rw [e]; exact hz) (fun h => Nat.ne_of_lt (Nat.lt_of_lt_of_le zlt h))
            have hS2 := hS.trans (grown_below o7 hg hS.size)
            replace o7 := o7n
            clear hg hgc o7n
            refine hK.out _ _ (hS2) (fun hS => ?_)
            clear hK K
            clear hS2
            try simp only [Act.put, List.getElem_toArray, List.getElem_cons_succ, List.getElem_cons_zero, List.setIfInBounds_toArray, List.set_cons_zero, List.set_cons_succ]
            refine take_atK (i := 16) 86 (.agg (wayC (nodeD Da Db) (.slice (some ⟨g11, 0, none⟩) (0 + H1.length + H2.length + 1) c11) (.slice e1 R2.length f1) (.slice e2 r2 f2))) [17] rfl rfl (by kernel_rfl) (by decide) (by decide) (by kernel_rfl) (by kernel_rfl) (by kernel_rfl) (by kernel_rfl) (fun _ _ _ h => h) (Or.inl ⟨by rfl, fun W hW => exec_build _ 177 #[(0, .tmp 71), (1, .tmp 81), (2, .tmp 83), (3, .tmp 85)] rfl #[(0, .agg (A8 16 (nodeD Da Db))), (1, .slice (some ⟨g11, 0, none⟩) (0 + H1.length + H2.length + 1) c11), (2, .slice e1 R2.length f1), (3, .slice e2 r2 f2)] rfl _ (build177 _ _ _ _ _ _ _ _ _ _)⟩) hS ?_
            try simp only [List.setIfInBounds_toArray, List.set_cons_zero, List.set_cons_succ]
            refine storeK_row (by kernel_rfl) (by decide) rfl rfl 177 (.tmp 8) (.tmp 86) rfl w.heap.size rfl (C' := (wayC (nodeD Da Db) (.slice (some ⟨g11, 0, none⟩) (0 + H1.length + H2.length + 1) c11) (.slice e1 R2.length f1) (.slice e2 r2 f2))) rfl (ko.below hS (by omega)) size177 (wayC.size _ _ _ _) (wayC.size _ _ _ _) (wayC.one _ _ _ _ rfl rfl rfl) rfl (fun W9 hu k9 => ?_)
            have hS0 := hS
            clear hS
            have hS : True := trivial
            try simp only [Act.put, List.getElem_toArray, List.getElem_cons_succ, List.getElem_cons_zero, List.setIfInBounds_toArray, List.set_cons_zero, List.set_cons_succ]
            refine wpAnyH_done (by kernel_rfl) ?_ _
            have hfo := owns_upd o7 hu lo
            have hBe := hu.below (hB.trans (hS0.mono hB.size)) (Nat.le_refl _)
            go_wp2_with fail
            exact ret_row rfl w.heap.size rfl k9 Tryd.underlying177 rfl size177 (wayC.size _ _ _ _) rfl ⟨_, _, _, rfl, t1, t2, HF.out _ _ (Sees.of_owns hfo), hBe⟩
          refine AllReadyK.cons rfl (fun K hK => ?_) AllReadyK.nil
          rw [if_pos (by rfl)]
          refine oper_build1 (.tmp 79) rfl (u := .string s) (C := #[.string s]) rfl (build148 _ _) ?_
          have hb := (Below.refl V2.heap.size V2).alloc (Nat.le_refl _) (.cells #[.string s] 9)
          try have hz := Nat.ne_of_gt (o7.lt _ rfl).2
          have hS2 := hS.trans (hb.mono hS.size)
          try replace o7 := ownsRow_below o7 hb
          have z80 := owns_one V2 Wd.heap.size 9 1 #[.string s] rfl hS.size
          obtain ⟨V10, hV⟩ : ∃ V, V2.alloc (.cells #[.string s] 9) = V := ⟨_, rfl⟩
          rw [hV] at z80 hS2 ⊢
          try rw [hV] at o7
          obtain ⟨zq, hzz⟩ : ∃ z, V2.heap.size = z := ⟨_, rfl⟩
          rw [hzz] at z80 ⊢
          try rw [hzz] at hz
          clear hV hzz hb
          refine hK.out _ _ (hS2) (fun hS => ?_)
          clear hK K
          clear hS2
          try simp only [Act.put, List.getElem_toArray, List.getElem_cons_succ, List.getElem_cons_zero, List.setIfInBounds_toArray, List.set_cons_zero, List.set_cons_succ]
          refine wpAnyK_ready (rs := [5]) (by kernel_rfl) (by simp) ?_
          refine AllReadyK.cons rfl (fun K hK => ?_) AllReadyK.nil
          rw [if_pos (by rfl)]
          try have zlt := (z80.lt zq rfl).2
          refine oper_appendN elem148 _ _ rfl rfl o7 rfl (SX.below hS) (strCells_one _) (by omega) hS.size ?_
          intro g5 c5 Y5 o7n hg hgc
          try replace z80 := z80.kept hg (.inr (fun e => hz (Option.some.inj e)))
          try replace hz := hgc.elim (fun e => by rw [e]; exact hz) (fun h => Nat.ne_of_lt (Nat.lt_of_lt_of_le zlt h))
          have hS2 := hS.trans (grown_below o7 hg hS.size)
          replace o7 := o7n
          clear hg hgc o7n
          refine hK.out _ _ (hS2) (fun hS => ?_)
          clear hK K
          clear hS2
          try simp only [Act.put, List.getElem_toArray, List.getElem_cons_succ, List.getElem_cons_zero, List.setIfInBounds_toArray, List.set_cons_zero, List.set_cons_succ]
          refine wpAnyK_ready (rs := [8]) (by kernel_rfl) (by simp) ?_
          refine AllReadyK.cons rfl (fun K hK => ?_) AllReadyK.nil
          rw [if_pos (by rfl)]
          try have zlt := (z80.lt zq rfl).2
          refine oper_appendN elem148 _ _ rfl rfl o7 rfl (SY.below hS) (strCells_one _) (by omega) hS.size ?_
          intro g8 c8 Y8 o7n hg hgc
          try replace z80 := z80.kept hg (.inr (fun e => hz (Option.some.inj e)))
          try replace hz := hgc.elim (fun e => by rw [e]; exact hz) (fun h => Nat.ne_of_lt (Nat.lt_of_lt_of_le zlt h))
          have hS2 := hS.trans (grown_below o7 hg hS.size)
          replace o7 := o7n
          clear hg hgc o7n
          refine hK.out _ _ (hS2) (fun hS => ?_)
          clear hK K
          clear hS2
          try simp only [Act.put, List.getElem_toArray, List.getElem_cons_succ, List.getElem_cons_zero, List.setIfInBounds_toArray, List.set_cons_zero, List.set_cons_succ]
          refine wpAnyK_ready (rs := [11]) (by kernel_rfl) (by simp) ?_
          refine AllReadyK.cons rfl (fun K hK => ?_) AllReadyK.nil
          rw [if_pos (by rfl)]
          try have zlt := (z80.lt zq rfl).2
          refine oper_appendN elem148 _ _ rfl rfl o7 rfl (Sees.of_owns z80) (by simp [Value.oneCell']) (by omega) hS.size ?_
          intro g11 c11 Y11 o7n hg hgc
          try replace z80 := z80.kept hg (.inr (fun e => hz (Option.some.inj e)))
          try replace hz := hgc.elim (fun e => by rw [e]; exact hz) (fun h => Nat.ne_of_lt (Nat.lt_of_lt_of_le zlt h))
          have hS2 := hS.trans (grown_below o7 hg hS.size)
          replace o7 := o7n
          clear hg hgc o7n
          refine hK.out _ _ (hS2) (fun hS => ?_)
          clear hK K
          clear hS2
          try simp only [Act.put, List.getElem_toArray, List.getElem_cons_succ, List.getElem_cons_zero, List.setIfInBounds_toArray, List.set_cons_zero, List.set_cons_succ]
          refine take_atK (i := 16) 86 (.agg (wayC (nodeD Da Db) (.slice (some ⟨g11, 0, none⟩) (0 + H1.length + H2.length + 1) c11) (.slice e1 R2.length f1) (.slice e2 r2 f2))) [17] rfl rfl (by kernel_rfl) (by decide) (by decide) (by kernel_rfl) (by kernel_rfl) (by kernel_rfl) (by kernel_rfl) (fun _ _ _ h => h) (Or.inl ⟨by rfl, fun W hW => exec_build _ 177 #[(0, .tmp 71), (1, .tmp 81), (2, .tmp 83), (3, .tmp 85)] rfl #[(0, .agg (A8 16 (nodeD Da Db))), (1, .slice (some ⟨g11, 0, none⟩) (0 + H1.length + H2.length + 1) c11), (2, .slice e1 R2.length f1), (3, .slice e2 r2 f2)] rfl _ (build177 _ _ _ _ _ _ _ _ _ _)⟩) hS ?_
          try simp only [List.setIfInBounds_toArray, List.set_cons_zero, List.set_cons_succ]
          refine storeK_row (by kernel_rfl) (by decide) rfl rfl 177 (.tmp 8) (.tmp 86) rfl w.heap.size rfl (C' := (wayC (nodeD Da Db) (.slice (some ⟨g11, 0, none⟩) (0 + H1.length + H2.length + 1) c11) (.slice e1 R2.length f1) (.slice e2 r2 f2))) rfl (ko.below hS (by omega)) size177 (wayC.size _ _ _ _) (wayC.size _ _ _ _) (wayC.one _ _ _ _ rfl rfl rfl) rfl (fun W9 hu k9 => ?_)
          have hS0 := hS
          clear hS
          have hS : True := trivial
          try simp only [Act.put, List.getElem_toArray, List.getElem_cons_succ, List.getElem_cons_zero, List.setIfInBounds_toArray, List.set_cons_zero, List.set_cons_succ]
          refine wpAnyH_done (by kernel_rfl) ?_ _
          have hfo := owns_upd o7 hu lo
          have hBe := hu.below (hB.trans (hS0.mono hB.size)) (Nat.le_refl _)
          go_wp2_with fail
          exact ret_row rfl w.heap.size rfl k9 Tryd.underlying177 rfl size177 (wayC.size _ _ _ _) rfl ⟨_, _, _, rfl, t1, t2, HF.out _ _ (Sees.of_owns hfo), hBe⟩
        refine AllReadyK.cons rfl (fun K hK => ?_) AllReadyK.nil
        rw [if_pos (by rfl)]
        refine oper_build1 (.tmp 79) rfl (u := .string s) (C := #[.string s]) rfl (build148 _ _) ?_
        have hb := (Below.refl X1.heap.size X1).alloc (Nat.le_refl _) (.cells #[.string s] 9)
        try have hz := Nat.ne_of_gt (o7.lt _ rfl).2
        have hS2 := hS.trans (hb.mono hS.size)
        try replace o7 := ownsRow_below o7 hb
        have z80 := owns_one X1 Wd.heap.size 9 1 #[.string s] rfl hS.size
        obtain ⟨V10, hV⟩ : ∃ V, X1.alloc (.cells #[.string s] 9) = V := ⟨_, rfl⟩
        rw [hV] at z80 hS2 ⊢
        try rw [hV] at o7
        obtain ⟨zq, hzz⟩ : ∃ z, X1.heap.size = z := ⟨_, rfl⟩
        rw [hzz] at z80 ⊢
        try rw [hzz] at hz
        clear hV hzz hb
        refine hK.out _ _ (hS2) (fun hS => ?_)
        clear hK K
        clear hS2
        try simp only [Act.put, List.getElem_toArray, List.getElem_cons_succ, List.getElem_cons_zero, List.setIfInBounds_toArray, List.set_cons_zero, List.set_cons_succ]
        refine wpAnyK_ready (rs := [2]) (by kernel_rfl) (by simp) ?_
        refine AllReadyK.cons rfl (fun K hK => ?_) AllReadyK.nil
        rw [if_pos (by rfl)]
        refine oper_buildz rfl (build148z _) ?_
        have hb := (Below.refl V10.heap.size V10).alloc (Nat.le_refl _) (.cells #[] 9)
        try have hz := Nat.ne_of_lt (z80.lt zq rfl).2
        have hS2 := hS.trans (hb.mono hS.size)
        try replace z80 := ownsRow_below z80 hb
        have o7 := owns_z V10 Wd.heap.size 9 1 hS.size
        obtain ⟨V2, hV⟩ : ∃ V, V10.alloc (.cells #[] 9) = V := ⟨_, rfl⟩
        rw [hV] at o7 hS2 ⊢
        try rw [hV] at z80
        obtain ⟨zb, hzz⟩ : ∃ z, V10.heap.size = z := ⟨_, rfl⟩
        rw [hzz] at o7 ⊢
        try rw [hzz] at hz
        clear hV hzz hb
        refine hK.out _ _ (hS2) (fun hS => ?_)
        clear hK K
        clear hS2
        try simp only [Act.put, List.getElem_toArray, List.getElem_cons_succ, List.getElem_cons_zero, List.setIfInBounds_toArray, List.set_cons_zero, List.set_cons_succ]
        refine wpAnyK_ready (rs := [5]) (by kernel_rfl) (by simp) ?_
        refine AllReadyK.cons rfl (fun K hK => ?_) AllReadyK.nil
        rw [if_pos (by rfl)]
        try have zlt := (z80.lt zq rfl).2
        refine oper_appendN elem148 _ _ rfl rfl o7 rfl (SX.below hS) (strCells_one _) (by omega) hS.size ?_
        intro g5 c5 Y5 o7n hg hgc
        try replace z80 := z80.kept hg (.inr (fun e => hz (Option.some.inj e)))
        try replace hz := hgc.elim (fun e => by rw [e]; exact hz) (fun h => Nat.ne_of_lt (Nat.lt_of_lt_of_le zlt h))
        have hS2 := hS.trans (grown_below o7 hg hS.size)
        replace o7 := o7n
        clear hg hgc o7n
        refine hK.out _ _ (hS2) (fun hS => ?_)
        clear hK K
        clear hS2
        try simp only [Act.put, List.getElem_toArray, List.getElem_cons_succ, List.getElem_cons_zero, List.setIfInBounds_toArray, List.set_cons_zero, List.set_cons_succ]
        refine wpAnyK_ready (rs := [8]) (by kernel_rfl) (by simp) ?_
        refine AllReadyK.cons rfl (fun K hK => ?_) AllReadyK.nil
        rw [if_pos (by rfl)]
        try have zlt := (z80.lt zq rfl).2
        refine oper_appendN elem148 _ _ rfl rfl o7 rfl (SY.below hS) (strCells_one _) (by omega) hS.size ?_
        intro g8 c8 Y8 o7n hg hgc
        try replace z80 := z80.kept hg (.inr (fun e => hz (Option.some.inj e)))
        try replace hz := hgc.elim (fun e => by rw [e]; exact hz) (fun h => Nat.ne_of_lt (Nat.lt_of_lt_of_le zlt h))
        have hS2 := hS.trans (grown_below o7 hg hS.size)
        replace o7 := o7n
        clear hg hgc o7n
        refine hK.out _ _ (hS2) (fun hS => ?_)
        clear hK K
        clear hS2
        try simp only [Act.put, List.getElem_toArray, List.getElem_cons_succ, List.getElem_cons_zero, List.setIfInBounds_toArray, List.set_cons_zero, List.set_cons_succ]
        refine wpAnyK_ready (rs := [11]) (by kernel_rfl) (by simp) ?_
        refine AllReadyK.cons rfl (fun K hK => ?_) AllReadyK.nil
        rw [if_pos (by rfl)]
        try have zlt := (z80.lt zq rfl).2
        refine oper_appendN elem148 _ _ rfl rfl o7 rfl (Sees.of_owns z80) (by simp [Value.oneCell']) (by omega) hS.size ?_
        intro g11 c11 Y11 o7n hg hgc
        try replace z80 := z80.kept hg (.inr (fun e => hz (Option.some.inj e)))
        try replace hz := hgc.elim (fun e => by rw [e]; exact hz) (fun h => Nat.ne_of_lt (Nat.lt_of_lt_of_le zlt h))
        have hS2 := hS.trans (grown_below o7 hg hS.size)
        replace o7 := o7n
        clear hg hgc o7n
        refine hK.out _ _ (hS2) (fun hS => ?_)
        clear hK K
        clear hS2
        try simp only [Act.put, List.getElem_toArray, List.getElem_cons_succ, List.getElem_cons_zero, List.setIfInBounds_toArray, List.set_cons_zero, List.set_cons_succ]
        refine take_atK (i := 16) 86 (.agg (wayC (nodeD Da Db) (.slice (some ⟨g11, 0, none⟩) (0 + H1.length + H2.length + 1) c11) (.slice e1 R2.length f1) (.slice e2 r2 f2))) [17] rfl rfl (by kernel_rfl) (by decide) (by decide) (by kernel_rfl) (by kernel_rfl) (by kernel_rfl) (by kernel_rfl) (fun _ _ _ h => h) (Or.inl ⟨by rfl, fun W hW => exec_build _ 177 #[(0, .tmp 71), (1, .tmp 81), (2, .tmp 83), (3, .tmp 85)] rfl #[(0, .agg (A8 16 (nodeD Da Db))), (1, .slice (some ⟨g11, 0, none⟩) (0 + H1.length + H2.length + 1) c11), (2, .slice e1 R2.length f1), (3, .slice e2 r2 f2)] rfl _ (build177 _ _ _ _ _ _ _ _ _ _)⟩) hS ?_
        try simp only [List.setIfInBounds_toArray, List.set_cons_zero, List.set_cons_succ]
        refine storeK_row (by kernel_rfl) (by decide) rfl rfl 177 (.tmp 8) (.tmp 86) rfl w.heap.size rfl (C' := (wayC (nodeD Da Db) (.slice (some ⟨g11, 0, none⟩) (0 + H1.length + H2.length + 1) c11) (.slice e1 R2.length f1) (.slice e2 r2 f2))) rfl (ko.below hS (by omega)) size177 (wayC.size _ _ _ _) (wayC.size _ _ _ _) (wayC.one _ _ _ _ rfl rfl rfl) rfl (fun W9 hu k9 => ?_)
        have hS0 := hS
        clear hS
        have hS : True := trivial
        try simp only [Act.put, List.getElem_toArray, List.getElem_cons_succ, List.getElem_cons_zero, List.setIfInBounds_toArray, List.set_cons_zero, List.set_cons_succ]
        refine wpAnyH_done (by kernel_rfl) ?_ _
        have hfo := owns_upd o7 hu lo
        have hBe := hu.below (hB.trans (hS0.mono hB.size)) (Nat.le_refl _)
        go_wp2_with fail
        exact ret_row rfl w.heap.size rfl k9 Tryd.underlying177 rfl size177 (wayC.size _ _ _ _) rfl ⟨_, _, _, rfl, t1, t2, HF.out _ _ (Sees.of_owns hfo), hBe⟩
      refine AllReadyK.cons rfl (fun K hK => ?_) ?_
      · skip
        rw [if_pos (by rfl)]
        refine oper_buildz rfl (build148z _) ?_
        have hb := (Below.refl Wd.drew.heap.size Wd.drew).alloc (Nat.le_refl _) (.cells #[] 9)
        try have hz := Nat.ne_of_lt (z80.lt zq rfl).2
        have hS2 := hS.trans (hb.mono hS.size)
        try replace z80 := ownsRow_below z80 hb
        have o7 := owns_z Wd.drew Wd.heap.size 9 1 hS.size
        obtain ⟨V2, hV⟩ : ∃ V, Wd.drew.alloc (.cells #[] 9) = V := ⟨_, rfl⟩
        rw [hV] at o7 hS2 ⊢
        try rw [hV] at z80
        obtain ⟨zb, hzz⟩ : ∃ z, Wd.drew.heap.size = z := ⟨_, rfl⟩
        rw [hzz] at o7 ⊢
        try rw [hzz] at hz
        clear hV hzz hb
        refine hK.out _ _ (hS2) (fun hS => ?_)
        clear hK K
        clear hS2
        try simp only [Act.put, List.getElem_toArray, List.getElem_cons_succ, List.getElem_cons_zero, List.setIfInBounds_toArray, List.set_cons_zero, List.set_cons_succ]
        refine wpAnyK_ready (rs := [1, 10]) (by kernel_rfl) (by simp) ?_
        refine AllReadyK.cons rfl (fun K hK => ?_) ?_
        · skip
          go_simp
          refine (CS.out _ (K8.out _ hS)).mono ?_
          rintro e X1 ⟨rfl, hb⟩
          have hS2 := hS.trans (hb.mono hS.size)
          try replace o7 := ownsRow_below o7 hb
          try replace z80 := ownsRow_below z80 hb
          refine hK.out _ _ (hS2) (fun hS => ?_)
          clear hK K
          clear hb hS2
          try simp only [Act.put, List.getElem_toArray, List.getElem_cons_succ, List.getElem_cons_zero, List.setIfInBounds_toArray, List.set_cons_zero, List.set_cons_succ]
          refine wpAnyK_ready (rs := [5, 10]) (by kernel_rfl) (by simp) ?_
          refine AllReadyK.cons rfl (fun K hK => ?_) ?_
          · skip
            rw [if_pos (by rfl)]
            try have zlt := (z80.lt zq rfl).2
            refine oper_appendN elem148 _ _ rfl rfl o7 rfl (SX.below hS) (strCells_one _) (by omega) hS.size ?_
            intro g5 c5 Y5 o7n hg hgc
            try replace z80 := z80.kept hg (.inr (fun e => hz (Option.some.inj e)))
            try replace hz := hgc.elim (fun e => by rw [e]; exact hz) (fun h => Nat.ne_of_lt (Nat.lt_of_lt_of_le zlt h))
            have hS2 := hS.trans (grown_below o7 hg hS.size)
            replace o7 := o7n
            clear hg hgc o7n
            refine hK.out _ _ (hS2) (fun hS => ?_)
            clear hK K
            clear hS2
            try simp only [Act.put, List.getElem_toArray, List.getElem_cons_succ, List.getElem_cons_zero, List.setIfInBounds_toArray, List.set_cons_zero, List.set_cons_succ]
            refine wpAnyK_ready (rs := [8, 10]) (by kernel_rfl) (by simp) ?_
            refine AllReadyK.cons rfl (fun K hK => ?_) ?_
            · skip
              rw [if_pos (by rfl)]
              try have zlt := (z80.lt zq rfl).2
              refine oper_appendN elem148 _ _ rfl rfl o7 rfl (SY.below hS) (strCells_one _) (by omega) hS.size ?_
              intro g8 c8 Y8 o7n hg hgc
              try replace z80 := z80.kept hg (.inr (fun e => hz (Option.some.inj e)))
              try replace hz := hgc.elim (fun e => by rw [e]; exact hz) (fun h => Nat.ne_of_lt (Nat.lt_of_lt_of_le zlt h))
              have hS2 := hS.trans (grown_below o7 hg hS.size)
              replace o7 := o7n
              clear hg hgc o7n
              refine hK.out _ _ (hS2) (fun hS => ?_)
              clear hK K
              clear hS2
              try simp only [Act.put, List.getElem_toArray, List.getElem_cons_succ, List.getElem_cons_zero, List.setIfInBounds_toArray, List.set_cons_zero, List.set_cons_succ]
              refine wpAnyK_ready (rs := [10]) (by kernel_rfl) (by simp) ?_
              refine AllReadyK.cons rfl (fun K hK => ?_) AllReadyK.nil
              rw [if_pos (by rfl)]
              refine oper_build1 (.tmp 79) rfl (u := .string s) (C := #[.string s]) rfl (build148 _ _) ?_
              have hb := (Below.refl Y8.heap.size Y8).alloc (Nat.le_refl _) (.cells #[.string s] 9)
              try have hz := Nat.ne_of_gt (o7.lt _ rfl).2
              have hS2 := hS.trans (hb.mono hS.size)
              try replace o7 := ownsRow_below o7 hb
              have z80 := owns_one Y8 Wd.heap.size 9 1 #[.string s] rfl hS.size
              obtain ⟨V10, hV⟩ : ∃ V, Y8.alloc (.cells #[.string s] 9) = V := ⟨_, rfl⟩
              rw [hV] at z80 hS2 ⊢
              try rw [hV] at o7
              obtain ⟨zq, hzz⟩ : ∃ z, Y8.heap.size = z := ⟨_, rfl⟩
              rw [hzz] at z80 ⊢
              try rw [hzz] at hz
              clear hV hzz hb
              refine hK.out _ _ (hS2) (fun hS => ?_)
              clear hK K
              clear hS2
              try simp only [Act.put, List.getElem_toArray, List.getElem_cons_succ, List.getElem_cons_zero, List.setIfInBounds_toArray, List.set_cons_zero, List.set_cons_succ]
              refine wpAnyK_ready (rs := [11]) (by kernel_rfl) (by simp) ?_
              refine AllReadyK.cons rfl (fun K hK => ?_) AllReadyK.nil
              rw [if_pos (by rfl)]
              try have zlt := (z80.lt zq rfl).2
              refine oper_appendN elem148 _ _ rfl rfl o7 rfl (Sees.of_owns z80) (by simp [Value.oneCell']) (by omega) hS.size ?_
              intro g11 c11 Y11 o7n hg hgc
              try replace z80 := z80.kept hg (.inr (fun e => hz (Option.some.inj e)))
              try replace hz := hgc.elim (fun e => by rw [e]; exact hz) (fun h => Nat.ne_of_lt (Nat.lt_of_lt_of_le zlt h))
              have hS2 := hS.trans (grown_below o7 hg hS.size)
              replace o7 := o7n
              clear hg hgc o7n
              refine hK.out _ _ (hS2) (fun hS => ?_)
              clear hK K
              clear hS2
              try simp only [Act.put, List.getElem_toArray, List.getElem_cons_succ, List.getElem_cons_zero, List.setIfInBounds_toArray, List.set_cons_zero, List.set_cons_succ]
              refine take_atK (i := 16) 86 (.agg (wayC (nodeD Da Db) (.slice (some ⟨g11, 0, none⟩) (0 + H1.length + H2.length + 1) c11) (.slice e1 R2.length f1) (.slice e2 r2 f2))) [17] rfl rfl (by kernel_rfl) (by decide) (by decide) (by kernel_rfl) (by kernel_rfl) (by kernel_rfl) (by kernel_rfl) (fun _ _ _ h => h) (Or.inl ⟨by rfl, fun W hW => exec_build _ 177 #[(0, .tmp 71), (1, .tmp 81), (2, .tmp 83), (3, .tmp 85)] rfl #[(0, .agg (A8 16 (nodeD Da Db))), (1, .slice (some ⟨g11, 0, none⟩) (0 + H1.length + H2.length + 1) c11), (2, .slice e1 R2.length f1), (3, .slice e2 r2 f2)] rfl _ (build177 _ _ _ _ _ _ _ _ _ _)⟩) hS ?_
              try simp only [List.setIfInBounds_toArray, List.set_cons_zero, List.set_cons_succ]
              refine storeK_row (by kernel_rfl) (by decide) rfl rfl 177 (.tmp 8) (.tmp 86) rfl w.heap.size rfl (C' := (wayC (nodeD Da Db) (.slice (some ⟨g11, 0, none⟩) (0 + H1.length + H2.length + 1) c11) (.slice e1 R2.length f1) (.slice e2 r2 f2))) rfl (ko.below hS (by omega)) size177 (wayC.size _ _ _ _) (wayC.size _ _ _ _) (wayC.one _ _ _ _ rfl rfl rfl) rfl (fun W9 hu k9 => ?_)
              have hS0 := hS
              clear hS
              have hS : True := trivial
              try simp only [Act.put, List.getElem_toArray, List.getElem_cons_succ, List.getElem_cons_zero, List.setIfInBounds_toArray, List.set_cons_zero, List.set_cons_succ]
              refine wpAnyH_done (by kernel_rfl) ?_ _
              have hfo := owns_upd o7 hu lo
              have hBe := hu.below (hB.trans (hS0.mono hB.size)) (Nat.le_refl _)
              go_wp2_with fail
              exact ret_row rfl w.heap.size rfl k9 Tryd.underlying177 rfl size177 (wayC.size _ _ _ _) rfl ⟨_, _, _, rfl, t1, t2, HF.out _ _ (Sees.of_owns hfo), hBe⟩
            refine AllReadyK.cons rfl (fun K hK => ?_) AllReadyK.nil
            rw [if_pos (by rfl)]
            refine oper_build1 (.tmp 79) rfl (u := .string s) (C := #[.string s]) rfl (build148 _ _) ?_
            have hb := (Below.refl Y5.heap.size Y5).alloc (Nat.le_refl _) (.cells #[.string s] 9)
            try have hz := Nat.ne_of_gt (o7.lt _ rfl).2
            have hS2 := hS.trans (hb.mono hS.size)
            try replace o7 := ownsRow_below o7 hb
            have z80 := owns_one Y5 Wd.heap.size 9 1 #[.string s] rfl hS.size
            obtain ⟨V10, hV⟩ : ∃ V, Y5.alloc (.cells #[.string s] 9) = V := ⟨_, rfl⟩
            rw [hV] at z80 hS2 ⊢
            try rw [hV] at o7
            obtain ⟨zq, hzz⟩ : ∃ z, Y5.heap.size = z := ⟨_, rfl⟩
            rw [hzz] at z80 ⊢
            try rw [hzz] at hz
            clear hV hzz hb
            refine hK.out _ _ (hS2) (fun hS => ?_)
            clear hK K
            clear hS2
            try simp only [Act.put, List.getElem_toArray, List.getElem_cons_succ, List.getElem_cons_zero, List.setIfInBounds_toArray, List.set_cons_zero, List.set_cons_succ]
            refine wpAnyK_ready (rs := [8]) (by kernel_rfl) (by simp) ?_
            refine AllReadyK.cons rfl (fun K hK => ?_) AllReadyK.nil
            rw [if_pos (by rfl)]
            try have zlt := (z80.lt zq rfl).2
            refine oper_appendN elem148 _ _ rfl rfl o7 rfl (SY.below hS) (strCells_one _) (by omega) hS.size ?_
            intro g8 c8 Y8 o7n hg hgc
            try replace z80 := z80.kept hg (.inr (fun e => hz (Option.some.inj e)))
            try replace hz := hgc.elim (fun e => by rw [e]; exact hz) (fun h => Nat.ne_of_lt (Nat.lt_of_lt_of_le zlt h))
            have hS2 := hS.trans (grown_below o7 hg hS.size)
            replace o7 := o7n
            clear hg hgc o7n
            refine hK.out _ _ (hS2) (fun hS => ?_)
            clear hK K
            clear hS2
            try simp only [Act.put, List.getElem_toArray, List.getElem_cons_succ, List.getElem_cons_zero, List.setIfInBounds_toArray, List.set_cons_zero, List.set_cons_succ]
            refine wpAnyK_ready (rs := [11]) (by kernel_rfl) (by simp) ?_
            refine AllReadyK.cons rfl (fun K hK => ?_) AllReadyK.nil
            rw [if_pos (by rfl)]
            try have zlt := (z80.lt zq rfl).2
            refine oper_appendN elem148 _ _ rfl rfl o7 rfl (Sees.of_owns z80) (by simp [Value.oneCell']) (by omega) hS.size ?_
            intro g11 c11 Y11 o7n hg hgc
            try replace z80 := z80.kept hg (.inr (fun e => hz (Option.some.inj e)))
            try replace hz := hgc.elim (fun e => by rw [e]; exact hz) (fun h => Nat.ne_of_lt (Nat.lt_of_lt_of_le zlt h))
            have hS2 := hS.trans (grown_below o7 hg hS.size)
            replace o7 := o7n
            clear hg hgc o7n
            refine hK.out _ _ (hS2) (fun hS => ?_)
            clear hK K
            clear hS2
            try simp only [Act.put, List.getElem_toArray, List.getElem_cons_succ, List.getElem_cons_zero, List.setIfInBounds_toArray, List.set_cons_zero, List.set_cons_succ]
            refine take_atK (i := 16) 86 (.agg (wayC (nodeD Da Db) (.slice (some ⟨g11, 0, none⟩) (0 + H1.length + H2.length + 1) c11) (.slice e1 R2.length f1) (.slice e2 r2 f2))) [17] rfl rfl (by kernel_rfl) (by decide) (by decide) (by kernel_rfl) (by kernel_rfl) (by kernel_rfl) (by kernel_rfl) (fun _ _ _ h => h) (Or.inl ⟨by rfl, fun W hW => exec_build _ 177 #[(0, .tmp 71), (1, .tmp 81), (2, .tmp 83), (3, .tmp 85)] rfl #[(0, .agg (A8 16 (nodeD Da Db))), (1, .slice (some ⟨g11, 0, none⟩) (0 + H1.length + H2.length + 1) c11), (2, .slice e1 R2.length f1), (3, .slice e2 r2 f2)] rfl _ (build177 _ _ _ _ _ _ _ _ _ _)⟩) hS ?_
            try simp only [List.setIfInBounds_toArray, List.set_cons_zero, List.set_cons_succ]
            refine storeK_row (by kernel_rfl) (by decide) rfl rfl 177 (.tmp 8) (.tmp 86) rfl w.heap.size rfl (C' := (wayC (nodeD Da Db) (.slice (some ⟨g11, 0, none⟩) (0 + H1.length + H2.length + 1) c11) (.slice e1 R2.length f1) (.slice e2 r2 f2))) rfl (ko.below hS (by omega)) size177 (wayC.size _ _ _ _) (wayC.size _ _ _ _) (wayC.one _ _ _ _ rfl rfl rfl) rfl (fun W9 hu k9 => ?_)
            have hS0 := hS
            clear hS
            have hS : True := trivial
            try simp only [Act.put, List.getElem_toArray, List.getElem_cons_succ, List.getElem_cons_zero, List.setIfInBounds_toArray, List.set_cons_zero, List.set_cons_succ]
            refine wpAnyH_done (by kernel_rfl) ?_ _
            have hfo := owns_upd o7 hu lo
            have hBe := hu.below (hB.trans (hS0.mono hB.size)) (Nat.le_refl _)
            go_wp2_with fail
            exact ret_row rfl w.heap.size rfl k9 Tryd.underlying177 rfl size177 (wayC.size _ _ _ _) rfl ⟨_, _, _, rfl, t1, t2, HF.out _ _ (Sees.of_owns hfo), hBe⟩
          refine AllReadyK.cons rfl (fun K hK => ?_) AllReadyK.nil
          rw [if_pos (by rfl)]
          refine oper_build1 (.tmp 79) rfl (u := .string s) (C := #[.string s]) rfl (build148 _ _) ?_
          have hb := (Below.refl X1.heap.size X1).alloc (Nat.le_refl _) (.cells #[.string s] 9)
          try have hz := Nat.ne_of_gt (o7.lt _ rfl).2
          have hS2 := hS.trans (hb.mono hS.size)
          try replace o7 := ownsRow_below o7 hb
          have z80 := owns_one X1 Wd.heap.size 9 1 #[.string s] rfl hS.size
          obtain ⟨V10, hV⟩ : ∃ V, X1.alloc (.cells #[.string s] 9) = V := ⟨_, rfl⟩
          rw [hV] at z80 hS2 ⊢
          try rw [hV] at o7
          obtain ⟨zq, hzz⟩ : ∃ z, X1.heap.size = z := ⟨_, rfl⟩
          rw [hzz] at z80 ⊢
          try rw [hzz] at hz
          clear hV hzz hb
          refine hK.out _ _ (hS2) (fun hS => ?_)
          clear hK K
          clear hS2
          try simp only [Act.put, List.getElem_toArray, List.getElem_cons_succ, List.getElem_cons_zero, List.setIfInBounds_toArray, List.set_cons_zero, List.set_cons_succ]
          refine wpAnyK_ready (rs := [5]) (by kernel_rfl) (by simp) ?_
          refine AllReadyK.cons rfl (fun K hK => ?_) AllReadyK.nil
          rw [if_pos (by rfl)]
          try have zlt := (z80.lt zq rfl).2
          refine oper_appendN elem148 _ _ rfl rfl o7 rfl (SX.below hS) (strCells_one _) (by omega) hS.size ?_
          intro g5 c5 Y5 o7n hg hgc
          try replace z80 := z80.kept hg (.inr (fun e => hz (Option.some.inj e)))
          try replace hz := hgc.elim (fun e => by rw [e]; exact hz) (fun h => Nat.ne_of_lt (Nat.lt_of_lt_of_le zlt h))
          have hS2 := hS.trans (grown_below o7 hg hS.size)
          replace o7 := o7n
          clear hg hgc o7n
          refine hK.out _ _ (hS2) (fun hS => ?_)
          clear hK K
          clear hS2
          try simp only [Act.put, List.getElem_toArray, List.getElem_cons_succ, List.getElem_cons_zero, List.setIfInBounds_toArray, List.set_cons_zero, List.set_cons_succ]
          refine wpAnyK_ready (rs := [8]) (by kernel_rfl) (by simp) ?_
          refine AllReadyK.cons rfl (fun K hK => ?_) AllReadyK.nil
          rw [if_pos (by rfl)]
          try have zlt := (z80.lt zq rfl).2
          refine oper_appendN elem148 _ _ rfl rfl o7 rfl (SY.below hS) (strCells_one _) (by omega) hS.size ?_
          intro g8 c8 Y8 o7n hg hgc
          try replace z80 := z80.kept hg (.inr (fun e => hz (Option.some.inj e)))
          try replace hz := hgc.elim (fun e => by rw [e]; exact hz) (fun h => Nat.ne_of_lt (Nat.lt_of_lt_of_le zlt h))
          have hS2 := hS.trans (grown_below o7 hg hS.size)
          replace o7 := o7n
          clear hg hgc o7n
          refine hK.out _ _ (hS2) (fun hS => ?_)
          clear hK K
          clear hS2
          try simp only [Act.put, List.getElem_toArray, List.getElem_cons_succ, List.getElem_cons_zero, List.setIfInBounds_toArray, List.set_cons_zero, List.set_cons_succ]
          refine wpAnyK_ready (rs := [11]) (by kernel_rfl) (by simp) ?_
          refine AllReadyK.cons rfl (fun K hK => ?_) AllReadyK.nil
          rw [if_pos (by rfl)]
          try have zlt := (z80.lt zq rfl).2
          refine oper_appendN elem148 _ _ rfl rfl o7 rfl (Sees.of_owns z80) (by simp [Value.oneCell']) (by omega) hS.size ?_
          intro g11 c11 Y11 o7n hg hgc
          try replace z80 := z80.kept hg (.inr (fun e => hz (Option.some.inj e)))
          try replace hz := hgc.elim (fun e => by rw [e]; exact hz) (fun h => Nat.ne_of_lt (Nat.lt_of_lt_of_le zlt h))
          have hS2 := hS.trans (grown_below o7 hg hS.size)
          replace o7 := o7n
          clear hg hgc o7n
          refine hK.out _ _ (hS2) (fun hS => ?_)
          clear hK K
          clear hS2
          try simp only [Act.put, List.getElem_toArray, List.getElem_cons_succ, List.getElem_cons_zero, List.setIfInBounds_toArray, List.set_cons_zero, List.set_cons_succ]
          refine take_atK (i := 16) 86 (.agg (wayC (nodeD Da Db) (.slice (some ⟨g11, 0, none⟩) (0 + H1.length + H2.length + 1) c11) (.slice e1 R2.length f1) (.slice e2 r2 f2))) [17] rfl rfl (by kernel_rfl) (by decide) (by decide) (by kernel_rfl) (by kernel_rfl) (by kernel_rfl) (by kernel_rfl) (fun _ _ _ h => h) (Or.inl ⟨by rfl, fun W hW => exec_build _ 177 #[(0, .tmp 71), (1, .tmp 81), (2, .tmp 83), (3, .tmp 85)] rfl #[(0, .agg (A8 16 (nodeD Da Db))), (1, .slice (some ⟨g11, 0, none⟩) (0 + H1.length + H2.length + 1) c11), (2, .slice e1 R2.length f1), (3, .slice e2 r2 f2)] rfl _ (build177 _ _ _ _ _ _ _ _ _ _)⟩) hS ?_
          try simp only [List.setIfInBounds_toArray, List.set_cons_zero, List.set_cons_succ]
          refine storeK_row (by kernel_rfl) (by decide) rfl rfl 177 (.tmp 8) (.tmp 86) rfl w.heap.size rfl (C' := (wayC (nodeD Da Db) (.slice (some ⟨g11, 0, none⟩) (0 + H1.length + H2.length + 1) c11) (.slice e1 R2.length f1) (.slice e2 r2 f2))) rfl (ko.below hS (by omega)) size177 (wayC.size _ _ _ _) (wayC.size _ _ _ _) (wayC.one _ _ _ _ rfl rfl rfl) rfl (fun W9 hu k9 => ?_)
          have hS0 := hS
          clear hS
          have hS : True := trivial
          try simp only [Act.put, List.getElem_toArray, List.getElem_cons_succ, List.getElem_cons_zero, List.setIfInBounds_toArray, List.set_cons_zero, List.set_cons_succ]
          refine wpAnyH_done (by kernel_rfl) ?_ _
          have hfo := owns_upd o7 hu lo
          have hBe := hu.below (hB.trans (hS0.mono hB.size)) (Nat.le_refl _)
          go_wp2_with fail
          exact ret_row rfl w.heap.size rfl k9 Tryd.underlying177 rfl size177 (wayC.size _ _ _ _) rfl ⟨_, _, _, rfl, t1, t2, HF.out _ _ (Sees.of_owns hfo), hBe⟩
        refine AllReadyK.cons rfl (fun K hK => ?_) AllReadyK.nil
        rw [if_pos (by rfl)]
        refine oper_build1 (.tmp 79) rfl (u := .string s) (C := #[.string s]) rfl (build148 _ _) ?_
        have hb := (Below.refl V2.heap.size V2).alloc (Nat.le_refl _) (.cells #[.string s] 9)
        try have hz := Nat.ne_of_gt (o7.lt _ rfl).2
        have hS2 := hS.trans (hb.mono hS.size)
        try replace o7 := ownsRow_below o7 hb
        have z80 := owns_one V2 Wd.heap.size 9 1 #[.string s] rfl hS.size
        obtain ⟨V10, hV⟩ : ∃ V, V2.alloc (.cells #[.string s] 9) = V := ⟨_, rfl⟩
        rw [hV] at z80 hS2 ⊢
        try rw [hV] at o7
        obtain ⟨zq, hzz⟩ : ∃ z, V2.heap.size = z := ⟨_, rfl⟩
        rw [hzz] at z80 ⊢
        try rw [hzz] at hz
        clear hV hzz hb
        refine hK.out _ _ (hS2) (fun hS => ?_)
        clear hK K
        clear hS2
        try simp only [Act.put, List.getElem_toArray, List.getElem_cons_succ, List.getElem_cons_zero, List.setIfInBounds_toArray, List.set_cons_zero, List.set_cons_succ]
        refine wpAnyK_ready (rs := [1]) (by kernel_rfl) (by simp) ?_
        refine AllReadyK.cons rfl (fun K hK => ?_) AllReadyK.nil
        go_simp
        refine (CS.out _ (K8.out _ hS)).mono ?_
        rintro e X1 ⟨rfl, hb⟩
        have hS2 := hS.trans (hb.mono hS.size)
        try replace o7 := ownsRow_below o7 hb
        try replace z80 := ownsRow_below z80 hb
        refine hK.out _ _ (hS2) (fun hS => ?_)
        clear hK K
        clear hb hS2
        try simp only [Act.put, List.getElem_toArray, List.getElem_cons_succ, List.getElem_cons_zero, List.setIfInBounds_toArray, List.set_cons_zero, List.set_cons_succ]
        refine wpAnyK_ready (rs := [5]) (by kernel_rfl) (by simp) ?_
        refine AllReadyK.cons rfl (fun K hK => ?_) AllReadyK.nil
        rw [if_pos (by rfl)]
        try have zlt := (z80.lt zq rfl).2
        refine oper_appendN elem148 _ _ rfl rfl o7 rfl (SX.below hS) (strCells_one _) (by omega) hS.size ?_
        intro g5 c5 Y5 o7n hg hgc
        try replace z80 := z80.kept hg (.inr (fun e => hz (Option.some.inj e)))
        try replace hz := hgc.elim (fun e => by rw [e]; exact hz) (fun h => Nat.ne_of_lt (Nat.lt_of_lt_of_le zlt h))
        have hS2 := hS.trans (grown_below o7 hg hS.size)
        replace o7 := o7n
        clear hg hgc o7n
        refine hK.out _ _ (hS2) (fun hS => ?_)
        clear hK K
        clear hS2
        try simp only [Act.put, List.getElem_toArray, List.getElem_cons_succ, List.getElem_cons_zero, List.setIfInBounds_toArray, List.set_cons_zero, List.set_cons_succ]
        refine wpAnyK_ready (rs := [8]) (by kernel_rfl) (by simp) ?_
        refine AllReadyK.cons rfl (fun K hK => ?_) AllReadyK.nil
        rw [if_pos (by rfl)]
        try have zlt := (z80.lt zq rfl).2
        refine oper_appendN elem148 _ _ rfl rfl o7 rfl (SY.below hS) (strCells_one _) (by omega) hS.size ?_
        intro g8 c8 Y8 o7n hg hgc
        try replace z80 := z80.kept hg (.inr (fun e => hz (Option.some.inj e)))
        try replace hz := hgc.elim (fun e => by rw [e]; exact hz) (fun h => Nat.ne_of_lt (Nat.lt_of_lt_of_le zlt h))
        have hS2 := hS.trans (grown_below o7 hg hS.size)
        replace o7 := o7n
        clear hg hgc o7n
        refine hK.out _ _ (hS2) (fun hS => ?_)
        clear hK K
        clear hS2
        try simp only [Act.put, List.getElem_toArray, List.getElem_cons_succ, List.getElem_cons_zero, List.setIfInBounds_toArray, List.set_cons_zero, List.set_cons_succ]
        refine wpAnyK_ready (rs := [11]) (by kernel_rfl) (by simp) ?_
        refine AllReadyK.cons rfl (fun K hK => ?_) AllReadyK.nil
        rw [if_pos (by rfl)]
        try have zlt := (z80.lt zq rfl).2
        refine oper_appendN elem148 _ _ rfl rfl o7 rfl (Sees.of_owns z80) (by simp [Value.oneCell']) (by omega) hS.size ?_
        intro g11 c11 Y11 o7n hg hgc
        try replace z80 := z80.kept hg (.inr (fun e => hz (Option.some.inj e)))
        try replace hz := hgc.elim (fun e => by rw [e]; exact hz) (fun h => Nat.ne_of_lt (Nat.lt_of_lt_of_le zlt h))
        have hS2 := hS.trans (grown_below o7 hg hS.size)
        replace o7 := o7n
        clear hg hgc o7n
        refine hK.out _ _ (hS2) (fun hS => ?_)
        clear hK K
        clear hS2
        try simp only [Act.put, List.getElem_toArray, List.getElem_cons_succ, List.getElem_cons_zero, List.setIfInBounds_toArray, List.set_cons_zero, List.set_cons_succ]
        refine take_atK (i := 16) 86 (.agg (wayC (nodeD Da Db) (.slice (some ⟨g11, 0, none⟩) (0 + H1.length + H2.length + 1) c11) (.slice e1 R2.length f1) (.slice e2 r2 f2))) [17] rfl rfl (by kernel_rfl) (by decide) (by decide) (by kernel_rfl) (by kernel_rfl) (by kernel_rfl) (by kernel_rfl) (fun _ _ _ h => h) (Or.inl ⟨by rfl, fun W hW => exec_build _ 177 #[(0, .tmp 71), (1, .tmp 81), (2, .tmp 83), (3, .tmp 85)] rfl #[(0, .agg (A8 16 (nodeD Da Db))), (1, .slice (some ⟨g11, 0, none⟩) (0 + H1.length + H2.length + 1) c11), (2, .slice e1 R2.length f1), (3, .slice e2 r2 f2)] rfl _ (build177 _ _ _ _ _ _ _ _ _ _)⟩) hS ?_
        try simp only [List.setIfInBounds_toArray, List.set_cons_zero, List.set_cons_succ]
        refine storeK_row (by kernel_rfl) (by decide) rfl rfl 177 (.tmp 8) (.tmp 86) rfl w.heap.size rfl (C' := (wayC (nodeD Da Db) (.slice (some ⟨g11, 0, none⟩) (0 + H1.length + H2.length + 1) c11) (.slice e1 R2.length f1) (.slice e2 r2 f2))) rfl (ko.below hS (by omega)) size177 (wayC.size _ _ _ _) (wayC.size _ _ _ _) (wayC.one _ _ _ _ rfl rfl rfl) rfl (fun W9 hu k9 => ?_)
        have hS0 := hS
        clear hS
        have hS : True := trivial
        try simp only [Act.put, List.getElem_toArray, List.getElem_cons_succ, List.getElem_cons_zero, List.setIfInBounds_toArray, List.set_cons_zero, List.set_cons_succ]
        refine wpAnyH_done (by kernel_rfl) ?_ _
        have hfo := owns_upd o7 hu lo
        have hBe := hu.below (hB.trans (hS0.mono hB.size)) (Nat.le_refl _)
        go_wp2_with fail
        exact ret_row rfl w.heap.size rfl k9 Tryd.underlying177 rfl size177 (wayC.size _ _ _ _) rfl ⟨_, _, _, rfl, t1, t2, HF.out _ _ (Sees.of_owns hfo), hBe⟩
      refine AllReadyK.cons rfl (fun K hK => ?_) AllReadyK.nil
      rw [if_pos (by rfl)]
      refine oper_build1 (.tmp 79) rfl (u := .string s) (C := #[.string s]) rfl (build148 _ _) ?_
      have hb := (Below.refl Wd.drew.heap.size Wd.drew).alloc (Nat.le_refl _) (.cells #[.string s] 9)
      try have hz := Nat.ne_of_gt (o7.lt _ rfl).2
      have hS2 := hS.trans (hb.mono hS.size)
      try replace o7 := ownsRow_below o7 hb
      have z80 := owns_one Wd.drew Wd.heap.size 9 1 #[.string s] rfl hS.size
      obtain ⟨V10, hV⟩ : ∃ V, Wd.drew.alloc (.cells #[.string s] 9) = V := ⟨_, rfl⟩
      rw [hV] at z80 hS2 ⊢
      try rw [hV] at o7
      obtain ⟨zq, hzz⟩ : ∃ z, Wd.drew.heap.size = z := ⟨_, rfl⟩
      rw [hzz] at z80 ⊢
      try rw [hzz] at hz
      clear hV hzz hb
      refine hK.out _ _ (hS2) (fun hS => ?_)
      clear hK K
      clear hS2
      try simp only [Act.put, List.getElem_toArray, List.getElem_cons_succ, List.getElem_cons_zero, List.setIfInBounds_toArray, List.set_cons_zero, List.set_cons_succ]
      refine wpAnyK_ready (rs := [1, 2]) (by kernel_rfl) (by simp) ?_
      refine AllReadyK.cons rfl (fun K hK => ?_) ?_
      · skip
        go_simp
        refine (CS.out _ (K8.out _ hS)).mono ?_
        rintro e X1 ⟨rfl, hb⟩
        have hS2 := hS.trans (hb.mono hS.size)
        try replace o7 := ownsRow_below o7 hb
        try replace z80 := ownsRow_below z80 hb
        refine hK.out _ _ (hS2) (fun hS => ?_)
        clear hK K
        clear hb hS2
        try simp only [Act.put, List.getElem_toArray, List.getElem_cons_succ, List.getElem_cons_zero, List.setIfInBounds_toArray, List.set_cons_zero, List.set_cons_succ]
        refine wpAnyK_ready (rs := [2]) (by kernel_rfl) (by simp) ?_
        refine AllReadyK.cons rfl (fun K hK => ?_) AllReadyK.nil
        rw [if_pos (by rfl)]
        refine oper_buildz rfl (build148z _) ?_
        have hb := (Below.refl X1.heap.size X1).alloc (Nat.le_refl _) (.cells #[] 9)
        try have hz := Nat.ne_of_lt (z80.lt zq rfl).2
        have hS2 := hS.trans (hb.mono hS.size)
        try replace z80 := ownsRow_below z80 hb
        have o7 := owns_z X1 Wd.heap.size 9 1 hS.size
        obtain ⟨V2, hV⟩ : ∃ V, X1.alloc (.cells #[] 9) = V := ⟨_, rfl⟩
        rw [hV] at o7 hS2 ⊢
        try rw [hV] at z80
        obtain ⟨zb, hzz⟩ : ∃ z, X1.heap.size = z := ⟨_, rfl⟩
        rw [hzz] at o7 ⊢
        try rw [hzz] at hz
        clear hV hzz hb
        refine hK.out _ _ (hS2) (fun hS => ?_)
        clear hK K
        clear hS2
        try simp only [Act.put, List.getElem_toArray, List.getElem_cons_succ, List.getElem_cons_zero, List.setIfInBounds_toArray, List.set_cons_zero, List.set_cons_succ]
        refine wpAnyK_ready (rs := [5]) (by kernel_rfl) (by simp) ?_
        refine AllReadyK.cons rfl (fun K hK => ?_) AllReadyK.nil
        rw [if_pos (by rfl)]
        try have zlt := (z80.lt zq rfl).2
        refine oper_appendN elem148 _ _ rfl rfl o7 rfl (SX.below hS) (strCells_one _) (by omega) hS.size ?_
        intro g5 c5 Y5 o7n hg hgc
        try replace z80 := z80.kept hg (.inr (fun e => hz (Option.some.inj e)))
        try replace hz := hgc.elim (fun e => by rw [e]; exact hz) (fun h => Nat.ne_of_lt (Nat.lt_of_lt_of_le zlt h))
        have hS2 := hS.trans (grown_below o7 hg hS.size)
        replace o7 := o7n
        clear hg hgc o7n
        refine hK.out _ _ (hS2) (fun hS => ?_)
        clear hK K
        clear hS2
        try simp only [Act.put, List.getElem_toArray, List.getElem_cons_succ, List.getElem_cons_zero, List.setIfInBounds_toArray, List.set_cons_zero, List.set_cons_succ]
        refine wpAnyK_ready (rs := [8]) (by kernel_rfl) (by simp) ?_
        refine AllReadyK.cons rfl (fun K hK => ?_) AllReadyK.nil
        rw [if_pos (by rfl)]
        try have zlt := (z80.lt zq rfl).2
        refine oper_appendN elem148 _ _ rfl rfl o7 rfl (SY.below hS) (strCells_one _) (by omega) hS.size ?_
        intro g8 c8 Y8 o7n hg hgc
        try replace z80 := z80.kept hg (.inr (fun e => hz (Option.some.inj e)))
        try replace hz := hgc.elim (fun e => by rw [e]; exact hz) (fun h => Nat.ne_of_lt (Nat.lt_of_lt_of_le zlt h))
        have hS2 := hS.trans (grown_below o7 hg hS.size)
        replace o7 := o7n
        clear hg hgc o7n
        refine hK.out _ _ (hS2) (fun hS => ?_)
        clear hK K
        clear hS2
        try simp only [Act.put, List.getElem_toArray, List.getElem_cons_succ, List.getElem_cons_zero, List.setIfInBounds_toArray, List.set_cons_zero, List.set_cons_succ]
        refine wpAnyK_ready (rs := [11]) (by kernel_rfl) (by simp) ?_
        refine AllReadyK.cons rfl (fun K hK => ?_) AllReadyK.nil
        rw [if_pos (by rfl)]
        try have zlt := (z80.lt zq rfl).2
        refine oper_appendN elem148 _ _ rfl rfl o7 rfl (Sees.of_owns z80) (by simp [Value.oneCell']) (by omega) hS.size ?_
        intro g11 c11 Y11 o7n hg hgc
        try replace z80 := z80.kept hg (.inr (fun e => hz (Option.some.inj e)))
        try replace hz := hgc.elim (fun e => by rw [e]; exact hz) (fun h => Nat.ne_of_lt (Nat.lt_of_lt_of_le zlt h))
        have hS2 := hS.trans (grown_below o7 hg hS.size)
        replace o7 := o7n
        clear hg hgc o7n
        refine hK.out _ _ (hS2) (fun hS => ?_)
        clear hK K
        clear hS2
        try simp only [Act.put, List.getElem_toArray, List.getElem_cons_succ, List.getElem_cons_zero, List.setIfInBounds_toArray, List.set_cons_zero, List.set_cons_succ]
        refine take_atK (i := 16) 86 (.agg (wayC (nodeD Da Db) (.slice (some ⟨g11, 0, none⟩) (0 + H1.length + H2.length + 1) c11) (.slice e1 R2.length f1) (.slice e2 r2 f2))) [17] rfl rfl (by kernel_rfl) (by decide) (by decide) (by kernel_rfl) (by kernel_rfl) (by kernel_rfl) (by kernel_rfl) (fun _ _ _ h => h) (Or.inl ⟨by rfl, fun W hW => exec_build _ 177 #[(0, .tmp 71), (1, .tmp 81), (2, .tmp 83), (3, .tmp 85)] rfl #[(0, .agg (A8 16 (nodeD Da Db))), (1, .slice (some ⟨g11, 0, none⟩) (0 + H1.length + H2.length + 1) c11), (2, .slice e1 R2.length f1), (3, .slice e2 r2 f2)] rfl _ (build177 _ _ _ _ _ _ _ _ _ _)⟩) hS ?_
        try simp only [List.setIfInBounds_toArray, List.set_cons_zero, List.set_cons_succ]
        refine storeK_row (by kernel_rfl) (by decide) rfl rfl 177 (.tmp 8) (.tmp 86) rfl w.heap.size rfl (C' := (wayC (nodeD Da Db) (.slice (some ⟨g11, 0, none⟩) (0 + H1.length + H2.length + 1) c11) (.slice e1 R2.length f1) (.slice e2 r2 f2))) rfl (ko.below hS (by omega)) size177 (wayC.size _ _ _ _) (wayC.size _ _ _ _) (wayC.one _ _ _ _ rfl rfl rfl) rfl (fun W9 hu k9 => ?_)
        have hS0 := hS
        clear hS
        have hS : True := trivial
        try simp only [Act.put, List.getElem_toArray, List.getElem_cons_succ, List.getElem_cons_zero, List.setIfInBounds_toArray, List.set_cons_zero, List.set_cons_succ]
        refine wpAnyH_done (by kernel_rfl) ?_ _
        have hfo := owns_upd o7 hu lo
        have hBe := hu.below (hB.trans (hS0.mono hB.size)) (Nat.le_refl _)
        go_wp2_with fail
        exact ret_row rfl w.heap.size rfl k9 Tryd.underlying177 rfl size177 (wayC.size _ _ _ _) rfl ⟨_, _, _, rfl, t1, t2, HF.out _ _ (Sees.of_owns hfo), hBe⟩
      refine AllReadyK.cons rfl (fun K hK => ?_) AllReadyK.nil
      rw [if_pos (by rfl)]
      refine oper_buildz rfl (build148z _) ?_
      have hb := (Below.refl V10.heap.size V10).alloc (Nat.le_refl _) (.cells #[] 9)
      try have hz := Nat.ne_of_lt (z80.lt zq rfl).2
      have hS2 := hS.trans (hb.mono hS.size)
      try replace z80 := ownsRow_below z80 hb
      have o7 := owns_z V10 Wd.heap.size 9 1 hS.size
      obtain ⟨V2, hV⟩ : ∃ V, V10.alloc (.cells #[] 9) = V := ⟨_, rfl⟩
      rw [hV] at o7 hS2 ⊢
      try rw [hV] at z80
      obtain ⟨zb, hzz⟩ : ∃ z, V10.heap.size = z := ⟨_, rfl⟩
      rw [hzz] at o7 ⊢
      try rw [hzz] at hz
      clear hV hzz hb
      refine hK.out _ _ (hS2) (fun hS => ?_)
      clear hK K
      clear hS2
      try simp only [Act.put, List.getElem_toArray, List.getElem_cons_succ, List.getElem_cons_zero, List.setIfInBounds_toArray, List.set_cons_zero, List.set_cons_succ]
      refine wpAnyK_ready (rs := [1]) (by kernel_rfl) (by simp) ?_
      refine AllReadyK.cons rfl (fun K hK => ?_) AllReadyK.nil
      go_simp
      refine (CS.out _ (K8.out _ hS)).mono ?_
      rintro e X1 ⟨rfl, hb⟩
      have hS2 := hS.trans (hb.mono hS.size)
      try replace o7 := ownsRow_below o7 hb
      try replace z80 := ownsRow_below z80 hb
      refine hK.out _ _ (hS2) (fun hS => ?_)
      clear hK K
      clear hb hS2
      try simp only [Act.put, List.getElem_toArray, List.getElem_cons_succ, List.getElem_cons_zero, List.setIfInBounds_toArray, List.set_cons_zero, List.set_cons_succ]
      refine wpAnyK_ready (rs := [5]) (by kernel_rfl) (by simp) ?_
      refine AllReadyK.cons rfl (fun K hK => ?_) AllReadyK.nil
      rw [if_pos (by rfl)]
      try have zlt := (z80.lt zq rfl).2
      refine oper_appendN elem148 _ _ rfl rfl o7 rfl (SX.below hS) (strCells_one _) (by omega) hS.size ?_
      intro g5 c5 Y5 o7n hg hgc
      try replace z80 := z80.kept hg (.inr (fun e => hz (Option.some.inj e)))
      try replace hz := hgc.elim (fun e => by rw [e]; exact hz) (fun h => Nat.ne_of_lt (Nat.lt_of_lt_of_le zlt h))
      have hS2 := hS.trans (grown_below o7 hg hS.size)
      replace o7 := o7n
      clear hg hgc o7n
      refine hK.out _ _ (hS2) (fun hS => ?_)
      clear hK K
      clear hS2
      try simp only [Act.put, List.getElem_toArray, List.getElem_cons_succ, List.getElem_cons_zero, List.setIfInBounds_toArray, List.set_cons_zero, List.set_cons_succ]
      refine wpAnyK_ready (rs := [8]) (by kernel_rfl) (by simp) ?_
      refine AllReadyK.cons rfl (fun K hK => ?_) AllReadyK.nil
      rw [if_pos (by rfl)]
      try have zlt := (z80.lt zq rfl).2
      refine oper_appendN elem148 _ _ rfl rfl o7 rfl (SY.below hS) (strCells_one _) (by omega) hS.size ?_
      intro g8 c8 Y8 o7n hg hgc
      try replace z80 := z80.kept hg (.inr (fun e => hz (Option.some.inj e)))
      try replace hz := hgc.elim (fun e => by rw [e]; exact hz) (fun h => Nat.ne_of_lt (Nat.lt_of_lt_of_le zlt h))
      have hS2 := hS.trans (grown_below o7 hg hS.size)
      replace o7 := o7n
      clear hg hgc o7n
      refine hK.out _ _ (hS2) (fun hS => ?_)
      clear hK K
      clear hS2
      try simp only [Act.put, List.getElem_toArray, List.getElem_cons_succ, List.getElem_cons_zero, List.setIfInBounds_toArray, List.set_cons_zero, List.set_cons_succ]
      refine wpAnyK_ready (rs := [11]) (by kernel_rfl) (by simp) ?_
      refine AllReadyK.cons rfl (fun K hK => ?_) AllReadyK.nil
      rw [if_pos (by rfl)]
      try have zlt := (z80.lt zq rfl).2
      refine oper_appendN elem148 _ _ rfl rfl o7 rfl (Sees.of_owns z80) (by simp [Value.oneCell']) (by omega) hS.size ?_
      intro g11 c11 Y11 o7n hg hgc
      try replace z80 := z80.kept hg (.inr (fun e => hz (Option.some.inj e)))
      try replace hz := hgc.elim (fun e => by rw [e]; exact hz) (fun h => Nat.ne_of_lt (Nat.lt_of_lt_of_le zlt h))
      have hS2 := hS.trans (grown_below o7 hg hS.size)
      replace o7 := o7n
      clear hg hgc o7n
      refine hK.out _ _ (hS2) (fun hS => ?_)
      clear hK K
      clear hS2
      try simp only [Act.put, List.getElem_toArray, List.getElem_cons_succ, List.getElem_cons_zero, List.setIfInBounds_toArray, List.set_cons_zero, List.set_cons_succ]
      refine take_atK (i := 16) 86 (.agg (wayC (nodeD Da Db) (.slice (some ⟨g11, 0, none⟩) (0 + H1.length + H2.length + 1) c11) (.slice e1 R2.length f1) (.slice e2 r2 f2))) [17] rfl rfl (by kernel_rfl) (by decide) (by decide) (by kernel_rfl) (by kernel_rfl) (by kernel_rfl) (by kernel_rfl) (fun _ _ _ h => h) (Or.inl ⟨by rfl, fun W hW => exec_build _ 177 #[(0, .tmp 71), (1, .tmp 81), (2, .tmp 83), (3, .tmp 85)] rfl #[(0, .agg (A8 16 (nodeD Da Db))), (1, .slice (some ⟨g11, 0, none⟩) (0 + H1.length + H2.length + 1) c11), (2, .slice e1 R2.length f1), (3, .slice e2 r2 f2)] rfl _ (build177 _ _ _ _ _ _ _ _ _ _)⟩) hS ?_
      try simp only [List.setIfInBounds_toArray, List.set_cons_zero, List.set_cons_succ]
      refine storeK_row (by kernel_rfl) (by decide) rfl rfl 177 (.tmp 8) (.tmp 86) rfl w.heap.size rfl (C' := (wayC (nodeD Da Db) (.slice (some ⟨g11, 0, none⟩) (0 + H1.length + H2.length + 1) c11) (.slice e1 R2.length f1) (.slice e2 r2 f2))) rfl (ko.below hS (by omega)) size177 (wayC.size _ _ _ _) (wayC.size _ _ _ _) (wayC.one _ _ _ _ rfl rfl rfl) rfl (fun W9 hu k9 => ?_)
      have hS0 := hS
      clear hS
      have hS : True := trivial
      try simp only [Act.put, List.getElem_toArray, List.getElem_cons_succ, List.getElem_cons_zero, List.setIfInBounds_toArray, List.set_cons_zero, List.set_cons_succ]
      refine wpAnyH_done (by kernel_rfl) ?_ _
      have hfo := owns_upd o7 hu lo
      have hBe := hu.below (hB.trans (hS0.mono hB.size)) (Nat.le_refl _)
      go_wp2_with fail
      exact ret_row rfl w.heap.size rfl k9 Tryd.underlying177 rfl size177 (wayC.size _ _ _ _) rfl ⟨_, _, _, rfl, t1, t2, HF.out _ _ (Sees.of_owns hfo), hBe⟩
end Go.Proofs.YtdpgebifeaakjaaDoor

/- The walk of CheckGrowth. -/
namespace Go.Proofs.YtdpgebifeaakjaaDoor
set_option linter.unusedSimpArgs false
set_option linter.unusedVariables false
open Go.RowKit
set_option maxRecDepth 20000 in
set_option maxHeartbeats 1000000 in
theorem cgrow_bad (old new : Nat → BitVec 8) (m n : Int) (v : Value) (L c : Nat) (p : Option Addr) (w : World) (hbad : m < 0 ∨ n < m ∨ 1099511627776 < n) :
    Calls Tryd.prog 51 #[.agg (A8 16 old), .int .i64 m, .agg (A8 16 new), .int .i64 n, .slice p L c] w fun e w' => e = .returned (.int .i64 1) ∧ Below w.heap.size w w' := by
  have hx1 := box23 old
  have hx2 := box23 new
  have hB : Below w.heap.size w (((((w.alloc (.cells (A8 16 old) 23)).alloc (.cells #[.int .i64 m] 3)).alloc (.cells (A8 16 new) 23)).alloc (.cells #[.int .i64 n] 3)).alloc (.cells #[.slice p L c] 80)) :=
    ((((((Below.refl _ _).alloc (Nat.le_refl _) _).alloc (by simp) _).alloc (by simp; omega) _).alloc (by simp; omega) _).alloc (by simp; omega) _)
  by_cases h1 : m < 0
  · clear hbad
    go_enter Tryd.func51, Tryd.ntmps51
    go_wp2_with fail
    go_ret
    exact ⟨rfl, hB⟩
  · by_cases h2 : n < m
    · clear hbad
      go_enter Tryd.func51, Tryd.ntmps51
      go_wp2_with fail
      go_ret
      exact ⟨rfl, hB⟩
    · have h3 : 1099511627776 < n := by omega
      clear hbad
      go_enter Tryd.func51, Tryd.ntmps51
      go_wp2_with fail
      go_ret
      exact ⟨rfl, hB⟩
set_option maxRecDepth 20000 in
set_option maxHeartbeats 1000000 in
theorem cgrow_ok (old new d1 d2 : Nat → BitVec 8) (m n L c : Nat) (p : Option Addr) (D : Nat → Nat → BitVec 8) (w : World) (hmn : m ≤ n) (hn : n ≤ 1099511627776) (hL : L ≤ 1000)
    (hD : Digs w (.slice p L c) L D) (hT : TabAt 3 Lib.deBruijn64tab w) (h3 : 3 < w.heap.size) (hg1 : Gives D m (coverL 0 m) d1) (hg2 : Gives D n (coverL 0 m ++ coverL m n) d2) :
    Calls Tryd.prog 51 #[.agg (A8 16 old), .int .i64 (m : Int), .agg (A8 16 new), .int .i64 (n : Int), .slice p L c] w fun e w' =>
      ((L = (coverL 0 m).length + (coverL m n).length ∧ eqRow 16 d1 old = true ∧ eqRow 16 d2 new = true) ∧ e = .returned (.int .i64 0) ∨ (¬ (L = (coverL 0 m).length + (coverL m n).length ∧ eqRow 16 d1 old = true ∧ eqRow 16 d2 new = true)) ∧ e = .returned (.int .i64 9)) ∧ Below w.heap.size w w' := by
  have hx1 := box23 old
  have hx2 := box23 new
  have hmf : ∀ (fn : Fn) (first cap : Array Value) (w : World), (Instr.makeFunc fn first cap).run Tryd.prog w = .ok (.func fn first cap) w := fun _ _ _ _ => rfl
  have k0 := ((((Blk.new w (A8 16 old) 23).alloc (.cells #[.int .i64 (m : Int)] 3)).alloc (.cells (A8 16 new) 23)).alloc (.cells #[.int .i64 (n : Int)] 3)).alloc (.cells #[.slice p L c] 80)
  have k1 := (((Blk.new (w.alloc (.cells (A8 16 old) 23)) #[.int .i64 (m : Int)] 3).alloc (.cells (A8 16 new) 23)).alloc (.cells #[.int .i64 (n : Int)] 3)).alloc (.cells #[.slice p L c] 80)
  have k2 := ((Blk.new ((w.alloc (.cells (A8 16 old) 23)).alloc (.cells #[.int .i64 (m : Int)] 3)) (A8 16 new) 23).alloc (.cells #[.int .i64 (n : Int)] 3)).alloc (.cells #[.slice p L c] 80)
  have k3 := (Blk.new (((w.alloc (.cells (A8 16 old) 23)).alloc (.cells #[.int .i64 (m : Int)] 3)).alloc (.cells (A8 16 new) 23)) #[.int .i64 (n : Int)] 3).alloc (.cells #[.slice p L c] 80)
  have k4 := Blk.new ((((w.alloc (.cells (A8 16 old) 23)).alloc (.cells #[.int .i64 (m : Int)] 3)).alloc (.cells (A8 16 new) 23)).alloc (.cells #[.int .i64 (n : Int)] 3)) #[.slice p L c] 80
  have hB : Below w.heap.size w (((((w.alloc (.cells (A8 16 old) 23)).alloc (.cells #[.int .i64 (m : Int)] 3)).alloc (.cells (A8 16 new) 23)).alloc (.cells #[.int .i64 (n : Int)] 3)).alloc (.cells #[.slice p L c] 80)) :=
    ((((((Below.refl _ _).alloc (Nat.le_refl _) _).alloc (by simp) _).alloc (by simp; omega) _).alloc (by simp; omega) _).alloc (by simp; omega) _)
  simp only [World.size_alloc] at k0 k1 k2 k3 k4
  obtain ⟨W1, hW1⟩ : ∃ W1, (((((w.alloc (.cells (A8 16 old) 23)).alloc (.cells #[.int .i64 (m : Int)] 3)).alloc (.cells (A8 16 new) 23)).alloc (.cells #[.int .i64 (n : Int)] 3)).alloc (.cells #[.slice p L c] 80)) = W1 := ⟨_, rfl⟩
  rw [hW1] at k0 k1 k2 k3 k4 hB
  have hs1 := hB.size
  have l4 := k4.lt
  have h1 : ¬ (m : Int) < 0 := by omega
  have h2 : ¬ (n : Int) < (m : Int) := by omega
  have h4 : ¬ 1099511627776 < (n : Int) := by omega
  have ck := checked_85 (L = (coverL 0 m).length + (coverL m n).length ∧ eqRow 16 d1 old = true ∧ eqRow 16 d2 new = true) (¬ (L = (coverL 0 m).length + (coverL m n).length ∧ eqRow 16 d1 old = true ∧ eqRow 16 d2 new = true)) _ W1 fun W hW =>
    grow85 _ _ _ _ _ m n L c p D old new d1 d2 W hmn hn hL (k4.below hW k4.lt) (k1.below hW k1.lt) (k3.below hW k3.lt) (k0.below hW k0.lt) (k2.below hW k2.lt) ((hD.below hB).below hW)
      (fun j hj => (hW.cell (p := ⟨3, j, none⟩) (by simp; omega)).trans ((hB.cell (p := ⟨3, j, none⟩) h3).trans (hT j hj))) (by have := hW.size; omega) hg1 hg2
  have CK := hide ck
  have c1 := k1.cell 0
  have c3 := k3.cell 0
  clear ck hg1 hg2 hD hT k0 k1 k2 k3 k4 hmn hn hL
  go_enter Tryd.func51, Tryd.ntmps51
  go_wp2_with fail
  refine CK.out.mono ?_
  rintro e W2 ⟨⟨h, rfl⟩ | ⟨h, rfl⟩, hb⟩
  · have hB2 := hB.trans (hb.mono hB.size)
    clear hb
    go_wp2_with fail
    go_ret
    exact ⟨.inl ⟨h, rfl⟩, hB2⟩
  · have hB2 := hB.trans (hb.mono hB.size)
    clear hb
    go_wp2_with fail
    go_ret
    exact ⟨.inr ⟨h, rfl⟩, hB2⟩
end Go.Proofs.YtdpgebifeaakjaaDoor

/- A cover has few blocks. -/
namespace Go.Proofs.YtdpgebifeaakjaaDoor
set_option linter.unusedSimpArgs false
set_option linter.unusedVariables false
open Go.RowKit
theorem cover_fits_len : ∀ (K a M : Nat), M < 2 ^ K → (a = 0 ∨ 2 ^ K ∣ a) → a + M ≤ 1099511627776 → (coverL a (a + M)).length ≤ K := by
  intro K
  induction K using Nat.strongRecOn with
  | ind K ih =>
    intro a M hM ha hb
    by_cases h0 : M = 0
    · subst h0
      rw [coverL_nil (by omega)]
      exact Nat.zero_le _
    · have h1 := Nat.log2_self_le h0
      have h2 := @Nat.lt_log2_self M
      have hk : M.log2 < K := by
        apply Classical.byContradiction
        intro hn
        have : 2 ^ K ≤ 2 ^ M.log2 := Nat.pow_le_pow_right (by decide) (by omega)
        omega
      have hf : Fits a M := ha.elim .inl fun h => .inr ⟨K, hM, h⟩
      have := ih M.log2 hk (a + 2 ^ M.log2) (M - 2 ^ M.log2) (by rw [Nat.pow_succ] at h2; omega) (.inr (Nat.dvd_add (by
        rcases ha with h | h
        · rw [h]; exact Nat.dvd_zero _
        · exact Nat.dvd_trans (Nat.pow_dvd_pow 2 (by omega)) h) (Nat.dvd_refl _))) (by omega)
      rw [coverL_step hb hf h1 h2, List.length_cons]
      omega
theorem cover_len_any (b : Nat) (hb : b ≤ 1099511627776) : ∀ (r j a : Nat), 64 - j ≤ r → 2 ^ j ∣ a → 0 < a → a ≤ b → (coverL a b).length ≤ r + 64 := by
  intro r
  induction r with
  | zero =>
    intro j a hj hd h0 hab
    exfalso
    have h1 := Nat.le_of_dvd h0 hd
    have h2 : 2 ^ 64 ≤ 2 ^ j := Nat.pow_le_pow_right (by decide) (by omega)
    have h3 : (2:Nat) ^ 64 = 18446744073709551616 := rfl
    omega
  | succ r ih =>
    intro j a hj hd h0 hab
    by_cases hlt : a < b
    · have hx : a < 2 ^ 64 := by have : (2:Nat) ^ 64 = 18446744073709551616 := rfl; omega
      obtain ⟨m, e1, e2⟩ := Lib.ctzFrom_spec 64 a h0 hx
      obtain ⟨c, hc⟩ : ∃ c, Lib.ctz 64 a = c := ⟨_, rfl⟩
      have hcc : Lib.ctzFrom 64 a = c := by rw [← hc, Lib.ctz, if_neg (by omega)]
      rw [hcc] at e1
      have hc64 : c < 64 := hc ▸ ctz_lt a h0 (by omega)
      have hjc : j ≤ c := by
        apply Classical.byContradiction
        intro hn
        have hd2 : 2 ^ (c + 1) ∣ a := Nat.dvd_trans (Nat.pow_dvd_pow 2 (by omega)) hd
        rw [e1, Nat.pow_succ] at hd2
        have := Nat.dvd_of_mul_dvd_mul_left (Nat.two_pow_pos c) hd2
        omega
      have hcd : 2 ^ c ∣ a := ⟨_, e1⟩
      by_cases hM : b - a < 2 ^ c
      · have := cover_fits_len c a (b - a) hM (.inr hcd) (by omega)
        rw [show a + (b - a) = b by omega] at this
        omega
      · have hs : stepN a b = 2 ^ c := by
          obtain ⟨g1, g2, g3⟩ := bitLen_spec (b - a) (by omega) (by have : (2:Nat) ^ 64 = 18446744073709551616 := rfl; omega)
          rw [stepN, if_pos h0, hc]
          refine Nat.min_eq_right (Nat.pow_le_pow_right (by decide) ?_)
          apply Classical.byContradiction
          intro hn
          have h5 : 2 ^ (Lib.bitLen (b - a)) ≤ 2 ^ c := Nat.pow_le_pow_right (by decide) (by omega)
          omega
        rw [coverL_cons hlt, List.length_cons, hs]
        have := ih (c + 1) (a + 2 ^ c) (by omega) ⟨m + 1, by rw [Nat.pow_succ, e1, Nat.mul_assoc, ← Nat.mul_succ]; congr 1⟩ (by omega) (by omega)
        omega
    · rw [coverL_nil hlt]
      exact Nat.zero_le _
/-- At most 128. -/
theorem cover_len {a b : Nat} (hab : a ≤ b) (hb : b ≤ 1099511627776) : (coverL a b).length ≤ 128 := by
  by_cases h0 : a = 0
  · subst h0
    have := cover_fits_len 64 0 b (Nat.lt_of_le_of_lt hb (by decide)) (.inl rfl) (by omega)
    rw [Nat.zero_add] at this
    omega
  · exact cover_len_any b hb 64 0 a (by omega) (by rw [Nat.pow_zero]; exact Nat.one_dvd _) (by omega) hab
end Go.Proofs.YtdpgebifeaakjaaDoor

/- The walks of CheckPath's closure and of CheckPath. -/
namespace Go.Proofs.YtdpgebifeaakjaaDoor
set_option linter.unusedSimpArgs false
set_option linter.unusedVariables false
open Go.RowKit
theorem build106 (x y : Int) (w : World) : (Instr.build 106 #[(0, .int .i64 x), (1, .int .i64 y)]).run Tryd.prog w = .ok (.agg #[.int .i64 x, .int .i64 y]) w := by kernel_rfl
/-- Blocks of one leaf. -/
def singles (i K : Nat) : List (Nat × Nat) := (List.range K).map fun k => (i + k, 1)
theorem singles_succ (i K : Nat) : singles i (K + 1) = singles i K ++ [(i + K, 1)] := by simp [singles, List.range_succ]
theorem singles_length (i K : Nat) : (singles i K).length = K := by simp [singles]
theorem singles_al (i : Nat) : ∀ K, Al (singles i K) i (i + K)
  | 0 => rfl
  | K + 1 => by
    rw [singles_succ]
    exact (singles_al i K).append ⟨rfl, ⟨0, rfl, Nat.one_dvd _⟩, (Nat.add_assoc i K 1).trans rfl⟩
theorem cellsOf_single (x y : Nat) : cellsOf [(x, y)] = [.int .i64 (x : Int), .int .i64 (y : Int)] := rfl
/-- The digests of a path, with those of the items between them. -/
def mixT (F K : Nat) (D I : Nat → Nat → BitVec 8) (j : Nat) : Nat → BitVec 8 := if j < F then D j else if j < F + K then leafD (I (j - F)) else D (j - K)
theorem Forest.drew {β b : Nat} {W : World} {p : Option Addr} {L c : Nat} {D : Nat → Nat → BitVec 8} {kb kt : Nat} {xs : List Value} {T : Nat → Nat → BitVec 8} {bp : Option Addr} {bn bc : Nat} {tp : Option Addr} {tn tc : Nat} (h : Forest β b W p L c D kb kt xs T bp bn bc tp tn tc) : Forest β b W.drew p L c D kb kt xs T bp bn bc tp tn tc := ⟨h.blk, h.r33, h.r80, h.digs.trans (Below.refl _ _).drew⟩
set_option maxRecDepth 20000 in
set_option maxHeartbeats 1000000 in
theorem cpath92 (g0 g1 g2 g3 g4 i K n L c ic : Nat) (p ip : Option Addr) (D I : Nat → Nat → BitVec 8) (root d : Nat → BitVec 8) (W : World) (hiK : i + K ≤ n) (hn : n ≤ 1099511627776) (hL : L ≤ 1000) (hK : K ≤ 500)
    (k0 : Blk W g0 #[.slice p L c] 80) (k1 : Blk W g1 #[.int .i64 (i : Int)] 3) (k2 : Blk W g2 #[.slice ip K ic] 80) (k3 : Blk W g3 #[.int .i64 (n : Int)] 3) (k4 : Blk W g4 (A8 16 root) 23)
    (hD : Digs W (.slice p L c) L D) (hI : Digs W (.slice ip K ic) K I) (hT : TabAt 3 Lib.deBruijn64tab W) (h3 : 3 < W.heap.size) (hg : Gives (mixT (coverL 0 i).length K D I) n (coverL 0 i ++ singles i K ++ coverL (i + K) n) d) :
    Calls Tryd.prog 92 #[.pointer (some ⟨g0, 0, none⟩), .pointer (some ⟨g1, 0, none⟩), .pointer (some ⟨g2, 0, none⟩), .pointer (some ⟨g3, 0, none⟩), .pointer (some ⟨g4, 0, none⟩)] W fun e w' =>
      ((L = (coverL 0 i).length + (coverL (i + K) n).length ∧ eqRow 16 d root = true) ∧ (∃ v, e = .returned v) ∨ (¬ (L = (coverL 0 i).length + (coverL (i + K) n).length ∧ eqRow 16 d root = true)) ∧ e = .panicked refusedP) ∧ Below W.heap.size W w' := by
  obtain ⟨β, hβ⟩ : ∃ β, W.heap.size = β := ⟨_, rfl⟩
  have kb := Blk.new W #[.slice p L c, .slice none 0 0, .slice none 0 0] 142
  have hB : Below β W (W.alloc (.cells #[.slice p L c, .slice none 0 0, .slice none 0 0] 142)) := (Below.refl _ _).alloc (by omega) _
  obtain ⟨W1, hW1⟩ : ∃ W1, W.alloc (.cells #[.slice p L c, .slice none 0 0, .slice none 0 0] 142) = W1 := ⟨_, rfl⟩
  have b85 := box142
  rw [hβ] at kb
  rw [hW1] at kb hB
  have l0 := k0.lt; have l1 := k1.lt; have l2 := k2.lt; have l3 := k3.lt; have l4 := k4.lt
  have hd1 : DigsB β W1 (.slice p L c) L D := (hβ ▸ DigsB.of hD : DigsB β W _ L D).trans hB
  have hI0 : DigsB β W (.slice ip K ic) K I := hβ ▸ DigsB.of hI
  have hf1 : Forest β β W1 p L c D 0 0 [] D none 0 0 none 0 0 := ⟨kb, World.ownsRow_nil _ _ _ _, World.ownsRow_nil _ _ _ _, hd1⟩
  have hT1 : TabAt 3 Lib.deBruijn64tab W1 := fun j hj => (hB.cell (p := ⟨3, j, none⟩) (by simp; omega)).trans (hT j hj)
  have R1 := hide (read_any β β 0 i L 0 0 c p D [] D none none 0 0 0 0 W1 (Nat.zero_le _) (by omega) hL (by omega) (by omega) (Nat.le_refl _) (by omega) hT1 hf1)
  have RB := hide fun (X : World) (L1 m c1 : Nat) (p1 : Option Addr) (D1 T1 : Nat → Nat → BitVec 8) (xs : List Value) (bp tp : Option Addr) (bn bc tn tc : Nat) (hL1 : L1 ≤ 1000) (hm : m ≤ 1000) (hTX : TabAt 3 Lib.deBruijn64tab X) (h : Forest β β X p1 L1 c1 D1 m m xs T1 bp bn bc tp tn tc) => read_any β β (i + K) n L1 m m c1 p1 D1 xs T1 bp tp bn bc tn tc X hiK hn hL1 hm hm (Nat.le_refl _) (by omega) hTX h
  have lF := cover_len (Nat.zero_le i) (by omega : i ≤ 1099511627776)
  have lG := cover_len hiK hn
  generalize coverL 0 i = F at R1 hg lF ⊢
  generalize coverL (i + K) n = G at RB hg lG ⊢
  have c0 := k0.cell 0
  have c1 := (k1.below hB (by omega)).cell 0
  have HG := hide hg
  have HI := hide hI0
  have hTW := hide hT
  have hwβ := hβ
  clear hg hf1 hT1 hd1 hD hT hI hI0
  go_enter Tryd.func92, Tryd.ntmps92
  go_wp2_with fail
  refine R1.out.mono ?_
  rintro e W2 (⟨hlt, rfl, hb⟩ | ⟨hle, ⟨v, rfl⟩, hb, _, _, _, p1, q1, bp1, bn1, bc1, tp1, tn1, tc1, hf2⟩)
  · have hB2 := hB.trans hb
    go_wp2_with fail
    exact ⟨rfl, .inr ⟨fun h => by omega, rfl⟩, by simpa only [hwβ] using hB2⟩
  have hB2 := hB.trans hb
  clear hb R1 kb hB b85 c0 c1
  have c2 := (k2.below hB2 (by omega)).cell 0
  rw [Nat.zero_add, List.nil_append] at hf2
  go_wp2_with fail
  go_loopw [17] (fun s17 X => ∃ (k : Nat) (T' : Nat → Nat → BitVec 8) (fb1 : Option Addr) (fb2 fb3 : Nat) (ft1 : Option Addr) (ft2 ft3 : Nat), k ≤ K ∧ s17 = .int .i64 (k : Int) ∧ Hid (∀ j, j < F.length + k → T' j = mixT F.length K D I j) ∧ Forest β β X p1 (L - F.length) q1 (fun j => D (F.length + j)) (F.length + k) (F.length + k) (cellsOf F ++ cellsOf (singles i k)) T' fb1 fb2 fb3 ft1 ft2 ft3 ∧ Below β W X) (fun s17 _ => K - (intOf s17).toNat)
  case atStart => exact ⟨0, joinT 0 D D, _, _, _, _, _, _, Nat.zero_le _, rfl, hide fun j hj => (by rw [mixT, if_pos (by omega), joinT, if_neg (by omega), Nat.sub_zero]), (by rw [Nat.add_zero, show singles i 0 = [] from rfl, show cellsOf [] = [] from rfl, List.append_nil]; exact hf2), hB2⟩
  case round =>
    clear hf2 c2 hB2
    obtain ⟨k, T', fb1, fb2, fb3, ft1, ft2, ft3, hk, rfl, HT, hf, hB⟩ := hrel
    by_cases hlt : k < K
    · have hlt1 : (k : Int) < (K : Int) := by omega
      have hk0 : (0 : Int) ≤ (k : Int) := by omega
      have hk1 : ¬ ((K : Int) ≤ (k : Int)) := by omega
      obtain ⟨ip', ic', e0, _, hd⟩ := HI.out.all wr hB
      injection e0 with e1 e2 e3
      subst e1 e3
      obtain ⟨g, o, rfl, r0⟩ := hd k hlt
      have r1 := run_loadVar_mid wr g (o + k * 16) 23 (A8 16 (I k)).toList _ r0 Tryd.underlying23 rfl (by rw [Array.length_toList, A8.size]; exact size23)
      rw [Array.toArray_toList] at r1
      clear hd r0
      have n7 := Blk.new wr (A8 16 fun _ => 0#8) 23
      have lw := hf.blk.lt
      have hwr : IntKind.i64.wrap ((i : Int) + (k : Int)) = (i : Int) + (k : Int) := IntWalk.i64_in _ (by omega)
      go_wp2_with (first | (refine wp_loadRun (by rfl) 23 _ rfl g (o + k * 16) rfl r1 ?_) | (refine wp_storeRow (C' := A8 16 (I k)) rfl 23 _ _ rfl _ rfl rfl n7 size23 (A8.size _ _) (A8.size _ _) (A8.one _) rfl ?_; intro W4 hu kd))
      have hb4 : Below wr.heap.size wr W4 := hu.below ((Below.refl _ _).alloc (Nat.le_refl _) _) (Nat.le_refl _)
      replace hf := hf.below hb4 (by omega)
      replace hB := hB.trans (hb4.mono (by omega))
      clear hu n7 r1 hb4
      generalize wr.heap.size = B7 at kd lw ⊢
      obtain ⟨wq, hwq⟩ : ∃ wq, W4 = wq := ⟨_, rfl⟩
      subst hwq
      refine wp_region_keptK (S := fun w' => Below β W w' ∧ Forest β β w' p1 (L - F.length) q1 (fun j => D (F.length + j)) (F.length + k) (F.length + k) (cellsOf F ++ cellsOf (singles i k)) T' fb1 fb2 fb3 ft1 ft2 ft3 ∧ Blk w' B7 (A8 16 (I k)) 23) 7 (by kernel_rfl) (⟨hB.drew, hf.drew, kd.drew⟩) (fun hS => ?_)
      simp only [List.size_toArray, List.length_cons, List.length_nil, Nat.reduceAdd, Array.replicate_succ, Array.replicate_zero, List.push_toArray, List.nil_append, List.cons_append]
      refine take_atK (i := 0) 22 (.pointer (some ⟨β, 0, none⟩)) [7] rfl rfl (by kernel_rfl) (by decide) (by decide) (by kernel_rfl) (by kernel_rfl) (by kernel_rfl) (by kernel_rfl) (fun _ _ _ h => h) (Or.inl ⟨by rfl, fun W hW => by go_simp⟩) hS ?_
      try simp only [List.setIfInBounds_toArray, List.set_cons_zero, List.set_cons_succ]
      refine take_atK (i := 1) 23 (.int .i64 (i : Int)) [3, 4, 7] rfl rfl (by kernel_rfl) (by decide) (by decide) (by kernel_rfl) (by kernel_rfl) (by kernel_rfl) (by kernel_rfl) (fun _ _ _ h => h) (Or.inl ⟨by rfl, fun W hW => by have hc := (k1.below hW.1 (by omega)).cell 0; go_simp⟩) hS ?_
      try simp only [List.setIfInBounds_toArray, List.set_cons_zero, List.set_cons_succ]
      refine take_atK (i := 2) 24 (.int .i64 (k : Int)) [3, 4, 7] rfl rfl (by kernel_rfl) (by decide) (by decide) (by kernel_rfl) (by kernel_rfl) (by kernel_rfl) (by kernel_rfl) (fun _ _ _ h => h) (Or.inl ⟨by rfl, fun W hW => by go_simp⟩) hS ?_
      try simp only [List.setIfInBounds_toArray, List.set_cons_zero, List.set_cons_succ]
      refine take_atK (i := 3) 25 (.int .i64 ((i : Int) + (k : Int))) [4, 7] rfl rfl (by kernel_rfl) (by decide) (by decide) (by kernel_rfl) (by kernel_rfl) (by kernel_rfl) (by kernel_rfl) (fun _ _ _ h => h) (Or.inl ⟨by rfl, fun W hW => by go_simp⟩) hS ?_
      try simp only [List.setIfInBounds_toArray, List.set_cons_zero, List.set_cons_succ]
      refine take_atK (i := 4) 26 (.agg #[.int .i64 ((i : Int) + (k : Int)), .int .i64 1]) [7] rfl rfl (by kernel_rfl) (by decide) (by decide) (by kernel_rfl) (by kernel_rfl) (by kernel_rfl) (by kernel_rfl) (fun _ _ _ h => h) (Or.inl ⟨by rfl, fun W hW => exec_build _ 106 #[(0, .tmp 25), (1, .const (.int .i64 1))] rfl #[(0, .int .i64 ((i : Int) + (k : Int))), (1, .int .i64 1)] rfl _ (build106 _ _)⟩) hS ?_
      try simp only [List.setIfInBounds_toArray, List.set_cons_zero, List.set_cons_succ]
      refine take_atK (i := 5) 27 (.agg (A8 16 (I k))) [6, 7] rfl rfl (by kernel_rfl) (by decide) (by decide) (by kernel_rfl) (by kernel_rfl) (by kernel_rfl) (by kernel_rfl) (fun _ _ _ h => h) (Or.inl ⟨by rfl, fun W hW => exec_load_blk hW.2.2⟩) hS ?_
      try simp only [List.setIfInBounds_toArray, List.set_cons_zero, List.set_cons_succ]
      refine wpAnyK_ready (rs := [6]) (by kernel_rfl) (by simp) ?_
      refine AllReadyK.cons rfl (fun K hK => ?_) AllReadyK.nil
      go_simp
      refine (leaf_any (I k) _).mono ?_
      rintro e X1 ⟨rfl, hb⟩
      refine hK.out _ _ (⟨hS.1.trans (hb.mono (by have := hS.1.size; omega)), hS.2.1.below hb (by have := hS.1.size; omega), hS.2.2.below hb hS.2.2.lt⟩) (fun hS => ?_)
      clear hK K
      clear hb
      try simp only [Act.put, List.getElem_toArray, List.getElem_cons_succ, List.getElem_cons_zero, List.setIfInBounds_toArray, List.set_cons_zero, List.set_cons_succ]
      refine storeK (by kernel_rfl) (by decide) rfl rfl (fun K hK => ?_)
      go_simp
      refine (put_any β β (F.length + k) (F.length + k) _ _ _ _ _ _ _ _ _ _ _ _ _ (Nat.le_refl _) (by omega) (by omega) hS.2.1.blk hS.2.1.r33 hS.2.1.r80).mono ?_
      rintro e Y9 ⟨⟨v9, rfl⟩, vb1, vb2, vb3, vt1, vt2, vt3, nb, n33, n80, pt⟩
      have hS0 := hS
      refine hK.out _ _ ?_
      clear hK K
      have hS : True := trivial
      clear hS
      try simp only [Act.put, List.getElem_toArray, List.getElem_cons_succ, List.getElem_cons_zero, List.setIfInBounds_toArray, List.set_cons_zero, List.set_cons_succ]
      refine wpAnyH_done (by kernel_rfl) ?_ _
      go_wp2_with fail
      have hB9 := hS0.1.trans pt.below
      have n33' : Y9.ownsRow β 106 2 (.slice vb1 vb2 vb3) (F.length + (k + 1)) (cellsOf F ++ cellsOf (singles i (k + 1))) := by rw [singles_succ, cellsOf_append, cellsOf_single, ← List.append_assoc]; exact n33
      exact ⟨⟨k + 1, snocT (F.length + k) T' (leafD (I k)), vb1, vb2, vb3, vt1, vt2, vt3, by omega, by go_num, hide (fun j hj => if hj2 : j < F.length + k then (by rw [snocT, if_pos hj2]; exact HT.out j hj2) else (by rw [snocT, if_neg hj2, mixT, if_neg (by omega), if_pos (by omega), show j - F.length = k by omega])), ⟨nb, n33', n80, hS0.2.1.digs.trans pt.below⟩, hB9⟩, by simp [intOf]; omega⟩
    · obtain rfl : k = K := by omega
      have hlt1 : ¬ (k : Int) < (k : Int) := by omega
      have hTr : TabAt 3 Lib.deBruijn64tab wr := fun j hj => (hB.cell (p := ⟨3, j, none⟩) (by simp; omega)).trans (hTW.out j hj)
      have c1 := (k1.below hB (by omega)).cell 0
      have c2 := (k2.below hB (by omega)).cell 0
      have c3 := (k3.below hB (by omega)).cell 0
      have R2 := hide (RB.out wr (L - F.length) (F.length + k) q1 p1 _ _ _ _ _ _ _ _ _ (by omega) (by omega) hTr hf)
      have lw := hf.blk.lt
      have hik : (i : Int) + (k : Int) ≤ 1099511627776 := by omega
      clear hf hTr RB
      go_wp2_with fail
      refine R2.out.mono ?_
      rintro e W4 (⟨hlt, rfl, hb⟩ | ⟨hle2, ⟨v2, rfl⟩, hb, hh1, hh2, hkeep, p2, q2, bp2, bn2, bc2, tp2, tn2, tc2, hf4⟩)
      · have hB4 := hB.trans hb
        clear hik
        go_wp2_with fail
        exact ⟨rfl, .inr ⟨fun h => by omega, rfl⟩, by simpa only [hwβ] using hB4⟩
      have hB4 := hB.trans hb
      have fn : FtI β (F ++ singles i k ++ G) (mixT F.length k D I) _ _ _ _ _ W4 := Forest.ftI (A := F ++ singles i k ++ G) (by rw [cellsOf_append, cellsOf_append]; exact hf4) (by rw [List.length_append, List.length_append, singles_length]) (by rw [List.length_append, List.length_append, singles_length]) (fun j hj => by
        rw [joinT]
        split
        · exact HT.out j (by omega)
        · rw [mixT, if_neg (by omega), if_neg (by omega), show F.length + (j - (F.length + k)) = j - k by omega])
      have cd := hf4.blk.cell 0
      have DN := hide (done_any β _ _ _ W4 cd)
      clear hb R2 hf4 hkeep hh1 hh2 cd c1 c2 c3 hik
      go_wp2_with fail
      refine DN.out.mono ?_
      rintro e W5 ⟨⟨hl0, v3, rfl⟩ | ⟨hl0, rfl⟩, hb⟩
      rotate_left
      · have hB5 := hB4.trans (hb.mono (by have := hB4.size; omega))
        go_wp2_with fail
        exact ⟨rfl, .inr ⟨fun h => by omega, rfl⟩, by simpa only [hwβ] using hB5⟩
      have hB5 := hB4.trans (hb.mono (by have := hB4.size; omega))
      replace fn := fn.below hb
      have c3 := (k3.below hB5 (by omega)).cell 0
      have k4' := k4.below hB5 (by omega)
      have IS := hide (is_any β n _ _ _ _ (F ++ singles i k ++ G) (mixT F.length k D I) d root _ W5 hn (by rw [List.length_append, List.length_append, singles_length]; omega) HG.out fn)
      clear hb DN fn
      go_wp2_with (refine wp_loadRow rfl 23 _ rfl g4 rfl k4' Tryd.underlying23 rfl size23 (A8.size _ _) ?_)
      refine IS.out.mono ?_
      rintro e W6 ⟨⟨h1, v4, rfl⟩ | ⟨h1, rfl⟩, hb⟩
      rotate_left
      · have hB6 := hB5.trans (hb.mono (by have := hB5.size; omega))
        go_wp2_with fail
        exact ⟨rfl, .inr ⟨fun h => (by rw [h1] at h; cases h.2), rfl⟩, by simpa only [hwβ] using hB6⟩
      have hB6 := hB5.trans (hb.mono (by have := hB5.size; omega))
      go_wp2_with fail
      go_end0
      exact ⟨.inl ⟨⟨by omega, h1⟩, _, rfl⟩, by simpa only [hwβ] using hB6⟩
end Go.Proofs.YtdpgebifeaakjaaDoor

