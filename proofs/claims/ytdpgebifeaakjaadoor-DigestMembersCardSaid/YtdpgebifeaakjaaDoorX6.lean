/- Texts put together for one claim: part 6. -/
import Derived.Test.YtdpgebifeaakjaaDoorProg
import Derived.WalkKit
import Derived.WalkSpells
import Derived.WalkLawsBesides
import Derived.ChangeKeysEq
import Derived.Deep.RegionHeld3
import Derived.BigQuiet
import Derived.Deep.QuietTactic
import Derived.Deep.MidRow
import Derived.StillTailTactics
import Derived.Laws.AppendOwn
import Derived.Lib.ConvBytes
import Derived.Shelf.Spec.TrailingZeros
import Derived.Laws.FloatArith
import Derived.Laws.CopyOwn
import Derived.BigRegion
import Derived.Deep.Cut
import Derived.ArgAppend
import Derived.Shelf.Strconv.Itoa0
import Derived.RangeFuncNested
import Derived.RangeFuncBound
import Derived.RangeFuncCalls
import Derived.RangeFuncLeaves
import Derived.Shelf.Abstract
import Derived.OwnWalkIn
import Derived.TacticsInMore
import Derived.LoopNIn
import Derived.LoopIn
import Derived.RangeFuncBox
import Derived.Maps.AppendAt
import Derived.Laws.OwnMore
import Derived.Laws.StructEq
import Derived.Deep.RegionHeld
import Derived.Laws.BitsLemmas
import Derived.OwnWalk
import Derived.StillTactics
import Derived.Deep.AppendLies
import Derived.Test.YtdpgebifeaakjaaDoorRows
import Derived.ProofKit
import Derived.LaidMore
import Derived.OpenShut
import Derived.Stop.Joined
import Derived.Carry
import Derived.SevenTiedAt
import Derived.Deep.Slices
import Derived.Laws.AppendOwnNone
import Derived.Defers
import Derived.Recover
import Derived.Test.YtdpgebifeaakjaaDoorX5
/- Growing a frontier, in plain; appending any slice of digests. -/
namespace Go.Proofs.YtdpgebifeaakjaaDoor
set_option linter.unusedSimpArgs false
set_option linter.unusedVariables false
open Go.RowKit

/-- One more. -/
def snocT (k : Nat) (T : Nat → Nat → BitVec 8) (x : Nat → BitVec 8) (i : Nat) : Nat → BitVec 8 := if i < k then T i else x
theorem digCells_snoc (k : Nat) (T : Nat → Nat → BitVec 8) (x : Nat → BitVec 8) : digCells T k ++ (A8 16 x).toList = digCells (snocT k T x) (k + 1) := by
  rw [digCells, digCells_congr k (U := snocT k T x) fun i hi => by rw [snocT, if_pos hi], snocT, if_neg (by omega)]
theorem run_append_none {P : Program} {w : World} (base : Nat) (t ty e : TypeId) (i : TypeInfo) (size : Nat) (ht : P.underlying t = some (.slice e)) (hi : P.info? e = some i)
    (v : Value) (n c : Nat) (xs : List Value) (hown : w.ownsRow base e size v n xs) :
    (Builtin.append_ #[t, t] ty #[v, .slice none 0 c]).run P w = .ok v w := by
  rcases hown.2 with ⟨rfl, rfl⟩ | ⟨g, cap, cur, rfl, _, _, hnc, _⟩
  · simp [Builtin.append_, run_underlying ht, sizeOf, typeInfo, hi, Builtin.lenOf, Builtin.firstCells]
  · simp [Builtin.append_, run_underlying ht, sizeOf, typeInfo, hi, Builtin.lenOf, Builtin.firstCells, hnc, storeCells]
theorem digs_cells {W : World} {g o n cap : Nat} {D : Nat → Nat → BitVec 8} (h : Digs W (.slice (some ⟨g, o, none⟩) n cap) n D) : ∀ (j : Nat) (u : Value), (digCells D n)[j]? = some u → W.cell? ((⟨g, o, none⟩ : Addr).add j) = some u := by
  intro j u hu
  obtain ⟨p, c, h1, h2, h3⟩ := h
  injection h1 with e1 e2 e3
  subst e1
  have hj : j < n * 16 := by
    have := (List.getElem?_eq_some_iff.1 hu).1
    rwa [digCells_length] at this
  obtain ⟨g', o', e, hr⟩ := h3 (j / 16) (by omega)
  injection e with e
  injection e with e4 e5
  subst e4 e5
  have := digCells_at D n (j / 16) (j % 16) (by omega) (by omega)
  rw [show j / 16 * 16 + j % 16 = j by omega, hu] at this
  injection this with this
  rw [this]
  have := hr (j % 16) (U8 (D (j / 16) (j % 16))) (by rw [Array.getElem?_toList, A8.get _ (by omega)])
  rw [show o + j / 16 * 16 + j % 16 = o + j by omega] at this
  rw [Addr.add_lit]
  exact this
/-- A slice of one digest is made. -/
theorem wp_build80 {ops : Array Oper} {rest : List Oper} {o : Oper} {a : Act} {w : World} {Q : Exit → Act → World → Prop} (hgd : o.guard = none) (x : Operand) (ho : o.op = .buildSlice 80 1 #[(0, x)])
    {T : Nat → BitVec 8} (hx : a.eval x = .agg (A8 16 T))
    (h : wpList Tryd.prog ops Q rest (a.put o.dst (.slice (some ⟨w.heap.size, 0, none⟩) 1 1)) (w.alloc (.cells (A8 16 T) 23))) : wpList Tryd.prog ops Q (o :: rest) a w := by
  refine wpList_plain hgd fun _ hK => ?_
  unfold Oper.wp execOp
  have e : (#[(0, x)].map fun (i, x) => (i, a.eval x)) = #[(0, .agg (A8 16 T))] := by
    simp [hx]
  simp only [ho, Sem.run_bind, e, build80, Result.andThen_ok, Sem.run_pure]
  exact hK _ _ h
end Go.Proofs.YtdpgebifeaakjaaDoor

/- The join of two digests, of the program. -/
namespace Go.Proofs.YtdpgebifeaakjaaDoor
set_option linter.unusedSimpArgs false
set_option linter.unusedVariables false
open Go.RowKit

set_option maxRecDepth 20000 in
set_option maxHeartbeats 4000000 in
theorem join_any (d f : Nat → BitVec 8) (w : World) :
    Calls Tryd.prog 79 #[.agg (A8 16 d), .agg (A8 16 f)] w fun e w' => e = .returned (.agg (A8 16 (nodeD d f))) ∧ Below w.heap.size w w' := by
  have hbx1 := box23 d
  have hbx2 := box23 f
  have c1 := fun w => sum_any (⟨#[1]⟩ ++ strOf (dl d) ++ strOf (dl f)) (by rw [ByteArray.size_append, ByteArray.size_append, size_strOf, size_strOf, dl_length, dl_length]; decide) w
  simp only [node_bytes] at c1
  have k1 := ((Blk.new w (A8 16 d) 23).alloc (.cells (A8 16 f) 23)).alloc (.cells (A8 16 fun _ => 0#8) 23)
  have k2 := (Blk.new (w.alloc (.cells (A8 16 d) 23)) (A8 16 f) 23).alloc (.cells (A8 16 fun _ => 0#8) 23)
  have ho := Blk.new ((w.alloc (.cells (A8 16 d) 23)).alloc (.cells (A8 16 f) 23)) (A8 16 fun _ => 0#8) 23
  rw [World.size_alloc] at k2
  rw [World.size_alloc, World.size_alloc] at ho
  have hB : Below w.heap.size w (((w.alloc (.cells (A8 16 d) 23)).alloc (.cells (A8 16 f) 23)).alloc (.cells (A8 16 fun _ => 0#8) 23)) := (((Below.refl _ _).alloc (Nat.le_refl _) _).alloc (by simp) _).alloc (by simp; omega) _
  have hc1 := fun (W : World) (k : Blk W w.heap.size (A8 16 d) 23) => conv_dl k
  have hc2 := fun (W : World) (k : Blk W (w.heap.size + 1) (A8 16 f) 23) => conv_dl k
  have hsum := fun w : World => run_string_add_sum (P := Tryd.prog) w ⟨#[1]⟩ (strOf (dl d)) (by rw [size_strOf, dl_length]; decide)
  have hsum2 := fun w : World => run_string_add_sum (P := Tryd.prog) w (⟨#[1]⟩ ++ strOf (dl d)) (strOf (dl f)) (by rw [ByteArray.size_append, size_strOf, size_strOf, dl_length, dl_length]; decide)
  generalize strOf (dl d) = X at c1 hc1 hsum hsum2
  generalize strOf (dl f) = X2 at c1 hc2 hsum2
  generalize (⟨#[1]⟩ : ByteArray) ++ X = Y at c1 hsum hsum2
  generalize Y ++ X2 = Z at c1 hsum2
  generalize nodeD d f = D at c1 ⊢
  go_enter Tryd.func79, Tryd.ntmps79
  go_wp2_with fail
  generalize ((w.alloc (.cells (A8 16 d) 23)).alloc (.cells (A8 16 f) 23)).alloc (.cells (A8 16 fun _ => 0#8) 23) = W0 at k1 k2 ho hB ⊢
  refine wp_region_held_drew (S := fun w' => Below w.heap.size w w' ∧ Blk w' w.heap.size (A8 16 d) 23 ∧ Blk w' (w.heap.size + 1) (A8 16 f) 23) (by kernel_rfl) (⟨hB.drew, k1.drew, k2.drew⟩) (fun hS => ?_)
  refine take_at (i := 0) 5 (.slice (some ⟨w.heap.size, 0, none⟩) 16 16) rfl rfl (by kernel_rfl) (by kernel_rfl) (by kernel_rfl) (fun _ _ _ h => h) (Or.inl ⟨by rfl, fun W hW => by go_simp⟩) hS ?_
  simp only [List.setIfInBounds_toArray, List.set_cons_zero, List.set_cons_succ]
  refine take_at (i := 1) 6 (.string X) rfl rfl (by kernel_rfl) (by kernel_rfl) (by kernel_rfl) (fun _ _ _ h => h) (Or.inl ⟨by rfl, fun W hW => by have hcv := hc1 W hW.2.1; go_simp⟩) hS ?_
  simp only [List.setIfInBounds_toArray, List.set_cons_zero, List.set_cons_succ]
  refine take_at (i := 2) 7 (.string Y) rfl rfl (by kernel_rfl) (by kernel_rfl) (by kernel_rfl) (fun _ _ _ h => h) (Or.inl ⟨by rfl, fun W hW => by go_simp⟩) hS ?_
  simp only [List.setIfInBounds_toArray, List.set_cons_zero, List.set_cons_succ]
  refine take_at (i := 3) 8 (.slice (some ⟨w.heap.size + 1, 0, none⟩) 16 16) rfl rfl (by kernel_rfl) (by kernel_rfl) (by kernel_rfl) (fun _ _ _ h => h) (Or.inl ⟨by rfl, fun W hW => by go_simp⟩) hS ?_
  simp only [List.setIfInBounds_toArray, List.set_cons_zero, List.set_cons_succ]
  refine take_at (i := 4) 9 (.string X2) rfl rfl (by kernel_rfl) (by kernel_rfl) (by kernel_rfl) (fun _ _ _ h => h) (Or.inl ⟨by rfl, fun W hW => by have hcv := hc2 W hW.2.2; go_simp⟩) hS ?_
  simp only [List.setIfInBounds_toArray, List.set_cons_zero, List.set_cons_succ]
  refine take_at (i := 5) 10 (.string Z) rfl rfl (by kernel_rfl) (by kernel_rfl) (by kernel_rfl) (fun _ _ _ h => h) (Or.inl ⟨by rfl, fun W hW => by go_simp⟩) hS ?_
  simp only [List.setIfInBounds_toArray, List.set_cons_zero, List.set_cons_succ]
  refine wpAnyH_ready (rs := [6]) (by kernel_rfl) (by simp) ?_
  refine AllReadyH.cons rfl (fun K hK => ?_) AllReadyH.nil
  go_simp
  refine (c1 _).mono ?_
  rintro e X1 ⟨rfl, hb⟩
  refine hK.out _ _ (⟨hS.1.trans (hb.mono hS.1.size), hS.2.1.below hb hS.2.1.lt, hS.2.2.below hb hS.2.2.lt⟩) (fun hS => ?_)
  clear hK K
  have ho2 := ho.drew.below hb ho.drew.lt
  try simp only [Act.put, List.setIfInBounds_toArray, List.set_cons_zero, List.set_cons_succ]
  refine wpAnyH_ready (rs := [7]) (by kernel_rfl) (by simp) ?_
  refine AllReadyH.cons rfl (fun K hK => ?_) AllReadyH.nil
  refine step_storeRow (C' := A8 16 D) rfl 23 (.tmp 4) (.tmp 11) rfl (w.heap.size + 1 + 1) rfl rfl ho2 size23 (A8.size _ _) (A8.size _ _) (A8.one _) rfl ?_
  intro X2 hu k9
  refine hK.out _ _ (⟨hu.below hS.1 (by omega), hS.2.1.upd hu (by omega), hS.2.2.upd hu (by omega)⟩) (fun hS => ?_)
  clear hK K
  try simp only [Act.put, List.setIfInBounds_toArray, List.set_cons_zero, List.set_cons_succ]
  refine wpAnyH_done (by kernel_rfl) ?_ _
  go_wp2_with fail
  exact ret_row rfl (w.heap.size + 1 + 1) rfl k9 Tryd.underlying23 rfl size23 (A8.size _ _) rfl ⟨rfl, hS.1⟩

end Go.Proofs.YtdpgebifeaakjaaDoor

/- The join of two digests, of the specification. -/
namespace Go.Proofs.YtdpgebifeaakjaaDoor
set_option linter.unusedSimpArgs false
set_option linter.unusedVariables false
open Go.RowKit

set_option maxRecDepth 20000 in
set_option maxHeartbeats 4000000 in
theorem rnode_any (d f : Nat → BitVec 8) (w : World) (hKK : KAt w) :
    Calls Tryd.prog 83 #[.agg (A8 16 d), .agg (A8 16 f)] w fun e w' => e = .returned (.agg (A8 16 (nodeD d f))) ∧ Below w.heap.size w w' := by
  have hbx1 := box23 d
  have hbx2 := box23 f
  have c1 := fun w hk => rsum_any (⟨#[1]⟩ ++ strOf (dl d) ++ strOf (dl f)) (by rw [ByteArray.size_append, ByteArray.size_append, size_strOf, size_strOf, dl_length, dl_length]; decide) w hk
  simp only [node_bytes] at c1
  have k1 := ((Blk.new w (A8 16 d) 23).alloc (.cells (A8 16 f) 23)).alloc (.cells (A8 16 fun _ => 0#8) 23)
  have k2 := (Blk.new (w.alloc (.cells (A8 16 d) 23)) (A8 16 f) 23).alloc (.cells (A8 16 fun _ => 0#8) 23)
  have ho := Blk.new ((w.alloc (.cells (A8 16 d) 23)).alloc (.cells (A8 16 f) 23)) (A8 16 fun _ => 0#8) 23
  rw [World.size_alloc] at k2
  rw [World.size_alloc, World.size_alloc] at ho
  have hB : Below w.heap.size w (((w.alloc (.cells (A8 16 d) 23)).alloc (.cells (A8 16 f) 23)).alloc (.cells (A8 16 fun _ => 0#8) 23)) := (((Below.refl _ _).alloc (Nat.le_refl _) _).alloc (by simp) _).alloc (by simp; omega) _
  have hc1 := fun (W : World) (k : Blk W w.heap.size (A8 16 d) 23) => conv_dl k
  have hc2 := fun (W : World) (k : Blk W (w.heap.size + 1) (A8 16 f) 23) => conv_dl k
  have hsum := fun w : World => run_string_add_sum (P := Tryd.prog) w ⟨#[1]⟩ (strOf (dl d)) (by rw [size_strOf, dl_length]; decide)
  have hsum2 := fun w : World => run_string_add_sum (P := Tryd.prog) w (⟨#[1]⟩ ++ strOf (dl d)) (strOf (dl f)) (by rw [ByteArray.size_append, size_strOf, size_strOf, dl_length, dl_length]; decide)
  generalize strOf (dl d) = X at c1 hc1 hsum hsum2
  generalize strOf (dl f) = X2 at c1 hc2 hsum2
  generalize (⟨#[1]⟩ : ByteArray) ++ X = Y at c1 hsum hsum2
  generalize Y ++ X2 = Z at c1 hsum2
  generalize nodeD d f = D at c1 ⊢
  go_enter Tryd.func83, Tryd.ntmps83
  go_wp2_with fail
  generalize ((w.alloc (.cells (A8 16 d) 23)).alloc (.cells (A8 16 f) 23)).alloc (.cells (A8 16 fun _ => 0#8) 23) = W0 at k1 k2 ho hB ⊢
  refine wp_region_held_drew (S := fun w' => Below w.heap.size w w' ∧ Blk w' w.heap.size (A8 16 d) 23 ∧ Blk w' (w.heap.size + 1) (A8 16 f) 23) (by kernel_rfl) (⟨hB.drew, k1.drew, k2.drew⟩) (fun hS => ?_)
  refine take_at (i := 0) 5 (.slice (some ⟨w.heap.size, 0, none⟩) 16 16) rfl rfl (by kernel_rfl) (by kernel_rfl) (by kernel_rfl) (fun _ _ _ h => h) (Or.inl ⟨by rfl, fun W hW => by go_simp⟩) hS ?_
  simp only [List.setIfInBounds_toArray, List.set_cons_zero, List.set_cons_succ]
  refine take_at (i := 1) 6 (.string X) rfl rfl (by kernel_rfl) (by kernel_rfl) (by kernel_rfl) (fun _ _ _ h => h) (Or.inl ⟨by rfl, fun W hW => by have hcv := hc1 W hW.2.1; go_simp⟩) hS ?_
  simp only [List.setIfInBounds_toArray, List.set_cons_zero, List.set_cons_succ]
  refine take_at (i := 2) 7 (.string Y) rfl rfl (by kernel_rfl) (by kernel_rfl) (by kernel_rfl) (fun _ _ _ h => h) (Or.inl ⟨by rfl, fun W hW => by go_simp⟩) hS ?_
  simp only [List.setIfInBounds_toArray, List.set_cons_zero, List.set_cons_succ]
  refine take_at (i := 3) 8 (.slice (some ⟨w.heap.size + 1, 0, none⟩) 16 16) rfl rfl (by kernel_rfl) (by kernel_rfl) (by kernel_rfl) (fun _ _ _ h => h) (Or.inl ⟨by rfl, fun W hW => by go_simp⟩) hS ?_
  simp only [List.setIfInBounds_toArray, List.set_cons_zero, List.set_cons_succ]
  refine take_at (i := 4) 9 (.string X2) rfl rfl (by kernel_rfl) (by kernel_rfl) (by kernel_rfl) (fun _ _ _ h => h) (Or.inl ⟨by rfl, fun W hW => by have hcv := hc2 W hW.2.2; go_simp⟩) hS ?_
  simp only [List.setIfInBounds_toArray, List.set_cons_zero, List.set_cons_succ]
  refine take_at (i := 5) 10 (.string Z) rfl rfl (by kernel_rfl) (by kernel_rfl) (by kernel_rfl) (fun _ _ _ h => h) (Or.inl ⟨by rfl, fun W hW => by go_simp⟩) hS ?_
  simp only [List.setIfInBounds_toArray, List.set_cons_zero, List.set_cons_succ]
  refine wpAnyH_ready (rs := [6]) (by kernel_rfl) (by simp) ?_
  refine AllReadyH.cons rfl (fun K hK => ?_) AllReadyH.nil
  go_simp
  refine (c1 _ (hKK.below hKK.pos hS.1)).mono ?_
  rintro e X1 ⟨rfl, hb⟩
  refine hK.out _ _ (⟨hS.1.trans (hb.mono hS.1.size), hS.2.1.below hb hS.2.1.lt, hS.2.2.below hb hS.2.2.lt⟩) (fun hS => ?_)
  clear hK K
  have ho2 := ho.drew.below hb ho.drew.lt
  try simp only [Act.put, List.setIfInBounds_toArray, List.set_cons_zero, List.set_cons_succ]
  refine wpAnyH_ready (rs := [7]) (by kernel_rfl) (by simp) ?_
  refine AllReadyH.cons rfl (fun K hK => ?_) AllReadyH.nil
  refine step_storeRow (C' := A8 16 D) rfl 23 (.tmp 4) (.tmp 11) rfl (w.heap.size + 1 + 1) rfl rfl ho2 size23 (A8.size _ _) (A8.size _ _) (A8.one _) rfl ?_
  intro X2 hu k9
  refine hK.out _ _ (⟨hu.below hS.1 (by omega), hS.2.1.upd hu (by omega), hS.2.2.upd hu (by omega)⟩) (fun hS => ?_)
  clear hK K
  try simp only [Act.put, List.setIfInBounds_toArray, List.set_cons_zero, List.set_cons_succ]
  refine wpAnyH_done (by kernel_rfl) ?_ _
  go_wp2_with fail
  exact ret_row rfl (w.heap.size + 1 + 1) rfl k9 Tryd.underlying23 rfl size23 (A8.size _ _) rfl ⟨rfl, hS.1⟩
end Go.Proofs.YtdpgebifeaakjaaDoor

/- The walk of the specification's Tree. -/
namespace Go.Proofs.YtdpgebifeaakjaaDoor
set_option linter.unusedSimpArgs false
set_option linter.unusedVariables false
open Go.RowKit

set_option maxRecDepth 20000 in
set_option maxHeartbeats 8000000 in
theorem rtree_any : ∀ (f n : Nat) (D : Nat → Nat → BitVec 8) (v : Value) (w : World), n ≤ f → n ≤ 1099511627776 → Digs w v n D → KAt w →
    Calls Tryd.prog 49 #[v] w fun e w' => e = .returned (.agg (A8 16 (treeF f n D))) ∧ Below w.heap.size w w' := by
  intro f
  induction f with
  | zero =>
    intro n D v w hf hn hD hKK
    obtain ⟨p, cap, rfl, hcap, hD⟩ := hD
    obtain rfl : n = 0 := by omega
    have ho := Blk.new w (A8 16 fun _ => 0#8) 23
    have hB : Below w.heap.size w (w.alloc (.cells (A8 16 fun _ => 0#8) 23)) := (Below.refl _ _).alloc (Nat.le_refl _) _
    have c0 := fun w hk => rsum_any ⟨#[]⟩ (by decide) w hk
    go_enter Tryd.func49, Tryd.ntmps49
    go_wp2_with fail
    refine (c0 _ (hKK.below hKK.pos hB)).mono ?_
    rintro e W1 ⟨rfl, hb⟩
    replace hB := hB.trans (hb.mono hB.size)
    replace ho := ho.below hb ho.lt
    go_wp2_with (refine wp_storeRow (C' := A8 16 (sha [])) rfl 23 _ _ rfl _ rfl rfl ho size23 (A8.size _ _) (A8.size _ _) (A8.one _) rfl ?_; intro W4 hu k9)
    exact ret_row rfl w.heap.size rfl k9 Tryd.underlying23 rfl size23 (A8.size _ _) rfl ⟨rfl, hu.below hB (Nat.le_refl _)⟩
  | succ f ih =>
    intro n D v w hf hn hD hKK
    have hDD := hD
    obtain ⟨p, cap, rfl, hcap, hD⟩ := hD
    have ho := Blk.new w (A8 16 fun _ => 0#8) 23
    have hB : Below w.heap.size w (w.alloc (.cells (A8 16 fun _ => 0#8) 23)) := (Below.refl _ _).alloc (Nat.le_refl _) _
    by_cases h0 : n = 0
    · subst h0
      have c0 := fun w hk => rsum_any ⟨#[]⟩ (by decide) w hk
      go_enter Tryd.func49, Tryd.ntmps49
      go_wp2_with fail
      refine (c0 _ (hKK.below hKK.pos hB)).mono ?_
      rintro e W1 ⟨rfl, hb⟩
      replace hB := hB.trans (hb.mono hB.size)
      replace ho := ho.below hb ho.lt
      go_wp2_with (refine wp_storeRow (C' := A8 16 (sha [])) rfl 23 _ _ rfl _ rfl rfl ho size23 (A8.size _ _) (A8.size _ _) (A8.one _) rfl ?_; intro W4 hu k9)
      exact ret_row rfl w.heap.size rfl k9 Tryd.underlying23 rfl size23 (A8.size _ _) rfl ⟨rfl, hu.below hB (Nat.le_refl _)⟩
    · by_cases h1 : n = 1
      · subst h1
        obtain ⟨g, o, rfl, hr⟩ := hD 0 (by omega)
        have r0 := run_dig (rangeAt_below hr ((Below.refl _ _).alloc (Nat.le_refl _) (.cells (A8 16 fun _ => 0#8) 23)))
        have c0 := fun w => rleaf_any (D 0) w
        have HT := hide (show treeF (f + 1) 1 D = leafD (D 0) from rfl)
        generalize leafD (D 0) = T at c0 HT
        go_enter Tryd.func49, Tryd.ntmps49
        go_wp2_with (refine wp_loadRun (by rfl) 23 _ rfl g o rfl r0 ?_)
        refine (c0 _ (hKK.below hKK.pos hB)).mono ?_
        rintro e W1 ⟨rfl, hb⟩
        replace hB := hB.trans (hb.mono hB.size)
        replace ho := ho.below hb ho.lt
        go_wp2_with (refine wp_storeRow (C' := A8 16 T) rfl 23 _ _ rfl _ rfl rfl ho size23 (A8.size _ _) (A8.size _ _) (A8.one _) rfl ?_; intro W4 hu k9)
        exact ret_row rfl w.heap.size rfl k9 Tryd.underlying23 rfl size23 (A8.size _ _) rfl ⟨by rw [HT.out], hu.below hB (Nat.le_refl _)⟩
      · obtain ⟨m1, m2, m3⟩ := halfN_facts n (by omega) hn
        have ch := rhalf_any n (by omega) hn
        have HT0 := treeF_step f n D h0 h1
        obtain ⟨g, o, rfl, _⟩ := hD 0 (by omega)
        generalize halfN n = m at m1 m2 m3 ch HT0
        have d1 := Digs.left hDD m (by omega)
        have d2 := Digs.right hDD m (by omega)
        have ca := fun (W : World) (hB : Below w.heap.size w W) => ih m D _ W (by omega) (by omega) (d1.below hB) (hKK.below hKK.pos hB)
        have cb := fun (W : World) (hB : Below w.heap.size w W) => ih (n - m) (fun j => D (m + j)) _ W (by omega) (by omega) (d2.below hB) (hKK.below hKK.pos hB)
        have cc := fun w => rnode_any (treeF f m D) (treeF f (n - m) fun j => D (m + j)) w
        generalize treeF f m D = T1 at ca cc HT0
        generalize (treeF f (n - m) fun j => D (m + j)) = T2 at cb cc HT0
        generalize nodeD T1 T2 = T3 at cc HT0
        have HT := hide HT0
        have CA := hide ca; have CB := hide cb; have CC := hide cc
        clear HT0 ca cb cc ih hD hDD d1 d2
        have e0 : ((n : Int) == 0) = false := by simp; omega
        have e1 : ((n : Int) == 1) = false := by simp; omega
        go_enter Tryd.func49, Tryd.ntmps49
        go_wp2_with fail
        refine (ch _).mono ?_
        rintro e W1 ⟨rfl, rfl⟩
        clear ch
        go_wp2_with fail
        have ca := CA.out; have cb := CB.out; have cc := CC.out
        have hp0 : (0 : Int) ≤ (m : Int) := by omega
        have hp1 : (m : Int) ≤ (n : Int) := by omega
        have hp2 : (m : Int) ≤ (cap : Int) := by omega
        have hp3 : ¬ cap = m := by omega
        replace ho := ho.drew
        generalize w.alloc (.cells (A8 16 fun _ => 0#8) 23) = W0 at ho hB ⊢
        refine wp_region_held_drew (S := fun w' => Below w.heap.size w w') (by kernel_rfl) (hB.drew) (fun hS => ?_)
        refine take_at (i := 0) 18 (.slice (some ⟨g, o, none⟩) n cap) rfl rfl (by kernel_rfl) (by kernel_rfl) (by kernel_rfl) (fun _ _ _ h => h) (Or.inl ⟨by rfl, fun W hW => by go_simp⟩) hS ?_
        simp only [List.setIfInBounds_toArray, List.set_cons_zero, List.set_cons_succ]
        refine take_at (i := 1) 19 (.int .i64 (m : Int)) rfl rfl (by kernel_rfl) (by kernel_rfl) (by kernel_rfl) (fun _ _ _ h => h) (Or.inl ⟨by rfl, fun W hW => by go_simp⟩) hS ?_
        simp only [List.setIfInBounds_toArray, List.set_cons_zero, List.set_cons_succ]
        refine take_at (i := 2) 20 (.slice (some ⟨g, o, none⟩) m cap) rfl rfl (by kernel_rfl) (by kernel_rfl) (by kernel_rfl) (fun _ _ _ h => h) (Or.inl ⟨by rfl, fun W hW => by go_simp⟩) hS ?_
        simp only [List.setIfInBounds_toArray, List.set_cons_zero, List.set_cons_succ]
        refine take_at (i := 4) 22 (.slice (some ⟨g, o, none⟩) n cap) rfl rfl (by kernel_rfl) (by kernel_rfl) (by kernel_rfl) (fun _ _ _ h => h) (Or.inl ⟨by rfl, fun W hW => by go_simp⟩) hS ?_
        simp only [List.setIfInBounds_toArray, List.set_cons_zero, List.set_cons_succ]
        refine take_at (i := 5) 23 (.int .i64 (m : Int)) rfl rfl (by kernel_rfl) (by kernel_rfl) (by kernel_rfl) (fun _ _ _ h => h) (Or.inl ⟨by rfl, fun W hW => by go_simp⟩) hS ?_
        simp only [List.setIfInBounds_toArray, List.set_cons_zero, List.set_cons_succ]
        refine take_at (i := 6) 24 (.slice (some ⟨g, o + m * 16, none⟩) (n - m) (cap - m)) rfl rfl (by kernel_rfl) (by kernel_rfl) (by kernel_rfl) (fun _ _ _ h => h) (Or.inl ⟨by rfl, fun W hW => by go_simp⟩) hS ?_
        simp only [List.setIfInBounds_toArray, List.set_cons_zero, List.set_cons_succ]
        refine wpAnyH_ready (rs := [3]) (by kernel_rfl) (by simp) ?_
        refine AllReadyH.cons rfl (fun K hK => ?_) AllReadyH.nil
        go_simp
        refine (ca _ hS).mono ?_
        rintro e X1 ⟨rfl, hb⟩
        refine hK.out _ _ (hS.trans (hb.mono hS.size)) (fun hS => ?_)
        clear hK K
        replace ho := ho.below hb ho.lt
        try simp only [Act.put, List.setIfInBounds_toArray, List.set_cons_zero, List.set_cons_succ]
        refine wpAnyH_ready (rs := [7]) (by kernel_rfl) (by simp) ?_
        refine AllReadyH.cons rfl (fun K hK => ?_) AllReadyH.nil
        go_simp
        refine (cb _ hS).mono ?_
        rintro e X2 ⟨rfl, hb⟩
        refine hK.out _ _ (hS.trans (hb.mono hS.size)) (fun hS => ?_)
        clear hK K
        replace ho := ho.below hb ho.lt
        try simp only [Act.put, List.setIfInBounds_toArray, List.set_cons_zero, List.set_cons_succ]
        refine wpAnyH_ready (rs := [8]) (by kernel_rfl) (by simp) ?_
        refine AllReadyH.cons rfl (fun K hK => ?_) AllReadyH.nil
        go_simp
        refine (cc _ (hKK.below hKK.pos hS)).mono ?_
        rintro e X3 ⟨rfl, hb⟩
        refine hK.out _ _ (hS.trans (hb.mono hS.size)) (fun hS => ?_)
        clear hK K
        replace ho := ho.below hb ho.lt
        try simp only [Act.put, List.setIfInBounds_toArray, List.set_cons_zero, List.set_cons_succ]
        refine wpAnyH_ready (rs := [9]) (by kernel_rfl) (by simp) ?_
        refine AllReadyH.cons rfl (fun K hK => ?_) AllReadyH.nil
        refine step_storeRow (C' := A8 16 T3) rfl 23 (.tmp 2) (.tmp 26) rfl w.heap.size rfl rfl ho size23 (A8.size _ _) (A8.size _ _) (A8.one _) rfl ?_
        intro X4 hu k9
        refine hK.out _ _ (hu.below hS (Nat.le_refl _)) (fun hS => ?_)
        clear hK K
        try simp only [Act.put, List.setIfInBounds_toArray, List.set_cons_zero, List.set_cons_succ]
        refine wpAnyH_done (by kernel_rfl) ?_ _
        go_wp2_with fail
        exact ret_row rfl w.heap.size rfl k9 Tryd.underlying23 rfl size23 (A8.size _ _) rfl ⟨by rw [HT.out], hS⟩
end Go.Proofs.YtdpgebifeaakjaaDoor

/- The specification's Path and Growth. -/

/- The walk of the specification's tops. -/
namespace Go.Proofs.YtdpgebifeaakjaaDoor
set_option linter.unusedSimpArgs false
set_option linter.unusedVariables false
open Go.RowKit

theorem ownsRow_below {W W' : World} {base e size n : Nat} {v : Value} {xs : List Value} (h : W.ownsRow base e size v n xs) (hb : Below W.heap.size W W') : W'.ownsRow base e size v n xs := by
  obtain ⟨h0, h1 | ⟨g, cap, cur, rfl, h2, hh, h3⟩⟩ := h
  · exact ⟨h0, .inl h1⟩
  · exact ⟨h0, .inr ⟨g, cap, cur, rfl, h2, (hb.block g (Array.getElem?_eq_some_iff.1 hh).1).trans hh, h3⟩⟩
/-- The digest over the i-th block. -/
def topT (l : List (Nat × Nat)) (D : Nat → Nat → BitVec 8) (i : Nat) : Nat → BitVec 8 := treeF (l.getD i (0, 0)).2 (l.getD i (0, 0)).2 fun j => D ((l.getD i (0, 0)).1 + j)
set_option maxRecDepth 20000 in
set_option maxHeartbeats 8000000 in
theorem rtops_any (n : Nat) (D : Nat → Nat → BitVec 8) (l : List (Nat × Nat)) (u v : Value) (w : World) (hn : n ≤ 1099511627776) (hl : l.length ≤ 1000) (hb : ∀ x, x ∈ l → 0 < x.2 ∧ x.1 + x.2 ≤ n) (hv : Digs w v n D) (hu : SlB w u l) (hKK : KAt w) :
    Calls Tryd.prog 76 #[v, u] w fun e w' => ∃ r, e = .returned r ∧ w'.ownsRow w.heap.size 23 16 r l.length (digCells (topT l D) l.length) ∧ Below w.heap.size w w' := by
  obtain ⟨i0, hi0, hz0, hz1, hz2⟩ := info_parts info23
  have hvv := hv
  obtain ⟨p, cap, rfl, hcap, hv⟩ := hv
  obtain ⟨q, bc, rfl, hu⟩ := hu
  have hB := Below.refl w.heap.size w
  go_enter Tryd.func76, Tryd.ntmps76
  go_wp2_with fail
  go_loopw [5, 6] (fun s5 s6 W => ∃ i : Nat, i ≤ l.length ∧ s6 = .int .i64 (i : Int) ∧ W.ownsRow w.heap.size 23 16 s5 i (digCells (topT l D) i) ∧ Below w.heap.size w W) (fun _ s6 _ => l.length - (intOf s6).toNat)
  case atStart => exact ⟨0, by omega, rfl, World.ownsRow_nil _ _ _ _, hB⟩
  case round =>
    clear hB
    obtain ⟨i, hi, rfl, hrow, hB⟩ := hrel
    by_cases hlt : i < l.length
    · have hlt1 : (i : Int) < (l.length : Int) := by omega
      obtain ⟨a, m, hx⟩ : ∃ a m, l[i]? = some (a, m) := ⟨_, _, List.getElem?_eq_getElem hlt⟩
      obtain ⟨bg, bo, rfl, q1, q2⟩ := hu i (a, m) hx
      have hbm := hb _ (List.mem_of_getElem? hx)
      dsimp only at hbm q1 q2
      obtain ⟨g, o, rfl, _⟩ := hv 0 (by omega)
      have hbg : bg < w.heap.size := World.block_lt_of_cell? w _ q1
      replace q1 := cell_below q1 hB
      replace q2 := cell_below q2 hB
      have d1 := (Digs.right hvv a (by omega)).left m (by omega)
      have ct := fun (W : World) (hB : Below w.heap.size w W) => rtree_any m m (fun j => D (a + j)) _ W (Nat.le_refl _) (by omega) (d1.below hB) (hKK.below hKK.pos hB)
      have hTT : topT l D i = treeF m m fun j => D (a + j) := by simp [topT, List.getD, hx]
      generalize (treeF m m fun j => D (a + j)) = T at ct hTT
      have HTT := hide hTT; have CT := hide ct
      clear hTT ct d1 hx
      have hp0 : (0 : Int) ≤ (a : Int) := by omega
      have hp1 : (0 : Int) ≤ (a : Int) + (m : Int) := by omega
      have hp2 : (a : Int) + (m : Int) ≤ (cap : Int) := by omega
      have hp3 : ¬ ((a : Int) + (m : Int) < (a : Int)) := by omega
      have hp4 : (0 : Int) ≤ (i : Int) := by omega
      have hq1 : ((a : Int) + (m : Int)).toNat = a + m := by omega
      have hq2 : a + m - a = m := by omega
      have hq3 : ¬ cap = a := by omega
      have hwm : IntKind.i64.wrap ((a : Int) + (m : Int)) = (a : Int) + (m : Int) := IntWalk.i64_in _ (by omega)
      go_wp2_with fail
      refine wp_region_held_drew (S := fun w' => Below w.heap.size w w' ∧ w'.cell? ⟨bg, bo + i * 2, none⟩ = some (.int .i64 (a : Int)) ∧ w'.cell? ⟨bg, bo + i * 2 + 1, none⟩ = some (.int .i64 (m : Int))) (by kernel_rfl) (⟨hB.drew, q1, q2⟩) (fun hS => ?_)
      refine take_at (i := 0) 13 (u5) rfl rfl (by kernel_rfl) (by kernel_rfl) (by kernel_rfl) (fun _ _ _ h => h) (Or.inl ⟨by rfl, fun W hW => by go_simp⟩) hS ?_
      try simp only [List.setIfInBounds_toArray, List.set_cons_zero, List.set_cons_succ]
      refine take_at (i := 1) 14 (.slice (some ⟨g, o, none⟩) n cap) rfl rfl (by kernel_rfl) (by kernel_rfl) (by kernel_rfl) (fun _ _ _ h => h) (Or.inl ⟨by rfl, fun W hW => by go_simp⟩) hS ?_
      try simp only [List.setIfInBounds_toArray, List.set_cons_zero, List.set_cons_succ]
      refine take_at (i := 2) 15 (.slice (some ⟨bg, bo, none⟩) l.length bc) rfl rfl (by kernel_rfl) (by kernel_rfl) (by kernel_rfl) (fun _ _ _ h => h) (Or.inl ⟨by rfl, fun W hW => by go_simp⟩) hS ?_
      try simp only [List.setIfInBounds_toArray, List.set_cons_zero, List.set_cons_succ]
      refine take_at (i := 3) 16 (.int .i64 (i : Int)) rfl rfl (by kernel_rfl) (by kernel_rfl) (by kernel_rfl) (fun _ _ _ h => h) (Or.inl ⟨by rfl, fun W hW => by go_simp⟩) hS ?_
      try simp only [List.setIfInBounds_toArray, List.set_cons_zero, List.set_cons_succ]
      refine take_at (i := 4) 17 (.pointer (some ⟨bg, bo + i * 2, none⟩)) rfl rfl (by kernel_rfl) (by kernel_rfl) (by kernel_rfl) (fun _ _ _ h => h) (Or.inl ⟨by rfl, fun W hW => by go_simp⟩) hS ?_
      try simp only [List.setIfInBounds_toArray, List.set_cons_zero, List.set_cons_succ]
      refine take_at (i := 5) 18 (.pointer (some ⟨bg, bo + i * 2, none⟩)) rfl rfl (by kernel_rfl) (by kernel_rfl) (by kernel_rfl) (fun _ _ _ h => h) (Or.inl ⟨by rfl, fun W hW => by go_simp⟩) hS ?_
      try simp only [List.setIfInBounds_toArray, List.set_cons_zero, List.set_cons_succ]
      refine take_at (i := 6) 19 (.int .i64 (a : Int)) rfl rfl (by kernel_rfl) (by kernel_rfl) (by kernel_rfl) (fun _ _ _ h => h) (Or.inl ⟨by rfl, fun W hW => by have hc := hW.2.1; go_simp⟩) hS ?_
      try simp only [List.setIfInBounds_toArray, List.set_cons_zero, List.set_cons_succ]
      refine take_at (i := 7) 20 (.slice (some ⟨bg, bo, none⟩) l.length bc) rfl rfl (by kernel_rfl) (by kernel_rfl) (by kernel_rfl) (fun _ _ _ h => h) (Or.inl ⟨by rfl, fun W hW => by go_simp⟩) hS ?_
      try simp only [List.setIfInBounds_toArray, List.set_cons_zero, List.set_cons_succ]
      refine take_at (i := 8) 21 (.int .i64 (i : Int)) rfl rfl (by kernel_rfl) (by kernel_rfl) (by kernel_rfl) (fun _ _ _ h => h) (Or.inl ⟨by rfl, fun W hW => by go_simp⟩) hS ?_
      try simp only [List.setIfInBounds_toArray, List.set_cons_zero, List.set_cons_succ]
      refine take_at (i := 9) 22 (.pointer (some ⟨bg, bo + i * 2, none⟩)) rfl rfl (by kernel_rfl) (by kernel_rfl) (by kernel_rfl) (fun _ _ _ h => h) (Or.inl ⟨by rfl, fun W hW => by go_simp⟩) hS ?_
      try simp only [List.setIfInBounds_toArray, List.set_cons_zero, List.set_cons_succ]
      refine take_at (i := 10) 23 (.pointer (some ⟨bg, bo + i * 2, none⟩)) rfl rfl (by kernel_rfl) (by kernel_rfl) (by kernel_rfl) (fun _ _ _ h => h) (Or.inl ⟨by rfl, fun W hW => by go_simp⟩) hS ?_
      try simp only [List.setIfInBounds_toArray, List.set_cons_zero, List.set_cons_succ]
      refine take_at (i := 11) 24 (.int .i64 (a : Int)) rfl rfl (by kernel_rfl) (by kernel_rfl) (by kernel_rfl) (fun _ _ _ h => h) (Or.inl ⟨by rfl, fun W hW => by have hc := hW.2.1; go_simp⟩) hS ?_
      try simp only [List.setIfInBounds_toArray, List.set_cons_zero, List.set_cons_succ]
      refine take_at (i := 12) 25 (.slice (some ⟨bg, bo, none⟩) l.length bc) rfl rfl (by kernel_rfl) (by kernel_rfl) (by kernel_rfl) (fun _ _ _ h => h) (Or.inl ⟨by rfl, fun W hW => by go_simp⟩) hS ?_
      try simp only [List.setIfInBounds_toArray, List.set_cons_zero, List.set_cons_succ]
      refine take_at (i := 13) 26 (.int .i64 (i : Int)) rfl rfl (by kernel_rfl) (by kernel_rfl) (by kernel_rfl) (fun _ _ _ h => h) (Or.inl ⟨by rfl, fun W hW => by go_simp⟩) hS ?_
      try simp only [List.setIfInBounds_toArray, List.set_cons_zero, List.set_cons_succ]
      refine take_at (i := 14) 27 (.pointer (some ⟨bg, bo + i * 2, none⟩)) rfl rfl (by kernel_rfl) (by kernel_rfl) (by kernel_rfl) (fun _ _ _ h => h) (Or.inl ⟨by rfl, fun W hW => by go_simp⟩) hS ?_
      try simp only [List.setIfInBounds_toArray, List.set_cons_zero, List.set_cons_succ]
      refine take_at (i := 15) 28 (.pointer (some ⟨bg, bo + i * 2 + 1, none⟩)) rfl rfl (by kernel_rfl) (by kernel_rfl) (by kernel_rfl) (fun _ _ _ h => h) (Or.inl ⟨by rfl, fun W hW => by go_simp⟩) hS ?_
      try simp only [List.setIfInBounds_toArray, List.set_cons_zero, List.set_cons_succ]
      refine take_at (i := 16) 29 (.int .i64 (m : Int)) rfl rfl (by kernel_rfl) (by kernel_rfl) (by kernel_rfl) (fun _ _ _ h => h) (Or.inl ⟨by rfl, fun W hW => by have hc := hW.2.2; go_simp⟩) hS ?_
      try simp only [List.setIfInBounds_toArray, List.set_cons_zero, List.set_cons_succ]
      refine take_at (i := 17) 30 (.int .i64 ((a : Int) + (m : Int))) rfl rfl (by kernel_rfl) (by kernel_rfl) (by kernel_rfl) (fun _ _ _ h => h) (Or.inl ⟨by rfl, fun W hW => by go_simp⟩) hS ?_
      try simp only [List.setIfInBounds_toArray, List.set_cons_zero, List.set_cons_succ]
      refine take_at (i := 18) 31 (.slice (some ⟨g, o + a * 16, none⟩) m (cap - a)) rfl rfl (by kernel_rfl) (by kernel_rfl) (by kernel_rfl) (fun _ _ _ h => h) (Or.inl ⟨by rfl, fun W hW => by go_simp⟩) hS ?_
      try simp only [List.setIfInBounds_toArray, List.set_cons_zero, List.set_cons_succ]
      refine wpAnyH_ready (rs := [19]) (by kernel_rfl) (by simp) ?_
      refine AllReadyH.cons rfl (fun K hK => ?_) AllReadyH.nil
      go_simp
      refine (CT.out _ hS.1).mono ?_
      rintro e X1 ⟨rfl, hb⟩
      refine hK.out _ _ (⟨hS.1.trans (hb.mono hS.1.size), cell_below hS.2.1 hb, cell_below hS.2.2 hb⟩) (fun hS => ?_)
      clear hK K
      have hrow2 := ownsRow_below hrow.drew hb
      have hsz2 := hS.1.size
      try simp only [Act.put, List.setIfInBounds_toArray, List.set_cons_zero, List.set_cons_succ]
      refine wpAnyH_ready (rs := [20]) (by kernel_rfl) (by simp) ?_
      refine AllReadyH.cons rfl (fun K hK => ?_) AllReadyH.nil
      refine step_build80 rfl (.tmp 32) rfl (T := T) rfl ?_
      refine hK.out _ _ (⟨hS.1.alloc hS.1.size _, cell_below hS.2.1 ((Below.refl _ _).alloc (Nat.le_refl _) _), cell_below hS.2.2 ((Below.refl _ _).alloc (Nat.le_refl _) _)⟩) (fun hS => ?_)
      clear hK K
      obtain ⟨WA, hWA⟩ : ∃ WA, X1 = WA := ⟨_, rfl⟩
      try simp only [Act.put, List.setIfInBounds_toArray, List.set_cons_zero, List.set_cons_succ]
      refine wpAnyH_ready (rs := [21]) (by kernel_rfl) (by simp) ?_
      refine AllReadyH.cons rfl (fun K hK => ?_) AllReadyH.nil
      refine step_append_lies _ (by rfl) _ _ _ (by rfl) w.heap.size 23 i0 _ 16 16 Tryd.underlying80 hi0 hz0 hz1 hz2 rfl (by omega) _ i (digCells (topT l D) i) (by rfl) (hrow2.alloc _) ⟨X1.heap.size, 0, none⟩ 1 1 (A8 16 T).toList (by rfl) (by rw [Array.length_toList, A8.size]) (World.news_of_block (cs := A8 16 T) (t := 23) (fr := (0, 0)) (heap_alloc_new X1 _)) (by intro u hu; obtain ⟨j, hj⟩ := List.getElem?_of_mem hu; rw [Array.getElem?_toList] at hj; have := A8.one (n := 16) T; exact Array.all_eq_true_iff_forall_mem.1 this u (Array.mem_of_getElem? hj)) (by omega) (by unfold maxLen; omega) (by omega) (by simp; omega) (X1.heap.size + 1) (by simp) ?_
      intro gg capp w1 hown1 hgrow hat hlt2
      refine hK.out _ _ (⟨hS.1.grown hgrow (by simp; omega) (fun q e => (hrow2.lt q e).1), hgrow.cell hS.2.1 (fun e => by have := (hrow2.lt bg e.symm).1; omega), hgrow.cell hS.2.2 (fun e => by have := (hrow2.lt bg e.symm).1; omega)⟩) (fun hS => ?_)
      clear hK K
      try simp only [Act.put, List.setIfInBounds_toArray, List.set_cons_zero, List.set_cons_succ]
      refine take_at (i := 22) 5 (.slice (some ⟨gg, 0, none⟩) (i + 1) capp) rfl rfl (by kernel_rfl) (by kernel_rfl) (by kernel_rfl) (fun _ _ _ h => h) (Or.inl ⟨by rfl, fun W hW => by go_simp⟩) hS ?_
      try simp only [List.setIfInBounds_toArray, List.set_cons_zero, List.set_cons_succ]
      refine wpAnyH_done (by kernel_rfl) ?_ _
      rw [← HTT.out] at hown1
      clear hrow2 hgrow hat
      go_wp2_with fail
      exact ⟨⟨i + 1, by omega, by go_num, hown1, hS.1⟩, by simp [intOf]; omega⟩
    · have hlt1 : ¬ (i : Int) < (l.length : Int) := by omega
      have hi' : i = l.length := by omega
      subst hi'
      go_wp2_with fail
      go_ret
      exact ⟨u5, rfl, hrow, hB⟩
end Go.Proofs.YtdpgebifeaakjaaDoor

/- A row of digests appended to another: one law, whether either is nil or not. -/
namespace Go.Proofs.YtdpgebifeaakjaaDoor
set_option linter.unusedSimpArgs false
set_option linter.unusedVariables false
open Go.RowKit

theorem digCells_one (T : Nat → Nat → BitVec 8) : ∀ k, ∀ u ∈ digCells T k, u.oneCell' = true
  | 0, u, hu => by rw [digCells] at hu; cases hu
  | k + 1, u, hu => by
    rw [digCells, List.mem_append] at hu
    rcases hu with hu | hu
    · exact digCells_one T k u hu
    · obtain ⟨j, hj⟩ := List.getElem?_of_mem hu
      rw [Array.getElem?_toList] at hj
      have := A8.one (n := 16) (T k)
      exact Array.all_eq_true_iff_forall_mem.1 this u (Array.mem_of_getElem? hj)
theorem wp_append_digs {ops : Array Oper} {rest : List Oper} {o : Oper} {a : Act} {w : World} {Q : Exit → Act → World → Prop} (hgd : o.guard = none)
    (s x : Operand) (hop : o.op = Op.call { callee := Callee.builtin Builtin.append, args := #[s, x], argTypes := #[80, 80] })
    {base base2 k m : Nat} {v u : Value} {T U : Nat → Nat → BitVec 8} (hs : a.eval s = v) (hv : w.ownsRow base 23 16 v k (digCells T k)) (hx : a.eval x = u) (hu : w.ownsRow base2 23 16 u m (digCells U m))
    (hkm : k + m ≤ 1000000) (hbase : base ≤ w.heap.size)
    (h : ∀ v' w', w'.ownsRow base 23 16 v' (k + m) (digCells T k ++ digCells U m) → Below base w w' → wpList Tryd.prog ops Q rest (a.put o.dst v') w') : wpList Tryd.prog ops Q (o :: rest) a w := by
  obtain ⟨i0, hi0, hz0, hz1, hz2⟩ := info_parts info23
  have huc := fun (g : Nat) (e : u.ownBlock = some g) => World.ownsRow.cells hu e
  obtain ⟨_, ⟨rfl, rfl⟩ | ⟨g, cap, cur, rfl, _⟩⟩ := hu
  · refine wpList_append_own_none hgd s x 80 hop base 23 i0 16 Tryd.underlying80 hi0 v k _ hs hv hx (h v w ?_ (Below.refl _ _))
    rw [digCells, List.append_nil, Nat.add_zero]
    exact hv
  · refine wpList_append_own w hgd s x 80 hop base 23 i0 _ 16 16 Tryd.underlying80 hi0 hz0 hz1 hz2 rfl (by omega) v k _ hs hv ⟨g, 0, none⟩ m cap (digCells U m) hx (digCells_length U m) (fun j u hj => huc g rfl j u hj) (digCells_one U m)
      (by unfold maxLen; omega) (by omega) hbase fun v' w' h2 h3 _ => h v' w' h2 ((Below.refl base w).grown h3 hbase fun q e => (hv.lt q e).1)
end Go.Proofs.YtdpgebifeaakjaaDoor

/- The specification's Path, where it answers. -/
namespace Go.Proofs.YtdpgebifeaakjaaDoor
set_option linter.unusedSimpArgs false
set_option linter.unusedVariables false
open Go.RowKit

theorem ownsRow_base {W : World} {base base' e size n : Nat} {v : Value} {xs : List Value} (h : W.ownsRow base e size v n xs) (hb : base' ≤ base) : W.ownsRow base' e size v n xs := by
  obtain ⟨h0, h1 | ⟨g, cap, cur, rfl, h2, h3⟩⟩ := h
  · exact ⟨h0, .inl h1⟩
  · exact ⟨h0, .inr ⟨g, cap, cur, rfl, by omega, h3⟩⟩
set_option maxRecDepth 20000 in
set_option maxHeartbeats 1000000 in
theorem rpath_ok (n a b : Nat) (D : Nat → Nat → BitVec 8) (v : Value) (w : World) (hab : a ≤ b) (hbn : b ≤ n) (hn : n ≤ 1000) (hv : Digs w v n D) (hKK : KAt w) :
    Calls Tryd.prog 46 #[v, .int .i64 (a : Int), .int .i64 (b : Int)] w fun e w' => ∃ r, e = .returned (.agg #[r, .int .i64 0]) ∧
      w'.ownsRow w.heap.size 23 16 r ((coverL 0 a).length + (coverL b n).length) (digCells (topT (coverL 0 a) D) (coverL 0 a).length ++ digCells (topT (coverL b n) D) (coverL b n).length) ∧ Below w.heap.size w w' := by
  have hvv := hv
  obtain ⟨p, cap, rfl, hcap, hv⟩ := hv
  have h1 : ¬ (a : Int) < 0 := by omega
  have h2 : ¬ (b : Int) < (a : Int) := by omega
  have h3 : ¬ (n : Int) < (b : Int) := by omega
  have hB : Below w.heap.size w (w.alloc (.cells #[.slice none 0 0, .int .i64 0] 85)) := (Below.refl _ _).alloc (Nat.le_refl _) _
  have k6 := Blk.new w #[.slice none 0 0, .int .i64 0] 85
  have l1 := coverL_length 0 a
  have l2 := coverL_length b n
  have c1 : ∀ w, Calls Tryd.prog 63 #[.int .i64 0, .int .i64 (a : Int)] w fun e w' => ∃ v, e = .returned v ∧ w'.ownsRow w.heap.size 106 2 v (coverL 0 a).length (cellsOf (coverL 0 a)) ∧ Below w.heap.size w w' := fun w => rcover_any 0 a (by omega) (by omega) w
  have c2 := fun w => rcover_any b n hbn (by omega) w
  have m1 := coverL_mem 0 a (by omega)
  have m2 := coverL_mem b n (by omega)
  generalize coverL 0 a = L1 at c1 l1 m1 ⊢
  generalize coverL b n = L2 at c2 l2 m2 ⊢
  go_enter Tryd.func46, Tryd.ntmps46
  go_wp2_with fail
  refine (c1 _).mono ?_
  rintro e W1 ⟨v1, rfl, o1, hb⟩
  replace hB := hB.trans (hb.mono hB.size)
  replace k6 := k6.below hb k6.lt
  have s1 : w.heap.size + 1 ≤ W1.heap.size := k6.lt
  go_wp2_with fail
  refine (rtops_any n D L1 v1 _ W1 (by omega) (by omega) (fun x hx => ⟨(m1 x hx).2.1, by have := (m1 x hx).2.2; omega⟩) (hvv.below hB) (SlB.of_owns o1) (hKK.below hKK.pos hB)).mono ?_
  rintro e W2 ⟨r1, rfl, q1, hb⟩
  replace q1 := ownsRow_base q1 s1
  replace hB := hB.trans (hb.mono hB.size)
  replace k6 := k6.below hb k6.lt
  clear o1 c1
  go_wp2_with fail
  refine (c2 _).mono ?_
  rintro e W3 ⟨v2, rfl, o2, hb⟩
  replace q1 := ownsRow_below q1 hb
  replace hB := hB.trans (hb.mono hB.size)
  replace k6 := k6.below hb k6.lt
  go_wp2_with fail
  refine (rtops_any n D L2 v2 _ W3 (by omega) (by omega) (fun x hx => ⟨(m2 x hx).2.1, (m2 x hx).2.2⟩) (hvv.below hB) (SlB.of_owns o2) (hKK.below hKK.pos hB)).mono ?_
  rintro e W4 ⟨r2, rfl, q2, hb⟩
  have s2 := hB.size
  replace q1 := ownsRow_below q1 hb
  replace hB := hB.trans (hb.mono hB.size)
  replace k6 := k6.below hb k6.lt
  clear o2 c2
  go_wp2_with (at_builtin; go_loud (refine wp_append_digs rfl _ _ rfl rfl q1 rfl q2 (by omega) k6.lt ?_); intro r W5 q3 hb5; obtain ⟨rp, rk, rc, rfl⟩ := ownsRow_slice' q3; have k8 := k6.below hb5 (by omega); have hc0 := k8.cell 0; have hc1 := k8.cell 1; have hf0 := k8.free 0; have hf1 := k8.free 1; replace hc0 : W5.cell? ⟨w.heap.size, 0, none⟩ = some (.slice none 0 0) := hc0; replace hc1 : W5.cell? ⟨w.heap.size, 1, none⟩ = some (.int .i64 0) := hc1)
  have k9 := (k8.set 0 (.slice rp rk rc)).set 1 (.int .i64 0)
  have e9 : ((#[Value.slice none 0 0, Value.int .i64 0] : Array Value).setIfInBounds 0 (.slice rp rk rc)).setIfInBounds 1 (.int .i64 0) = #[.slice rp rk rc, .int .i64 0] := rfl
  rw [e9] at k9
  have q4 := ownsRow_base (ownsRow_setCell_below (a := ⟨w.heap.size, 1, none⟩) (ownsRow_setCell_below (a := ⟨w.heap.size, 0, none⟩) q3 (Nat.lt_succ_self _) (.slice rp rk rc)) (Nat.lt_succ_self _) (.int .i64 0)) (Nat.le_succ w.heap.size)
  refine ret_row rfl w.heap.size rfl k9 Tryd.underlying85 rfl (n := 2) (by kernel_rfl) rfl rfl ⟨_, rfl, q4, ?_⟩
  exact ((hB.trans (hb5.mono (Nat.le_succ _))).setCell (p := ⟨w.heap.size, 0, none⟩) (Nat.le_refl _) _).setCell (p := ⟨w.heap.size, 1, none⟩) (Nat.le_refl _) _
end Go.Proofs.YtdpgebifeaakjaaDoor

/- The specification's Growth, where it answers; Path refused. -/
namespace Go.Proofs.YtdpgebifeaakjaaDoor
set_option linter.unusedSimpArgs false
set_option linter.unusedVariables false
open Go.RowKit

end Go.Proofs.YtdpgebifeaakjaaDoor

/- The specification's Path and Growth, refused. -/
namespace Go.Proofs.YtdpgebifeaakjaaDoor
set_option linter.unusedSimpArgs false
set_option linter.unusedVariables false
open Go.RowKit

end Go.Proofs.YtdpgebifeaakjaaDoor

/- Owned rows of digests: what stays, and steps of Grow. -/
namespace Go.Proofs.YtdpgebifeaakjaaDoor
set_option linter.unusedSimpArgs false
set_option linter.unusedVariables false
open Go.RowKit

theorem cell_upd {W W' : World} {b : Nat} {a : Addr} {v : Value} (h : W.cell? a = some v) (hu : Upd b W W') (hne : a.block ≠ b) : W'.cell? a = some v := (World.cell?_of_block (hu.block _ hne)).trans h
theorem rangeAt_upd {W W' : World} {b g o : Nat} {cs : List Value} (h : W.rangeAt g o cs) (hu : Upd b W W') (hne : g ≠ b) : W'.rangeAt g o cs := fun j v hv => cell_upd (h j v hv) hu hne
end Go.Proofs.YtdpgebifeaakjaaDoor

/- Growing in plain: the tops of a cover, and the tree over them. -/
namespace Go.Proofs.YtdpgebifeaakjaaDoor
set_option linter.unusedSimpArgs false
set_option linter.unusedVariables false

theorem bitLen_unique (x k : Nat) (h1 : 2 ^ k ≤ x) (h2 : x < 2 ^ (k + 1)) (hk : k + 1 ≤ 64) : Lib.bitLen x = k + 1 := by
  have hp : 0 < 2 ^ k := Nat.two_pow_pos k
  obtain ⟨l1, l2, l3⟩ := bitLen_spec x (by omega) (Nat.lt_of_lt_of_le h2 (Nat.pow_le_pow_right (by decide) hk))
  have a := bitLen_le x (k + 1) (by omega) h2 hk
  apply Classical.byContradiction
  intro hn
  have : 2 ^ Lib.bitLen x ≤ 2 ^ k := Nat.pow_le_pow_right (by decide) (by omega)
  omega
/-- The step of an aligned cover. -/
theorem stepN_top (a m k : Nat) (hb : a + m ≤ 1099511627776) (h1 : 2 ^ k ≤ m) (h2 : m < 2 ^ (k + 1)) (ha : a = 0 ∨ 2 ^ (k + 1) ∣ a) : stepN a (a + m) = 2 ^ k := by
  have hp : 0 < 2 ^ k := Nat.two_pow_pos k
  have hk : k + 1 ≤ 64 := by
    apply Classical.byContradiction
    intro hn
    have : 2 ^ 41 ≤ 2 ^ k := Nat.pow_le_pow_right (by decide) (by omega)
    omega
  have hl := bitLen_unique m k h1 h2 hk
  unfold stepN
  rw [Nat.add_sub_cancel_left, hl, Nat.add_sub_cancel]
  split
  · rename_i h0
    rcases ha with ha | ha
    · omega
    · have hz := ctz_ge a (k + 1) h0 (by omega) ha
      exact Nat.min_eq_left (Nat.pow_le_pow_right (by decide) (by omega))
  · rfl
theorem pow_of (m : Nat) (hm : 0 < m) (hb : m ≤ 1099511627776) : ∃ k, 2 ^ k ≤ m ∧ m < 2 ^ (k + 1) := by
  obtain ⟨l1, l2, l3⟩ := bitLen_spec m hm (Nat.lt_of_le_of_lt hb (by decide))
  exact ⟨Lib.bitLen m - 1, l2, by rw [show Lib.bitLen m - 1 + 1 = Lib.bitLen m by omega]; exact l3⟩
theorem lt_of_pow {k K M : Nat} (h1 : 2 ^ k ≤ M) (h2 : M < 2 ^ K) : k < K := by
  apply Classical.byContradiction
  intro hn
  have : 2 ^ K ≤ 2 ^ k := Nat.pow_le_pow_right (by decide) (by omega)
  omega
/-- Where a cover of M leaves may begin. -/
def Fits (a M : Nat) : Prop := a = 0 ∨ ∃ K, M < 2 ^ K ∧ 2 ^ K ∣ a
theorem Fits.step {a M k : Nat} (h : Fits a M) (h1 : 2 ^ k ≤ M) : a = 0 ∨ 2 ^ (k + 1) ∣ a := by
  rcases h with h | ⟨K, h2, h3⟩
  · exact .inl h
  · exact .inr (Nat.dvd_trans (Nat.pow_dvd_pow 2 (lt_of_pow h1 h2)) h3)
theorem coverL_step {a M k : Nat} (hb : a + M ≤ 1099511627776) (h : Fits a M) (h1 : 2 ^ k ≤ M) (h2 : M < 2 ^ (k + 1)) : coverL a (a + M) = (a, 2 ^ k) :: coverL (a + 2 ^ k) ((a + 2 ^ k) + (M - 2 ^ k)) := by
  have hp : 0 < 2 ^ k := Nat.two_pow_pos k
  rw [coverL_cons (by omega), stepN_top a M k hb h1 h2 (h.step h1), show a + 2 ^ k + (M - 2 ^ k) = a + M by omega]
/-- Trees do not hang on the fuel. -/
theorem treeF_fuel : ∀ (f g n : Nat) (D : Nat → Nat → BitVec 8), n ≤ f → n ≤ g → n ≤ 1099511627776 → treeF f n D = treeF g n D := by
  intro f
  induction f with
  | zero =>
    intro g n D h1 h2 h3
    have : n = 0 := by omega
    subst this
    cases g <;> simp [treeF]
  | succ f ih =>
    intro g n D h1 h2 h3
    by_cases h0 : n = 0
    · subst h0
      cases g <;> simp [treeF]
    · obtain ⟨g, rfl⟩ : ∃ g', g = g' + 1 := ⟨g - 1, by omega⟩
      by_cases hn1 : n = 1
      · subst hn1; simp [treeF]
      · obtain ⟨c1, c2, c3⟩ := halfN_facts n (by omega) h3
        rw [treeF_step f n D h0 hn1, treeF_step g n D h0 hn1, ih g (halfN n) D (by omega) (by omega) (by omega), ih g (n - halfN n) _ (by omega) (by omega) (by omega)]
/-- The digest of a range. -/
def tr (D : Nat → Nat → BitVec 8) (a m : Nat) : Nat → BitVec 8 := treeF m m fun j => D (a + j)
theorem tr_one (D : Nat → Nat → BitVec 8) (a : Nat) : tr D a 1 = leafD (D a) := by simp [tr, treeF]
end Go.Proofs.YtdpgebifeaakjaaDoor

/- The walk of Tree. -/
namespace Go.Proofs.YtdpgebifeaakjaaDoor
set_option linter.unusedSimpArgs false
set_option linter.unusedVariables false
open Go.RowKit

set_option maxRecDepth 20000 in
set_option maxHeartbeats 8000000 in
theorem tree_any : ∀ (f n : Nat) (D : Nat → Nat → BitVec 8) (v : Value) (w : World), n ≤ f → n ≤ 1099511627776 → Digs w v n D →
    Calls Tryd.prog 48 #[v] w fun e w' => e = .returned (.agg (A8 16 (treeF f n D))) ∧ Below w.heap.size w w' := by
  intro f
  induction f with
  | zero =>
    intro n D v w hf hn hD
    obtain ⟨p, cap, rfl, hcap, hD⟩ := hD
    obtain rfl : n = 0 := by omega
    have ho := Blk.new w (A8 16 fun _ => 0#8) 23
    have hB : Below w.heap.size w (w.alloc (.cells (A8 16 fun _ => 0#8) 23)) := (Below.refl _ _).alloc (Nat.le_refl _) _
    have c0 := fun w => sum_any ⟨#[]⟩ (by decide) w
    go_enter Tryd.func48, Tryd.ntmps48
    go_wp2_with fail
    refine (c0 _).mono ?_
    rintro e W1 ⟨rfl, hb⟩
    replace hB := hB.trans (hb.mono hB.size)
    replace ho := ho.below hb ho.lt
    go_wp2_with (refine wp_storeRow (C' := A8 16 (sha [])) rfl 23 _ _ rfl _ rfl rfl ho size23 (A8.size _ _) (A8.size _ _) (A8.one _) rfl ?_; intro W4 hu k9)
    exact ret_row rfl w.heap.size rfl k9 Tryd.underlying23 rfl size23 (A8.size _ _) rfl ⟨rfl, hu.below hB (Nat.le_refl _)⟩
  | succ f ih =>
    intro n D v w hf hn hD
    have hDD := hD
    obtain ⟨p, cap, rfl, hcap, hD⟩ := hD
    have ho := Blk.new w (A8 16 fun _ => 0#8) 23
    have hB : Below w.heap.size w (w.alloc (.cells (A8 16 fun _ => 0#8) 23)) := (Below.refl _ _).alloc (Nat.le_refl _) _
    by_cases h0 : n = 0
    · subst h0
      have c0 := fun w => sum_any ⟨#[]⟩ (by decide) w
      go_enter Tryd.func48, Tryd.ntmps48
      go_wp2_with fail
      refine (c0 _).mono ?_
      rintro e W1 ⟨rfl, hb⟩
      replace hB := hB.trans (hb.mono hB.size)
      replace ho := ho.below hb ho.lt
      go_wp2_with (refine wp_storeRow (C' := A8 16 (sha [])) rfl 23 _ _ rfl _ rfl rfl ho size23 (A8.size _ _) (A8.size _ _) (A8.one _) rfl ?_; intro W4 hu k9)
      exact ret_row rfl w.heap.size rfl k9 Tryd.underlying23 rfl size23 (A8.size _ _) rfl ⟨rfl, hu.below hB (Nat.le_refl _)⟩
    · by_cases h1 : n = 1
      · subst h1
        obtain ⟨g, o, rfl, hr⟩ := hD 0 (by omega)
        have r0 := run_dig (rangeAt_below hr ((Below.refl _ _).alloc (Nat.le_refl _) (.cells (A8 16 fun _ => 0#8) 23)))
        have c0 := fun w => leaf_any (D 0) w
        have HT := hide (show treeF (f + 1) 1 D = leafD (D 0) from rfl)
        generalize leafD (D 0) = T at c0 HT
        go_enter Tryd.func48, Tryd.ntmps48
        go_wp2_with (refine wp_loadRun (by rfl) 23 _ rfl g o rfl r0 ?_)
        refine (c0 _).mono ?_
        rintro e W1 ⟨rfl, hb⟩
        replace hB := hB.trans (hb.mono hB.size)
        replace ho := ho.below hb ho.lt
        go_wp2_with (refine wp_storeRow (C' := A8 16 T) rfl 23 _ _ rfl _ rfl rfl ho size23 (A8.size _ _) (A8.size _ _) (A8.one _) rfl ?_; intro W4 hu k9)
        exact ret_row rfl w.heap.size rfl k9 Tryd.underlying23 rfl size23 (A8.size _ _) rfl ⟨by rw [HT.out], hu.below hB (Nat.le_refl _)⟩
      · obtain ⟨m1, m2, m3⟩ := halfN_facts n (by omega) hn
        have ch := half_any n (by omega) hn
        have HT0 := treeF_step f n D h0 h1
        obtain ⟨g, o, rfl, _⟩ := hD 0 (by omega)
        generalize halfN n = m at m1 m2 m3 ch HT0
        have d1 := Digs.left hDD m (by omega)
        have d2 := Digs.right hDD m (by omega)
        have ca := fun (W : World) (hB : Below w.heap.size w W) => ih m D _ W (by omega) (by omega) (d1.below hB)
        have cb := fun (W : World) (hB : Below w.heap.size w W) => ih (n - m) (fun j => D (m + j)) _ W (by omega) (by omega) (d2.below hB)
        have cc := fun w => join_any (treeF f m D) (treeF f (n - m) fun j => D (m + j)) w
        generalize treeF f m D = T1 at ca cc HT0
        generalize (treeF f (n - m) fun j => D (m + j)) = T2 at cb cc HT0
        generalize nodeD T1 T2 = T3 at cc HT0
        have HT := hide HT0
        have CA := hide ca; have CB := hide cb; have CC := hide cc
        clear HT0 ca cb cc ih hD hDD d1 d2
        have e0 : ((n : Int) == 0) = false := by simp; omega
        have e1 : ((n : Int) == 1) = false := by simp; omega
        go_enter Tryd.func48, Tryd.ntmps48
        go_wp2_with fail
        refine (ch _).mono ?_
        rintro e W1 ⟨rfl, rfl⟩
        clear ch
        go_wp2_with fail
        have ca := CA.out; have cb := CB.out; have cc := CC.out
        have hp0 : (0 : Int) ≤ (m : Int) := by omega
        have hp1 : (m : Int) ≤ (n : Int) := by omega
        have hp2 : (m : Int) ≤ (cap : Int) := by omega
        have hp3 : ¬ cap = m := by omega
        replace ho := ho.drew
        generalize w.alloc (.cells (A8 16 fun _ => 0#8) 23) = W0 at ho hB ⊢
        refine wp_region_held_drew (S := fun w' => Below w.heap.size w w') (by kernel_rfl) (hB.drew) (fun hS => ?_)
        refine take_at (i := 0) 18 (.slice (some ⟨g, o, none⟩) n cap) rfl rfl (by kernel_rfl) (by kernel_rfl) (by kernel_rfl) (fun _ _ _ h => h) (Or.inl ⟨by rfl, fun W hW => by go_simp⟩) hS ?_
        simp only [List.setIfInBounds_toArray, List.set_cons_zero, List.set_cons_succ]
        refine take_at (i := 1) 19 (.int .i64 (m : Int)) rfl rfl (by kernel_rfl) (by kernel_rfl) (by kernel_rfl) (fun _ _ _ h => h) (Or.inl ⟨by rfl, fun W hW => by go_simp⟩) hS ?_
        simp only [List.setIfInBounds_toArray, List.set_cons_zero, List.set_cons_succ]
        refine take_at (i := 2) 20 (.slice (some ⟨g, o, none⟩) m cap) rfl rfl (by kernel_rfl) (by kernel_rfl) (by kernel_rfl) (fun _ _ _ h => h) (Or.inl ⟨by rfl, fun W hW => by go_simp⟩) hS ?_
        simp only [List.setIfInBounds_toArray, List.set_cons_zero, List.set_cons_succ]
        refine take_at (i := 4) 22 (.slice (some ⟨g, o, none⟩) n cap) rfl rfl (by kernel_rfl) (by kernel_rfl) (by kernel_rfl) (fun _ _ _ h => h) (Or.inl ⟨by rfl, fun W hW => by go_simp⟩) hS ?_
        simp only [List.setIfInBounds_toArray, List.set_cons_zero, List.set_cons_succ]
        refine take_at (i := 5) 23 (.int .i64 (m : Int)) rfl rfl (by kernel_rfl) (by kernel_rfl) (by kernel_rfl) (fun _ _ _ h => h) (Or.inl ⟨by rfl, fun W hW => by go_simp⟩) hS ?_
        simp only [List.setIfInBounds_toArray, List.set_cons_zero, List.set_cons_succ]
        refine take_at (i := 6) 24 (.slice (some ⟨g, o + m * 16, none⟩) (n - m) (cap - m)) rfl rfl (by kernel_rfl) (by kernel_rfl) (by kernel_rfl) (fun _ _ _ h => h) (Or.inl ⟨by rfl, fun W hW => by go_simp⟩) hS ?_
        simp only [List.setIfInBounds_toArray, List.set_cons_zero, List.set_cons_succ]
        refine wpAnyH_ready (rs := [3]) (by kernel_rfl) (by simp) ?_
        refine AllReadyH.cons rfl (fun K hK => ?_) AllReadyH.nil
        go_simp
        refine (ca _ hS).mono ?_
        rintro e X1 ⟨rfl, hb⟩
        refine hK.out _ _ (hS.trans (hb.mono hS.size)) (fun hS => ?_)
        clear hK K
        replace ho := ho.below hb ho.lt
        try simp only [Act.put, List.setIfInBounds_toArray, List.set_cons_zero, List.set_cons_succ]
        refine wpAnyH_ready (rs := [7]) (by kernel_rfl) (by simp) ?_
        refine AllReadyH.cons rfl (fun K hK => ?_) AllReadyH.nil
        go_simp
        refine (cb _ hS).mono ?_
        rintro e X2 ⟨rfl, hb⟩
        refine hK.out _ _ (hS.trans (hb.mono hS.size)) (fun hS => ?_)
        clear hK K
        replace ho := ho.below hb ho.lt
        try simp only [Act.put, List.setIfInBounds_toArray, List.set_cons_zero, List.set_cons_succ]
        refine wpAnyH_ready (rs := [8]) (by kernel_rfl) (by simp) ?_
        refine AllReadyH.cons rfl (fun K hK => ?_) AllReadyH.nil
        go_simp
        refine (cc _).mono ?_
        rintro e X3 ⟨rfl, hb⟩
        refine hK.out _ _ (hS.trans (hb.mono hS.size)) (fun hS => ?_)
        clear hK K
        replace ho := ho.below hb ho.lt
        try simp only [Act.put, List.setIfInBounds_toArray, List.set_cons_zero, List.set_cons_succ]
        refine wpAnyH_ready (rs := [9]) (by kernel_rfl) (by simp) ?_
        refine AllReadyH.cons rfl (fun K hK => ?_) AllReadyH.nil
        refine step_storeRow (C' := A8 16 T3) rfl 23 (.tmp 2) (.tmp 26) rfl w.heap.size rfl rfl ho size23 (A8.size _ _) (A8.size _ _) (A8.one _) rfl ?_
        intro X4 hu k9
        refine hK.out _ _ (hu.below hS (Nat.le_refl _)) (fun hS => ?_)
        clear hK K
        try simp only [Act.put, List.setIfInBounds_toArray, List.set_cons_zero, List.set_cons_succ]
        refine wpAnyH_done (by kernel_rfl) ?_ _
        go_wp2_with fail
        exact ret_row rfl w.heap.size rfl k9 Tryd.underlying23 rfl size23 (A8.size _ _) rfl ⟨by rw [HT.out], hS⟩
end Go.Proofs.YtdpgebifeaakjaaDoor

/- The program's Path and Growth; the body of DigestTrees. -/

/- The walk of blocksOf. -/
namespace Go.Proofs.YtdpgebifeaakjaaDoor
set_option linter.unusedSimpArgs false
set_option linter.unusedVariables false
open Go.RowKit
attribute [local go_sem] Oper.semAt_some

/-- Digests appended to a row, and the row stored in its own cell: what stays. -/
theorem append_store {X w1 : World} {tmp : Obj} {nb k m : Nat} {v v' : Value} {xs ys : List Value} (k7 : Boxed X nb 80 v) (hrow : X.ownsRow nb 23 16 v k xs) (hown : w1.ownsRow nb 23 16 v' m ys) (hgrow : (X.alloc tmp).grownBy w1 v.ownBlock) :
    Boxed w1 nb 80 v ∧ Boxed (w1.setCell ⟨nb, 0, none⟩ v') nb 80 v' ∧ (w1.setCell ⟨nb, 0, none⟩ v').ownsRow nb 23 16 v' m ys ∧ KeepsOthers X (w1.setCell ⟨nb, 0, none⟩ v') ∧ Below nb X (w1.setCell ⟨nb, 0, none⟩ v') ∧
      ∀ (g : Nat) (C : Array Value) (t : TypeId), Blk X g C t → t ≠ 23 → w1.heap[g]? = X.heap[g]? ∧ (g ≠ nb → (w1.setCell ⟨nb, 0, none⟩ v').heap[g]? = X.heap[g]?) := by
  obtain ⟨h1, h2, h3, h4, h5⟩ := k7.appended (by decide) hrow (Nat.le_of_lt k7.lt) (Nat.le_refl _) hown hgrow
  refine ⟨h1, h2, h3, h4, h5, fun g C t hg ht => ?_⟩
  have e1 : w1.heap[g]? = X.heap[g]? := by
    rw [hgrow.block g (by have := Blk.lt hg; simp; omega) (by
      rcases ownsRow_other hrow hg ht with h | h
      · rw [h]; simp
      · exact fun e => h e.symm)]
    exact Below.heap_alloc _ _ _ (Blk.lt hg)
  exact ⟨e1, fun hne => (Below.heap_setCell _ _ _ _ hne).trans e1⟩
/-- Between two rounds. -/
def TopI (w : World) (lv : Value) (U : Nat → Nat → BitVec 8) (pre : List (Nat × Nat)) (W : World) : Prop :=
  (∃ v, Boxed W (w.heap.size + 1) 80 v ∧ W.ownsRow (w.heap.size + 1) 23 16 v pre.length (digCells U pre.length)) ∧ Boxed W w.heap.size 80 lv ∧ (∃ x, Boxed W (w.heap.size + 1 + 1) 3 x) ∧ (∃ x, Boxed W (w.heap.size + 1 + 1 + 1) 3 x) ∧ Below w.heap.size w W
theorem topI_own1 (w : World) (U : Nat → Nat → BitVec 8) : Own (fun (pre : List (Nat × Nat)) W => ∃ v, Boxed W (w.heap.size + 1) 80 v ∧ W.ownsRow (w.heap.size + 1) 23 16 v pre.length (digCells U pre.length)) := by
  intro s W W' row hs hg hr
  obtain ⟨v, h1, h2⟩ := hs
  obtain ⟨v', h1', h2', _⟩ := holdsRow_own (w.heap.size + 1) (w.heap.size + 1) 80 23 16 (fun pre : List (Nat × Nat) => pre.length) (fun pre => digCells U pre.length) (fun _ _ => True) s W W' row ⟨v, h1, h2, trivial⟩ hg hr
  exact ⟨v', h1', h2'⟩
theorem topI_own3 (w : World) (lv : Value) : Own (fun (_ : List (Nat × Nat)) W => Boxed W w.heap.size 80 lv) := by
  intro s W W' row hs hg hr
  exact Boxed.kept hs hg (fun e' => by obtain ⟨o, ho, hc⟩ := hr _ e'.symm; rw [show W.heap[w.heap.size]? = _ from hs] at ho; cases ho; cases hc)
theorem topI_own (w : World) (lv : Value) (U : Nat → Nat → BitVec 8) (B : Nat) (hB : w.heap.size ≤ B) : OwnC B (w.heap.size + 1 + 1) (TopI w lv U) := by
  refine ⟨OwnFrom.and (Own.from (topI_own1 w U) _) (OwnFrom.and (Own.from (topI_own3 w lv) _) (OwnFrom.and (Own.from (coverI_own2 (w.heap.size + 1 + 1)) _) (OwnFrom.and (Own.from (coverI_own2 (w.heap.size + 1 + 1 + 1)) _) (ownFrom_below (Nat.le_refl _) hB)))), ?_⟩
  rintro s W v ⟨⟨u, h1, h2⟩, hl, ⟨x, hx⟩, ⟨y, hy⟩, hb⟩
  have hg := grownBy_setCell W ⟨w.heap.size + 1 + 1, 0, none⟩ v
  exact ⟨⟨u, h1.kept hg (by simp), h2.kept hg (ownsRow_other h2 hx (by decide))⟩, hl.kept hg (by simp; omega), ⟨v, hx.set v⟩, ⟨y, hy.kept hg (by simp)⟩, hb.setCell (p := ⟨w.heap.size + 1 + 1, 0, none⟩) (by simp; omega) v⟩
/-- The loop's own variable: a cell of two, new in each round. -/
def TopA (w : World) (lv f : Value) (a b : Nat) (x : Nat × Nat) (a' : Act) (W : World) : Prop :=
  ∃ B, w.heap.size + 3 < B ∧ Blk W B #[.int .i64 x.1, .int .i64 x.2] 106 ∧
    a' = { tmps := #[lv, .int .i64 (a : Int), .int .i64 (b : Int), .pointer (some ⟨w.heap.size, 0, none⟩), undef, undef, .slice none 0 0, .pointer (some ⟨w.heap.size + 1, 0, none⟩), .pointer (some ⟨B, 0, none⟩), .int .i64 (a : Int), .int .i64 (b : Int), f, .agg #[.int .i64 x.1, .int .i64 x.2], undef, undef, undef, undef, undef, undef, undef, undef, undef, undef, undef, undef, undef, undef], defers := [] }
theorem topA_own (w : World) (lv f : Value) (B0 : Nat) (a b : Nat) (x : Nat × Nat) (a' : Act) : OwnC B0 (w.heap.size + 1 + 1) (fun (_ : Unit) W => TopA w lv f a b x a' W) := by
  refine ⟨fun s W W' row hs hg hr => ?_, fun s W v hs => ?_⟩
  · obtain ⟨B, h1, h2, h3⟩ := hs
    refine ⟨B, h1, (hg.block B (Array.getElem?_eq_some_iff.1 h2).1 fun e => ?_).trans h2, h3⟩
    obtain ⟨_, o, ho, hc⟩ := hr _ e.symm
    rw [show W.heap[B]? = _ from h2] at ho
    cases ho
    cases hc
  · obtain ⟨B, h1, h2, h3⟩ := hs
    exact ⟨B, h1, h2.other (by simp; omega) _, h3⟩
theorem blocks_end {W0 w W X w1 : World} {lv v v' : Value} {D : Nat → Nat → BitVec 8} {T : Nat → BitVec 8} {L pre : List (Nat × Nat)} {x : Nat × Nat} {y y2 : Value}
    (hy : Boxed W (w.heap.size + 1 + 1) 3 y) (hy2 : Boxed W (w.heap.size + 1 + 1 + 1) 3 y2) (kf : KeepsFrom W0.heap.size W X) (kB : ∀ k, k < W.heap.size → X.heap[k]? = W.heap[k]?) (kl : Blk X w.heap.size #[lv] 80)
    (AS : Boxed w1 (w.heap.size + 1) 80 v ∧ Boxed (w1.setCell ⟨w.heap.size + 1, 0, none⟩ v') (w.heap.size + 1) 80 v' ∧ (w1.setCell ⟨w.heap.size + 1, 0, none⟩ v').ownsRow (w.heap.size + 1) 23 16 v' (pre.length + 1) (digCells (topT L D) pre.length ++ (A8 16 T).toList) ∧ KeepsOthers X (w1.setCell ⟨w.heap.size + 1, 0, none⟩ v') ∧ Below (w.heap.size + 1) X (w1.setCell ⟨w.heap.size + 1, 0, none⟩ v') ∧
      ∀ (g : Nat) (C : Array Value) (t : TypeId), Blk X g C t → t ≠ 23 → w1.heap[g]? = X.heap[g]? ∧ (g ≠ w.heap.size + 1 → (w1.setCell ⟨w.heap.size + 1, 0, none⟩ v').heap[g]? = X.heap[g]?))
    (hB : Below w.heap.size w (w1.setCell ⟨w.heap.size + 1, 0, none⟩ v')) (h3l : 3 < w.heap.size) (hT : topT L D pre.length = T) :
    KeepsFrom W0.heap.size W (w1.setCell ⟨w.heap.size + 1, 0, none⟩ v') ∧ KeepsB (fun k => k = w.heap.size + 1 + 1 ∨ k = w.heap.size + 1 + 1 + 1 ∨ k = 3) W (w1.setCell ⟨w.heap.size + 1, 0, none⟩ v') ∧ TopI w lv (topT L D) (pre ++ [x]) (w1.setCell ⟨w.heap.size + 1, 0, none⟩ v') := by
  obtain ⟨a1, a2, a3, a4, a5, a6⟩ := AS
  have ky : Blk X (w.heap.size + 1 + 1) #[y] 3 := (kB _ hy.lt).trans hy
  have ky2 : Blk X (w.heap.size + 1 + 1 + 1) #[y2] 3 := (kB _ hy2.lt).trans hy2
  have e1 := (a6 _ _ _ ky (by decide)).2 (by omega)
  have e2 := (a6 _ _ _ ky2 (by decide)).2 (by omega)
  have e3 := (a6 _ _ _ kl (by decide)).2 (by omega)
  refine ⟨kf.trans (a4.from _), ?_, ⟨v', a2, ?_⟩, e3.trans kl, ⟨y, e1.trans ky⟩, ⟨y2, e2.trans ky2⟩, hB⟩
  · rintro k (rfl | rfl | rfl)
    · exact e1.trans (kB _ hy.lt)
    · exact e2.trans (kB _ hy2.lt)
    · exact (a5.block 3 (by omega)).trans (kB _ (by have := hy.lt; omega))
  · rw [List.length_append, List.length_singleton, digCells, hT]
    exact a3

set_option maxRecDepth 100000 in
set_option maxHeartbeats 4000000 in
theorem bsof_any (n a b : Nat) (D : Nat → Nat → BitVec 8) (lv : Value) (w : World) (hab : a ≤ b) (hbn : b ≤ n) (hn : n ≤ 1000) (hv : Digs w lv n D) (hT : TabAt 3 Lib.deBruijn64tab w) (h3l : 3 < w.heap.size) :
    Calls Tryd.prog 75 #[lv, .int .i64 (a : Int), .int .i64 (b : Int)] w fun e w' => ∃ r, e = .returned r ∧ w'.ownsRow w.heap.size 23 16 r (coverL a b).length (digCells (topT (coverL a b) D) (coverL a b).length) ∧ Below w.heap.size w w' := by
  obtain ⟨i0, hi0, hz0, hz1, hz2⟩ := info_parts info23
  have hvv := hv
  obtain ⟨p, cap, rfl, hcap, hv⟩ := hv
  refine (callsIn_wide (n := 3)).1 ?_
  refine callsIn_of_wp_marks Tryd.func75 rfl trivial ?_ rfl
  simp only [Tryd.ntmps75, List.size_toArray, List.length_cons, List.length_nil, Nat.reduceAdd, Nat.reduceSub, Array.replicate_succ, Array.replicate_zero, List.push_toArray, List.append_toArray, List.nil_append, List.cons_append]
  gi_wp2
  refine ⟨trivial, callsIn_wide.2 ((cover_fn _ _ _).mono ?_)⟩
  rintro e w' ⟨rfl, rfl⟩
  rw [World.size_alloc, World.size_alloc]
  gi_wp2
  obtain ⟨W0, hW0⟩ : ∃ W0, (((w.alloc (.cells #[.slice p n cap] 80)).alloc (.cells #[.slice none 0 0] 80)).alloc (.cells #[.int .i64 (a : Int)] 3)).alloc (.cells #[.int .i64 (b : Int)] 3) = W0 := ⟨_, rfl⟩
  have hs0 : W0.heap.size = w.heap.size + 4 := by rw [← hW0]; simp
  have hB0 : Below w.heap.size w W0 := by rw [← hW0]; exact ((((Below.refl _ w).alloc (Nat.le_refl _) _).alloc (by simp) _).alloc (by simp; omega) _).alloc (by simp; omega) _
  have hL0 : Boxed W0 w.heap.size 80 (.slice p n cap) := by rw [← hW0]; exact (((Blk.new w #[.slice p n cap] 80).alloc _).alloc _).alloc _
  have hR0 : Boxed W0 (w.heap.size + 1) 80 (.slice none 0 0) := by
    rw [← hW0]
    have := Blk.new (w.alloc (.cells #[.slice p n cap] 80)) #[.slice none 0 0] 80
    rw [World.size_alloc] at this
    exact (this.alloc _).alloc _
  have hA0 : Blk W0 (w.heap.size + 1 + 1) #[.int .i64 (a : Int)] 3 := by
    rw [← hW0]
    have := Blk.new ((w.alloc (.cells #[.slice p n cap] 80)).alloc (.cells #[.slice none 0 0] 80)) #[.int .i64 (a : Int)] 3
    rw [World.size_alloc, World.size_alloc] at this
    exact this.alloc _
  have hb0 : Blk W0 (w.heap.size + 1 + 1 + 1) #[.int .i64 (b : Int)] 3 := by
    rw [← hW0]
    have := Blk.new (((w.alloc (.cells #[.slice p n cap] 80)).alloc (.cells #[.slice none 0 0] 80)).alloc (.cells #[.int .i64 (a : Int)] 3)) #[.int .i64 (b : Int)] 3
    rw [World.size_alloc, World.size_alloc, World.size_alloc] at this
    exact this
  have hT0 : TabAt 3 Lib.deBruijn64tab W0 := fun j hj => (hB0.cell (p := ⟨3, j, none⟩) h3l).trans (hT j hj)
  rw [hW0]
  clear hW0
  have hseq := cover_stops (3 - 1) (by decide) (w.heap.size + 1 + 1) (w.heap.size + 1 + 1 + 1) a b hab (by omega) W0 (by omega) hA0 hb0 hT0 (by omega) (by omega)
  refine wpIn_rangeC (gf := 97) (lb := #[.pointer (some ⟨w.heap.size + 1 + 1, 0, none⟩), .pointer (some ⟨w.heap.size + 1 + 1 + 1, 0, none⟩)]) rfl (by decide) rfl trivial (enters_of Tryd.func97 (by kernel_rfl) rfl)
    hseq (by omega) (by rintro k (rfl | rfl | rfl) <;> omega) (fun _ => rfl)
    (TopI w (.slice p n cap) (topT (coverL a b) D)) (topI_own _ _ _ _ (by omega)) ⟨⟨_, hR0, World.ownsRow_nil _ _ _ _⟩, hL0, ⟨_, hA0⟩, ⟨_, hb0⟩, hB0⟩
    (TopA w (.slice p n cap) (.func (.func 97) #[] #[.pointer (some ⟨w.heap.size + 1 + 1, 0, none⟩), .pointer (some ⟨w.heap.size + 1 + 1 + 1, 0, none⟩)]) a b) (fun _ _ => topA_own _ _ _ _ _ _ _ _) ?assign ?body ?done
  case assign =>
    rintro l pre x W C hI hx hC
    have hN := Blk.new W #[.int .i64 0, .int .i64 0] 106
    have hn0 := hN.cell 0
    have hn1 := hN.cell 1
    have hnf0 := hN.free 0
    have hnf1 := hN.free 1
    simp at hn0 hn1
    dsimp only [blockV]
    gi_wp2
    obtain ⟨y2, hy2⟩ := hI.2.2.2.1
    exact hC _ _ ((KeepsOthers.alloc _ _).from _) (fun k hk => Below.heap_alloc _ _ _ (by rcases hk with rfl | rfl | rfl <;> have := hy2.lt <;> omega)) ((topI_own w _ _ W0.heap.size (by omega)).alloc _ hI) ⟨W.heap.size, by have := hy2.lt; omega, Blk.new _ _ _, rfl⟩
  case body =>
    rintro l pre ⟨x, m⟩ a' W ⟨⟨v, k7, hrow⟩, kl, ⟨y, hy⟩, ⟨y2, hy2⟩, hB⟩ ⟨B, hBl, kX, rfl⟩ ⟨post, hx⟩
    dsimp only at kX
    have hmem := coverL_mem a b (by omega) (x, m) (by rw [hx]; simp)
    dsimp only at hmem
    have hlen : pre.length + 1 ≤ 1000 := by
      have h1 := coverL_length a b
      rw [hx] at h1
      simp at h1
      omega
    have hTT : topT (coverL a b) D pre.length = treeF m m fun j => D (x + j) := by
      rw [hx]; simp [topT]
    obtain ⟨g, o, rfl, _⟩ := hv 0 (by omega)
    have d1 := (Digs.right hvv x (by omega)).left m (by omega)
    have ct := fun (W : World) (hB : Below w.heap.size w W) => tree_any m m (fun j => D (x + j)) _ W (Nat.le_refl _) (by omega) (d1.below hB)
    generalize (treeF m m fun j => D (x + j)) = T at ct hTT
    have HTT := hide hTT; have CT := hide ct
    clear hTT ct d1 hx
    obtain ⟨vp, vn, vc, rfl⟩ := ownsRow_slice' hrow
    have hp0 : (0 : Int) ≤ (x : Int) := by omega
    have hp1 : (0 : Int) ≤ (x : Int) + (m : Int) := by omega
    have hp2 : (x : Int) + (m : Int) ≤ (cap : Int) := by omega
    have hp3 : ¬ ((x : Int) + (m : Int) < (x : Int)) := by omega
    have hq1 : ((x : Int) + (m : Int)).toNat = x + m := by omega
    have hq2 : x + m - x = m := by omega
    have hq3 : ¬ cap = x := by omega
    have hwm : IntKind.i64.wrap ((x : Int) + (m : Int)) = (x : Int) + (m : Int) := IntWalk.i64_in _ (by omega)
    replace k7 : Blk W.drew (w.heap.size + 1) #[.slice vp vn vc] 80 := k7
    replace kl : Blk W.drew w.heap.size #[.slice (some ⟨g, o, none⟩) n cap] 80 := kl
    replace kX : Blk W.drew B #[.int .i64 (x : Int), .int .i64 (m : Int)] 106 := kX
    gi_wp2_with fail
    refine wpIn_region_held_drew (S := fun w' => Below w.heap.size w w' ∧ w'.cell? ⟨w.heap.size, 0, none⟩ = some (.slice (some ⟨g, o, none⟩) n cap) ∧ w'.cell? ⟨B, 0, none⟩ = some (.int .i64 (x : Int)) ∧ w'.cell? ⟨B, 1, none⟩ = some (.int .i64 (m : Int))) (by kernel_rfl) (by kernel_rfl) ?hl (⟨hB.drew, kl.cell 0, kX.cell 0, kX.cell 1⟩) (fun hS => ?_)
    case hl => rintro ⟨_, _, h⟩; exact h
    refine take_at (i := 1) 14 (.slice (some ⟨g, o, none⟩) n cap) rfl rfl (by kernel_rfl) (by kernel_rfl) (by kernel_rfl) (fun _ _ _ h => h) (Or.inl ⟨by rfl, fun W hW => by have hc := hW.2.1; go_simp⟩) hS ?_
    try simp only [List.setIfInBounds_toArray, List.set_cons_zero, List.set_cons_succ]
    refine take_at (i := 2) 15 (.pointer (some ⟨B, 0, none⟩)) rfl rfl (by kernel_rfl) (by kernel_rfl) (by kernel_rfl) (fun _ _ _ h => h) (Or.inl ⟨by rfl, fun W hW => by go_simp⟩) hS ?_
    try simp only [List.setIfInBounds_toArray, List.set_cons_zero, List.set_cons_succ]
    refine take_at (i := 3) 16 (.int .i64 (x : Int)) rfl rfl (by kernel_rfl) (by kernel_rfl) (by kernel_rfl) (fun _ _ _ h => h) (Or.inl ⟨by rfl, fun W hW => by have hc := hW.2.2.1; go_simp⟩) hS ?_
    try simp only [List.setIfInBounds_toArray, List.set_cons_zero, List.set_cons_succ]
    refine take_at (i := 4) 17 (.pointer (some ⟨B, 0, none⟩)) rfl rfl (by kernel_rfl) (by kernel_rfl) (by kernel_rfl) (fun _ _ _ h => h) (Or.inl ⟨by rfl, fun W hW => by go_simp⟩) hS ?_
    try simp only [List.setIfInBounds_toArray, List.set_cons_zero, List.set_cons_succ]
    refine take_at (i := 5) 18 (.int .i64 (x : Int)) rfl rfl (by kernel_rfl) (by kernel_rfl) (by kernel_rfl) (fun _ _ _ h => h) (Or.inl ⟨by rfl, fun W hW => by have hc := hW.2.2.1; go_simp⟩) hS ?_
    try simp only [List.setIfInBounds_toArray, List.set_cons_zero, List.set_cons_succ]
    refine take_at (i := 6) 19 (.pointer (some ⟨B, 1, none⟩)) rfl rfl (by kernel_rfl) (by kernel_rfl) (by kernel_rfl) (fun _ _ _ h => h) (Or.inl ⟨by rfl, fun W hW => by go_simp⟩) hS ?_
    try simp only [List.setIfInBounds_toArray, List.set_cons_zero, List.set_cons_succ]
    refine take_at (i := 7) 20 (.int .i64 (m : Int)) rfl rfl (by kernel_rfl) (by kernel_rfl) (by kernel_rfl) (fun _ _ _ h => h) (Or.inl ⟨by rfl, fun W hW => by have hc := hW.2.2.2; go_simp⟩) hS ?_
    try simp only [List.setIfInBounds_toArray, List.set_cons_zero, List.set_cons_succ]
    refine take_at (i := 8) 21 (.int .i64 ((x : Int) + (m : Int))) rfl rfl (by kernel_rfl) (by kernel_rfl) (by kernel_rfl) (fun _ _ _ h => h) (Or.inl ⟨by rfl, fun W hW => by go_simp⟩) hS ?_
    try simp only [List.setIfInBounds_toArray, List.set_cons_zero, List.set_cons_succ]
    refine take_at (i := 9) 22 (.slice (some ⟨g, o + x * 16, none⟩) m (cap - x)) rfl rfl (by kernel_rfl) (by kernel_rfl) (by kernel_rfl) (fun _ _ _ h => h) (Or.inl ⟨by rfl, fun W hW => by go_simp⟩) hS ?_
    try simp only [List.setIfInBounds_toArray, List.set_cons_zero, List.set_cons_succ]
    refine wpAnyH_ready (rs := [0, 10]) (by kernel_rfl) (by simp) ?_
    refine AllReadyH.cons rfl (fun K hK => ?_) ?_
    · skip
      have hc7 := k7.cell 0
      replace hc7 : W.drew.cell? ⟨w.heap.size + 1, 0, none⟩ = some (.slice vp vn vc) := hc7
      go_simp
      refine hK.out _ _ (hS) (fun hS => ?_)
      clear hK K
      try simp only [Act.put, List.setIfInBounds_toArray, List.set_cons_zero, List.set_cons_succ]
      refine wpAnyH_ready (rs := [10]) (by kernel_rfl) (by simp) ?_
      refine AllReadyH.cons rfl (fun K hK => ?_) AllReadyH.nil
      go_simp
      refine (CT.out _ hS.1).mono ?_
      rintro e X2 ⟨rfl, hb⟩
      refine hK.out _ _ (⟨hS.1.trans (hb.mono hS.1.size), cell_below hS.2.1 hb, cell_below hS.2.2.1 hb, cell_below hS.2.2.2 hb⟩) (fun hS => ?_)
      clear hK K
      replace k7 := k7.below hb k7.lt
      replace kl := kl.below hb kl.lt
      replace kX := kX.below hb kX.lt
      have hrow2 := ownsRow_below hrow.drew hb
      have hBX := hS.1
      have kf : KeepsFrom W0.heap.size W X2 := ⟨hb.size, fun k o _ hk _ => (hb.block k (Array.getElem?_eq_some_iff.1 hk).1).trans hk⟩
      have kB : ∀ k, k < W.heap.size → X2.heap[k]? = W.heap[k]? := fun k hk => hb.block k hk
      try simp only [Act.put, List.setIfInBounds_toArray, List.set_cons_zero, List.set_cons_succ]
      refine wpAnyH_ready (rs := [11]) (by kernel_rfl) (by simp) ?_
      refine AllReadyH.cons rfl (fun K hK => ?_) AllReadyH.nil
      refine step_build80 rfl (.tmp 23) rfl (T := T) rfl ?_
      refine hK.out _ _ (⟨hS.1.alloc hS.1.size _, cell_below hS.2.1 ((Below.refl _ _).alloc (Nat.le_refl _) _), cell_below hS.2.2.1 ((Below.refl _ _).alloc (Nat.le_refl _) _), cell_below hS.2.2.2 ((Below.refl _ _).alloc (Nat.le_refl _) _)⟩) (fun hS => ?_)
      clear hK K
      try simp only [Act.put, List.setIfInBounds_toArray, List.set_cons_zero, List.set_cons_succ]
      refine wpAnyH_ready (rs := [12]) (by kernel_rfl) (by simp) ?_
      refine AllReadyH.cons rfl (fun K hK => ?_) AllReadyH.nil
      have s7 := k7.lt
      refine step_append_lies _ (by rfl) _ _ _ (by rfl) (w.heap.size + 1) 23 i0 _ 16 16 Tryd.underlying80 hi0 hz0 hz1 hz2 rfl (by omega) _ pre.length (digCells (topT (coverL a b) D) pre.length) (by rfl) (hrow2.alloc _) ⟨X2.heap.size, 0, none⟩ 1 1 (A8 16 T).toList (by rfl) (by rw [Array.length_toList, A8.size]) (World.news_of_block (cs := A8 16 T) (t := 23) (fr := (0, 0)) (heap_alloc_new X2 _)) (by intro u hu; obtain ⟨j, hj⟩ := List.getElem?_of_mem hu; rw [Array.getElem?_toList] at hj; have := A8.one (n := 16) T; exact Array.all_eq_true_iff_forall_mem.1 this u (Array.mem_of_getElem? hj)) (by omega) (by unfold maxLen; omega) (by omega) (by simp; omega) (X2.heap.size + 1) (by simp) ?_
      intro gg capp w1 hown1 hgrow hat hlt2
      have AS := append_store k7 hrow2 hown1 hgrow
      refine hK.out _ _ (⟨hS.1.grown hgrow (by simp; omega) (fun q e => by have := (hrow2.lt q e).1; omega), (World.cell?_of_block (AS.2.2.2.2.2 _ _ _ kl (by decide)).1).trans (kl.cell 0), (World.cell?_of_block (AS.2.2.2.2.2 _ _ _ kX (by decide)).1).trans (kX.cell 0), (World.cell?_of_block (AS.2.2.2.2.2 _ _ _ kX (by decide)).1).trans (kX.cell 1)⟩) (fun hS => ?_)
      clear hK K
      have hc1 := AS.1.cell
      have hf1 := AS.1.frozen
      try simp only [Act.put, List.setIfInBounds_toArray, List.set_cons_zero, List.set_cons_succ]
      refine wpAnyH_ready (rs := [13]) (by kernel_rfl) (by simp) ?_
      refine AllReadyH.cons rfl (fun K hK => ?_) AllReadyH.nil
      go_simp
      refine hK.out _ _ (⟨hBX.trans (AS.2.2.2.2.1.mono (Nat.le_succ _)), (World.cell?_of_block ((AS.2.2.2.2.2 _ _ _ kl (by decide)).2 (by omega))).trans (kl.cell 0), (World.cell?_of_block ((AS.2.2.2.2.2 _ _ _ kX (by decide)).2 (by omega))).trans (kX.cell 0), (World.cell?_of_block ((AS.2.2.2.2.2 _ _ _ kX (by decide)).2 (by omega))).trans (kX.cell 1)⟩) (fun hS => ?_)
      clear hK K
      try simp only [Act.put, List.setIfInBounds_toArray, List.set_cons_zero, List.set_cons_succ]
      refine wpAnyH_done (by kernel_rfl) ?_ _
      gi_wp2_with fail
      exact blocks_end hy hy2 kf kB kl AS hS.1 h3l HTT.out
    refine AllReadyH.cons rfl (fun K hK => ?_) AllReadyH.nil
    go_simp
    refine (CT.out _ hS.1).mono ?_
    rintro e X6 ⟨rfl, hb⟩
    refine hK.out _ _ (⟨hS.1.trans (hb.mono hS.1.size), cell_below hS.2.1 hb, cell_below hS.2.2.1 hb, cell_below hS.2.2.2 hb⟩) (fun hS => ?_)
    clear hK K
    replace k7 := k7.below hb k7.lt
    replace kl := kl.below hb kl.lt
    replace kX := kX.below hb kX.lt
    have hrow2 := ownsRow_below hrow.drew hb
    have hBX := hS.1
    have kf : KeepsFrom W0.heap.size W X6 := ⟨hb.size, fun k o _ hk _ => (hb.block k (Array.getElem?_eq_some_iff.1 hk).1).trans hk⟩
    have kB : ∀ k, k < W.heap.size → X6.heap[k]? = W.heap[k]? := fun k hk => hb.block k hk
    try simp only [Act.put, List.setIfInBounds_toArray, List.set_cons_zero, List.set_cons_succ]
    refine wpAnyH_ready (rs := [0, 11]) (by kernel_rfl) (by simp) ?_
    refine AllReadyH.cons rfl (fun K hK => ?_) ?_
    · skip
      have hc7 := k7.cell 0
      replace hc7 : X6.cell? ⟨w.heap.size + 1, 0, none⟩ = some (.slice vp vn vc) := hc7
      go_simp
      refine hK.out _ _ (hS) (fun hS => ?_)
      clear hK K
      try simp only [Act.put, List.setIfInBounds_toArray, List.set_cons_zero, List.set_cons_succ]
      refine wpAnyH_ready (rs := [11]) (by kernel_rfl) (by simp) ?_
      refine AllReadyH.cons rfl (fun K hK => ?_) AllReadyH.nil
      refine step_build80 rfl (.tmp 23) rfl (T := T) rfl ?_
      refine hK.out _ _ (⟨hS.1.alloc hS.1.size _, cell_below hS.2.1 ((Below.refl _ _).alloc (Nat.le_refl _) _), cell_below hS.2.2.1 ((Below.refl _ _).alloc (Nat.le_refl _) _), cell_below hS.2.2.2 ((Below.refl _ _).alloc (Nat.le_refl _) _)⟩) (fun hS => ?_)
      clear hK K
      try simp only [Act.put, List.setIfInBounds_toArray, List.set_cons_zero, List.set_cons_succ]
      refine wpAnyH_ready (rs := [12]) (by kernel_rfl) (by simp) ?_
      refine AllReadyH.cons rfl (fun K hK => ?_) AllReadyH.nil
      have s7 := k7.lt
      refine step_append_lies _ (by rfl) _ _ _ (by rfl) (w.heap.size + 1) 23 i0 _ 16 16 Tryd.underlying80 hi0 hz0 hz1 hz2 rfl (by omega) _ pre.length (digCells (topT (coverL a b) D) pre.length) (by rfl) (hrow2.alloc _) ⟨X6.heap.size, 0, none⟩ 1 1 (A8 16 T).toList (by rfl) (by rw [Array.length_toList, A8.size]) (World.news_of_block (cs := A8 16 T) (t := 23) (fr := (0, 0)) (heap_alloc_new X6 _)) (by intro u hu; obtain ⟨j, hj⟩ := List.getElem?_of_mem hu; rw [Array.getElem?_toList] at hj; have := A8.one (n := 16) T; exact Array.all_eq_true_iff_forall_mem.1 this u (Array.mem_of_getElem? hj)) (by omega) (by unfold maxLen; omega) (by omega) (by simp; omega) (X6.heap.size + 1) (by simp) ?_
      intro gg capp w1 hown1 hgrow hat hlt2
      have AS := append_store k7 hrow2 hown1 hgrow
      refine hK.out _ _ (⟨hS.1.grown hgrow (by simp; omega) (fun q e => by have := (hrow2.lt q e).1; omega), (World.cell?_of_block (AS.2.2.2.2.2 _ _ _ kl (by decide)).1).trans (kl.cell 0), (World.cell?_of_block (AS.2.2.2.2.2 _ _ _ kX (by decide)).1).trans (kX.cell 0), (World.cell?_of_block (AS.2.2.2.2.2 _ _ _ kX (by decide)).1).trans (kX.cell 1)⟩) (fun hS => ?_)
      clear hK K
      have hc1 := AS.1.cell
      have hf1 := AS.1.frozen
      try simp only [Act.put, List.setIfInBounds_toArray, List.set_cons_zero, List.set_cons_succ]
      refine wpAnyH_ready (rs := [13]) (by kernel_rfl) (by simp) ?_
      refine AllReadyH.cons rfl (fun K hK => ?_) AllReadyH.nil
      go_simp
      refine hK.out _ _ (⟨hBX.trans (AS.2.2.2.2.1.mono (Nat.le_succ _)), (World.cell?_of_block ((AS.2.2.2.2.2 _ _ _ kl (by decide)).2 (by omega))).trans (kl.cell 0), (World.cell?_of_block ((AS.2.2.2.2.2 _ _ _ kX (by decide)).2 (by omega))).trans (kX.cell 0), (World.cell?_of_block ((AS.2.2.2.2.2 _ _ _ kX (by decide)).2 (by omega))).trans (kX.cell 1)⟩) (fun hS => ?_)
      clear hK K
      try simp only [Act.put, List.setIfInBounds_toArray, List.set_cons_zero, List.set_cons_succ]
      refine wpAnyH_done (by kernel_rfl) ?_ _
      gi_wp2_with fail
      exact blocks_end hy hy2 kf kB kl AS hS.1 h3l HTT.out
    refine AllReadyH.cons rfl (fun K hK => ?_) AllReadyH.nil
    refine step_build80 rfl (.tmp 23) rfl (T := T) rfl ?_
    refine hK.out _ _ (⟨hS.1.alloc hS.1.size _, cell_below hS.2.1 ((Below.refl _ _).alloc (Nat.le_refl _) _), cell_below hS.2.2.1 ((Below.refl _ _).alloc (Nat.le_refl _) _), cell_below hS.2.2.2 ((Below.refl _ _).alloc (Nat.le_refl _) _)⟩) (fun hS => ?_)
    clear hK K
    try simp only [Act.put, List.setIfInBounds_toArray, List.set_cons_zero, List.set_cons_succ]
    refine wpAnyH_ready (rs := [0]) (by kernel_rfl) (by simp) ?_
    refine AllReadyH.cons rfl (fun K hK => ?_) AllReadyH.nil
    have hc7 := k7.cell 0
    replace hc7 : (X6.alloc (.cells (A8 16 T) 23)).cell? ⟨w.heap.size + 1, 0, none⟩ = some (.slice vp vn vc) := ((Below.refl _ _).alloc (Nat.le_refl _) _ |>.cell k7.lt).trans hc7
    go_simp
    refine hK.out _ _ (hS) (fun hS => ?_)
    clear hK K
    try simp only [Act.put, List.setIfInBounds_toArray, List.set_cons_zero, List.set_cons_succ]
    refine wpAnyH_ready (rs := [12]) (by kernel_rfl) (by simp) ?_
    refine AllReadyH.cons rfl (fun K hK => ?_) AllReadyH.nil
    have s7 := k7.lt
    refine step_append_lies _ (by rfl) _ _ _ (by rfl) (w.heap.size + 1) 23 i0 _ 16 16 Tryd.underlying80 hi0 hz0 hz1 hz2 rfl (by omega) _ pre.length (digCells (topT (coverL a b) D) pre.length) (by rfl) (hrow2.alloc _) ⟨X6.heap.size, 0, none⟩ 1 1 (A8 16 T).toList (by rfl) (by rw [Array.length_toList, A8.size]) (World.news_of_block (cs := A8 16 T) (t := 23) (fr := (0, 0)) (heap_alloc_new X6 _)) (by intro u hu; obtain ⟨j, hj⟩ := List.getElem?_of_mem hu; rw [Array.getElem?_toList] at hj; have := A8.one (n := 16) T; exact Array.all_eq_true_iff_forall_mem.1 this u (Array.mem_of_getElem? hj)) (by omega) (by unfold maxLen; omega) (by omega) (by simp; omega) (X6.heap.size + 1) (by simp) ?_
    intro gg capp w1 hown1 hgrow hat hlt2
    have AS := append_store k7 hrow2 hown1 hgrow
    refine hK.out _ _ (⟨hS.1.grown hgrow (by simp; omega) (fun q e => by have := (hrow2.lt q e).1; omega), (World.cell?_of_block (AS.2.2.2.2.2 _ _ _ kl (by decide)).1).trans (kl.cell 0), (World.cell?_of_block (AS.2.2.2.2.2 _ _ _ kX (by decide)).1).trans (kX.cell 0), (World.cell?_of_block (AS.2.2.2.2.2 _ _ _ kX (by decide)).1).trans (kX.cell 1)⟩) (fun hS => ?_)
    clear hK K
    have hc1 := AS.1.cell
    have hf1 := AS.1.frozen
    try simp only [Act.put, List.setIfInBounds_toArray, List.set_cons_zero, List.set_cons_succ]
    refine wpAnyH_ready (rs := [13]) (by kernel_rfl) (by simp) ?_
    refine AllReadyH.cons rfl (fun K hK => ?_) AllReadyH.nil
    go_simp
    refine hK.out _ _ (⟨hBX.trans (AS.2.2.2.2.1.mono (Nat.le_succ _)), (World.cell?_of_block ((AS.2.2.2.2.2 _ _ _ kl (by decide)).2 (by omega))).trans (kl.cell 0), (World.cell?_of_block ((AS.2.2.2.2.2 _ _ _ kX (by decide)).2 (by omega))).trans (kX.cell 0), (World.cell?_of_block ((AS.2.2.2.2.2 _ _ _ kX (by decide)).2 (by omega))).trans (kX.cell 1)⟩) (fun hS => ?_)
    clear hK K
    try simp only [Act.put, List.setIfInBounds_toArray, List.set_cons_zero, List.set_cons_succ]
    refine wpAnyH_done (by kernel_rfl) ?_ _
    gi_wp2_with fail
    exact blocks_end hy hy2 kf kB kl AS hS.1 h3l HTT.out
  case done =>
    rintro Dd W hD ⟨⟨v, k7, hrow⟩, kl, ⟨y, hy⟩, ⟨y2, hy2⟩, hB⟩ hK
    have hc := Boxed.cell k7
    obtain ⟨vp, vn, vc, rfl⟩ := ownsRow_slice' hrow
    gi_wp2
    refine ⟨by simp, .inl ⟨_, _, rfl, run_takeDeferred hK, ?_⟩⟩
    refine ⟨.slice vp vn vc, ?_, .slice vp vn vc, rfl, ownsRow_base (ownsRow_putObj hrow _ hK rfl) (Nat.le_succ _), hB.trans ⟨rfl, rfl, rfl, by simp, fun k hk => World.putObj_heap_other (by omega)⟩⟩
    rw [results_tmp (t := 6) rfl]
    rfl
end Go.Proofs.YtdpgebifeaakjaaDoor

/- Path and Growth of the program. -/
namespace Go.Proofs.YtdpgebifeaakjaaDoor
set_option linter.unusedSimpArgs false
set_option linter.unusedVariables false
open Go.RowKit

set_option maxRecDepth 20000 in
set_option maxHeartbeats 1000000 in
theorem path_ok (n a b : Nat) (D : Nat → Nat → BitVec 8) (v : Value) (w : World) (hab : a ≤ b) (hbn : b ≤ n) (hn : n ≤ 1000) (hv : Digs w v n D) (hT : TabAt 3 Lib.deBruijn64tab w) (h3l : 3 < w.heap.size) :
    Calls Tryd.prog 44 #[v, .int .i64 (a : Int), .int .i64 (b : Int)] w fun e w' => ∃ r, e = .returned (.tuple #[r, .int .i64 0]) ∧
      w'.ownsRow w.heap.size 23 16 r ((coverL 0 a).length + (coverL b n).length) (digCells (topT (coverL 0 a) D) (coverL 0 a).length ++ digCells (topT (coverL b n) D) (coverL b n).length) ∧ Below w.heap.size w w' := by
  have hvv := hv
  obtain ⟨p, cap, rfl, hcap, hv⟩ := hv
  have h1 : ¬ (a : Int) < 0 := by omega
  have h2 : ¬ (b : Int) < (a : Int) := by omega
  have h3 : ¬ (n : Int) < (b : Int) := by omega
  have l1 := coverL_length 0 a
  have l2 := coverL_length b n
  have c1 : Calls Tryd.prog 75 #[.slice p n cap, .int .i64 0, .int .i64 (a : Int)] w _ := bsof_any n 0 a D _ w (by omega) (by omega) hn hvv hT h3l
  have c2 := fun (W : World) (hB : Below w.heap.size w W) => bsof_any n b n D _ W hbn (Nat.le_refl _) hn (hvv.below hB) (fun j hj => (hB.cell (p := ⟨3, j, none⟩) h3l).trans (hT j hj)) (Nat.lt_of_lt_of_le h3l hB.size)
  generalize coverL 0 a = L1 at c1 l1 ⊢
  generalize coverL b n = L2 at c2 l2 ⊢
  have C2 := hide c2
  clear c2
  go_enter Tryd.func44, Tryd.ntmps44
  go_wp2_with fail
  refine c1.mono ?_
  rintro e W1 ⟨r1, rfl, q1, hb1⟩
  clear c1
  go_wp2_with fail
  refine (C2.out _ hb1).mono ?_
  rintro e W2 ⟨r2, rfl, q2, hb2⟩
  have s1 := hb1.size
  have s2 := hb2.size
  replace q1 := ownsRow_below q1 hb2
  clear C2
  go_wp2_with (at_builtin; go_loud (refine wp_append_digs rfl _ _ rfl rfl q1 rfl q2 (by omega) (by omega) ?_); intro r W5 q3 hb5)
  go_ret2
  exact ⟨r, rfl, q3, (hb1.trans (hb2.mono s1)).trans hb5⟩
set_option maxRecDepth 20000 in
set_option maxHeartbeats 1000000 in
theorem growth_ok (n a : Nat) (D : Nat → Nat → BitVec 8) (v : Value) (w : World) (hbn : a ≤ n) (hn : n ≤ 1000) (hv : Digs w v n D) (hT : TabAt 3 Lib.deBruijn64tab w) (h3l : 3 < w.heap.size) :
    Calls Tryd.prog 45 #[v, .int .i64 (a : Int)] w fun e w' => ∃ r, e = .returned (.tuple #[r, .int .i64 0]) ∧
      w'.ownsRow w.heap.size 23 16 r ((coverL 0 a).length + (coverL a n).length) (digCells (topT (coverL 0 a) D) (coverL 0 a).length ++ digCells (topT (coverL a n) D) (coverL a n).length) ∧ Below w.heap.size w w' := by
  have c := path_ok n a a D v w (Nat.le_refl _) hbn hn hv hT h3l
  obtain ⟨p, cap, rfl, hcap, hv⟩ := hv
  go_enter Tryd.func45, Tryd.ntmps45
  go_wp2_with fail
  refine c.mono ?_
  rintro e W1 ⟨r1, rfl, q1, hb1⟩
  go_wp2_with fail
  go_ret2
  exact ⟨r1, rfl, q1, hb1⟩
end Go.Proofs.YtdpgebifeaakjaaDoor

/- The body of DigestTrees. -/
namespace Go.Proofs.YtdpgebifeaakjaaDoor
set_option linter.unusedSimpArgs false
set_option linter.unusedVariables false
open Go.RowKit

theorem size85 : (Tryd.prog.info? 85).map (·.size) = some 2 := by kernel_rfl
end Go.Proofs.YtdpgebifeaakjaaDoor

/- The body of DigestGrowing. -/
namespace Go.Proofs.YtdpgebifeaakjaaDoor
set_option linter.unusedSimpArgs false
set_option linter.unusedVariables false
open Go.RowKit

theorem upd_setCell (W : World) (b j : Nat) (v : Value) : Upd b W (W.setCell ⟨b, j, none⟩ v) := ⟨rfl, rfl, rfl, by simp [World.setCell], fun k hk => Below.heap_setCell _ _ _ _ hk⟩
theorem exec_load_blk {W : World} {b : Nat} {Z : Nat → BitVec 8} {a : Act} {o : Oper} {x : Operand} (h : Blk W b (A8 16 Z) 23) (ho : o.op = .load 23 x := by rfl) (hx : a.eval x = .pointer (some ⟨b, 0, none⟩) := by rfl) : (execOp a.eval o).run Tryd.prog W = .ok (.value (.agg (A8 16 Z))) W := by
  have hrun := run_loadVar_Blk (P := Tryd.prog) h Tryd.underlying23 rfl size23 (A8.size _ _)
  unfold execOp
  simp only [ho, hx, Instr.loadAt, Instr.sureAddr, Sem.run_bind, Sem.run_pure, Result.andThen_ok, hrun]
end Go.Proofs.YtdpgebifeaakjaaDoor

/- A store at the end of a region that draws its order: one step, so that no goal stands between that Lean would look into. -/
namespace Go.Proofs.YtdpgebifeaakjaaDoor
set_option linter.unusedSimpArgs false
set_option linter.unusedVariables false
open Go.RowKit

theorem allReadyH_store {P : Program} {md : Region.Mode} {ops : Array Oper} {Q : Exit → Act → World → Prop} {S : World → Prop} {fuel : Nat} {listed : Array Bool} {a : Act} {w : World} {i : Nat} {o : Oper} (ho : ops[i]? = some o) (hgd : o.guard = none)
    (ty : TypeId) (x y : Operand) (hop : o.op = .store ty x y)
    (b : Nat) (hx : a.eval x = .pointer (some ⟨b, 0, none⟩)) {C' : Array Value} (hy : a.eval y = .agg C') {t : TypeId} {C : Array Value} (hb : Blk w b C t) {n : Nat}
    (hi : (P.info? ty).map (·.size) = some n) (hn' : C'.size = n) (hn : C.size = n) (h1 : C'.all (·.oneCell') = true) (hdst : o.dst = none)
    (h : ∀ w', Upd b w w' → Blk w' b C' t → S w' ∧ (S w' → wpAnyH P md ops Q S fuel (listed.setIfInBounds i true) a w')) : AllReadyH P md ops Q S fuel listed a w [i] := by
  refine AllReadyH.cons ho (fun K hK => ?_) AllReadyH.nil
  have hw : Region.wanted o (yielded ops a.tmps) = true := by simp [Region.wanted, hgd]
  rw [if_pos hw]
  exact wpo_storeRow ty x y hop b hx hy hb hi hn' hn h1 hdst fun w' hu hk => hK.out a w' (h w' hu hk).1 (h w' hu hk).2
end Go.Proofs.YtdpgebifeaakjaaDoor

/- The walk of the specification's Grow. -/
namespace Go.Proofs.YtdpgebifeaakjaaDoor
set_option linter.unusedSimpArgs false
set_option linter.unusedVariables false
open Go.RowKit

theorem build80z (w : World) : (Instr.buildSlice 80 0 #[]).run Tryd.prog w = .ok (.slice (some ⟨w.heap.size, 0, none⟩) 0 0) (w.alloc (.cells #[] 23)) := by kernel_rfl
end Go.Proofs.YtdpgebifeaakjaaDoor

/- The walk of the specification's give. -/
namespace Go.Proofs.YtdpgebifeaakjaaDoor
set_option linter.unusedSimpArgs false
set_option linter.unusedVariables false
open Go.RowKit

/-- A digest, and two slices behind it. -/
def partC (d : Nat → BitVec 8) (u v : Value) : Array Value := Row 18 fun i => if i < 16 then U8 (d i) else if i = 16 then u else v
theorem partC.size (d : Nat → BitVec 8) (u v : Value) : (partC d u v).size = 18 := Row.size _ _
theorem partC.one (d : Nat → BitVec 8) (u v : Value) (hu : u.oneCell' = true) (hv : v.oneCell' = true) : (partC d u v).all (·.oneCell') = true := Row.all fun i hi => by
  split
  · rfl
  · split
    · exact hu
    · exact hv
@[go_sem] theorem lit174 : (#[Value.int .u8 0, Value.int .u8 0, Value.int .u8 0, Value.int .u8 0, Value.int .u8 0, Value.int .u8 0, Value.int .u8 0, Value.int .u8 0, Value.int .u8 0, Value.int .u8 0, Value.int .u8 0, Value.int .u8 0, Value.int .u8 0, Value.int .u8 0, Value.int .u8 0, Value.int .u8 0, Value.slice none 0 0, Value.slice none 0 0] : Array Value) = partC (fun _ => 0#8) (.slice none 0 0) (.slice none 0 0) := by kernel_rfl
theorem partC.range {W : World} {b : Nat} {d : Nat → BitVec 8} {u v : Value} (h : Blk W b (partC d u v) 174) : W.rangeAt b 0 (A8 16 d).toList :=
  Blk.rangeAt (F := fun i => if i < 16 then U8 (d i) else if i = 16 then u else v) h 0 16 (fun i => U8 (d i)) (by omega) fun j hj => by
    rw [Nat.zero_add, if_pos hj]
theorem partC.cell16 {W : World} {b : Nat} {d : Nat → BitVec 8} {u v : Value} (h : Blk W b (partC d u v) 174) : W.cell? ⟨b, 16, none⟩ = some u := by
  rw [h.cell, partC, Row.get _ (by omega)]; rfl
theorem partC.cell17 {W : World} {b : Nat} {d : Nat → BitVec 8} {u v : Value} (h : Blk W b (partC d u v) 174) : W.cell? ⟨b, 17, none⟩ = some v := by
  rw [h.cell, partC, Row.get _ (by omega)]; rfl
/-- A slice of blocks, with its capacity. -/
def SlC (w : World) (v : Value) (l : List (Nat × Nat)) : Prop :=
  ∃ p c, v = .slice p l.length c ∧ l.length ≤ c ∧ ∀ j x, l[j]? = some x → ∃ g o, p = some ⟨g, o, none⟩ ∧ w.cell? ⟨g, o + j * 2, none⟩ = some (.int .i64 (x.1 : Int)) ∧ w.cell? ⟨g, o + j * 2 + 1, none⟩ = some (.int .i64 (x.2 : Int))
theorem SlC.below {W W' : World} {u : Value} {l : List (Nat × Nat)} (h : SlC W u l) (hb : Below W.heap.size W W') : SlC W' u l := by
  obtain ⟨p, c, rfl, hlc, hc⟩ := h
  refine ⟨p, c, rfl, hlc, fun j x hx => ?_⟩
  obtain ⟨g, o, hp, h1, h2⟩ := hc j x hx
  exact ⟨g, o, hp, cell_below h1 hb, cell_below h2 hb⟩
theorem SlC.of_owns {W : World} {base : Nat} {v : Value} {l : List (Nat × Nat)} (h : W.ownsRow base 106 2 v l.length (cellsOf l)) : SlC W v l := by
  obtain ⟨p, c, e, hc⟩ := SlB.of_owns h
  refine ⟨p, c, e, ?_, hc⟩
  rcases h.2 with ⟨h1, h0⟩ | ⟨g, cap, cur, h1, _, _, h4, _⟩
  · omega
  · rw [e] at h1
    injection h1 with _ _ h1
    omega
theorem exec_slice1 {o : Oper} {W : World} (ρ : Operand → Value) (ty e : TypeId) (s : Nat) (x : Operand) (ho : o.op = .slice ty x (some (.const (.int .i64 1))) none none) (g off k c : Nat) (hx : ρ x = .slice (some ⟨g, off, none⟩) k c) (hlow : ρ (.const (.int .i64 1)) = .int .i64 1)
    (hu : Tryd.prog.underlying ty = some (.slice e)) (hs : (Tryd.prog.info? e).map (·.size) = some s) (hk : 1 ≤ k) :
    (execOp ρ o).run Tryd.prog W = .ok (.value (.slice (if c = 1 then some ⟨g, off, none⟩ else some ⟨g, off + s, none⟩) (k - 1) (c - 1))) W := by
  have hu' := run_underlying (P := Tryd.prog) (w := W) hu
  obtain ⟨i, hi, hs'⟩ := Option.map_eq_some_iff.1 hs
  have hk2 : (1 : Int) ≤ (k : Int) := by omega
  unfold execOp
  by_cases hc : c = 1
  · simp [ho, hx, hlow, Instr.sliceAt, Instr.slice, Instr.sliceBounds, Instr.sliceBound, hu', sizeOf, typeInfo, hi, hs', asIntOf, hk2, hc, go_sem]
  · simp [ho, hx, hlow, Instr.sliceAt, Instr.slice, Instr.sliceBounds, Instr.sliceBound, hu', sizeOf, typeInfo, hi, hs', asIntOf, hk2, hc, go_sem]
theorem slC_tail {W : World} {bg bo c : Nat} {x : Nat × Nat} {R : List (Nat × Nat)} {p1 : Option Addr} (h : SlC W (.slice (some ⟨bg, bo, none⟩) (R.length + 1) c) (x :: R)) (hp : (if c = 1 then some ⟨bg, bo, none⟩ else some ⟨bg, bo + 2, none⟩) = p1) : SlC W (.slice p1 R.length (c - 1)) R := by
  obtain ⟨p, c', e, hlc, hc⟩ := h
  injection e with e1 e2 e3
  subst e1 e3
  rw [List.length_cons] at hlc
  refine ⟨p1, c - 1, rfl, by omega, fun j y hy => ?_⟩
  have hj := (List.getElem?_eq_some_iff.1 hy).1
  rw [if_neg (by omega)] at hp
  obtain ⟨g, o, e, h1, h2⟩ := hc (j + 1) y (by rw [List.getElem?_cons_succ]; exact hy)
  injection e with e
  injection e with e4 e5
  subst e4 e5
  refine ⟨bg, bo + 2, hp.symm, ?_, ?_⟩
  · rw [show bo + 2 + j * 2 = bo + (j + 1) * 2 by omega]; exact h1
  · rw [show bo + 2 + j * 2 + 1 = bo + (j + 1) * 2 + 1 by omega]; exact h2
theorem digs_tail {W : World} {g o c k : Nat} {T : Nat → Nat → BitVec 8} {p1 : Option Addr} (h : Digs W (.slice (some ⟨g, o, none⟩) (k + 1) c) (k + 1) T) (hp : (if c = 1 then some ⟨g, o, none⟩ else some ⟨g, o + 16, none⟩) = p1) : Digs W (.slice p1 k (c - 1)) k fun j => T (j + 1) := by
  obtain ⟨p, c', e, hlc, hc⟩ := h
  injection e with e1 e2 e3
  subst e1 e3
  refine ⟨p1, c - 1, rfl, by omega, fun j hj => ?_⟩
  rw [if_neg (by omega)] at hp
  obtain ⟨g', o', e, h1⟩ := hc (j + 1) (by omega)
  injection e with e
  injection e with e4 e5
  subst e4 e5
  refine ⟨g, o + 16, hp.symm, ?_⟩
  rw [show o + 16 + j * 16 = o + (j + 1) * 16 by omega]; exact h1
end Go.Proofs.YtdpgebifeaakjaaDoor

/- A range over an iterator whose body may panic: the laws. -/
namespace Go.Proofs.YtdpgebifeaakjaaDoor
set_option linter.unusedSimpArgs false
set_option linter.unusedVariables false
open Go.RowKit

variable {F : Fence} {n : Nat} {P : Program}

/-- How a round may be left: off its end, or by a panic. -/
def roundPostP (P : Program) (l : Nat) (R : Ending → World → Prop) : Exit → Act → World → Prop
  | .normal, _, w => ∃ v w', (Instr.endRound l none).run P w = .ok v w' ∧ R (.returned v) w'
  | .panic chain, a, w => a.defers = [] ∧ R (.panicked chain) w
  | _, _, _ => False

theorem roundIn_of_wpInP {l : Nat} {f : FuncId} {tmps : Array Value} {assign body : Code} {w : World} {R : Ending → World → Prop} (hF : F.fn f) (hfn : ∃ fn, P.funcs[f]? = some fn)
    (h : assign.wpIn (F.inRound l) n P (Exit.then (fun a₁ w₁ => ∃ w₂, (Instr.beginRound l).run P w₁ = .ok () w₂ ∧ body.wpIn (F.inRound l) n P (roundPostP P l R) a₁ w₂) (fun _ _ _ => False))
      { tmps := tmps, defers := [] } w) :
    RoundIn F n P l f tmps assign body w R := by
  refine ⟨hF, fun c cs hr => ?_⟩
  let b : Frame := { (default : Frame) with fn := f, kind := .normal, roundOf := some l }
  have hb0 : Frame.round l f tmps assign body .normal = b.atR { tmps := tmps, defers := [] } [.code assign, .beginRound, .code body] := by
    simp [Frame.round, Frame.atR, b]
  have hr' : (F.inRound l).room ((c :: cs).length + 1 + n) := hr
  have hF' : (F.inRound l).fn b.fn := hF
  obtain ⟨e, a₁, w₁, hq, harr⟩ := h b [.beginRound, .code body] (c :: cs) rfl hF' hr'
  rw [← hb0] at harr
  cases e with
  | normal =>
    obtain ⟨w₂, hbr, hbody⟩ := hq
    have s1 : StepsIn (Machine.fenced P (F.inRound l)) P (lone (b.atR a₁ [.beginRound, .code body]) (c :: cs) w₁) (lone (b.atR a₁ [.code body]) (c :: cs) w₂) :=
      .one (fenced_calm (fr := b.atR a₁ [.beginRound, .code body]) hF' hr' rfl) (stepR_beginRound rfl hbr)
    obtain ⟨e₂, a₂, w₃, hq₂, harr₂⟩ := hbody b [] (c :: cs) rfl hF' hr'
    cases e₂ with
    | normal =>
      obtain ⟨v, w₄, hend, hR⟩ := hq₂
      exact ⟨.returned v, w₄, hR, (StepsIn.trans harr s1).trans (StepsIn.trans harr₂ (.one (fenced_calm (fr := b.atR a₂ []) hF' hr' rfl) (stepR_round_end rfl rfl hend)))⟩
    | panic chain =>
      obtain ⟨hd, hR⟩ := hq₂
      obtain ⟨todo, hs⟩ := harr₂
      have hl : ({ b.atR a₂ todo with mode := .panicking chain } : Frame).leaving P w₃ (.panicked chain) := ⟨rfl, hd, hfn⟩
      refine ⟨.panicked chain, w₃, hR, (StepsIn.trans harr s1).trans (StepsIn.trans hs (.one ?_ (step_leave_panicked hl)))⟩
      exact fenced_leaving (F := F.inRound l) (fr := { b.atR a₂ todo with mode := .panicking chain }) hF' hr' hl
    | ret => exact hq₂.elim
    | exit id => exact hq₂.elim
    | goto t => exact hq₂.elim
    | outgrown => exact hq₂.elim
  | exit id => exact hq.elim
  | goto t => exact hq.elim
  | ret => exact hq.elim
  | panic chain => exact hq.elim
  | outgrown => exact hq.elim

/-- As SeqC; a round may panic with ch, and then so does the iterator: Jp holds then. -/
def SeqP {α : Type} (F : Fence) (n : Nat) (P : Program) (gf : Nat) (lb : Array Value) (encs : α → Array Value) (Ba : Nat) (K : Nat → Prop) (ch : List PanicEntry) (xs : List α) (w : World) : Prop :=
  ∀ (l : Nat) (J : List α → World → Prop) (Jp : World → Prop) (W : World), Below w.heap.size w W → (∀ s W v, J s W → J s (W.setCell ⟨Ba, 0, none⟩ v)) →
    (∀ pre x W1, J pre W1 → (∃ post, xs = pre ++ x :: post) → YieldAt F (n - 1) P l (encs x) W1 fun e W' => e = .returned (.bool true) ∧ J (pre ++ [x]) W' ∧ KeepsB K W1 W' ∨ e = .panicked ch ∧ Jp W') →
    J [] W →
    CallsIn F n P gf (#[.func (.yield l) #[] #[]] ++ lb) W fun e W' => (∃ v, e = .returned v) ∧ J xs W' ∨ e = .panicked ch ∧ Jp W'

/-- How the body of a round ends: it goes on, or panics. -/
def onPostP {α : Type} (B : Nat) (K : Nat → Prop) (I : List α → World → Prop) (ch : List PanicEntry) (Ip : World → Prop) (xs : List α) (W : World) : Exit → Act → World → Prop
  | .normal, _, W' => KeepsFrom B W W' ∧ KeepsB K W W' ∧ I xs W'
  | .panic c, a, W' => a.defers = [] ∧ c = ch ∧ KeepsFrom B W W' ∧ Ip W'
  | _, _, _ => False

end Go.Proofs.YtdpgebifeaakjaaDoor

/- The iterator cover, where a round may panic. -/
namespace Go.Proofs.YtdpgebifeaakjaaDoor
set_option linter.unusedSimpArgs false
set_option linter.unusedVariables false
open Go.RowKit
attribute [local go_sem] Oper.semAt_some

set_option maxRecDepth 100000 in
set_option maxHeartbeats 1000000 in
theorem cover_stopsP (n : Nat) (hn : 1 ≤ n) (Ba Bb : Nat) (a b : Nat) (hab : a ≤ b) (hb : b ≤ 1099511627776) (w : World) (hne : Ba ≠ Bb) (hA : Blk w Ba #[.int .i64 a] 3) (hB : Blk w Bb #[.int .i64 b] 3) (hT : TabAt 3 Lib.deBruijn64tab w) (h3 : Ba ≠ 3) (h3l : 3 < w.heap.size) (ch : List PanicEntry) :
    SeqP Fence.wide n Tryd.prog 97 #[.pointer (some ⟨Ba, 0, none⟩), .pointer (some ⟨Bb, 0, none⟩)] blockV Ba (fun k => k = Ba ∨ k = Bb ∨ k = 3) ch (coverL a b) w := by
  intro l J Jp W hW hJ hY h0
  have hA0 := hA.below hW hA.lt
  have hB0 := hB.below hW hB.lt
  have hT0 : TabAt 3 Lib.deBruijn64tab W := fun j hj => (hW.cell (p := ⟨3, j, none⟩) h3l).trans (hT j hj)
  refine callsIn_of_wp Tryd.func97 rfl trivial ?_ rfl
  simp only [Tryd.ntmps97, List.size_toArray, List.length_cons, List.length_nil, Nat.reduceAdd, Nat.reduceSub, Array.replicate_succ, Array.replicate_zero, List.push_toArray, List.append_toArray, List.nil_append, List.cons_append]
  gi_wp2
  gi_loopw [4] (fun _ wr => ∃ (pre : List (Nat × Nat)) (c : Nat), c ≤ b ∧ coverL a b = pre ++ coverL c b ∧ Blk wr Ba #[.int .i64 c] 3 ∧ Blk wr Bb #[.int .i64 b] 3 ∧ TabAt 3 Lib.deBruijn64tab wr ∧ J pre wr)
    (fun _ wr => b - cellN wr Ba)
  case atStart => exact ⟨[], a, hab, rfl, hA0, hB0, hT0, h0⟩
  case round =>
    obtain ⟨pre, c, hc, hx, hA1, hB1, hT1, hJ1⟩ := hrel
    clear hA0 hB0 hT0 h0
    have CN := hide (cellN_Blk hA1)
    have ca := hA1.cell 0
    have cb := hB1.cell 0
    by_cases hlt : c < b
    · have hlt1 : (c : Int) < (b : Int) := by omega
      simp at ca cb
      have el := diff_toNat b c hc hb
      obtain ⟨hq1, hq2, hpow⟩ := len_facts b c hlt hb
      have hl := lenU (BitVec.ofInt 64 ((b : Int) - (c : Int))) wr
      rw [el] at hl
      have hst : stepN c b = if 0 < c then min (2 ^ (Lib.bitLen (b - c) - 1)) (2 ^ Lib.ctz 64 c) else 2 ^ (Lib.bitLen (b - c) - 1) := rfl
      generalize Lib.bitLen (b - c) = q at hq1 hq2 hl hst hpow
      clear el
      have hb1 : 2 ^ (q - 1) ≤ b - c := hpow
      obtain ⟨p1, hp1⟩ : ∃ p, 2 ^ (q - 1) = p := ⟨_, rfl⟩
      have HW1 := hide (wrap_pow (q - 1) p1 hp1 (by omega))
      have hpos1 : 0 < p1 := by rw [← hp1]; exact Nat.two_pow_pos _
      rw [hp1] at hst hb1
      have HP1 := hide hp1
      clear hp1 hpow
      have hq3 : (1 : Int) ≤ (q : Int) := by omega
      have hq4 : (q : Int) ≤ 41 := by omega
      by_cases hc0 : 0 < c
      · have hc01 : (0 : Int) < (c : Int) := by omega
        have hz1 : 2 ^ Lib.ctz 64 c ≤ c := ctz_le c hc0 (by omega)
        have htz := tzU (BitVec.ofNat 64 c) wr hT1
        have ec := ofNat_toNat c (by omega)
        rw [ec] at htz
        have hzl := ctz_lt c hc0 (by omega)
        rw [if_pos hc0] at hst
        generalize Lib.ctz 64 c = z at hz1 htz hzl hst
        obtain ⟨p2, hp2⟩ : ∃ p, 2 ^ z = p := ⟨_, rfl⟩
        have HW2 := hide (wrap_pow z p2 hp2 (by omega))
        have hpos2 : 0 < p2 := by rw [← hp2]; exact Nat.two_pow_pos _
        rw [hp2] at hst hz1
        have HP2 := hide hp2
        clear hp2 ec
        have hz3 : (z : Int) < 64 := by omega
        by_cases h12 : p1 ≤ p2
        · have h121 : (p1 : Int) ≤ (p2 : Int) := Int.ofNat_le.2 h12
          have hmin : min (p1 : Int) (p2 : Int) = (p1 : Int) := Int.min_eq_left h121
          have hst' : stepN c b = p1 := hst.trans (Nat.min_eq_left h12)
          have hle : c + p1 ≤ b := by rw [← hst']; have := stepN_le c b hlt hb; omega
          have hpp : 0 < p1 := by rw [← hst']; exact stepN_pos c b
          have hx2 : coverL a b = pre ++ (c, p1) :: coverL (c + p1) b := by rw [hx, coverL_cons hlt, hst']
          obtain ⟨fn, tmps, assign, body, hy, hR⟩ := hY pre (c, p1) wr hJ1 ⟨_, hx2⟩
          dsimp only [blockV] at hy
          have HN := hide (And.intro hle hx2)
          have HP := hide hpp
          have HS := hide (sum_le c p1 b hle hb)
          clear hst' hle hx2 hpp hst
          have hw1 := HW1.out
          gi_wp2
          refine ⟨trivial, callsIn_wide.2 (hl.mono ?_)⟩
          rintro e w' ⟨rfl, hw'⟩
          rw [hw']
          clear hl hw'
          gi_wp2
          refine ⟨trivial, callsIn_wide.2 (htz.mono ?_)⟩
          rintro e w' ⟨rfl, hw'⟩
          rw [hw']
          clear htz hw'
          have hw2 := HW2.out
          gi_wp2
          refine hR.mono ?_
          rintro e W3 h3e
          rcases h3e with ⟨rfl, hJ3, hk3⟩ | ⟨rfl, hp3⟩
          case inr => exact ⟨rfl, .inr ⟨rfl, hp3⟩⟩
          case inl =>
            have hA3 : Blk W3 Ba #[.int .i64 c] 3 := (hk3 Ba (.inl rfl)).trans hA1
            have hB3 : Blk W3 Bb #[.int .i64 b] 3 := (hk3 Bb (.inr (.inl rfl))).trans hB1
            have hT3 : TabAt 3 Lib.deBruijn64tab W3 := fun j hj => (World.cell?_of_block (hk3 3 (.inr (.inr rfl)))).trans (hT1 j hj)
            have ca3 := hA3.cell 0
            have fa3 := hA3.free 0
            simp at ca3
            have hs1 : (c : Int) + (p1 : Int) ≤ 1099511627776 := HS.out
            clear hw1 hw2 hR hy ca cb hY hB1 hA1 hT1
            gi_wp2
            have hA4 : Blk (W3.setCell ⟨Ba, 0, none⟩ (.int .i64 ((c : Int) + (p1 : Int)))) Ba #[.int .i64 ((c + p1 : Nat) : Int)] 3 := hA3.set 0 (.int .i64 ((c : Int) + (p1 : Int)))
            refine ⟨⟨pre ++ [(c, p1)], c + p1, HN.out.1, by rw [List.append_assoc]; exact HN.out.2, hA4, hB3.other (Ne.symm hne) _, fun j hj => (World.cell?_of_block (Below.heap_setCell _ _ _ _ (Ne.symm h3))).trans (hT3 j hj), hJ _ _ _ hJ3⟩, ?_⟩
            rw [cellN_Blk hA4, CN.out]
            exact sub_lt b c p1 HN.out.1 HP.out
        · have h121 : (p2 : Int) ≤ (p1 : Int) := Int.ofNat_le.2 (Nat.le_of_not_le h12)
          have hmin : min (p1 : Int) (p2 : Int) = (p2 : Int) := Int.min_eq_right h121
          have hst' : stepN c b = p2 := hst.trans (Nat.min_eq_right (Nat.le_of_not_le h12))
          have hle : c + p2 ≤ b := by rw [← hst']; have := stepN_le c b hlt hb; omega
          have hpp : 0 < p2 := by rw [← hst']; exact stepN_pos c b
          have hx2 : coverL a b = pre ++ (c, p2) :: coverL (c + p2) b := by rw [hx, coverL_cons hlt, hst']
          obtain ⟨fn, tmps, assign, body, hy, hR⟩ := hY pre (c, p2) wr hJ1 ⟨_, hx2⟩
          dsimp only [blockV] at hy
          have HN := hide (And.intro hle hx2)
          have HP := hide hpp
          have HS := hide (sum_le c p2 b hle hb)
          clear hst' hle hx2 hpp hst
          have hw1 := HW1.out
          gi_wp2
          refine ⟨trivial, callsIn_wide.2 (hl.mono ?_)⟩
          rintro e w' ⟨rfl, hw'⟩
          rw [hw']
          clear hl hw'
          gi_wp2
          refine ⟨trivial, callsIn_wide.2 (htz.mono ?_)⟩
          rintro e w' ⟨rfl, hw'⟩
          rw [hw']
          clear htz hw'
          have hw2 := HW2.out
          gi_wp2
          refine hR.mono ?_
          rintro e W3 h3e
          rcases h3e with ⟨rfl, hJ3, hk3⟩ | ⟨rfl, hp3⟩
          case inr => exact ⟨rfl, .inr ⟨rfl, hp3⟩⟩
          case inl =>
            have hA3 : Blk W3 Ba #[.int .i64 c] 3 := (hk3 Ba (.inl rfl)).trans hA1
            have hB3 : Blk W3 Bb #[.int .i64 b] 3 := (hk3 Bb (.inr (.inl rfl))).trans hB1
            have hT3 : TabAt 3 Lib.deBruijn64tab W3 := fun j hj => (World.cell?_of_block (hk3 3 (.inr (.inr rfl)))).trans (hT1 j hj)
            have ca3 := hA3.cell 0
            have fa3 := hA3.free 0
            simp at ca3
            have hs1 : (c : Int) + (p2 : Int) ≤ 1099511627776 := HS.out
            clear hw1 hw2 hR hy ca cb hY hB1 hA1 hT1
            gi_wp2
            have hA4 : Blk (W3.setCell ⟨Ba, 0, none⟩ (.int .i64 ((c : Int) + (p2 : Int)))) Ba #[.int .i64 ((c + p2 : Nat) : Int)] 3 := hA3.set 0 (.int .i64 ((c : Int) + (p2 : Int)))
            refine ⟨⟨pre ++ [(c, p2)], c + p2, HN.out.1, by rw [List.append_assoc]; exact HN.out.2, hA4, hB3.other (Ne.symm hne) _, fun j hj => (World.cell?_of_block (Below.heap_setCell _ _ _ _ (Ne.symm h3))).trans (hT3 j hj), hJ _ _ _ hJ3⟩, ?_⟩
            rw [cellN_Blk hA4, CN.out]
            exact sub_lt b c p2 HN.out.1 HP.out
      · have hc01 : ¬ (0 : Int) < (c : Int) := fun h => hc0 (Int.ofNat_lt.1 h)
        rw [if_neg hc0] at hst
        have hst' : stepN c b = p1 := hst
        have hle : c + p1 ≤ b := by rw [← hst']; have := stepN_le c b hlt hb; omega
        have hpp : 0 < p1 := by rw [← hst']; exact stepN_pos c b
        have hx2 : coverL a b = pre ++ (c, p1) :: coverL (c + p1) b := by rw [hx, coverL_cons hlt, hst']
        obtain ⟨fn, tmps, assign, body, hy, hR⟩ := hY pre (c, p1) wr hJ1 ⟨_, hx2⟩
        dsimp only [blockV] at hy
        have HN := hide (And.intro hle hx2)
        have HP := hide hpp
        have HS := hide (sum_le c p1 b hle hb)
        clear hst' hle hx2 hpp hst
        have hw1 := HW1.out
        gi_wp2
        refine ⟨trivial, callsIn_wide.2 (hl.mono ?_)⟩
        rintro e w' ⟨rfl, hw'⟩
        rw [hw']
        clear hl hw'
        gi_wp2
        refine hR.mono ?_
        rintro e W3 h3e
        rcases h3e with ⟨rfl, hJ3, hk3⟩ | ⟨rfl, hp3⟩
        case inr => exact ⟨rfl, .inr ⟨rfl, hp3⟩⟩
        case inl =>
          have hA3 : Blk W3 Ba #[.int .i64 c] 3 := (hk3 Ba (.inl rfl)).trans hA1
          have hB3 : Blk W3 Bb #[.int .i64 b] 3 := (hk3 Bb (.inr (.inl rfl))).trans hB1
          have hT3 : TabAt 3 Lib.deBruijn64tab W3 := fun j hj => (World.cell?_of_block (hk3 3 (.inr (.inr rfl)))).trans (hT1 j hj)
          have ca3 := hA3.cell 0
          have fa3 := hA3.free 0
          simp at ca3
          have hs1 : (c : Int) + (p1 : Int) ≤ 1099511627776 := HS.out
          clear hw1 hR hy ca cb hY hB1 hA1 hT1
          gi_wp2
          have hA4 : Blk (W3.setCell ⟨Ba, 0, none⟩ (.int .i64 ((c : Int) + (p1 : Int)))) Ba #[.int .i64 ((c + p1 : Nat) : Int)] 3 := hA3.set 0 (.int .i64 ((c : Int) + (p1 : Int)))
          rw [HW1.out, wrap_small c p1 hs1]
          refine ⟨⟨pre ++ [(c, p1)], c + p1, HN.out.1, by rw [List.append_assoc]; exact HN.out.2, hA4, hB3.other (Ne.symm hne) _, fun j hj => (World.cell?_of_block (Below.heap_setCell _ _ _ _ (Ne.symm h3))).trans (hT3 j hj), hJ _ _ _ hJ3⟩, ?_⟩
          rw [cellN_Blk hA4, CN.out]
          exact sub_lt b c p1 HN.out.1 HP.out
    · have hlt1 : ¬ (c : Int) < (b : Int) := fun h => hlt (Int.ofNat_lt.1 h)
      have hfin : coverL a b = pre := by rw [hx, coverL_nil hlt, List.append_nil]
      simp at ca cb
      gi_wp2
      go_end0
      refine .inl ⟨⟨_, rfl⟩, ?_⟩
      rw [coverL_nil hlt, List.append_nil]
      exact hJ1
end Go.Proofs.YtdpgebifeaakjaaDoor

