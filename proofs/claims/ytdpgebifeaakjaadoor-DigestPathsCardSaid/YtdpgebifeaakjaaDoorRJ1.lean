/- The join of two digests, of the program. -/
import Derived.Test.YtdpgebifeaakjaaDoorMH
namespace Go.Proofs.YtdpgebifeaakjaaDoor
set_option linter.unusedSimpArgs false
set_option linter.unusedVariables false
open Go.RowKit

set_option maxRecDepth 20000 in
set_option maxHeartbeats 4000000 in
theorem join_any (d f : Nat → BitVec 8) (w : World) :
    Calls Tryd.prog 79 #[.agg (A8 16 d), .agg (A8 16 f)] w fun e w' => e = .returned (.agg (A8 16 (nodeD d f))) ∧ Below w.heap.size w w' := by
  have hbx1 := box23 d
  have hbx2 := box23 f
  have c1 := fun w => sum_any (⟨#[1]⟩ ++ strOf (dl d) ++ strOf (dl f)) (by rw [ByteArray.size_append, ByteArray.size_append, size_strOf, size_strOf, dl_length, dl_length]; decide) w
  simp only [node_bytes] at c1
  have k1 := ((Blk.new w (A8 16 d) 23).alloc (.cells (A8 16 f) 23)).alloc (.cells (A8 16 fun _ => 0#8) 23)
  have k2 := (Blk.new (w.alloc (.cells (A8 16 d) 23)) (A8 16 f) 23).alloc (.cells (A8 16 fun _ => 0#8) 23)
  have ho := Blk.new ((w.alloc (.cells (A8 16 d) 23)).alloc (.cells (A8 16 f) 23)) (A8 16 fun _ => 0#8) 23
  rw [World.size_alloc] at k2
  rw [World.size_alloc, World.size_alloc] at ho
  have hB : Below w.heap.size w (((w.alloc (.cells (A8 16 d) 23)).alloc (.cells (A8 16 f) 23)).alloc (.cells (A8 16 fun _ => 0#8) 23)) := (((Below.refl _ _).alloc (Nat.le_refl _) _).alloc (by simp) _).alloc (by simp; omega) _
  have hc1 := fun (W : World) (k : Blk W w.heap.size (A8 16 d) 23) => conv_dl k
  have hc2 := fun (W : World) (k : Blk W (w.heap.size + 1) (A8 16 f) 23) => conv_dl k
  have hsum := fun w : World => run_string_add_sum (P := Tryd.prog) w ⟨#[1]⟩ (strOf (dl d)) (by rw [size_strOf, dl_length]; decide)
  have hsum2 := fun w : World => run_string_add_sum (P := Tryd.prog) w (⟨#[1]⟩ ++ strOf (dl d)) (strOf (dl f)) (by rw [ByteArray.size_append, size_strOf, size_strOf, dl_length, dl_length]; decide)
  generalize strOf (dl d) = X at c1 hc1 hsum hsum2
  generalize strOf (dl f) = X2 at c1 hc2 hsum2
  generalize (⟨#[1]⟩ : ByteArray) ++ X = Y at c1 hsum hsum2
  generalize Y ++ X2 = Z at c1 hsum2
  generalize nodeD d f = D at c1 ⊢
  go_enter Tryd.func79, Tryd.ntmps79
  go_wp2_with fail
  generalize ((w.alloc (.cells (A8 16 d) 23)).alloc (.cells (A8 16 f) 23)).alloc (.cells (A8 16 fun _ => 0#8) 23) = W0 at k1 k2 ho hB ⊢
  refine wp_region_held_drew (S := fun w' => Below w.heap.size w w' ∧ Blk w' w.heap.size (A8 16 d) 23 ∧ Blk w' (w.heap.size + 1) (A8 16 f) 23) (by kernel_rfl) (⟨hB.drew, k1.drew, k2.drew⟩) (fun hS => ?_)
  refine take_at (i := 0) 5 (.slice (some ⟨w.heap.size, 0, none⟩) 16 16) rfl rfl (by kernel_rfl) (by kernel_rfl) (by kernel_rfl) (fun _ _ _ h => h) (Or.inl ⟨by rfl, fun W hW => by go_simp⟩) hS ?_
  simp only [List.setIfInBounds_toArray, List.set_cons_zero, List.set_cons_succ]
  refine take_at (i := 1) 6 (.string X) rfl rfl (by kernel_rfl) (by kernel_rfl) (by kernel_rfl) (fun _ _ _ h => h) (Or.inl ⟨by rfl, fun W hW => by have hcv := hc1 W hW.2.1; go_simp⟩) hS ?_
  simp only [List.setIfInBounds_toArray, List.set_cons_zero, List.set_cons_succ]
  refine take_at (i := 2) 7 (.string Y) rfl rfl (by kernel_rfl) (by kernel_rfl) (by kernel_rfl) (fun _ _ _ h => h) (Or.inl ⟨by rfl, fun W hW => by go_simp⟩) hS ?_
  simp only [List.setIfInBounds_toArray, List.set_cons_zero, List.set_cons_succ]
  refine take_at (i := 3) 8 (.slice (some ⟨w.heap.size + 1, 0, none⟩) 16 16) rfl rfl (by kernel_rfl) (by kernel_rfl) (by kernel_rfl) (fun _ _ _ h => h) (Or.inl ⟨by rfl, fun W hW => by go_simp⟩) hS ?_
  simp only [List.setIfInBounds_toArray, List.set_cons_zero, List.set_cons_succ]
  refine take_at (i := 4) 9 (.string X2) rfl rfl (by kernel_rfl) (by kernel_rfl) (by kernel_rfl) (fun _ _ _ h => h) (Or.inl ⟨by rfl, fun W hW => by have hcv := hc2 W hW.2.2; go_simp⟩) hS ?_
  simp only [List.setIfInBounds_toArray, List.set_cons_zero, List.set_cons_succ]
  refine take_at (i := 5) 10 (.string Z) rfl rfl (by kernel_rfl) (by kernel_rfl) (by kernel_rfl) (fun _ _ _ h => h) (Or.inl ⟨by rfl, fun W hW => by go_simp⟩) hS ?_
  simp only [List.setIfInBounds_toArray, List.set_cons_zero, List.set_cons_succ]
  refine wpAnyH_ready (rs := [6]) (by kernel_rfl) (by simp) ?_
  refine AllReadyH.cons rfl (fun K hK => ?_) AllReadyH.nil
  go_simp
  refine (c1 _).mono ?_
  rintro e X1 ⟨rfl, hb⟩
  refine hK.out _ _ (⟨hS.1.trans (hb.mono hS.1.size), hS.2.1.below hb hS.2.1.lt, hS.2.2.below hb hS.2.2.lt⟩) (fun hS => ?_)
  clear hK K
  have ho2 := ho.drew.below hb ho.drew.lt
  try simp only [Act.put, List.setIfInBounds_toArray, List.set_cons_zero, List.set_cons_succ]
  refine wpAnyH_ready (rs := [7]) (by kernel_rfl) (by simp) ?_
  refine AllReadyH.cons rfl (fun K hK => ?_) AllReadyH.nil
  refine step_storeRow (C' := A8 16 D) rfl 23 (.tmp 4) (.tmp 11) rfl (w.heap.size + 1 + 1) rfl rfl ho2 size23 (A8.size _ _) (A8.size _ _) (A8.one _) rfl ?_
  intro X2 hu k9
  refine hK.out _ _ (⟨hu.below hS.1 (by omega), hS.2.1.upd hu (by omega), hS.2.2.upd hu (by omega)⟩) (fun hS => ?_)
  clear hK K
  try simp only [Act.put, List.setIfInBounds_toArray, List.set_cons_zero, List.set_cons_succ]
  refine wpAnyH_done (by kernel_rfl) ?_ _
  go_wp2_with fail
  exact ret_row rfl (w.heap.size + 1 + 1) rfl k9 Tryd.underlying23 rfl size23 (A8.size _ _) rfl ⟨rfl, hS.1⟩

end Go.Proofs.YtdpgebifeaakjaaDoor
