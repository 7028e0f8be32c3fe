/- The walk of Tree. -/
import Derived.Test.YtdpgebifeaakjaaDoorMJ
import Derived.Test.YtdpgebifeaakjaaDoorRJ1
import Derived.Test.YtdpgebifeaakjaaDoorRJ2
namespace Go.Proofs.YtdpgebifeaakjaaDoor
set_option linter.unusedSimpArgs false
set_option linter.unusedVariables false
open Go.RowKit

set_option maxRecDepth 20000 in
set_option maxHeartbeats 8000000 in
theorem tree_any : ∀ (f n : Nat) (D : Nat → Nat → BitVec 8) (v : Value) (w : World), n ≤ f → n ≤ 1099511627776 → Digs w v n D →
    Calls Tryd.prog 48 #[v] w fun e w' => e = .returned (.agg (A8 16 (treeF f n D))) ∧ Below w.heap.size w w' := by
  intro f
  induction f with
  | zero =>
    intro n D v w hf hn hD
    obtain ⟨p, cap, rfl, hcap, hD⟩ := hD
    obtain rfl : n = 0 := by omega
    have ho := Blk.new w (A8 16 fun _ => 0#8) 23
    have hB : Below w.heap.size w (w.alloc (.cells (A8 16 fun _ => 0#8) 23)) := (Below.refl _ _).alloc (Nat.le_refl _) _
    have c0 := fun w => sum_any ⟨#[]⟩ (by decide) w
    go_enter Tryd.func48, Tryd.ntmps48
    go_wp2_with fail
    refine (c0 _).mono ?_
    rintro e W1 ⟨rfl, hb⟩
    replace hB := hB.trans (hb.mono hB.size)
    replace ho := ho.below hb ho.lt
    go_wp2_with (refine wp_storeRow (C' := A8 16 (sha [])) rfl 23 _ _ rfl _ rfl rfl ho size23 (A8.size _ _) (A8.size _ _) (A8.one _) rfl ?_; intro W4 hu k9)
    exact ret_row rfl w.heap.size rfl k9 Tryd.underlying23 rfl size23 (A8.size _ _) rfl ⟨rfl, hu.below hB (Nat.le_refl _)⟩
  | succ f ih =>
    intro n D v w hf hn hD
    have hDD := hD
    obtain ⟨p, cap, rfl, hcap, hD⟩ := hD
    have ho := Blk.new w (A8 16 fun _ => 0#8) 23
    have hB : Below w.heap.size w (w.alloc (.cells (A8 16 fun _ => 0#8) 23)) := (Below.refl _ _).alloc (Nat.le_refl _) _
    by_cases h0 : n = 0
    · subst h0
      have c0 := fun w => sum_any ⟨#[]⟩ (by decide) w
      go_enter Tryd.func48, Tryd.ntmps48
      go_wp2_with fail
      refine (c0 _).mono ?_
      rintro e W1 ⟨rfl, hb⟩
      replace hB := hB.trans (hb.mono hB.size)
      replace ho := ho.below hb ho.lt
      go_wp2_with (refine wp_storeRow (C' := A8 16 (sha [])) rfl 23 _ _ rfl _ rfl rfl ho size23 (A8.size _ _) (A8.size _ _) (A8.one _) rfl ?_; intro W4 hu k9)
      exact ret_row rfl w.heap.size rfl k9 Tryd.underlying23 rfl size23 (A8.size _ _) rfl ⟨rfl, hu.below hB (Nat.le_refl _)⟩
    · by_cases h1 : n = 1
      · subst h1
        obtain ⟨g, o, rfl, hr⟩ := hD 0 (by omega)
        have r0 := run_dig (rangeAt_below hr ((Below.refl _ _).alloc (Nat.le_refl _) (.cells (A8 16 fun _ => 0#8) 23)))
        have c0 := fun w => leaf_any (D 0) w
        have HT := hide (show treeF (f + 1) 1 D = leafD (D 0) from rfl)
        generalize leafD (D 0) = T at c0 HT
        go_enter Tryd.func48, Tryd.ntmps48
        go_wp2_with (refine wp_loadRun (by rfl) 23 _ rfl g o rfl r0 ?_)
        refine (c0 _).mono ?_
        rintro e W1 ⟨rfl, hb⟩
        replace hB := hB.trans (hb.mono hB.size)
        replace ho := ho.below hb ho.lt
        go_wp2_with (refine wp_storeRow (C' := A8 16 T) rfl 23 _ _ rfl _ rfl rfl ho size23 (A8.size _ _) (A8.size _ _) (A8.one _) rfl ?_; intro W4 hu k9)
        exact ret_row rfl w.heap.size rfl k9 Tryd.underlying23 rfl size23 (A8.size _ _) rfl ⟨by rw [HT.out], hu.below hB (Nat.le_refl _)⟩
      · obtain ⟨m1, m2, m3⟩ := halfN_facts n (by omega) hn
        have ch := half_any n (by omega) hn
        have HT0 := treeF_step f n D h0 h1
        obtain ⟨g, o, rfl, _⟩ := hD 0 (by omega)
        generalize halfN n = m at m1 m2 m3 ch HT0
        have d1 := Digs.left hDD m (by omega)
        have d2 := Digs.right hDD m (by omega)
        have ca := fun (W : World) (hB : Below w.heap.size w W) => ih m D _ W (by omega) (by omega) (d1.below hB)
        have cb := fun (W : World) (hB : Below w.heap.size w W) => ih (n - m) (fun j => D (m + j)) _ W (by omega) (by omega) (d2.below hB)
        have cc := fun w => join_any (treeF f m D) (treeF f (n - m) fun j => D (m + j)) w
        generalize treeF f m D = T1 at ca cc HT0
        generalize (treeF f (n - m) fun j => D (m + j)) = T2 at cb cc HT0
        generalize nodeD T1 T2 = T3 at cc HT0
        have HT := hide HT0
        have CA := hide ca; have CB := hide cb; have CC := hide cc
        clear HT0 ca cb cc ih hD hDD d1 d2
        have e0 : ((n : Int) == 0) = false := by simp; omega
        have e1 : ((n : Int) == 1) = false := by simp; omega
        go_enter Tryd.func48, Tryd.ntmps48
        go_wp2_with fail
        refine (ch _).mono ?_
        rintro e W1 ⟨rfl, rfl⟩
        clear ch
        go_wp2_with fail
        have ca := CA.out; have cb := CB.out; have cc := CC.out
        have hp0 : (0 : Int) ≤ (m : Int) := by omega
        have hp1 : (m : Int) ≤ (n : Int) := by omega
        have hp2 : (m : Int) ≤ (cap : Int) := by omega
        have hp3 : ¬ cap = m := by omega
        replace ho := ho.drew
        generalize w.alloc (.cells (A8 16 fun _ => 0#8) 23) = W0 at ho hB ⊢
        refine wp_region_held_drew (S := fun w' => Below w.heap.size w w') (by kernel_rfl) (hB.drew) (fun hS => ?_)
        refine take_at (i := 0) 18 (.slice (some ⟨g, o, none⟩) n cap) rfl rfl (by kernel_rfl) (by kernel_rfl) (by kernel_rfl) (fun _ _ _ h => h) (Or.inl ⟨by rfl, fun W hW => by go_simp⟩) hS ?_
        simp only [List.setIfInBounds_toArray, List.set_cons_zero, List.set_cons_succ]
        refine take_at (i := 1) 19 (.int .i64 (m : Int)) rfl rfl (by kernel_rfl) (by kernel_rfl) (by kernel_rfl) (fun _ _ _ h => h) (Or.inl ⟨by rfl, fun W hW => by go_simp⟩) hS ?_
        simp only [List.setIfInBounds_toArray, List.set_cons_zero, List.set_cons_succ]
        refine take_at (i := 2) 20 (.slice (some ⟨g, o, none⟩) m cap) rfl rfl (by kernel_rfl) (by kernel_rfl) (by kernel_rfl) (fun _ _ _ h => h) (Or.inl ⟨by rfl, fun W hW => by go_simp⟩) hS ?_
        simp only [List.setIfInBounds_toArray, List.set_cons_zero, List.set_cons_succ]
        refine take_at (i := 4) 22 (.slice (some ⟨g, o, none⟩) n cap) rfl rfl (by kernel_rfl) (by kernel_rfl) (by kernel_rfl) (fun _ _ _ h => h) (Or.inl ⟨by rfl, fun W hW => by go_simp⟩) hS ?_
        simp only [List.setIfInBounds_toArray, List.set_cons_zero, List.set_cons_succ]
        refine take_at (i := 5) 23 (.int .i64 (m : Int)) rfl rfl (by kernel_rfl) (by kernel_rfl) (by kernel_rfl) (fun _ _ _ h => h) (Or.inl ⟨by rfl, fun W hW => by go_simp⟩) hS ?_
        simp only [List.setIfInBounds_toArray, List.set_cons_zero, List.set_cons_succ]
        refine take_at (i := 6) 24 (.slice (some ⟨g, o + m * 16, none⟩) (n - m) (cap - m)) rfl rfl (by kernel_rfl) (by kernel_rfl) (by kernel_rfl) (fun _ _ _ h => h) (Or.inl ⟨by rfl, fun W hW => by go_simp⟩) hS ?_
        simp only [List.setIfInBounds_toArray, List.set_cons_zero, List.set_cons_succ]
        refine wpAnyH_ready (rs := [3]) (by kernel_rfl) (by simp) ?_
        refine AllReadyH.cons rfl (fun K hK => ?_) AllReadyH.nil
        go_simp
        refine (ca _ hS).mono ?_
        rintro e X1 ⟨rfl, hb⟩
        refine hK.out _ _ (hS.trans (hb.mono hS.size)) (fun hS => ?_)
        clear hK K
        replace ho := ho.below hb ho.lt
        try simp only [Act.put, List.setIfInBounds_toArray, List.set_cons_zero, List.set_cons_succ]
        refine wpAnyH_ready (rs := [7]) (by kernel_rfl) (by simp) ?_
        refine AllReadyH.cons rfl (fun K hK => ?_) AllReadyH.nil
        go_simp
        refine (cb _ hS).mono ?_
        rintro e X2 ⟨rfl, hb⟩
        refine hK.out _ _ (hS.trans (hb.mono hS.size)) (fun hS => ?_)
        clear hK K
        replace ho := ho.below hb ho.lt
        try simp only [Act.put, List.setIfInBounds_toArray, List.set_cons_zero, List.set_cons_succ]
        refine wpAnyH_ready (rs := [8]) (by kernel_rfl) (by simp) ?_
        refine AllReadyH.cons rfl (fun K hK => ?_) AllReadyH.nil
        go_simp
        refine (cc _).mono ?_
        rintro e X3 ⟨rfl, hb⟩
        refine hK.out _ _ (hS.trans (hb.mono hS.size)) (fun hS => ?_)
        clear hK K
        replace ho := ho.below hb ho.lt
        try simp only [Act.put, List.setIfInBounds_toArray, List.set_cons_zero, List.set_cons_succ]
        refine wpAnyH_ready (rs := [9]) (by kernel_rfl) (by simp) ?_
        refine AllReadyH.cons rfl (fun K hK => ?_) AllReadyH.nil
        refine step_storeRow (C' := A8 16 T3) rfl 23 (.tmp 2) (.tmp 26) rfl w.heap.size rfl rfl ho size23 (A8.size _ _) (A8.size _ _) (A8.one _) rfl ?_
        intro X4 hu k9
        refine hK.out _ _ (hu.below hS (Nat.le_refl _)) (fun hS => ?_)
        clear hK K
        try simp only [Act.put, List.setIfInBounds_toArray, List.set_cons_zero, List.set_cons_succ]
        refine wpAnyH_done (by kernel_rfl) ?_ _
        go_wp2_with fail
        exact ret_row rfl w.heap.size rfl k9 Tryd.underlying23 rfl size23 (A8.size _ _) rfl ⟨by rw [HT.out], hS⟩
end Go.Proofs.YtdpgebifeaakjaaDoor
