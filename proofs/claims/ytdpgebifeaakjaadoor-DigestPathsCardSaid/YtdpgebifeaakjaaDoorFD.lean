/- The walk of Top. -/
import Derived.Test.YtdpgebifeaakjaaDoorFH
import Derived.Test.YtdpgebifeaakjaaDoorFA
import Derived.Test.YtdpgebifeaakjaaDoorRJ1
import Derived.Test.YtdpgebifeaakjaaDoorGP
namespace Go.Proofs.YtdpgebifeaakjaaDoor
set_option linter.unusedSimpArgs false
set_option linter.unusedVariables false
open Go.RowKit

theorem frB_true (a n : Nat) (ha : a ≤ 1099511627776) (hn : n = pcN 64 a) : frB (a : Int) n = true := by
  unfold frB
  rw [show decide ((0 : Int) ≤ (a : Int)) = true from decide_eq_true (by omega), show decide ((a : Int) ≤ 1099511627776) = true from decide_eq_true (by omega), Int.toNat_natCast, hn]
  simp
theorem pcN_le : ∀ f x, pcN f x ≤ f
  | 0, x => Nat.le_refl _
  | f + 1, x => by have := pcN_le f (x / 2); rw [pcN]; omega
set_option maxRecDepth 20000 in
set_option maxHeartbeats 400000 in
theorem top_zero (cap : Nat) (p : Option Addr) (w : World) :
    Calls Tryd.prog 55 #[.agg #[.int .i64 0, .slice p 0 cap]] w fun e w' => e = .returned (.tuple #[.agg (A8 16 (sha [])), .int .i64 0]) ∧ Below w.heap.size w w' := by
  have k1 := Blk.new w #[.int .i64 0, .slice p 0 cap] 94
  have k2 := Blk.new (w.alloc (.cells #[.int .i64 0, .slice p 0 cap] 94)) (A8 16 fun _ => 0#8) 23
  rw [World.size_alloc] at k2
  replace k1 := k1.alloc (.cells (A8 16 fun _ => 0#8) 23)
  have hB : Below w.heap.size w ((w.alloc (.cells #[.int .i64 0, .slice p 0 cap] 94)).alloc (.cells (A8 16 fun _ => 0#8) 23)) := ((Below.refl _ w).alloc (Nat.le_refl _) _).alloc (by simp) _
  obtain ⟨W0, hW0⟩ : ∃ W0, (w.alloc (.cells #[.int .i64 0, .slice p 0 cap] 94)).alloc (.cells (A8 16 fun _ => 0#8) 23) = W0 := ⟨_, rfl⟩
  rw [hW0] at k1 k2 hB
  have hfr : frB 0 0 = true := by decide
  have c0 := fun w => sum_any ⟨#[]⟩ (by decide) w
  go_enter Tryd.func55, Tryd.ntmps55
  go_upto_region 1 with (fail)
  try rw [hW0]
  clear hW0
  go_wp2_with (refine wp_loadRow rfl 94 _ rfl w.heap.size rfl k1 Tryd.underlying94 rfl size94 rfl ?_)
  refine (vfront_any _ _ _ _ _).mono ?_
  rintro e W1 ⟨rfl, hb⟩
  rw [hfr]
  have kf := k1.below hb k1.lt
  have kd := k2.below hb k2.lt
  replace hB := hB.trans (hb.mono hB.size)
  clear hb hfr k1 k2
  have q0 := kf.cell 0
  have q1 := kf.cell 1
  go_wp2_with fail
  refine (c0 _).mono ?_
  rintro e W2 ⟨rfl, hb⟩
  replace hB := hB.trans (hb.mono hB.size)
  replace kd := kd.below hb kd.lt
  go_wp2_with (refine wp_storeRow (C' := A8 16 (sha [])) rfl 23 _ _ rfl _ rfl rfl kd size23 (A8.size _ _) (A8.size _ _) (A8.one _) rfl ?_; intro W4 hu k9)
  exact ret_row_tmp rfl (w.heap.size + 1) rfl rfl (run_loadVar_Blk k9 Tryd.underlying23 rfl size23 (A8.size _ _)) rfl ⟨rfl, hu.below hB (Nat.le_succ _)⟩
set_option maxRecDepth 20000 in
set_option maxHeartbeats 4000000 in
theorem top_ok (a n cap : Nat) (p : Option Addr) (D : Nat → Nat → BitVec 8) (w : World) (ha0 : 0 < a) (ha : a ≤ 1099511627776) (hn : n = pcN 64 a) (hn0 : 0 < n) (hv : Digs w (.slice p n cap) n D) :
    Calls Tryd.prog 55 #[.agg #[.int .i64 (a : Int), .slice p n cap]] w fun e w' => e = .returned (.tuple #[.agg (A8 16 (topF (n - 1) (D (n - 1)) D)), .int .i64 0]) ∧ Below w.heap.size w w' := by
  have hvv := hv
  have k1 := Blk.new w #[.int .i64 (a : Int), .slice p n cap] 94
  have k2 := Blk.new (w.alloc (.cells #[.int .i64 (a : Int), .slice p n cap] 94)) (A8 16 fun _ => 0#8) 23
  rw [World.size_alloc] at k2
  replace k1 := k1.alloc (.cells (A8 16 fun _ => 0#8) 23)
  have hB : Below w.heap.size w ((w.alloc (.cells #[.int .i64 (a : Int), .slice p n cap] 94)).alloc (.cells (A8 16 fun _ => 0#8) 23)) := ((Below.refl _ w).alloc (Nat.le_refl _) _).alloc (by simp) _
  obtain ⟨W0, hW0⟩ : ∃ W0, (w.alloc (.cells #[.int .i64 (a : Int), .slice p n cap] 94)).alloc (.cells (A8 16 fun _ => 0#8) 23) = W0 := ⟨_, rfl⟩
  rw [hW0] at k1 k2 hB
  have hfr := frB_true a n ha hn
  have hn64 : n ≤ 64 := by rw [hn]; exact pcN_le 64 a
  obtain ⟨p', cap', e0, hcap, hd⟩ := hv
  injection e0 with e1 e2 e3
  subst e1 e3
  obtain ⟨g, o, rfl, r0⟩ := hd (n - 1) (by omega)
  have hd' : ∀ j, j < n → w.rangeAt g (o + j * 16) (A8 16 (D j)).toList := by
    intro j hj
    obtain ⟨g', o', e, r⟩ := hd j hj
    injection e with e
    injection e with e4 e5
    subst e4 e5
    exact r
  obtain ⟨i, rfl⟩ : ∃ i, n = i + 1 := ⟨n - 1, by omega⟩
  have hg : g < w.heap.size := World.block_lt_of_cell? w _ (hd' 0 (by omega) 0 _ (by rw [Array.getElem?_toList, A8.get _ (by omega)]))
  rw [Nat.add_sub_cancel] at r0 ⊢
  obtain ⟨X, hX⟩ : ∃ X, topF i (D i) D = X := ⟨_, rfl⟩
  rw [hX]
  have HX0 := hide hX
  clear hX
  have hne : ((a : Int) == 0) = false := by simp; omega
  have HN := hide hn
  have HD := hide hd'
  have hwr : IntKind.i64.wrap (((i + 1 : Nat) : Int) - 2) = (i : Int) - 1 := by rw [IntWalk.i64_in _ (by omega)]; omega
  clear hd hd' hn e2
  go_enter Tryd.func55, Tryd.ntmps55
  go_upto_region 1 with (fail)
  try rw [hW0]
  clear hW0
  go_wp2_with (refine wp_loadRow rfl 94 _ rfl w.heap.size rfl k1 Tryd.underlying94 rfl size94 rfl ?_)
  refine (vfront_any _ _ _ _ _).mono ?_
  rintro e W1 ⟨rfl, hb⟩
  rw [hfr]
  have kf := k1.below hb k1.lt
  have kd := k2.below hb k2.lt
  replace hB := hB.trans (hb.mono hB.size)
  replace r0 := rangeAt_below (rangeAt_below r0 hB) (Below.refl _ _)
  clear hb hfr k1 k2
  have q0 := kf.cell 0
  have q1 := kf.cell 1
  have r1 := run_loadVar_mid W1 g (o + i * 16) 23 (A8 16 (D i)).toList _ r0 Tryd.underlying23 rfl (by rw [Array.length_toList, A8.size]; exact size23)
  rw [Array.toArray_toList] at r1
  have hj0 : (0 : Int) ≤ (i : Int) := by omega
  have hj1 : ¬ ((i : Int) + 1 ≤ (i : Int)) := by omega
  go_wp2_with (first | (refine wp_loadRun (by rfl) 23 _ rfl g (o + i * 16) rfl r1 ?_) | (refine wp_storeRow (C' := A8 16 (D i)) rfl 23 _ _ rfl _ rfl rfl kd size23 (A8.size _ _) (A8.size _ _) (A8.one _) rfl ?_; intro W4 hu kd2; have kf2 := kf.upd hu (by omega); have q2 := kf2.cell 1))
  have hB2 : Below w.heap.size w W4 := hu.below hB (Nat.le_succ _)
  clear kf kd hu q0 q1 q2 r0 r1 hB
  go_loopw [4] (fun s4 W => ∃ (j : Nat) (x : Nat → BitVec 8), j ≤ i ∧ s4 = .int .i64 ((j : Int) - 1) ∧ topF j x D = X ∧ Blk W (w.heap.size + 1) (A8 16 x) 23 ∧ Blk W w.heap.size #[.int .i64 (a : Int), .slice (some ⟨g, o, none⟩) (i + 1) cap] 94 ∧ Below w.heap.size w W) (fun s4 _ => (intOf s4 + 1).toNat)
  case atStart => exact ⟨i, D i, Nat.le_refl _, by first | rfl | exact congrArg (Value.int IntKind.i64) (by omega), HX0.out, kd2, kf2, hB2⟩
  case round =>
    clear kd2 kf2 hB2
    obtain ⟨j, x, hj, rfl, hX, kd, kf, hB⟩ := hrel
    by_cases hz : j = 0
    · subst hz
      go_wp2_with (first | (refine wp_loadRow rfl 23 _ rfl (w.heap.size + 1) rfl kd Tryd.underlying23 rfl size23 (A8.size _ _) ?_) | (refine wp_storeRow (C' := A8 16 x) rfl 23 _ _ rfl _ rfl rfl kd size23 (A8.size _ _) (A8.size _ _) (A8.one _) rfl ?_; intro W9 hu k9))
      exact ret_row_tmp rfl (w.heap.size + 1) rfl rfl (run_loadVar_Blk k9 Tryd.underlying23 rfl size23 (A8.size _ _)) rfl ⟨by rw [← hX]; rfl, hu.below hB (Nat.le_succ _)⟩
    · obtain ⟨jj, rfl⟩ : ∃ jj, j = jj + 1 := ⟨j - 1, by omega⟩
      have e9 : (((jj + 1 : Nat) : Int) - 1) = (jj : Int) := by omega
      rw [e9]
      have r1 := rangeAt_below (HD.out jj (by omega)) hB
      have HX := hide hX
      clear hX e9 hz
      have q1 := kf.cell 1
      have hp0 : (0 : Int) ≤ (jj : Int) := by omega
      have hp1 : (jj : Int) < (i : Int) + 1 := by omega
      have hp2 : ¬ ((i : Int) + 1 ≤ (jj : Int)) := by omega
      go_wp2_with fail
      refine wp_region_held_drew (S := fun w' => w'.cell? ⟨w.heap.size, 1, none⟩ = some ((.slice (some ⟨g, o, none⟩) (i + 1) cap)) ∧ w'.rangeAt g (o + jj * 16) (A8 16 (D jj)).toList) (by kernel_rfl) (⟨kf.drew.cell 1, r1⟩) (fun hS => ?_)
      refine take_at (i := 0) 29 (.pointer (some ⟨w.heap.size, 1, none⟩)) rfl rfl (by kernel_rfl) (by kernel_rfl) (by kernel_rfl) (fun _ _ _ h => h) (Or.inl ⟨by rfl, fun W hW => by go_simp⟩) hS ?_
      try simp only [List.setIfInBounds_toArray, List.set_cons_zero, List.set_cons_succ]
      refine take_at (i := 1) 30 (.slice (some ⟨g, o, none⟩) (i + 1) cap) rfl rfl (by kernel_rfl) (by kernel_rfl) (by kernel_rfl) (fun _ _ _ h => h) (Or.inl ⟨by rfl, fun W hW => by have hc := hW.1; go_simp⟩) hS ?_
      try simp only [List.setIfInBounds_toArray, List.set_cons_zero, List.set_cons_succ]
      refine take_at (i := 2) 31 (.int .i64 (jj : Int)) rfl rfl (by kernel_rfl) (by kernel_rfl) (by kernel_rfl) (fun _ _ _ h => h) (Or.inl ⟨by rfl, fun W hW => by go_simp⟩) hS ?_
      try simp only [List.setIfInBounds_toArray, List.set_cons_zero, List.set_cons_succ]
      refine take_at (i := 3) 32 (.pointer (some ⟨g, o + jj * 16, none⟩)) rfl rfl (by kernel_rfl) (by kernel_rfl) (by kernel_rfl) (fun _ _ _ h => h) (Or.inl ⟨by rfl, fun W hW => by go_simp⟩) hS ?_
      try simp only [List.setIfInBounds_toArray, List.set_cons_zero, List.set_cons_succ]
      refine take_at (i := 4) 33 (.agg (A8 16 (D jj))) rfl rfl (by kernel_rfl) (by kernel_rfl) (by kernel_rfl) (fun _ _ _ h => h) (Or.inl ⟨by rfl, fun W hW => exec_load_range _ 23 _ rfl g (o + jj * 16) rfl hW.2 Tryd.underlying23 rfl size23 (A8.size _ _)⟩) hS ?_
      try simp only [List.setIfInBounds_toArray, List.set_cons_zero, List.set_cons_succ]
      refine wpAnyH_ready (rs := [5]) (by kernel_rfl) (by simp) ?_
      refine AllReadyH.cons rfl (fun K hK => ?_) AllReadyH.nil
      rw [if_pos (by rfl)]
      refine wpo_loadRow 23 (.tmp 2) rfl (w.heap.size + 1) rfl (run_loadVar_Blk kd.drew Tryd.underlying23 rfl size23 (A8.size _ _)) ?_
      refine hK.out _ _ (hS) (fun hS => ?_)
      clear hK K
      try simp only [Act.put, List.setIfInBounds_toArray, List.set_cons_zero, List.set_cons_succ]
      refine wpAnyH_ready (rs := [6]) (by kernel_rfl) (by simp) ?_
      refine AllReadyH.cons rfl (fun K hK => ?_) AllReadyH.nil
      go_simp
      refine (join_any _ _ _).mono ?_
      rintro e X9 ⟨rfl, hb⟩
      refine hK.out _ _ (⟨cell_below hS.1 hb, rangeAt_below hS.2 hb⟩) (fun hS => ?_)
      clear hK K
      replace kd := kd.drew.below hb kd.lt
      replace kf := kf.drew.below hb kf.lt
      replace hB := hB.drew.trans (hb.mono hB.size)
      clear hb
      try simp only [Act.put, List.setIfInBounds_toArray, List.set_cons_zero, List.set_cons_succ]
      refine wpAnyH_ready (rs := [7]) (by kernel_rfl) (by simp) ?_
      refine AllReadyH.cons rfl (fun K hK => ?_) AllReadyH.nil
      rw [if_pos (by rfl)]
      refine wpo_storeRow (C' := A8 16 (nodeD (D jj) x)) 23 (.tmp 2) (.tmp 35) rfl (w.heap.size + 1) rfl rfl kd size23 (A8.size _ _) (A8.size _ _) (A8.one _) rfl ?_
      intro X8 hu kd2
      refine hK.out _ _ (⟨cell_upd hS.1 hu (by simp), rangeAt_upd hS.2 hu (by omega)⟩) (fun hS => ?_)
      clear hK K
      try simp only [Act.put, List.setIfInBounds_toArray, List.set_cons_zero, List.set_cons_succ]
      refine wpAnyH_done (by kernel_rfl) ?_ _
      have hB3 : Below w.heap.size w X8 := hu.below hB (Nat.le_succ _)
      replace kf := kf.upd hu (by omega)
      clear hS hu q1 r1 hB kd
      go_wp2_with fail
      exact ⟨⟨jj, nodeD (D jj) x, by omega, by first | go_num | exact congrArg (Value.int IntKind.i64) (by omega), HX.out, kd2, kf, hB3⟩, by first | (simp [intOf]; done) | (simp [intOf]; omega)⟩
end Go.Proofs.YtdpgebifeaakjaaDoor
