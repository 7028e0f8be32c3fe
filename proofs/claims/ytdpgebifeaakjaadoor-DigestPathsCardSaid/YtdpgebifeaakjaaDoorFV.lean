/- Frontiers that are refused. -/
import Derived.Test.YtdpgebifeaakjaaDoorFC
import Derived.Test.YtdpgebifeaakjaaDoorFG
namespace Go.Proofs.YtdpgebifeaakjaaDoor
set_option linter.unusedSimpArgs false
set_option linter.unusedVariables false
open Go.RowKit

theorem build23z (w : World) : (Instr.build 23 #[]).run Tryd.prog w = .ok (.agg (A8 16 fun _ => 0#8)) w := by kernel_rfl
set_option maxRecDepth 20000 in
set_option maxHeartbeats 1000000 in
theorem grow_bad (a : Int) (p : Option Addr) (n cap : Nat) (d : Nat → BitVec 8) (w : World) (hfr : frB a n = false) :
    Calls Tryd.prog 53 #[.agg #[.int .i64 a, .slice p n cap], .agg (A8 16 d)] w fun e w' => e = .returned (.tuple #[.agg #[.int .i64 0, .slice none 0 0], .int .i64 2]) ∧ Below w.heap.size w w' := by
  have hbx := box23 d
  have k0 := Blk.new (w) #[.int .i64 a, .slice p n cap] 94
  have k1 := Blk.new ((w).alloc (.cells #[.int .i64 a, .slice p n cap] 94)) (A8 16 d) 23
  rw [World.size_alloc] at k1
  replace k0 := k0.alloc (.cells (A8 16 d) 23)
  have k2 := Blk.new (((w).alloc (.cells #[.int .i64 a, .slice p n cap] 94)).alloc (.cells (A8 16 d) 23)) #[.int .i64 0, .slice none 0 0] 94
  rw [World.size_alloc, World.size_alloc] at k2
  replace k0 := k0.alloc (.cells #[.int .i64 0, .slice none 0 0] 94)
  replace k1 := k1.alloc (.cells #[.int .i64 0, .slice none 0 0] 94)
  have hB : Below w.heap.size w ((((w).alloc (.cells #[.int .i64 a, .slice p n cap] 94)).alloc (.cells (A8 16 d) 23)).alloc (.cells #[.int .i64 0, .slice none 0 0] 94)) := ((((Below.refl _ w).alloc (Nat.le_refl _) _).alloc (by simp) _).alloc (by simp; omega) _)
  obtain ⟨W0, hW0⟩ : ∃ W0, (((w).alloc (.cells #[.int .i64 a, .slice p n cap] 94)).alloc (.cells (A8 16 d) 23)).alloc (.cells #[.int .i64 0, .slice none 0 0] 94) = W0 := ⟨_, rfl⟩
  rw [hW0] at k0 k1 k2 hB
  go_enter Tryd.func53, Tryd.ntmps53
  go_upto_region 1 with (fail)
  try rw [hW0]
  clear hW0 hbx
  go_wp2_with (refine wp_loadRow rfl 94 _ rfl w.heap.size rfl k0 Tryd.underlying94 rfl size94 rfl ?_)
  refine (vfront_any _ _ _ _ _).mono ?_
  rintro e W1 ⟨rfl, hb⟩
  rw [hfr]
  replace k0 := k0.below hb k0.lt
  replace k1 := k1.below hb k1.lt
  replace k2 := k2.below hb k2.lt
  replace hB := hB.trans (hb.mono hB.size)
  clear hb hfr
  have q0 := k0.cell 0
  have c0 := k2.cell 0; have c1 := k2.cell 1; have g0 := k2.free 0; have g1 := k2.free 1
  go_wp2_with fail
  have kz := (k2.set 0 (.int .i64 0)).set 1 (.slice none 0 0)
  exact ret_row_tmp rfl (w.heap.size + 1 + 1) rfl rfl (run_loadVar_Blk kz Tryd.underlying94 rfl size94 rfl) rfl ⟨rfl, (hB.setCell (p := ⟨w.heap.size + 1 + 1, 0, none⟩) (by simp; omega) _).setCell (p := ⟨w.heap.size + 1 + 1, 1, none⟩) (by simp; omega) _⟩
set_option maxRecDepth 20000 in
set_option maxHeartbeats 1000000 in
theorem grow_lim (p : Option Addr) (n cap : Nat) (d : Nat → BitVec 8) (w : World) (hfr : frB 1099511627776 n = true) :
    Calls Tryd.prog 53 #[.agg #[.int .i64 1099511627776, .slice p n cap], .agg (A8 16 d)] w fun e w' => e = .returned (.tuple #[.agg #[.int .i64 0, .slice none 0 0], .int .i64 3]) ∧ Below w.heap.size w w' := by
  have hbx := box23 d
  have k0 := Blk.new (w) #[.int .i64 1099511627776, .slice p n cap] 94
  have k1 := Blk.new ((w).alloc (.cells #[.int .i64 1099511627776, .slice p n cap] 94)) (A8 16 d) 23
  rw [World.size_alloc] at k1
  replace k0 := k0.alloc (.cells (A8 16 d) 23)
  have k2 := Blk.new (((w).alloc (.cells #[.int .i64 1099511627776, .slice p n cap] 94)).alloc (.cells (A8 16 d) 23)) #[.int .i64 0, .slice none 0 0] 94
  rw [World.size_alloc, World.size_alloc] at k2
  replace k0 := k0.alloc (.cells #[.int .i64 0, .slice none 0 0] 94)
  replace k1 := k1.alloc (.cells #[.int .i64 0, .slice none 0 0] 94)
  have hB : Below w.heap.size w ((((w).alloc (.cells #[.int .i64 1099511627776, .slice p n cap] 94)).alloc (.cells (A8 16 d) 23)).alloc (.cells #[.int .i64 0, .slice none 0 0] 94)) := ((((Below.refl _ w).alloc (Nat.le_refl _) _).alloc (by simp) _).alloc (by simp; omega) _)
  obtain ⟨W0, hW0⟩ : ∃ W0, (((w).alloc (.cells #[.int .i64 1099511627776, .slice p n cap] 94)).alloc (.cells (A8 16 d) 23)).alloc (.cells #[.int .i64 0, .slice none 0 0] 94) = W0 := ⟨_, rfl⟩
  rw [hW0] at k0 k1 k2 hB
  go_enter Tryd.func53, Tryd.ntmps53
  go_upto_region 1 with (fail)
  try rw [hW0]
  clear hW0 hbx
  go_wp2_with (refine wp_loadRow rfl 94 _ rfl w.heap.size rfl k0 Tryd.underlying94 rfl size94 rfl ?_)
  refine (vfront_any _ _ _ _ _).mono ?_
  rintro e W1 ⟨rfl, hb⟩
  rw [hfr]
  replace k0 := k0.below hb k0.lt
  replace k1 := k1.below hb k1.lt
  replace k2 := k2.below hb k2.lt
  replace hB := hB.trans (hb.mono hB.size)
  clear hb hfr
  have q0 := k0.cell 0
  have c0 := k2.cell 0; have c1 := k2.cell 1; have g0 := k2.free 0; have g1 := k2.free 1
  go_wp2_with fail
  have kz := (k2.set 0 (.int .i64 0)).set 1 (.slice none 0 0)
  exact ret_row_tmp rfl (w.heap.size + 1 + 1) rfl rfl (run_loadVar_Blk kz Tryd.underlying94 rfl size94 rfl) rfl ⟨rfl, (hB.setCell (p := ⟨w.heap.size + 1 + 1, 0, none⟩) (by simp; omega) _).setCell (p := ⟨w.heap.size + 1 + 1, 1, none⟩) (by simp; omega) _⟩
set_option maxRecDepth 20000 in
set_option maxHeartbeats 1000000 in
theorem rgrow_bad (a : Int) (p : Option Addr) (n cap : Nat) (d : Nat → BitVec 8) (w : World) (hfr : frB a n = false) :
    Calls Tryd.prog 54 #[.agg #[.int .i64 a, .slice p n cap], .agg (A8 16 d)] w fun e w' => e = .returned (.agg #[.int .i64 0, .slice none 0 0, .int .i64 2]) ∧ Below w.heap.size w w' := by
  have hbx := box23 d
  have k0 := Blk.new (w) #[.int .i64 a, .slice p n cap] 94
  have k1 := Blk.new ((w).alloc (.cells #[.int .i64 a, .slice p n cap] 94)) (A8 16 d) 23
  rw [World.size_alloc] at k1
  replace k0 := k0.alloc (.cells (A8 16 d) 23)
  have k2 := Blk.new (((w).alloc (.cells #[.int .i64 a, .slice p n cap] 94)).alloc (.cells (A8 16 d) 23)) #[.int .i64 0, .slice none 0 0, .int .i64 0] 98
  rw [World.size_alloc, World.size_alloc] at k2
  replace k0 := k0.alloc (.cells #[.int .i64 0, .slice none 0 0, .int .i64 0] 98)
  replace k1 := k1.alloc (.cells #[.int .i64 0, .slice none 0 0, .int .i64 0] 98)
  have hB : Below w.heap.size w ((((w).alloc (.cells #[.int .i64 a, .slice p n cap] 94)).alloc (.cells (A8 16 d) 23)).alloc (.cells #[.int .i64 0, .slice none 0 0, .int .i64 0] 98)) := ((((Below.refl _ w).alloc (Nat.le_refl _) _).alloc (by simp) _).alloc (by simp; omega) _)
  obtain ⟨W0, hW0⟩ : ∃ W0, (((w).alloc (.cells #[.int .i64 a, .slice p n cap] 94)).alloc (.cells (A8 16 d) 23)).alloc (.cells #[.int .i64 0, .slice none 0 0, .int .i64 0] 98) = W0 := ⟨_, rfl⟩
  rw [hW0] at k0 k1 k2 hB
  go_enter Tryd.func54, Tryd.ntmps54
  go_upto_region 1 with (fail)
  try rw [hW0]
  clear hW0 hbx
  go_wp2_with (refine wp_loadRow rfl 94 _ rfl w.heap.size rfl k0 Tryd.underlying94 rfl size94 rfl ?_)
  refine (rsound_any _ _ _ _ _).mono ?_
  rintro e W1 ⟨rfl, hb⟩
  rw [hfr]
  replace k0 := k0.below hb k0.lt
  replace k1 := k1.below hb k1.lt
  replace k2 := k2.below hb k2.lt
  replace hB := hB.trans (hb.mono hB.size)
  clear hb hfr
  have q0 := k0.cell 0
  have c0 := k2.cell 0; have c1 := k2.cell 1; have g0 := k2.free 0; have g1 := k2.free 1
  have c2 := k2.cell 2; have g2 := k2.free 2
  go_wp2_with fail
  have kz := ((k2.set 0 (.int .i64 0)).set 1 (.slice none 0 0)).set 2 (.int .i64 2)
  exact ret_row rfl (w.heap.size + 1 + 1) rfl kz Tryd.underlying98 rfl size98 rfl rfl ⟨rfl, ((hB.setCell (p := ⟨w.heap.size + 1 + 1, 0, none⟩) (by simp; omega) _).setCell (p := ⟨w.heap.size + 1 + 1, 1, none⟩) (by simp; omega) _).setCell (p := ⟨w.heap.size + 1 + 1, 2, none⟩) (by simp; omega) _⟩
set_option maxRecDepth 20000 in
set_option maxHeartbeats 1000000 in
theorem rgrow_lim (p : Option Addr) (n cap : Nat) (d : Nat → BitVec 8) (w : World) (hfr : frB 1099511627776 n = true) :
    Calls Tryd.prog 54 #[.agg #[.int .i64 1099511627776, .slice p n cap], .agg (A8 16 d)] w fun e w' => e = .returned (.agg #[.int .i64 0, .slice none 0 0, .int .i64 3]) ∧ Below w.heap.size w w' := by
  have hbx := box23 d
  have k0 := Blk.new (w) #[.int .i64 1099511627776, .slice p n cap] 94
  have k1 := Blk.new ((w).alloc (.cells #[.int .i64 1099511627776, .slice p n cap] 94)) (A8 16 d) 23
  rw [World.size_alloc] at k1
  replace k0 := k0.alloc (.cells (A8 16 d) 23)
  have k2 := Blk.new (((w).alloc (.cells #[.int .i64 1099511627776, .slice p n cap] 94)).alloc (.cells (A8 16 d) 23)) #[.int .i64 0, .slice none 0 0, .int .i64 0] 98
  rw [World.size_alloc, World.size_alloc] at k2
  replace k0 := k0.alloc (.cells #[.int .i64 0, .slice none 0 0, .int .i64 0] 98)
  replace k1 := k1.alloc (.cells #[.int .i64 0, .slice none 0 0, .int .i64 0] 98)
  have hB : Below w.heap.size w ((((w).alloc (.cells #[.int .i64 1099511627776, .slice p n cap] 94)).alloc (.cells (A8 16 d) 23)).alloc (.cells #[.int .i64 0, .slice none 0 0, .int .i64 0] 98)) := ((((Below.refl _ w).alloc (Nat.le_refl _) _).alloc (by simp) _).alloc (by simp; omega) _)
  obtain ⟨W0, hW0⟩ : ∃ W0, (((w).alloc (.cells #[.int .i64 1099511627776, .slice p n cap] 94)).alloc (.cells (A8 16 d) 23)).alloc (.cells #[.int .i64 0, .slice none 0 0, .int .i64 0] 98) = W0 := ⟨_, rfl⟩
  rw [hW0] at k0 k1 k2 hB
  go_enter Tryd.func54, Tryd.ntmps54
  go_upto_region 1 with (fail)
  try rw [hW0]
  clear hW0 hbx
  go_wp2_with (refine wp_loadRow rfl 94 _ rfl w.heap.size rfl k0 Tryd.underlying94 rfl size94 rfl ?_)
  refine (rsound_any _ _ _ _ _).mono ?_
  rintro e W1 ⟨rfl, hb⟩
  rw [hfr]
  replace k0 := k0.below hb k0.lt
  replace k1 := k1.below hb k1.lt
  replace k2 := k2.below hb k2.lt
  replace hB := hB.trans (hb.mono hB.size)
  clear hb hfr
  have q0 := k0.cell 0
  have c0 := k2.cell 0; have c1 := k2.cell 1; have g0 := k2.free 0; have g1 := k2.free 1
  have c2 := k2.cell 2; have g2 := k2.free 2
  go_wp2_with fail
  have kz := ((k2.set 0 (.int .i64 0)).set 1 (.slice none 0 0)).set 2 (.int .i64 3)
  exact ret_row rfl (w.heap.size + 1 + 1) rfl kz Tryd.underlying98 rfl size98 rfl rfl ⟨rfl, ((hB.setCell (p := ⟨w.heap.size + 1 + 1, 0, none⟩) (by simp; omega) _).setCell (p := ⟨w.heap.size + 1 + 1, 1, none⟩) (by simp; omega) _).setCell (p := ⟨w.heap.size + 1 + 1, 2, none⟩) (by simp; omega) _⟩
set_option maxRecDepth 20000 in
set_option maxHeartbeats 1000000 in
theorem top_bad (a : Int) (p : Option Addr) (n cap : Nat) (w : World) (hfr : frB a n = false) :
    Calls Tryd.prog 55 #[.agg #[.int .i64 a, .slice p n cap]] w fun e w' => e = .returned (.tuple #[.agg (A8 16 fun _ => 0#8), .int .i64 2]) ∧ Below w.heap.size w w' := by
  have k0 := Blk.new (w) #[.int .i64 a, .slice p n cap] 94
  have k1 := Blk.new ((w).alloc (.cells #[.int .i64 a, .slice p n cap] 94)) (A8 16 fun _ => 0#8) 23
  rw [World.size_alloc] at k1
  replace k0 := k0.alloc (.cells (A8 16 fun _ => 0#8) 23)
  have hB : Below w.heap.size w (((w).alloc (.cells #[.int .i64 a, .slice p n cap] 94)).alloc (.cells (A8 16 fun _ => 0#8) 23)) := (((Below.refl _ w).alloc (Nat.le_refl _) _).alloc (by simp) _)
  obtain ⟨W0, hW0⟩ : ∃ W0, ((w).alloc (.cells #[.int .i64 a, .slice p n cap] 94)).alloc (.cells (A8 16 fun _ => 0#8) 23) = W0 := ⟨_, rfl⟩
  rw [hW0] at k0 k1 hB
  go_enter Tryd.func55, Tryd.ntmps55
  go_upto_region 1 with (fail)
  try rw [hW0]
  clear hW0
  go_wp2_with (refine wp_loadRow rfl 94 _ rfl w.heap.size rfl k0 Tryd.underlying94 rfl size94 rfl ?_)
  refine (vfront_any _ _ _ _ _).mono ?_
  rintro e W1 ⟨rfl, hb⟩
  rw [hfr]
  replace k0 := k0.below hb k0.lt
  replace k1 := k1.below hb k1.lt
  replace hB := hB.trans (hb.mono hB.size)
  clear hb hfr
  go_wp2_with (first | (refine wp_buildL rfl 23 #[] rfl #[] rfl (.agg (A8 16 fun _ => 0#8)) build23z ?_) | (refine wp_storeRow (C' := A8 16 fun _ => 0#8) rfl 23 _ _ rfl _ rfl rfl k1 size23 (A8.size _ _) (A8.size _ _) (A8.one _) rfl ?_; intro W4 hu k9))
  exact ret_row_tmp rfl (w.heap.size + 1) rfl rfl (run_loadVar_Blk k9 Tryd.underlying23 rfl size23 (A8.size _ _)) rfl ⟨rfl, hu.below hB (Nat.le_succ _)⟩
set_option maxRecDepth 20000 in
set_option maxHeartbeats 1000000 in
theorem rtop_bad (a : Int) (p : Option Addr) (n cap : Nat) (w : World) (hfr : frB a n = false) :
    Calls Tryd.prog 56 #[.agg #[.int .i64 a, .slice p n cap]] w fun e w' => e = .returned (.agg (digC (fun _ => 0#8) 2)) ∧ Below w.heap.size w w' := by
  have k0 := Blk.new (w) #[.int .i64 a, .slice p n cap] 94
  have k1 := Blk.new ((w).alloc (.cells #[.int .i64 a, .slice p n cap] 94)) (digC (fun _ => 0#8) 0) 29
  rw [World.size_alloc] at k1
  replace k0 := k0.alloc (.cells (digC (fun _ => 0#8) 0) 29)
  have hB : Below w.heap.size w (((w).alloc (.cells #[.int .i64 a, .slice p n cap] 94)).alloc (.cells (digC (fun _ => 0#8) 0) 29)) := (((Below.refl _ w).alloc (Nat.le_refl _) _).alloc (by simp) _)
  obtain ⟨W0, hW0⟩ : ∃ W0, ((w).alloc (.cells #[.int .i64 a, .slice p n cap] 94)).alloc (.cells (digC (fun _ => 0#8) 0) 29) = W0 := ⟨_, rfl⟩
  rw [hW0] at k0 k1 hB
  go_enter Tryd.func56, Tryd.ntmps56
  go_upto_region 1 with (fail)
  try rw [hW0]
  clear hW0
  go_wp2_with (refine wp_loadRow rfl 94 _ rfl w.heap.size rfl k0 Tryd.underlying94 rfl size94 rfl ?_)
  refine (rsound_any _ _ _ _ _).mono ?_
  rintro e W1 ⟨rfl, hb⟩
  rw [hfr]
  replace k0 := k0.below hb k0.lt
  replace k1 := k1.below hb k1.lt
  replace hB := hB.trans (hb.mono hB.size)
  clear hb hfr
  go_upto_region 2 with (fail)
  apply wp_region_lit
  refine wp_buildL rfl 29 #[(1, .const (.int .i64 2))] rfl #[(1, .int .i64 2)] rfl (.agg (digC (fun _ => 0#8) 2)) build29e ?_
  go_wp2_with (refine wp_storeRow (C' := digC (fun _ => 0#8) 2) rfl 29 _ _ rfl _ rfl rfl k1 size29 (digC_size _ _) (digC_size _ _) (digC_one _ _) rfl ?_; intro W4 hu k9)
  exact ret_row rfl (w.heap.size + 1) rfl k9 Tryd.underlying29 rfl size29 (digC_size _ _) rfl ⟨rfl, hu.below hB (Nat.le_succ _)⟩
end Go.Proofs.YtdpgebifeaakjaaDoor
