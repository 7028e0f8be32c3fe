/- The walk of DigestHexes: true. -/
import Derived.Test.YtdpgebifeaakjaaDoorHP
import Derived.Test.YtdpgebifeaakjaaDoorSN
namespace Go.Proofs.YtdpgebifeaakjaaDoor
set_option linter.unusedSimpArgs false
set_option linter.unusedVariables false
open Go.RowKit

set_option maxRecDepth 100000 in
set_option maxHeartbeats 400000 in
theorem hexes_any (d : Nat → BitVec 8) {s : ByteArray} (hs : s.size ≤ maxLen) (w : World) (hT : TabAt 3 Lib.deBruijn64tab w) (h3 : 3 < w.heap.size) :
    Calls Tryd.prog 3 #[.agg (A8 16 d), .string s] w fun e w' => e = .returned (.bool true) ∧ Below w.heap.size w w' := by
  unfold maxLen at hs
  have hbx := box23 d
  have hlong : (3000 : Int) < (s.size : Int) ∨ ¬ (3000 : Int) < (s.size : Int) := by omega
  have hB0 : Below w.heap.size w (w.alloc (.cells (A8 16 d) 23)) := (Below.refl _ _).alloc (Nat.le_refl _) _
  have k1 := Blk.new w (A8 16 d) 23
  rcases hlong with h | h
  · go_enter Tryd.func3, Tryd.ntmps3
    go_wp2_with fail
    refine (sane_any _ (tabC hT h3 hB0) (Nat.lt_of_lt_of_le h3 hB0.size)).mono ?_
    rintro e w' ⟨rfl, hB⟩
    go_wp2_with fail
    go_ret
    exact ⟨rfl, hB0.trans (hB.mono hB0.size)⟩
  · go_enter Tryd.func3, Tryd.ntmps3
    go_wp2_with fail
    have cu := unhex_any s hs
    have cr := runhex_any s hs
    rw [unhexV_eq] at cu
    rw [unhexC_eq] at cr
    generalize unhexD s = D at cu cr
    generalize unhexE s = E at cu cr
    refine (cu _).mono ?_
    rintro e W1 ⟨rfl, hB1⟩
    have hB2 := (hB0.trans (hB1.mono hB0.size))
    have l1 := (k1.below hB1 k1.lt).lt
    replace k1 := (k1.below hB1 k1.lt).alloc (.cells (A8 16 fun _ => 0#8) 23)
    have k2 := Blk.new W1 (A8 16 fun _ => 0#8) 23
    replace hB2 := hB2.alloc (by omega) (.cells (A8 16 fun _ => 0#8) 23)
    clear hB0 hB1 cu hbx
    go_wp2_with (refine wp_storeRow (C' := A8 16 D) rfl 23 _ _ rfl _ rfl rfl k2 size23 (A8.size _ _) (A8.size _ _) (A8.one _) rfl ?_; intro W2 hu k2')
    have l2 : W1.heap.size < W2.heap.size := k2'.lt
    replace k1 := k1.upd hu (by omega)
    replace hB2 := hu.below hB2 (by omega)
    clear hu k2
    refine (cr _).mono ?_
    rintro e W3 ⟨rfl, hB1⟩
    replace hB2 := hB2.trans (hB1.mono hB2.size)
    replace k1 := k1.below hB1 k1.lt
    replace k2' := k2'.below hB1 k2'.lt
    have l3 := k2'.lt
    replace k1 := k1.alloc (.cells (digC (fun _ => 0#8) 0) 29)
    replace k2' := k2'.alloc (.cells (digC (fun _ => 0#8) 0) 29)
    have k3 := Blk.new W3 (digC (fun _ => 0#8) 0) 29
    replace hB2 := hB2.alloc (by omega) (.cells (digC (fun _ => 0#8) 0) 29)
    clear hB1 cr
    go_wp2_with (first | (refine wp_storeRow (C' := digC D E) rfl 29 _ _ rfl _ rfl rfl k3 size29 (digC_size _ _) (digC_size _ _) (digC_one _ _) rfl ?_; intro W4 hu k3') | (refine wp_loadRow (C := A8 16 d) rfl 23 _ rfl w.heap.size rfl (k1.upd hu (by omega)) Tryd.underlying23 rfl size23 (A8.size _ _) ?_))
    have l4 : W3.heap.size < W4.heap.size := k3'.lt
    replace k1 := k1.upd hu (by omega)
    replace k2' := k2'.upd hu (by omega)
    replace hB2 := hu.below hB2 (by omega)
    clear hu k3
    have ch := hex_any d
    have rh := rhex_any d
    have cu2 := unhex_any (strOf (hexList d)) (by rw [size_strOf]; simp [hexList])
    rw [unhexV_hex] at cu2
    generalize strOf (hexList d) = H at ch rh cu2
    refine (ch _).mono ?_
    rintro e W5 ⟨rfl, hB1⟩
    replace hB2 := hB2.trans (hB1.mono hB2.size)
    replace k1 := k1.below hB1 k1.lt
    replace k2' := k2'.below hB1 k2'.lt
    replace k3' := k3'.below hB1 k3'.lt
    clear hB1
    go_wp2_with fail
    refine (cu2 _).mono ?_
    rintro e W6 ⟨rfl, hB1⟩
    replace hB2 := hB2.trans (hB1.mono hB2.size)
    replace k1 := (k1.below hB1 k1.lt)
    replace k2' := (k2'.below hB1 k2'.lt)
    replace k3' := (k3'.below hB1 k3'.lt)
    have l6 := k3'.lt
    replace k1 := k1.alloc (.cells (A8 16 fun _ => 0#8) 23)
    replace k2' := k2'.alloc (.cells (A8 16 fun _ => 0#8) 23)
    replace k3' := k3'.alloc (.cells (A8 16 fun _ => 0#8) 23)
    have k4 := Blk.new W6 (A8 16 fun _ => 0#8) 23
    replace hB2 := hB2.alloc (by omega) (.cells (A8 16 fun _ => 0#8) 23)
    clear hB1 cu2
    go_wp2_with (refine wp_storeRow (C' := A8 16 d) rfl 23 _ _ rfl _ rfl rfl k4 size23 (A8.size _ _) (A8.size _ _) (A8.one _) rfl ?_; intro W7 hu k4')
    replace k1 := k1.upd hu (by omega)
    replace k2' := k2'.upd hu (by omega)
    replace k3' := k3'.upd hu (by omega)
    replace hB2 := hu.below hB2 (by omega)
    clear hu k4
    have r1 := k1.rangeAt 0 16 (fun i => U8 (d i)) (by omega) (fun j hj => by rw [Nat.zero_add])
    have r2 := k2'.rangeAt 0 16 (fun i => U8 (D i)) (by omega) (fun j hj => by rw [Nat.zero_add])
    have r3 := k3'.rangeAt 0 16 (fun i => U8 (D i)) (by omega) (fun j hj => by rw [Nat.zero_add, if_pos hj])
    have r4 := k4'.rangeAt 0 16 (fun i => U8 (d i)) (by omega) (fun j hj => by rw [Nat.zero_add])
    have c5 := k3'.cell 16
    rw [digC, Row.get _ (by omega), if_neg (by omega)] at c5
    have cs := sane_any W7.drew (tabC hT h3 hB2.drew) (Nat.lt_of_lt_of_le h3 hB2.size)
    have heqd := eql_same (P := Tryd.prog) Tryd.underlying23 size5 Tryd.isAgg5 Tryd.underlying5 d
    have heqD := eql_same (P := Tryd.prog) Tryd.underlying23 size5 Tryd.isAgg5 Tryd.underlying5 D
    clear k1 k2' k3' k4'
    refine wp_region_held_drew (S := fun w' => Below w.heap.size w w' ∧ w'.rangeAt w.heap.size 0 (A8 16 d).toList ∧ w'.rangeAt W1.heap.size 0 (A8 16 D).toList ∧ w'.rangeAt W3.heap.size 0 (A8 16 D).toList ∧ w'.rangeAt W6.heap.size 0 (A8 16 d).toList ∧ w'.cell? ⟨W3.heap.size, 16, none⟩ = some (.int .i64 E)) (by kernel_rfl) (⟨hB2.drew, r1, r2, r3, r4, c5⟩) (fun hS => ?_)
    refine wpAnyH_ready (rs := [0]) (by kernel_rfl) (by simp) ?_
    refine AllReadyH.cons rfl (fun K hK => ?_) AllReadyH.nil
    go_simp
    refine cs.mono ?_
    rintro e X1 ⟨rfl, hb⟩
    refine hK.out _ _ (keep6 hS hb) (fun hS => ?_)
    clear hK K
    try simp only [Act.put, List.setIfInBounds_toArray, List.set_cons_zero, List.set_cons_succ]
    refine take_at (i := 1) 28 (.bool true) rfl rfl (by kernel_rfl) (by kernel_rfl) (by kernel_rfl) (fun _ _ _ h => h) (Or.inl ⟨by rfl, fun W hW => by go_simp⟩) hS ?_
    simp only [List.setIfInBounds_toArray, List.set_cons_zero, List.set_cons_succ]
    refine take_at (i := 2) 29 (.agg (A8 16 D)) rfl rfl (by kernel_rfl) (by kernel_rfl) (by kernel_rfl) (fun _ _ _ h => h) (Or.inl ⟨by rfl, fun W hW => exec_load_range _ 23 _ rfl W1.heap.size 0 rfl hW.2.2.1 Tryd.underlying23 rfl size23 (A8.size _ _)⟩) hS ?_
    simp only [List.setIfInBounds_toArray, List.set_cons_zero, List.set_cons_succ]
    refine take_at (i := 3) 30 (.pointer (some ⟨W3.heap.size, 0, none⟩)) rfl rfl (by kernel_rfl) (by kernel_rfl) (by kernel_rfl) (fun _ _ _ h => h) (Or.inl ⟨by rfl, fun W hW => by go_simp⟩) hS ?_
    simp only [List.setIfInBounds_toArray, List.set_cons_zero, List.set_cons_succ]
    refine take_at (i := 4) 31 (.agg (A8 16 D)) rfl rfl (by kernel_rfl) (by kernel_rfl) (by kernel_rfl) (fun _ _ _ h => h) (Or.inl ⟨by rfl, fun W hW => exec_load_range _ 23 _ rfl W3.heap.size 0 rfl hW.2.2.2.1 Tryd.underlying23 rfl size23 (A8.size _ _)⟩) hS ?_
    simp only [List.setIfInBounds_toArray, List.set_cons_zero, List.set_cons_succ]
    refine take_at (i := 5) 32 (.bool true) rfl rfl (by kernel_rfl) (by kernel_rfl) (by kernel_rfl) (fun _ _ _ h => h) (Or.inl ⟨by rfl, fun W hW => by go_simp⟩) hS ?_
    simp only [List.setIfInBounds_toArray, List.set_cons_zero, List.set_cons_succ]
    refine take_at (i := 6) 33 (.bool true) rfl rfl (by kernel_rfl) (by kernel_rfl) (by kernel_rfl) (fun _ _ _ h => h) (Or.inl ⟨by rfl, fun W hW => by go_simp⟩) hS ?_
    simp only [List.setIfInBounds_toArray, List.set_cons_zero, List.set_cons_succ]
    refine take_at (i := 7) 34 (.bool true) rfl rfl (by kernel_rfl) (by kernel_rfl) (by kernel_rfl) (fun _ _ _ h => h) (Or.inl ⟨by rfl, fun W hW => by go_simp⟩) hS ?_
    simp only [List.setIfInBounds_toArray, List.set_cons_zero, List.set_cons_succ]
    refine take_at (i := 8) 35 (.int .i64 E) rfl rfl (by kernel_rfl) (by kernel_rfl) (by kernel_rfl) (fun _ _ _ h => h) (Or.inl ⟨by rfl, fun W hW => by go_simp⟩) hS ?_
    simp only [List.setIfInBounds_toArray, List.set_cons_zero, List.set_cons_succ]
    refine take_at (i := 9) 36 (.pointer (some ⟨W3.heap.size, 16, none⟩)) rfl rfl (by kernel_rfl) (by kernel_rfl) (by kernel_rfl) (fun _ _ _ h => h) (Or.inl ⟨by rfl, fun W hW => by go_simp⟩) hS ?_
    simp only [List.setIfInBounds_toArray, List.set_cons_zero, List.set_cons_succ]
    refine take_at (i := 10) 37 (.int .i64 E) rfl rfl (by kernel_rfl) (by kernel_rfl) (by kernel_rfl) (fun _ _ _ h => h) (Or.inl ⟨by rfl, fun W hW => by have hc := hW.2.2.2.2.2; go_simp⟩) hS ?_
    simp only [List.setIfInBounds_toArray, List.set_cons_zero, List.set_cons_succ]
    refine take_at (i := 11) 38 (.bool true) rfl rfl (by kernel_rfl) (by kernel_rfl) (by kernel_rfl) (fun _ _ _ h => h) (Or.inl ⟨by rfl, fun W hW => by go_simp⟩) hS ?_
    simp only [List.setIfInBounds_toArray, List.set_cons_zero, List.set_cons_succ]
    refine take_at (i := 12) 39 (.bool true) rfl rfl (by kernel_rfl) (by kernel_rfl) (by kernel_rfl) (fun _ _ _ h => h) (Or.inl ⟨by rfl, fun W hW => by go_simp⟩) hS ?_
    simp only [List.setIfInBounds_toArray, List.set_cons_zero, List.set_cons_succ]
    refine take_at (i := 13) 40 (.bool true) rfl rfl (by kernel_rfl) (by kernel_rfl) (by kernel_rfl) (fun _ _ _ h => h) (Or.inl ⟨by rfl, fun W hW => by go_simp⟩) hS ?_
    simp only [List.setIfInBounds_toArray, List.set_cons_zero, List.set_cons_succ]
    refine take_at (i := 14) 41 (.agg (A8 16 d)) rfl rfl (by kernel_rfl) (by kernel_rfl) (by kernel_rfl) (fun _ _ _ h => h) (Or.inl ⟨by rfl, fun W hW => exec_load_range _ 23 _ rfl W6.heap.size 0 rfl hW.2.2.2.2.1 Tryd.underlying23 rfl size23 (A8.size _ _)⟩) hS ?_
    simp only [List.setIfInBounds_toArray, List.set_cons_zero, List.set_cons_succ]
    refine take_at (i := 15) 42 (.agg (A8 16 d)) rfl rfl (by kernel_rfl) (by kernel_rfl) (by kernel_rfl) (fun _ _ _ h => h) (Or.inl ⟨by rfl, fun W hW => exec_load_range _ 23 _ rfl w.heap.size 0 rfl hW.2.1 Tryd.underlying23 rfl size23 (A8.size _ _)⟩) hS ?_
    simp only [List.setIfInBounds_toArray, List.set_cons_zero, List.set_cons_succ]
    refine take_at (i := 16) 43 (.bool true) rfl rfl (by kernel_rfl) (by kernel_rfl) (by kernel_rfl) (fun _ _ _ h => h) (Or.inl ⟨by rfl, fun W hW => by go_simp⟩) hS ?_
    simp only [List.setIfInBounds_toArray, List.set_cons_zero, List.set_cons_succ]
    refine take_at (i := 17) 44 (.bool true) rfl rfl (by kernel_rfl) (by kernel_rfl) (by kernel_rfl) (fun _ _ _ h => h) (Or.inl ⟨by rfl, fun W hW => by go_simp⟩) hS ?_
    simp only [List.setIfInBounds_toArray, List.set_cons_zero, List.set_cons_succ]
    refine take_at (i := 18) 45 (.bool true) rfl rfl (by kernel_rfl) (by kernel_rfl) (by kernel_rfl) (fun _ _ _ h => h) (Or.inl ⟨by rfl, fun W hW => by go_simp⟩) hS ?_
    simp only [List.setIfInBounds_toArray, List.set_cons_zero, List.set_cons_succ]
    refine take_at (i := 19) 46 (.int .i64 0) rfl rfl (by kernel_rfl) (by kernel_rfl) (by kernel_rfl) (fun _ _ _ h => h) (Or.inl ⟨by rfl, fun W hW => by go_simp⟩) hS ?_
    simp only [List.setIfInBounds_toArray, List.set_cons_zero, List.set_cons_succ]
    refine take_at (i := 20) 47 (.bool true) rfl rfl (by kernel_rfl) (by kernel_rfl) (by kernel_rfl) (fun _ _ _ h => h) (Or.inl ⟨by rfl, fun W hW => by go_simp⟩) hS ?_
    simp only [List.setIfInBounds_toArray, List.set_cons_zero, List.set_cons_succ]
    refine take_at (i := 21) 48 (.bool true) rfl rfl (by kernel_rfl) (by kernel_rfl) (by kernel_rfl) (fun _ _ _ h => h) (Or.inl ⟨by rfl, fun W hW => by go_simp⟩) hS ?_
    simp only [List.setIfInBounds_toArray, List.set_cons_zero, List.set_cons_succ]
    refine take_at (i := 22) 49 (.bool true) rfl rfl (by kernel_rfl) (by kernel_rfl) (by kernel_rfl) (fun _ _ _ h => h) (Or.inl ⟨by rfl, fun W hW => by go_simp⟩) hS ?_
    simp only [List.setIfInBounds_toArray, List.set_cons_zero, List.set_cons_succ]
    refine take_at (i := 23) 50 (.agg (A8 16 d)) rfl rfl (by kernel_rfl) (by kernel_rfl) (by kernel_rfl) (fun _ _ _ h => h) (Or.inl ⟨by rfl, fun W hW => exec_load_range _ 23 _ rfl w.heap.size 0 rfl hW.2.1 Tryd.underlying23 rfl size23 (A8.size _ _)⟩) hS ?_
    simp only [List.setIfInBounds_toArray, List.set_cons_zero, List.set_cons_succ]
    refine take_at (i := 25) 52 (.agg (A8 16 d)) rfl rfl (by kernel_rfl) (by kernel_rfl) (by kernel_rfl) (fun _ _ _ h => h) (Or.inl ⟨by rfl, fun W hW => exec_load_range _ 23 _ rfl w.heap.size 0 rfl hW.2.1 Tryd.underlying23 rfl size23 (A8.size _ _)⟩) hS ?_
    simp only [List.setIfInBounds_toArray, List.set_cons_zero, List.set_cons_succ]
    refine wpAnyH_ready (rs := [24]) (by kernel_rfl) (by simp) ?_
    refine AllReadyH.cons rfl (fun K hK => ?_) AllReadyH.nil
    go_simp
    refine (ch _).mono ?_
    rintro e X2 ⟨rfl, hb⟩
    refine hK.out _ _ (keep6 hS hb) (fun hS => ?_)
    clear hK K
    try simp only [Act.put, List.setIfInBounds_toArray, List.set_cons_zero, List.set_cons_succ]
    refine wpAnyH_ready (rs := [26]) (by kernel_rfl) (by simp) ?_
    refine AllReadyH.cons rfl (fun K hK => ?_) AllReadyH.nil
    go_simp
    refine (rh _).mono ?_
    rintro e X3 ⟨rfl, hb⟩
    refine hK.out _ _ (keep6 hS hb) (fun hS => ?_)
    clear hK K
    try simp only [Act.put, List.setIfInBounds_toArray, List.set_cons_zero, List.set_cons_succ]
    refine take_at (i := 27) 54 (.bool true) rfl rfl (by kernel_rfl) (by kernel_rfl) (by kernel_rfl) (fun _ _ _ h => h) (Or.inl ⟨by rfl, fun W hW => by go_simp⟩) hS ?_
    simp only [List.setIfInBounds_toArray, List.set_cons_zero, List.set_cons_succ]
    refine take_at (i := 28) 55 (.bool true) rfl rfl (by kernel_rfl) (by kernel_rfl) (by kernel_rfl) (fun _ _ _ h => h) (Or.inl ⟨by rfl, fun W hW => by go_simp⟩) hS ?_
    simp only [List.setIfInBounds_toArray, List.set_cons_zero, List.set_cons_succ]
    refine take_at (i := 29) 4 (.bool true) rfl rfl (by kernel_rfl) (by kernel_rfl) (by kernel_rfl) (fun _ _ _ h => h) (Or.inl ⟨by rfl, fun W hW => by go_simp⟩) hS ?_
    simp only [List.setIfInBounds_toArray, List.set_cons_zero, List.set_cons_succ]
    refine wpAnyH_done (by kernel_rfl) ?_ _
    go_wp2_with fail
    go_ret
    exact ⟨rfl, hS.1⟩
end Go.Proofs.YtdpgebifeaakjaaDoor
