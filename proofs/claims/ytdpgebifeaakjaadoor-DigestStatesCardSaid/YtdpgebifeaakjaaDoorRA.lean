/- The walk of the specification's Add. -/
import Derived.Test.YtdpgebifeaakjaaDoorRA0
namespace Go.Proofs.YtdpgebifeaakjaaDoor
set_option linter.unusedSimpArgs false
set_option linter.unusedVariables false
open Go.RowKit

theorem rangeAt_A32 {W : World} {B n : Nat} {f : Nat → BitVec 32} {E : TypeId} (h : Blk W B (A32 n f) E) : W.rangeAt B 0 (A32 n f).toList :=
  Blk.rangeAt (n := n) h 0 n _ (by omega) (fun j hj => by rw [Nat.zero_add])

set_option maxRecDepth 20000 in
set_option maxHeartbeats 2000000 in
theorem radd_any (h : Nat → BitVec 32) (rest : ByteArray) (len : Int) (hr : rest.size ≤ maxLen) (s : ByteArray) (hs : s.size ≤ 4611686018427387903) (w : World) (hKK : KAt w) :
    Calls Tryd.prog 39 #[.agg (stG h rest len), .string s] w fun e w' => e = .returned (.agg (stE (addS h rest len s).1 (addS h rest len s).2.1 (addS h rest len s).2.2.1 (addS h rest len s).2.2.2)) ∧ Below w.heap.size w w' := by
  have hw0 := hKK.pos
  have hbx := box63g h rest len
  have hV := fun w => rvalid_any h rest len hr w
  have hn := (Blk.new w (stG h rest len) 63).alloc (.cells (stE (fun _ => 0#32) ByteArray.empty 0 0) 67)
  have ho := Blk.new (w.alloc (.cells (stG h rest len) 63)) (stE (fun _ => 0#32) ByteArray.empty 0 0) 67
  have hB : Below w.heap.size w ((w.alloc (.cells (stG h rest len) 63)).alloc (.cells (stE (fun _ => 0#32) ByteArray.empty 0 0) 67)) := ((Below.refl _ _).alloc (Nat.le_refl _) _).alloc (by simp) _
  rw [World.size_alloc] at ho
  go_enter Tryd.func39, Tryd.ntmps39
  go_wp2_with (refine wp_loadRow rfl 63 _ rfl w.heap.size rfl hn Tryd.underlying63 rfl size63 (stG.size _ _ _) ?_)
  refine (hV _).mono ?_
  rintro e W ⟨rfl, hB1⟩
  have hn1 := hn.below hB1 hn.lt
  have ho1 := ho.below hB1 ho.lt
  have hBb := hB.trans (hB1.mono hB.size)
  clear hn ho hB hB1
  by_cases hv : validB rest len = true
  · obtain ⟨g0, g1, g2⟩ := validB_facts hv
    have hrs : rest.size < 64 := by omega
    have h9 := hn1.cell 9
    rw [stG.len] at h9
    have hwl : IntKind.i64.wrap (1099511627776 - len) = 1099511627776 - len := IntWalk.i64_in _ (by omega)
    by_cases hl : (s.size : Int) ≤ 1099511627776 - len
    · have h8 := hn1.cell 8
      rw [stG.rest] at h8
      have hsum := fun w : World => run_string_add_sum (P := Tryd.prog) w rest s (by omega)
      obtain ⟨L, hL⟩ : ∃ L, bts rest ++ bts s = L := ⟨_, rfl⟩
      have hX0 : bts (rest ++ s) = L := by rw [bts_append, hL]
      have hXs0 : (rest ++ s).size ≤ 1099511627840 := by rw [ByteArray.size_append]; omega
      obtain ⟨X, hXe⟩ : ∃ X, rest ++ s = X := ⟨_, rfl⟩
      rw [hXe] at hX0 hXs0 hsum
      have HXS := hide hXs0
      have hlen : L.length = X.size := by rw [← hX0, bts_length]
      have HX := hide hX0
      have HL := hide hL
      clear hX0 hXs0 hXe hL
      have hH : (Row 8 fun i => (fun i => if i < 8 then U32 (h i) else if i = 8 then .string rest else .int .i64 len) (0 + i)) = A32 8 h := Row.ext fun i hi => by
        dsimp only; rw [Nat.zero_add, if_pos hi]
      have hf1 := ho1.lt
      go_wp2_with (first
        | (refine wp_loadMid rfl 61 _ rfl w.heap.size 0 rfl hn1 Tryd.underlying61 rfl size61 (by omega) hH ?_)
        | (refine wp_storeRow (C' := A32 8 h) rfl 61 _ _ rfl _ rfl rfl (Blk.new _ _ _) size61 (A32.size _ _) (A32.size _ _) (A32.one _) rfl ?_; intro W1 hu1 k1))
      replace hn1 := (hn1.alloc (.cells (A32 8 fun _ => 0#32) 61)).upd hu1 (by omega)
      replace ho1 := (ho1.alloc (.cells (A32 8 fun _ => 0#32) 61)).upd hu1 (by omega)
      replace hB := hu1.below (hBb.alloc hBb.size (.cells (A32 8 fun _ => 0#32) 61)) hBb.size
      obtain ⟨B, hBe⟩ : ∃ B, W.heap.size = B := ⟨_, rfl⟩
      rw [hBe] at k1 hf1 ⊢
      clear hBe hu1 hBb h8 h9 hsum hwl
      go_loopw [7] (fun s7 W => ∃ n : Nat, 64 * n ≤ X.size ∧ s7 = .int .i64 (64 * (n : Int)) ∧ Blk W w.heap.size (stG h rest len) 63 ∧ Blk W (w.heap.size + 1) (stE (fun _ => 0#32) ByteArray.empty 0 0) 67 ∧ Blk W B (A32 8 (shaFold roundK h L n)) 61 ∧ Below w.heap.size w W) (fun s7 _ => X.size - (intOf s7).toNat)
      case atStart => exact ⟨0, by omega, rfl, hn1, ho1, k1, hB⟩
      case round =>
        clear hn1 ho1 k1 hB
        obtain ⟨n, hnl, rfl, hn1, ho1, k1, hB⟩ := hrel
        have hXl := HXS.out
        have hw0' : IntKind.i64.wrap ((X.size : Int) - 64 * (n : Int)) = (X.size : Int) - 64 * (n : Int) := IntWalk.i64_in _ (by omega)
        have hw1' : IntKind.i64.wrap (64 * (n : Int) + 64) = 64 * (n : Int) + 64 := IntWalk.i64_in _ (by omega)
        by_cases h64 : 64 * n + 64 ≤ X.size
        · have h641 : (64 : Int) ≤ (X.size : Int) - 64 * (n : Int) := by omega
          have hp0 : (0 : Int) ≤ 64 * (n : Int) := by omega
          have hp1 : 64 * (n : Int) + 64 ≤ (X.size : Int) := by omega
          have hp3 : ¬ (64 * (n : Int) + 64 < 64 * (n : Int)) := by omega
          have hp2 : (0 : Int) ≤ 64 * (n : Int) + 64 := by omega
          have hq1 : (64 * (n : Int)).toNat = 64 * n := by omega
          have hq2 : (64 * (n : Int) + 64).toNat = 64 * n + 64 := by omega
          have hfold : shaBlock roundK (shaFold roundK h L n) (bts (X.extract (64 * n) (64 * n + 64))) = shaFold roundK h L (n + 1) := by
            rw [shaFold, bts_extract, HX.out, show 64 * n + 64 - 64 * n = 64 by omega]
          have cb : ∀ w, KAt w → Calls Tryd.prog 73 #[.agg (A32 8 (shaFold roundK h L n)), .string (X.extract (64 * n) (64 * n + 64))] w fun e w' => e = .returned (.agg (A32 8 (shaFold roundK h L (n + 1)))) ∧ Below w.heap.size w w' := fun w hk => by
            have hh := rblock_any (shaFold roundK h L n) (X.extract (64 * n) (64 * n + 64)) (by rw [ByteArray.size_extract]; omega) w hk
            rw [hfold] at hh
            exact hh
          clear hfold
          go_wp2_with fail
          refine wp_region_held_drew (S := fun w' => Below w.heap.size w w' ∧ Blk w' w.heap.size (stG h rest len) 63 ∧ Blk w' (w.heap.size + 1) (stE (fun _ => 0#32) ByteArray.empty 0 0) 67) (by kernel_rfl) (⟨hB.drew, hn1.drew, ho1.drew⟩) (fun hS => ?_)
          refine take_at (i := 1) 31 (.string X) rfl rfl (by kernel_rfl) (by kernel_rfl) (by kernel_rfl) (fun _ _ _ h => h) (Or.inl ⟨by rfl, fun W hW => by go_simp⟩) hS ?_
          simp only [List.setIfInBounds_toArray, List.set_cons_zero, List.set_cons_succ]
          refine take_at (i := 2) 32 (.int .i64 (64 * (n : Int))) rfl rfl (by kernel_rfl) (by kernel_rfl) (by kernel_rfl) (fun _ _ _ h => h) (Or.inl ⟨by rfl, fun W hW => by go_simp⟩) hS ?_
          simp only [List.setIfInBounds_toArray, List.set_cons_zero, List.set_cons_succ]
          refine take_at (i := 3) 33 (.int .i64 (64 * (n : Int))) rfl rfl (by kernel_rfl) (by kernel_rfl) (by kernel_rfl) (fun _ _ _ h => h) (Or.inl ⟨by rfl, fun W hW => by go_simp⟩) hS ?_
          simp only [List.setIfInBounds_toArray, List.set_cons_zero, List.set_cons_succ]
          refine take_at (i := 4) 34 (.int .i64 (64 * (n : Int) + 64)) rfl rfl (by kernel_rfl) (by kernel_rfl) (by kernel_rfl) (fun _ _ _ h => h) (Or.inl ⟨by rfl, fun W hW => by go_simp⟩) hS ?_
          simp only [List.setIfInBounds_toArray, List.set_cons_zero, List.set_cons_succ]
          refine take_at (i := 5) 35 (.string (X.extract (64 * n) (64 * n + 64))) rfl rfl (by kernel_rfl) (by kernel_rfl) (by kernel_rfl) (fun _ _ _ h => h) (Or.inl ⟨by rfl, fun W hW => by go_simp⟩) hS ?_
          simp only [List.setIfInBounds_toArray, List.set_cons_zero, List.set_cons_succ]
          refine wpAnyH_ready (rs := [0]) (by kernel_rfl) (by simp) ?_
          refine AllReadyH.cons rfl (fun K hK => ?_) AllReadyH.nil
          rw [if_pos (by rfl)]
          refine wpo_loadRow 61 (.tmp 6) rfl B rfl (run_loadVar_Blk k1.drew Tryd.underlying61 rfl size61 (A32.size _ _)) ?_
          refine hK.out _ _ (hS) (fun hS => ?_)
          clear hK K
          try simp only [Act.put, List.setIfInBounds_toArray, List.set_cons_zero, List.set_cons_succ]
          refine wpAnyH_ready (rs := [6]) (by kernel_rfl) (by simp) ?_
          refine AllReadyH.cons rfl (fun K hK => ?_) AllReadyH.nil
          go_simp
          refine (cb _ (hKK.below hw0 hS.1)).mono ?_
          rintro e X2 ⟨rfl, hb⟩
          refine hK.out _ _ (⟨hS.1.trans (hb.mono hS.1.size), hS.2.1.below hb hS.2.1.lt, hS.2.2.below hb hS.2.2.lt⟩) (fun hS => ?_)
          clear hK K
          have k2 := k1.drew.below hb k1.drew.lt
          try simp only [Act.put, List.setIfInBounds_toArray, List.set_cons_zero, List.set_cons_succ]
          refine wpAnyH_ready (rs := [7]) (by kernel_rfl) (by simp) ?_
          refine AllReadyH.cons rfl (fun K hK => ?_) AllReadyH.nil
          rw [if_pos (by rfl)]
          refine wpo_storeRow (C' := A32 8 (shaFold roundK h L (n + 1))) 61 (.tmp 6) (.tmp 36) rfl B rfl rfl k2 size61 (A32.size _ _) (A32.size _ _) (A32.one _) rfl ?_
          intro X3 hu k3
          refine hK.out _ _ (⟨hu.below hS.1 (by omega), hS.2.1.upd hu (by omega), hS.2.2.upd hu (by omega)⟩) (fun hS => ?_)
          clear hK K
          try simp only [Act.put, List.setIfInBounds_toArray, List.set_cons_zero, List.set_cons_succ]
          refine wpAnyH_done (by kernel_rfl) ?_ _
          go_wp2_with fail
          exact ⟨⟨n + 1, by omega, by go_num, hS.2.1, hS.2.2, k3, hS.1⟩, by simp [intOf]; omega⟩
        · have h641 : ¬ (64 : Int) ≤ (X.size : Int) - 64 * (n : Int) := by omega
          have hp0 : (0 : Int) ≤ 64 * (n : Int) := by omega
          have hp1 : 64 * (n : Int) ≤ (X.size : Int) := by omega
          have hq1 : (64 * (n : Int)).toNat = 64 * n := by omega
          have hwl : IntKind.i64.wrap (len + (s.size : Int)) = len + (s.size : Int) := IntWalk.i64_in _ (by omega)
          have hn64 : n = L.length / 64 := by omega
          have hZ : (addH roundK h L, strOf (addRest L)) = (shaFold roundK h L n, X.extract (64 * n) X.size) := by
            rw [addH, addRest, ← hn64]
            congr 1
            rw [← strOf_bts (X.extract (64 * n) X.size), bts_extract, HX.out, List.take_of_length_le (by rw [List.length_drop]; omega)]
          have HZ := hide hZ
          clear hZ hn64
          go_wp2_with fail
          refine wp_region_held_drew (S := fun w' => Below w.heap.size w w' ∧ Blk w' w.heap.size (stG h rest len) 63 ∧ Blk w' B (A32 8 (shaFold roundK h L n)) 61) (by kernel_rfl) (⟨hB.drew, hn1.drew, k1.drew⟩) (fun hS => ?_)
          refine take_at (i := 0) 39 (.agg (A32 8 (shaFold roundK h L n))) rfl rfl (by kernel_rfl) (by kernel_rfl) (by kernel_rfl) (fun _ _ _ h => h) (Or.inl ⟨by rfl, fun W hW => exec_load_range _ 61 _ rfl B 0 rfl (rangeAt_A32 hW.2.2) Tryd.underlying61 rfl size61 (A32.size _ _)⟩) hS ?_
          simp only [List.setIfInBounds_toArray, List.set_cons_zero, List.set_cons_succ]
          refine take_at (i := 1) 40 (.string X) rfl rfl (by kernel_rfl) (by kernel_rfl) (by kernel_rfl) (fun _ _ _ h => h) (Or.inl ⟨by rfl, fun W hW => by go_simp⟩) hS ?_
          simp only [List.setIfInBounds_toArray, List.set_cons_zero, List.set_cons_succ]
          refine take_at (i := 2) 41 (.int .i64 (64 * (n : Int))) rfl rfl (by kernel_rfl) (by kernel_rfl) (by kernel_rfl) (fun _ _ _ h => h) (Or.inl ⟨by rfl, fun W hW => by go_simp⟩) hS ?_
          simp only [List.setIfInBounds_toArray, List.set_cons_zero, List.set_cons_succ]
          refine take_at (i := 3) 42 (.string (X.extract (64 * n) X.size)) rfl rfl (by kernel_rfl) (by kernel_rfl) (by kernel_rfl) (fun _ _ _ h => h) (Or.inl ⟨by rfl, fun W hW => by go_simp⟩) hS ?_
          simp only [List.setIfInBounds_toArray, List.set_cons_zero, List.set_cons_succ]
          refine take_at (i := 4) 43 (.pointer (some ⟨w.heap.size, 9, none⟩)) rfl rfl (by kernel_rfl) (by kernel_rfl) (by kernel_rfl) (fun _ _ _ h => h) (Or.inl ⟨by rfl, fun W hW => by go_simp⟩) hS ?_
          simp only [List.setIfInBounds_toArray, List.set_cons_zero, List.set_cons_succ]
          refine take_at (i := 5) 44 (.int .i64 len) rfl rfl (by kernel_rfl) (by kernel_rfl) (by kernel_rfl) (fun _ _ _ h => h) (Or.inl ⟨by rfl, fun W hW => by have hc := hW.2.1.cell 9; rw [stG.len] at hc; go_simp⟩) hS ?_
          simp only [List.setIfInBounds_toArray, List.set_cons_zero, List.set_cons_succ]
          refine take_at (i := 6) 45 (.string s) rfl rfl (by kernel_rfl) (by kernel_rfl) (by kernel_rfl) (fun _ _ _ h => h) (Or.inl ⟨by rfl, fun W hW => by go_simp⟩) hS ?_
          simp only [List.setIfInBounds_toArray, List.set_cons_zero, List.set_cons_succ]
          refine take_at (i := 7) 46 (.int .i64 (s.size : Int)) rfl rfl (by kernel_rfl) (by kernel_rfl) (by kernel_rfl) (fun _ _ _ h => h) (Or.inl ⟨by rfl, fun W hW => by go_simp⟩) hS ?_
          simp only [List.setIfInBounds_toArray, List.set_cons_zero, List.set_cons_succ]
          refine take_at (i := 8) 47 (.int .i64 (len + (s.size : Int))) rfl rfl (by kernel_rfl) (by kernel_rfl) (by kernel_rfl) (fun _ _ _ h => h) (Or.inl ⟨by rfl, fun W hW => by go_simp⟩) hS ?_
          simp only [List.setIfInBounds_toArray, List.set_cons_zero, List.set_cons_succ]
          refine take_at (i := 9) 48 (.agg (stG (shaFold roundK h L n) (X.extract (64 * n) X.size) (len + s.size))) rfl rfl (by kernel_rfl) (by kernel_rfl) (by kernel_rfl) (fun _ _ _ h => h) (Or.inl ⟨by rfl, fun W hW => exec_build _ 63 #[(0, .tmp 39), (1, .tmp 42), (2, .tmp 47)] rfl #[(0, .agg (A32 8 (shaFold roundK h L n))), (1, .string (X.extract (64 * n) X.size)), (2, .int .i64 (len + (s.size : Int)))] rfl _ (build63f _ _ _)⟩) hS ?_
          simp only [List.setIfInBounds_toArray, List.set_cons_zero, List.set_cons_succ]
          refine take_at (i := 10) 49 (.agg (stE (shaFold roundK h L n) (X.extract (64 * n) X.size) (len + s.size) 0)) rfl rfl (by kernel_rfl) (by kernel_rfl) (by kernel_rfl) (fun _ _ _ h => h) (Or.inl ⟨by rfl, fun W hW => exec_build _ 67 #[(0, .tmp 48)] rfl #[(0, .agg (stG (shaFold roundK h L n) (X.extract (64 * n) X.size) (len + s.size)))] rfl _ (build67 _ _ _)⟩) hS ?_
          simp only [List.setIfInBounds_toArray, List.set_cons_zero, List.set_cons_succ]
          refine wpAnyH_ready (rs := [11]) (by kernel_rfl) (by simp) ?_
          refine AllReadyH.cons rfl (fun K hK => ?_) AllReadyH.nil
          rw [if_pos (by rfl)]
          refine wpo_storeRow (C' := stE (shaFold roundK h L n) (X.extract (64 * n) X.size) (len + s.size) 0) 67 (.tmp 4) (.tmp 49) rfl (w.heap.size + 1) rfl rfl ho1.drew size67 (stE.size _ _ _ _) (stE.size _ _ _ _) (stE.one _ _ _ _) rfl ?_
          intro X1 hu k3
          refine hK.out _ _ (⟨hu.below hS.1 (by omega), hS.2.1.upd hu (by omega), hS.2.2.upd hu (by omega)⟩) (fun hS => ?_)
          clear hK K
          try simp only [Act.put, List.setIfInBounds_toArray, List.set_cons_zero, List.set_cons_succ]
          refine wpAnyH_done (by kernel_rfl) ?_ _
          go_wp2_with fail
          refine ret_row rfl (w.heap.size + 1) rfl k3 Tryd.underlying67 rfl size67 (stE.size _ _ _ _) rfl ⟨?_, hS.1⟩
          obtain ⟨z1, z2⟩ := Prod.mk.inj HZ.out
          rw [addS, if_pos hv, if_pos hl, HL.out]
          dsimp only
          rw [z1, z2]
    ·
      go_upto_region 4 with fail
      apply wp_region_lit
      refine wp_buildL rfl 67 #[(1, .const (.int .i64 3))] rfl #[(1, .int .i64 3)] rfl (.agg (stE (fun _ => 0#32) ByteArray.empty 0 3)) (build67e 3) ?_
      refine wp_storeRow (C' := stE (fun _ => 0#32) ByteArray.empty 0 3) (n := 11) rfl 67 (.tmp 4) (.tmp 18) rfl (w.heap.size + 1) rfl rfl ho1 size67 (stE.size _ _ _ _) (stE.size _ _ _ _) (stE.one _ _ _ _) rfl ?_
      intro W3 hu3 ho3
      go_wp2_with fail
      exact ret_row rfl (w.heap.size + 1) rfl ho3 Tryd.underlying67 rfl size67 (stE.size _ _ _ _) rfl ⟨by rw [addS, if_pos hv, if_neg (by omega)], hu3.below hBb (by omega)⟩
  · have hv' : validB rest len = false := by
      cases e : validB rest len
      · rfl
      · exact absurd e hv
    go_upto_region 2 with fail
    apply wp_region_lit
    refine wp_buildL rfl 67 #[(1, .const (.int .i64 2))] rfl #[(1, .int .i64 2)] rfl (.agg (stE (fun _ => 0#32) ByteArray.empty 0 2)) (build67e 2) ?_
    refine wp_storeRow (C' := stE (fun _ => 0#32) ByteArray.empty 0 2) (n := 11) rfl 67 (.tmp 4) (.tmp 11) rfl (w.heap.size + 1) rfl rfl ho1 size67 (stE.size _ _ _ _) (stE.size _ _ _ _) (stE.one _ _ _ _) rfl ?_
    intro W3 hu3 ho3
    go_wp2_with fail
    exact ret_row rfl (w.heap.size + 1) rfl ho3 Tryd.underlying67 rfl size67 (stE.size _ _ _ _) rfl ⟨by rw [addS, if_neg hv], hu3.below hBb (by omega)⟩
end Go.Proofs.YtdpgebifeaakjaaDoor
