/- The specification's Add, End, Sum and Leaf. -/
import Derived.Test.YtdpgebifeaakjaaDoorMG
import Derived.Test.YtdpgebifeaakjaaDoorMD
import Derived.Test.YtdpgebifeaakjaaDoorMF

/- The walk of the specification's Add. -/
namespace Go.Proofs.YtdpgebifeaakjaaDoor
set_option linter.unusedSimpArgs false
set_option linter.unusedVariables false
open Go.RowKit

theorem rangeAt_A32 {W : World} {B n : Nat} {f : Nat → BitVec 32} {E : TypeId} (h : Blk W B (A32 n f) E) : W.rangeAt B 0 (A32 n f).toList :=
  Blk.rangeAt (n := n) h 0 n _ (by omega) (fun j hj => by rw [Nat.zero_add])

set_option maxRecDepth 20000 in
set_option maxHeartbeats 2000000 in
theorem radd_any (h : Nat → BitVec 32) (rest : ByteArray) (len : Int) (hr : rest.size ≤ maxLen) (s : ByteArray) (hs : s.size ≤ 4611686018427387903) (w : World) (hKK : KAt w) :
    Calls Tryd.prog 39 #[.agg (stG h rest len), .string s] w fun e w' => e = .returned (.agg (stE (addS h rest len s).1 (addS h rest len s).2.1 (addS h rest len s).2.2.1 (addS h rest len s).2.2.2)) ∧ Below w.heap.size w w' := by
  have hw0 := hKK.pos
  have hbx := box63g h rest len
  have hV := fun w => rvalid_any h rest len hr w
  have hn := (Blk.new w (stG h rest len) 63).alloc (.cells (stE (fun _ => 0#32) ByteArray.empty 0 0) 67)
  have ho := Blk.new (w.alloc (.cells (stG h rest len) 63)) (stE (fun _ => 0#32) ByteArray.empty 0 0) 67
  have hB : Below w.heap.size w ((w.alloc (.cells (stG h rest len) 63)).alloc (.cells (stE (fun _ => 0#32) ByteArray.empty 0 0) 67)) := ((Below.refl _ _).alloc (Nat.le_refl _) _).alloc (by simp) _
  rw [World.size_alloc] at ho
  go_enter Tryd.func39, Tryd.ntmps39
  go_wp2_with (refine wp_loadRow rfl 63 _ rfl w.heap.size rfl hn Tryd.underlying63 rfl size63 (stG.size _ _ _) ?_)
  refine (hV _).mono ?_
  rintro e W ⟨rfl, hB1⟩
  have hn1 := hn.below hB1 hn.lt
  have ho1 := ho.below hB1 ho.lt
  have hBb := hB.trans (hB1.mono hB.size)
  clear hn ho hB hB1
  by_cases hv : validB rest len = true
  · obtain ⟨g0, g1, g2⟩ := validB_facts hv
    have hrs : rest.size < 64 := by omega
    have h9 := hn1.cell 9
    rw [stG.len] at h9
    have hwl : IntKind.i64.wrap (1099511627776 - len) = 1099511627776 - len := IntWalk.i64_in _ (by omega)
    by_cases hl : (s.size : Int) ≤ 1099511627776 - len
    · have h8 := hn1.cell 8
      rw [stG.rest] at h8
      have hsum := fun w : World => run_string_add_sum (P := Tryd.prog) w rest s (by omega)
      obtain ⟨L, hL⟩ : ∃ L, bts rest ++ bts s = L := ⟨_, rfl⟩
      have hX0 : bts (rest ++ s) = L := by rw [bts_append, hL]
      have hXs0 : (rest ++ s).size ≤ 1099511627840 := by rw [ByteArray.size_append]; omega
      obtain ⟨X, hXe⟩ : ∃ X, rest ++ s = X := ⟨_, rfl⟩
      rw [hXe] at hX0 hXs0 hsum
      have HXS := hide hXs0
      have hlen : L.length = X.size := by rw [← hX0, bts_length]
      have HX := hide hX0
      have HL := hide hL
      clear hX0 hXs0 hXe hL
      have hH : (Row 8 fun i => (fun i => if i < 8 then U32 (h i) else if i = 8 then .string rest else .int .i64 len) (0 + i)) = A32 8 h := Row.ext fun i hi => by
        dsimp only; rw [Nat.zero_add, if_pos hi]
      have hf1 := ho1.lt
      go_wp2_with (first
        | (refine wp_loadMid rfl 61 _ rfl w.heap.size 0 rfl hn1 Tryd.underlying61 rfl size61 (by omega) hH ?_)
        | (refine wp_storeRow (C' := A32 8 h) rfl 61 _ _ rfl _ rfl rfl (Blk.new _ _ _) size61 (A32.size _ _) (A32.size _ _) (A32.one _) rfl ?_; intro W1 hu1 k1))
      replace hn1 := (hn1.alloc (.cells (A32 8 fun _ => 0#32) 61)).upd hu1 (by omega)
      replace ho1 := (ho1.alloc (.cells (A32 8 fun _ => 0#32) 61)).upd hu1 (by omega)
      replace hB := hu1.below (hBb.alloc hBb.size (.cells (A32 8 fun _ => 0#32) 61)) hBb.size
      obtain ⟨B, hBe⟩ : ∃ B, W.heap.size = B := ⟨_, rfl⟩
      rw [hBe] at k1 hf1 ⊢
      clear hBe hu1 hBb h8 h9 hsum hwl
      go_loopw [7] (fun s7 W => ∃ n : Nat, 64 * n ≤ X.size ∧ s7 = .int .i64 (64 * (n : Int)) ∧ Blk W w.heap.size (stG h rest len) 63 ∧ Blk W (w.heap.size + 1) (stE (fun _ => 0#32) ByteArray.empty 0 0) 67 ∧ Blk W B (A32 8 (shaFold roundK h L n)) 61 ∧ Below w.heap.size w W) (fun s7 _ => X.size - (intOf s7).toNat)
      case atStart => exact ⟨0, by omega, rfl, hn1, ho1, k1, hB⟩
      case round =>
        clear hn1 ho1 k1 hB
        obtain ⟨n, hnl, rfl, hn1, ho1, k1, hB⟩ := hrel
        have hXl := HXS.out
        have hw0' : IntKind.i64.wrap ((X.size : Int) - 64 * (n : Int)) = (X.size : Int) - 64 * (n : Int) := IntWalk.i64_in _ (by omega)
        have hw1' : IntKind.i64.wrap (64 * (n : Int) + 64) = 64 * (n : Int) + 64 := IntWalk.i64_in _ (by omega)
        by_cases h64 : 64 * n + 64 ≤ X.size
        · have h641 : (64 : Int) ≤ (X.size : Int) - 64 * (n : Int) := by omega
          have hp0 : (0 : Int) ≤ 64 * (n : Int) := by omega
          have hp1 : 64 * (n : Int) + 64 ≤ (X.size : Int) := by omega
          have hp3 : ¬ (64 * (n : Int) + 64 < 64 * (n : Int)) := by omega
          have hp2 : (0 : Int) ≤ 64 * (n : Int) + 64 := by omega
          have hq1 : (64 * (n : Int)).toNat = 64 * n := by omega
          have hq2 : (64 * (n : Int) + 64).toNat = 64 * n + 64 := by omega
          have hfold : shaBlock roundK (shaFold roundK h L n) (bts (X.extract (64 * n) (64 * n + 64))) = shaFold roundK h L (n + 1) := by
            rw [shaFold, bts_extract, HX.out, show 64 * n + 64 - 64 * n = 64 by omega]
          have cb : ∀ w, KAt w → Calls Tryd.prog 73 #[.agg (A32 8 (shaFold roundK h L n)), .string (X.extract (64 * n) (64 * n + 64))] w fun e w' => e = .returned (.agg (A32 8 (shaFold roundK h L (n + 1)))) ∧ Below w.heap.size w w' := fun w hk => by
            have hh := rblock_any (shaFold roundK h L n) (X.extract (64 * n) (64 * n + 64)) (by rw [ByteArray.size_extract]; omega) w hk
            rw [hfold] at hh
            exact hh
          clear hfold
          go_wp2_with fail
          refine wp_region_held_drew (S := fun w' => Below w.heap.size w w' ∧ Blk w' w.heap.size (stG h rest len) 63 ∧ Blk w' (w.heap.size + 1) (stE (fun _ => 0#32) ByteArray.empty 0 0) 67) (by kernel_rfl) (⟨hB.drew, hn1.drew, ho1.drew⟩) (fun hS => ?_)
          refine take_at (i := 1) 31 (.string X) rfl rfl (by kernel_rfl) (by kernel_rfl) (by kernel_rfl) (fun _ _ _ h => h) (Or.inl ⟨by rfl, fun W hW => by go_simp⟩) hS ?_
          simp only [List.setIfInBounds_toArray, List.set_cons_zero, List.set_cons_succ]
          refine take_at (i := 2) 32 (.int .i64 (64 * (n : Int))) rfl rfl (by kernel_rfl) (by kernel_rfl) (by kernel_rfl) (fun _ _ _ h => h) (Or.inl ⟨by rfl, fun W hW => by go_simp⟩) hS ?_
          simp only [List.setIfInBounds_toArray, List.set_cons_zero, List.set_cons_succ]
          refine take_at (i := 3) 33 (.int .i64 (64 * (n : Int))) rfl rfl (by kernel_rfl) (by kernel_rfl) (by kernel_rfl) (fun _ _ _ h => h) (Or.inl ⟨by rfl, fun W hW => by go_simp⟩) hS ?_
          simp only [List.setIfInBounds_toArray, List.set_cons_zero, List.set_cons_succ]
          refine take_at (i := 4) 34 (.int .i64 (64 * (n : Int) + 64)) rfl rfl (by kernel_rfl) (by kernel_rfl) (by kernel_rfl) (fun _ _ _ h => h) (Or.inl ⟨by rfl, fun W hW => by go_simp⟩) hS ?_
          simp only [List.setIfInBounds_toArray, List.set_cons_zero, List.set_cons_succ]
          refine take_at (i := 5) 35 (.string (X.extract (64 * n) (64 * n + 64))) rfl rfl (by kernel_rfl) (by kernel_rfl) (by kernel_rfl) (fun _ _ _ h => h) (Or.inl ⟨by rfl, fun W hW => by go_simp⟩) hS ?_
          simp only [List.setIfInBounds_toArray, List.set_cons_zero, List.set_cons_succ]
          refine wpAnyH_ready (rs := [0]) (by kernel_rfl) (by simp) ?_
          refine AllReadyH.cons rfl (fun K hK => ?_) AllReadyH.nil
          rw [if_pos (by rfl)]
          refine wpo_loadRow 61 (.tmp 6) rfl B rfl (run_loadVar_Blk k1.drew Tryd.underlying61 rfl size61 (A32.size _ _)) ?_
          refine hK.out _ _ (hS) (fun hS => ?_)
          clear hK K
          try simp only [Act.put, List.setIfInBounds_toArray, List.set_cons_zero, List.set_cons_succ]
          refine wpAnyH_ready (rs := [6]) (by kernel_rfl) (by simp) ?_
          refine AllReadyH.cons rfl (fun K hK => ?_) AllReadyH.nil
          go_simp
          refine (cb _ (hKK.below hw0 hS.1)).mono ?_
          rintro e X2 ⟨rfl, hb⟩
          refine hK.out _ _ (⟨hS.1.trans (hb.mono hS.1.size), hS.2.1.below hb hS.2.1.lt, hS.2.2.below hb hS.2.2.lt⟩) (fun hS => ?_)
          clear hK K
          have k2 := k1.drew.below hb k1.drew.lt
          try simp only [Act.put, List.setIfInBounds_toArray, List.set_cons_zero, List.set_cons_succ]
          refine wpAnyH_ready (rs := [7]) (by kernel_rfl) (by simp) ?_
          refine AllReadyH.cons rfl (fun K hK => ?_) AllReadyH.nil
          rw [if_pos (by rfl)]
          refine wpo_storeRow (C' := A32 8 (shaFold roundK h L (n + 1))) 61 (.tmp 6) (.tmp 36) rfl B rfl rfl k2 size61 (A32.size _ _) (A32.size _ _) (A32.one _) rfl ?_
          intro X3 hu k3
          refine hK.out _ _ (⟨hu.below hS.1 (by omega), hS.2.1.upd hu (by omega), hS.2.2.upd hu (by omega)⟩) (fun hS => ?_)
          clear hK K
          try simp only [Act.put, List.setIfInBounds_toArray, List.set_cons_zero, List.set_cons_succ]
          refine wpAnyH_done (by kernel_rfl) ?_ _
          go_wp2_with fail
          exact ⟨⟨n + 1, by omega, by go_num, hS.2.1, hS.2.2, k3, hS.1⟩, by simp [intOf]; omega⟩
        · have h641 : ¬ (64 : Int) ≤ (X.size : Int) - 64 * (n : Int) := by omega
          have hp0 : (0 : Int) ≤ 64 * (n : Int) := by omega
          have hp1 : 64 * (n : Int) ≤ (X.size : Int) := by omega
          have hq1 : (64 * (n : Int)).toNat = 64 * n := by omega
          have hwl : IntKind.i64.wrap (len + (s.size : Int)) = len + (s.size : Int) := IntWalk.i64_in _ (by omega)
          have hn64 : n = L.length / 64 := by omega
          have hZ : (addH roundK h L, strOf (addRest L)) = (shaFold roundK h L n, X.extract (64 * n) X.size) := by
            rw [addH, addRest, ← hn64]
            congr 1
            rw [← strOf_bts (X.extract (64 * n) X.size), bts_extract, HX.out, List.take_of_length_le (by rw [List.length_drop]; omega)]
          have HZ := hide hZ
          clear hZ hn64
          go_wp2_with fail
          refine wp_region_held_drew (S := fun w' => Below w.heap.size w w' ∧ Blk w' w.heap.size (stG h rest len) 63 ∧ Blk w' B (A32 8 (shaFold roundK h L n)) 61) (by kernel_rfl) (⟨hB.drew, hn1.drew, k1.drew⟩) (fun hS => ?_)
          refine take_at (i := 0) 39 (.agg (A32 8 (shaFold roundK h L n))) rfl rfl (by kernel_rfl) (by kernel_rfl) (by kernel_rfl) (fun _ _ _ h => h) (Or.inl ⟨by rfl, fun W hW => exec_load_range _ 61 _ rfl B 0 rfl (rangeAt_A32 hW.2.2) Tryd.underlying61 rfl size61 (A32.size _ _)⟩) hS ?_
          simp only [List.setIfInBounds_toArray, List.set_cons_zero, List.set_cons_succ]
          refine take_at (i := 1) 40 (.string X) rfl rfl (by kernel_rfl) (by kernel_rfl) (by kernel_rfl) (fun _ _ _ h => h) (Or.inl ⟨by rfl, fun W hW => by go_simp⟩) hS ?_
          simp only [List.setIfInBounds_toArray, List.set_cons_zero, List.set_cons_succ]
          refine take_at (i := 2) 41 (.int .i64 (64 * (n : Int))) rfl rfl (by kernel_rfl) (by kernel_rfl) (by kernel_rfl) (fun _ _ _ h => h) (Or.inl ⟨by rfl, fun W hW => by go_simp⟩) hS ?_
          simp only [List.setIfInBounds_toArray, List.set_cons_zero, List.set_cons_succ]
          refine take_at (i := 3) 42 (.string (X.extract (64 * n) X.size)) rfl rfl (by kernel_rfl) (by kernel_rfl) (by kernel_rfl) (fun _ _ _ h => h) (Or.inl ⟨by rfl, fun W hW => by go_simp⟩) hS ?_
          simp only [List.setIfInBounds_toArray, List.set_cons_zero, List.set_cons_succ]
          refine take_at (i := 4) 43 (.pointer (some ⟨w.heap.size, 9, none⟩)) rfl rfl (by kernel_rfl) (by kernel_rfl) (by kernel_rfl) (fun _ _ _ h => h) (Or.inl ⟨by rfl, fun W hW => by go_simp⟩) hS ?_
          simp only [List.setIfInBounds_toArray, List.set_cons_zero, List.set_cons_succ]
          refine take_at (i := 5) 44 (.int .i64 len) rfl rfl (by kernel_rfl) (by kernel_rfl) (by kernel_rfl) (fun _ _ _ h => h) (Or.inl ⟨by rfl, fun W hW => by have hc := hW.2.1.cell 9; rw [stG.len] at hc; go_simp⟩) hS ?_
          simp only [List.setIfInBounds_toArray, List.set_cons_zero, List.set_cons_succ]
          refine take_at (i := 6) 45 (.string s) rfl rfl (by kernel_rfl) (by kernel_rfl) (by kernel_rfl) (fun _ _ _ h => h) (Or.inl ⟨by rfl, fun W hW => by go_simp⟩) hS ?_
          simp only [List.setIfInBounds_toArray, List.set_cons_zero, List.set_cons_succ]
          refine take_at (i := 7) 46 (.int .i64 (s.size : Int)) rfl rfl (by kernel_rfl) (by kernel_rfl) (by kernel_rfl) (fun _ _ _ h => h) (Or.inl ⟨by rfl, fun W hW => by go_simp⟩) hS ?_
          simp only [List.setIfInBounds_toArray, List.set_cons_zero, List.set_cons_succ]
          refine take_at (i := 8) 47 (.int .i64 (len + (s.size : Int))) rfl rfl (by kernel_rfl) (by kernel_rfl) (by kernel_rfl) (fun _ _ _ h => h) (Or.inl ⟨by rfl, fun W hW => by go_simp⟩) hS ?_
          simp only [List.setIfInBounds_toArray, List.set_cons_zero, List.set_cons_succ]
          refine take_at (i := 9) 48 (.agg (stG (shaFold roundK h L n) (X.extract (64 * n) X.size) (len + s.size))) rfl rfl (by kernel_rfl) (by kernel_rfl) (by kernel_rfl) (fun _ _ _ h => h) (Or.inl ⟨by rfl, fun W hW => exec_build _ 63 #[(0, .tmp 39), (1, .tmp 42), (2, .tmp 47)] rfl #[(0, .agg (A32 8 (shaFold roundK h L n))), (1, .string (X.extract (64 * n) X.size)), (2, .int .i64 (len + (s.size : Int)))] rfl _ (build63f _ _ _)⟩) hS ?_
          simp only [List.setIfInBounds_toArray, List.set_cons_zero, List.set_cons_succ]
          refine take_at (i := 10) 49 (.agg (stE (shaFold roundK h L n) (X.extract (64 * n) X.size) (len + s.size) 0)) rfl rfl (by kernel_rfl) (by kernel_rfl) (by kernel_rfl) (fun _ _ _ h => h) (Or.inl ⟨by rfl, fun W hW => exec_build _ 67 #[(0, .tmp 48)] rfl #[(0, .agg (stG (shaFold roundK h L n) (X.extract (64 * n) X.size) (len + s.size)))] rfl _ (build67 _ _ _)⟩) hS ?_
          simp only [List.setIfInBounds_toArray, List.set_cons_zero, List.set_cons_succ]
          refine wpAnyH_ready (rs := [11]) (by kernel_rfl) (by simp) ?_
          refine AllReadyH.cons rfl (fun K hK => ?_) AllReadyH.nil
          rw [if_pos (by rfl)]
          refine wpo_storeRow (C' := stE (shaFold roundK h L n) (X.extract (64 * n) X.size) (len + s.size) 0) 67 (.tmp 4) (.tmp 49) rfl (w.heap.size + 1) rfl rfl ho1.drew size67 (stE.size _ _ _ _) (stE.size _ _ _ _) (stE.one _ _ _ _) rfl ?_
          intro X1 hu k3
          refine hK.out _ _ (⟨hu.below hS.1 (by omega), hS.2.1.upd hu (by omega), hS.2.2.upd hu (by omega)⟩) (fun hS => ?_)
          clear hK K
          try simp only [Act.put, List.setIfInBounds_toArray, List.set_cons_zero, List.set_cons_succ]
          refine wpAnyH_done (by kernel_rfl) ?_ _
          go_wp2_with fail
          refine ret_row rfl (w.heap.size + 1) rfl k3 Tryd.underlying67 rfl size67 (stE.size _ _ _ _) rfl ⟨?_, hS.1⟩
          obtain ⟨z1, z2⟩ := Prod.mk.inj HZ.out
          rw [addS, if_pos hv, if_pos hl, HL.out]
          dsimp only
          rw [z1, z2]
    ·
      go_upto_region 4 with fail
      apply wp_region_lit
      refine wp_buildL rfl 67 #[(1, .const (.int .i64 3))] rfl #[(1, .int .i64 3)] rfl (.agg (stE (fun _ => 0#32) ByteArray.empty 0 3)) (build67e 3) ?_
      refine wp_storeRow (C' := stE (fun _ => 0#32) ByteArray.empty 0 3) (n := 11) rfl 67 (.tmp 4) (.tmp 18) rfl (w.heap.size + 1) rfl rfl ho1 size67 (stE.size _ _ _ _) (stE.size _ _ _ _) (stE.one _ _ _ _) rfl ?_
      intro W3 hu3 ho3
      go_wp2_with fail
      exact ret_row rfl (w.heap.size + 1) rfl ho3 Tryd.underlying67 rfl size67 (stE.size _ _ _ _) rfl ⟨by rw [addS, if_pos hv, if_neg (by omega)], hu3.below hBb (by omega)⟩
  · have hv' : validB rest len = false := by
      cases e : validB rest len
      · rfl
      · exact absurd e hv
    go_upto_region 2 with fail
    apply wp_region_lit
    refine wp_buildL rfl 67 #[(1, .const (.int .i64 2))] rfl #[(1, .int .i64 2)] rfl (.agg (stE (fun _ => 0#32) ByteArray.empty 0 2)) (build67e 2) ?_
    refine wp_storeRow (C' := stE (fun _ => 0#32) ByteArray.empty 0 2) (n := 11) rfl 67 (.tmp 4) (.tmp 11) rfl (w.heap.size + 1) rfl rfl ho1 size67 (stE.size _ _ _ _) (stE.size _ _ _ _) (stE.one _ _ _ _) rfl ?_
    intro W3 hu3 ho3
    go_wp2_with fail
    exact ret_row rfl (w.heap.size + 1) rfl ho3 Tryd.underlying67 rfl size67 (stE.size _ _ _ _) rfl ⟨by rw [addS, if_neg hv], hu3.below hBb (by omega)⟩
end Go.Proofs.YtdpgebifeaakjaaDoor

/- The walk of the specification's End. -/
namespace Go.Proofs.YtdpgebifeaakjaaDoor
set_option linter.unusedSimpArgs false
set_option linter.unusedVariables false
open Go.RowKit

/-- A digest of 32 bytes and an error, in a struct. -/
def dgE (D : Nat → BitVec 8) (e : Int) : Array Value := Row 33 fun i => if i < 32 then U8 (D i) else .int .i64 e
theorem dgE.size (D : Nat → BitVec 8) (e : Int) : (dgE D e).size = 33 := Row.size _ _
theorem dgE.one (D : Nat → BitVec 8) (e : Int) : (dgE D e).all (·.oneCell') = true := Row.all fun i hi => by
  by_cases h1 : i < 32
  · simp [h1]; rfl
  · simp [h1]; rfl
theorem size73 : (Tryd.prog.info? 73).map (·.size) = some 33 := by kernel_rfl
theorem build73e (e : Int) (w : World) : (Instr.build 73 #[(1, .int .i64 e)]).run Tryd.prog w = .ok (.agg (dgE (fun _ => 0#8) e)) w := by kernel_rfl
theorem build73 (D : Nat → BitVec 8) (w : World) : (Instr.build 73 #[(0, .agg (A8 32 D))]).run Tryd.prog w = .ok (.agg (dgE D 0)) w := by kernel_rfl
theorem zero73 : (#[Value.int .u8 0, Value.int .u8 0, Value.int .u8 0, Value.int .u8 0, Value.int .u8 0, Value.int .u8 0, Value.int .u8 0, Value.int .u8 0, Value.int .u8 0, Value.int .u8 0, Value.int .u8 0, Value.int .u8 0, Value.int .u8 0, Value.int .u8 0, Value.int .u8 0, Value.int .u8 0, Value.int .u8 0, Value.int .u8 0, Value.int .u8 0, Value.int .u8 0, Value.int .u8 0, Value.int .u8 0, Value.int .u8 0, Value.int .u8 0, Value.int .u8 0, Value.int .u8 0, Value.int .u8 0, Value.int .u8 0, Value.int .u8 0, Value.int .u8 0, Value.int .u8 0, Value.int .u8 0, Value.int .i64 0] : Array Value) = dgE (fun _ => 0#8) 0 := by kernel_rfl
attribute [go_sem] zero73
theorem infoU8 : (Tryd.prog.info? 5).map (fun i => (i.zero, i.size, i.bytes)) = some (some (.int .u8 0), 1, 1) := by kernel_rfl
theorem Rw.form {W : World} {base : Nat} {v : Value} {l : List (BitVec 8)} (h : Rw W base v l) : ∃ g cap n, v = .slice (some ⟨g, 0, none⟩) n cap ∧ n = l.length := by
  obtain ⟨g, cap, C, fz, h1, _⟩ := h
  exact ⟨g, cap, _, h1, rfl⟩
/-- The bytes so far. -/
def padUp (rest : ByteArray) (x : BitVec 64) (k : Nat) : List (BitVec 8) := bts rest ++ (List.range k).map (padCell (padZ rest.size) x)
theorem padUp_length (rest : ByteArray) (x : BitVec 64) (k : Nat) : (padUp rest x k).length = rest.size + k := by simp [padUp, bts_length]
theorem padUp_next (rest : ByteArray) (x : BitVec 64) (k : Nat) : padUp rest x k ++ [padCell (padZ rest.size) x k] = padUp rest x (k + 1) := by
  unfold padUp
  rw [List.range_succ, List.map_append, List.append_assoc]
  rfl
theorem padUp_one (rest : ByteArray) (x : BitVec 64) : bts rest ++ [128#8] = padUp rest x 1 := rfl

theorem byteL (len : Int) (h0 : 0 ≤ len) (h1 : len ≤ 1099511627776) (z j : Nat) (hz : 1 ≤ z) (hj : j < 8) (x : BitVec 64) (hx : BitVec.ofInt 64 len * 8#64 = x) :
    BitVec.ofInt 8 (8 * len / 2 ^ (8 * (7 - j))) = padCell z x (z + j) := by
  subst hx
  obtain ⟨m, rfl⟩ := Int.eq_ofNat_of_zero_le h0
  rw [padCell, if_neg (by omega), if_neg (by omega), show (56 - 8 * ((z + j - z : Nat) : Int)).toNat = 8 * (7 - j) by omega]
  have e : (8 * (m : Int) / 2 ^ (8 * (7 - j))) = ((8 * m / 2 ^ (8 * (7 - j)) : Nat) : Int) := by push_cast; rfl
  rw [e, BitVec.ofInt_natCast, BitVec.ofInt_natCast]
  apply BitVec.eq_of_toNat_eq
  rw [BitVec.toNat_ofNat, BitVec.toNat_setWidth, BitVec.toNat_ushiftRight, BitVec.toNat_mul, BitVec.toNat_ofNat, Nat.shiftRight_eq_div_pow]
  rw [show m % 2 ^ 64 * (8#64).toNat % 2 ^ 64 = 8 * m by simp; omega]
/-- Bytes that lie at the head of a block. -/
def Bts (W : World) (g : Nat) (l : List (BitVec 8)) : Prop := g < W.heap.size ∧ ∀ j, j < l.length → W.cell? ⟨g, j, none⟩ = some (U8 (l.getD j 0#8))
theorem Bts.below {W W' : World} {g : Nat} {l : List (BitVec 8)} (h : Bts W g l) (hb : Below W.heap.size W W') : Bts W' g l :=
  ⟨Nat.lt_of_lt_of_le h.1 hb.size, fun j hj => cell_below (h.2 j hj) hb⟩
theorem Bts.drew {W : World} {g : Nat} {l : List (BitVec 8)} (h : Bts W g l) : Bts W.drew g l := h
theorem Bts.alloc {W : World} {g : Nat} {l : List (BitVec 8)} (h : Bts W g l) (o : Obj) : Bts (W.alloc o) g l := h.below ((Below.refl _ _).alloc (Nat.le_refl _) o)
theorem Bts.upd {W W' : World} {g b : Nat} {l : List (BitVec 8)} (h : Bts W g l) (hu : Upd b W W') (hne : g ≠ b) : Bts W' g l :=
  ⟨by rw [hu.size]; exact h.1, fun j hj => (World.cell?_of_block (a := ⟨g, j, none⟩) (hu.block g hne)).trans (h.2 j hj)⟩
theorem Bts.conv {W : World} {g : Nat} {l : List (BitVec 8)} (h : Bts W g l) (off c : Nat) (hl : off + 64 ≤ l.length) :
    (convert 43 9 (.slice (some ⟨g, off, none⟩) 64 c)).run Tryd.prog W = .ok (.string (strOf ((l.drop off).take 64))) W := by
  refine run_bytes_str W 43 9 5 _ off c _ 64 (by simp; omega) Tryd.underlying43 Tryd.underlying5 Tryd.underlying9 fun j hj => ?_
  have hj' : j < 64 := by simp at hj; omega
  rw [h.2 (off + j) (by omega)]
  simp [List.getD, List.getElem?_eq_getElem (show off + j < l.length by omega)]
theorem Rw.bts {W : World} {base g n cap : Nat} {l : List (BitVec 8)} (h : Rw W base (.slice (some ⟨g, 0, none⟩) n cap) l) : Bts W g l ∧ base ≤ g ∧ n ≤ cap ∧ n = l.length := by
  obtain ⟨g', cap', C, fz, h1, h2, h3, h4, h5, h6, h7⟩ := h
  injection h1 with a b c
  injection a with a
  injection a with a
  subst a b c
  exact ⟨⟨(Array.getElem?_eq_some_iff.1 h4).1, fun j hj => by simp [World.cell?, h4]; exact h7 j hj⟩, h2, h3, rfl⟩

set_option maxRecDepth 100000 in
set_option maxHeartbeats 4000000 in
theorem rend_any (h : Nat → BitVec 32) (rest : ByteArray) (len : Int) (hr : rest.size ≤ maxLen) (w : World) (hKK : KAt w) :
    Calls Tryd.prog 41 #[.agg (stG h rest len)] w fun e w' => e = .returned (.agg (dgE (endAns h rest len).1 (endAns h rest len).2)) ∧ Below w.heap.size w w' := by
  have hw0 := hKK.pos
  have hbx := box63g h rest len
  have hV := fun w => rvalid_any h rest len hr w
  have hn := (Blk.new w (stG h rest len) 63).alloc (.cells (dgE (fun _ => 0#8) 0) 73)
  have ho := Blk.new (w.alloc (.cells (stG h rest len) 63)) (dgE (fun _ => 0#8) 0) 73
  have hB : Below w.heap.size w ((w.alloc (.cells (stG h rest len) 63)).alloc (.cells (dgE (fun _ => 0#8) 0) 73)) := ((Below.refl _ _).alloc (Nat.le_refl _) _).alloc (by simp) _
  rw [World.size_alloc] at ho
  go_enter Tryd.func41, Tryd.ntmps41
  go_wp2_with (refine wp_loadRow rfl 63 _ rfl w.heap.size rfl hn Tryd.underlying63 rfl size63 (stG.size _ _ _) ?_)
  refine (hV _).mono ?_
  rintro e W ⟨rfl, hB1⟩
  have hn1 := hn.below hB1 hn.lt
  have ho1 := ho.below hB1 ho.lt
  have hBb := hB.trans (hB1.mono hB.size)
  clear hn ho hB hB1
  by_cases hv : validB rest len = true
  · obtain ⟨g0, g1, g2⟩ := validB_facts hv
    have hrs : rest.size < 64 := by omega
    have h8 := hn1.cell 8
    rw [stG.rest] at h8
    have hcv := fun w : World => Lib.run_convert_string_bytes (P := Tryd.prog) w 9 43 5 rest Tryd.underlying9 Tryd.underlying43 Tryd.underlying5
    obtain ⟨x, hxe⟩ : ∃ x, BitVec.ofInt 64 len * 8#64 = x := ⟨_, rfl⟩
    have r0 := Rw.conv W rest
    have bW := below_bytesWorld W 5 rest
    have sW := hBb.size
    have hBc := hBb.trans (bW.mono hBb.size)
    replace hn1 := hn1.below bW hn1.lt
    have lo := ho1.lt
    replace ho1 := ho1.below bW ho1.lt
    go_wp2_with (at_builtin; go_loud (refine wp_append_rw rfl _ _ 43 rfl Tryd.underlying43 infoU8 (base := W.heap.size) rfl (r0.alloc _) _ 1 rfl (y := 128#8) (by rw [(Blk.new _ _ _).cell]; rfl) (by rw [bts_length]; omega) (by have := bW.size; simp; omega) ?_); intro v0 W1 r1 hb1)
    rw [padUp_one rest x] at r1
    have sB : w.heap.size + 1 + 1 ≤ W.heap.size := by have := lo; omega
    have hBd : Below w.heap.size w W1 := (hBc.alloc hBc.size (.cells #[U8 128#8] 5)).trans (hb1.mono sW)
    have hn2 := (hn1.alloc (.cells #[U8 128#8] 5)).below hb1 (by omega)
    have ho2 := (ho1.alloc (.cells #[U8 128#8] 5)).below hb1 (by omega)
    have sW1 : W.heap.size ≤ W1.heap.size := by have := hb1.size; have := bW.size; simp at *; omega
    obtain ⟨B0, hB0⟩ : ∃ B0, W.heap.size = B0 := ⟨_, rfl⟩
    rw [hB0] at r1 sB sW1
    clear hBb hBc hb1 hn1 ho1 r0 bW hcv h8 sW lo hB0
    have hzz : padZ rest.size ≤ 64 ∧ 1 ≤ padZ rest.size := by unfold padZ; split <;> omega
    go_loopw [3] (fun s3 X => ∃ k : Nat, 1 ≤ k ∧ k ≤ padZ rest.size ∧ Rw X B0 s3 (padUp rest x k) ∧ Blk X w.heap.size (stG h rest len) 63 ∧ Blk X (w.heap.size + 1) (dgE (fun _ => 0#8) 0) 73 ∧ Below w.heap.size w X ∧ B0 ≤ X.heap.size) (fun s3 _ => 200 - lenOfSl s3)
    case atStart => exact ⟨1, by omega, by omega, r1, hn2, ho2, hBd, sW1⟩
    case round =>
      clear r1 hn2 ho2 hBd sW1
      obtain ⟨k, hk1, hk2, r1, hn2, ho2, hBd, sW1⟩ := hrel
      obtain ⟨g, cap, n, rfl, hnl⟩ := r1.form
      rw [padUp_length] at hnl
      by_cases hz : k = padZ rest.size
      · have ht : ((n : Int) % 64 != 56) = false := by
          have : (n : Int) % 64 = 56 := by rw [hnl, hz]; unfold padZ; split <;> omega
          rw [this]; rfl
        clear hnl
        go_wp2_with fail
        rw [hz] at r1
        clear hz ht hk1 hk2
        go_loopw [3, 4] (fun s3 s4 X => ∃ j : Nat, j ≤ 8 ∧ s4 = .int .i64 (7 - (j : Int)) ∧ Rw X B0 s3 (padUp rest x (padZ rest.size + j)) ∧ Blk X w.heap.size (stG h rest len) 63 ∧ Blk X (w.heap.size + 1) (dgE (fun _ => 0#8) 0) 73 ∧ Below w.heap.size w X ∧ B0 ≤ X.heap.size) (fun _ s4 _ => (intOf s4 + 1).toNat)
        case atStart => exact ⟨0, by omega, rfl, r1, hn2, ho2, hBd, sW1⟩
        case round =>
          clear r1 hn2 ho2 hBd sW1
          obtain ⟨j, hj, rfl, r1, hn2, ho2, hBd, sW1⟩ := hrel
          obtain ⟨g, cap, n, rfl, hnl⟩ := r1.form
          rw [padUp_length] at hnl
          by_cases hj8 : j < 8
          · have hj81 : (0 : Int) ≤ 7 - (j : Int) := by omega
            have h9 := hn2.cell 9
            rw [stG.len] at h9
            have hwm : IntKind.i64.wrap (8 * len) = 8 * len := IntWalk.i64_in _ (by omega)
            have hwi : IntKind.i64.wrap (8 * (7 - (j : Int))) = 8 * (7 - (j : Int)) := IntWalk.i64_in _ (by omega)
            have hs0 : (0 : Int) ≤ 8 * (7 - (j : Int)) := by omega
            have HBY := hide (byteL len g0 g1 _ j hzz.2 hj8 x hxe)
            go_wp2_with (at_builtin; go_loud (refine wp_append_rw rfl _ _ 43 rfl Tryd.underlying43 infoU8 (base := B0) rfl (r1.alloc _) _ 1 rfl (y := padCell (padZ rest.size) x (padZ rest.size + j)) (by rw [(Blk.new _ _ _).cell, HBY.out]; rfl) (by rw [padUp_length]; omega) (by simp; omega) ?_); intro v1 W2 r2 hb2)
            rw [padUp_next] at r2
            exact ⟨⟨j + 1, by omega, by go_num, r2, (hn2.alloc _).below hb2 (by omega), (ho2.alloc _).below hb2 (by omega), (hBd.alloc hBd.size _).trans (hb2.mono (by omega)), by have := hb2.size; simp at this; omega⟩, by simp [intOf]; omega⟩
          · have hj81 : ¬ (0 : Int) ≤ 7 - (j : Int) := by omega
            have hj' : j = 8 := by omega
            subst hj'
            obtain ⟨l, hle⟩ : ∃ l, padUp rest x (padZ rest.size + 8) = l := ⟨_, rfl⟩
            have hll : n % 64 = 0 ∧ n ≤ 300 := by
              rw [hnl]; unfold padZ; split <;> omega
            rw [hle] at r1
            have HLE := hide hle
            obtain ⟨b1, hg, hnc, hnl2⟩ := r1.bts
            have HNL2 := hide hnl2
            clear hnl hle r1 hj hnl2
            have hH : (Row 8 fun i => (fun i => if i < 8 then U32 (h i) else if i = 8 then .string rest else .int .i64 len) (0 + i)) = A32 8 h := Row.ext fun i hi => by
              dsimp only; rw [Nat.zero_add, if_pos hi]
            have sW2 := b1.1
            go_wp2_with (first
              | (refine wp_loadMid rfl 61 _ rfl w.heap.size 0 rfl hn2 Tryd.underlying61 rfl size61 (by omega) hH ?_)
              | (refine wp_storeRow (C' := A32 8 h) rfl 61 _ _ rfl _ rfl rfl (Blk.new _ _ _) size61 (A32.size _ _) (A32.size _ _) (A32.one _) rfl ?_; intro W3 hu3 k3))
            replace b1 := (b1.alloc (.cells (A32 8 fun _ => 0#32) 61)).upd hu3 (by omega)
            replace ho2 := (ho2.alloc (.cells (A32 8 fun _ => 0#32) 61)).upd hu3 (by omega)
            replace hBd := hu3.below (hBd.alloc hBd.size (.cells (A32 8 fun _ => 0#32) 61)) hBd.size
            have sB2 : w.heap.size + 1 < wr.heap.size := by omega
            obtain ⟨B, hBe⟩ : ∃ B, wr.heap.size = B := ⟨_, rfl⟩
            rw [hBe] at k3 sW2 sB2 ⊢
            clear hBe hu3 hn2 hH sW1
            go_loopw [6] (fun s6 X => ∃ m : Nat, 64 * m ≤ n ∧ s6 = .int .i64 (64 * (m : Int)) ∧ Bts X g l ∧ Blk X (w.heap.size + 1) (dgE (fun _ => 0#8) 0) 73 ∧ Blk X B (A32 8 (shaFold roundK h l m)) 61 ∧ Below w.heap.size w X) (fun s6 _ => n - (intOf s6).toNat)
            case atStart => exact ⟨0, by omega, rfl, b1, ho2, k3, hBd⟩
            case round =>
              clear b1 ho2 k3 hBd
              obtain ⟨m, hm, rfl, b1, ho2, k1, hBd⟩ := hrel
              by_cases hmn : 64 * m < n
              · have hm1 : 64 * (m : Int) < (n : Int) := by omega
                have hp0 : (0 : Int) ≤ 64 * (m : Int) := by omega
                have hp1 : 64 * (m : Int) + 64 ≤ (cap : Int) := by omega
                have hp2 : (0 : Int) ≤ 64 * (m : Int) + 64 := by omega
                have hp3 : ¬ (64 * (m : Int) + 64 < 64 * (m : Int)) := by omega
                have hq1 : (64 * (m : Int)).toNat = 64 * m := by omega
                have hq2 : (64 * (m : Int) + 64).toNat = 64 * m + 64 := by omega
                have hq3 : 64 * m + 64 - 64 * m = 64 := by omega
                have hw1' : IntKind.i64.wrap (64 * (m : Int) + 64) = 64 * (m : Int) + 64 := IntWalk.i64_in _ (by omega)
                have hfold : shaBlock roundK (shaFold roundK h l m) ((l.drop (64 * m)).take 64) = shaFold roundK h l (m + 1) := rfl
                have cb : ∀ w, KAt w → Calls Tryd.prog 73 #[.agg (A32 8 (shaFold roundK h l m)), .string (strOf ((l.drop (64 * m)).take 64))] w fun e w' => e = .returned (.agg (A32 8 (shaFold roundK h l (m + 1)))) ∧ Below w.heap.size w w' := fun w hk => by
                  have hh := rblock_any (shaFold roundK h l m) (strOf ((l.drop (64 * m)).take 64)) (by rw [size_strOf, List.length_take, List.length_drop]; have := HNL2.out; omega) w hk
                  rw [bts_strOf, hfold] at hh
                  exact hh
                have hcl : 64 * m + 64 ≤ l.length := by have := HNL2.out; omega
                have hcap : ¬ cap = 64 * m := by omega
                clear hfold
                go_wp2_with fail
                refine wp_region_held_drew (S := fun w' => Below w.heap.size w w' ∧ Blk w' (w.heap.size + 1) (dgE (fun _ => 0#8) 0) 73 ∧ Bts w' g l) (by kernel_rfl) (⟨hBd.drew, ho2.drew, b1.drew⟩) (fun hS => ?_)
                refine take_at (i := 1) 49 (.slice (some ⟨g, 0, none⟩) n cap) rfl rfl (by kernel_rfl) (by kernel_rfl) (by kernel_rfl) (fun _ _ _ h => h) (Or.inl ⟨by rfl, fun W hW => by go_simp⟩) hS ?_
                simp only [List.setIfInBounds_toArray, List.set_cons_zero, List.set_cons_succ]
                refine take_at (i := 2) 50 (.int .i64 (64 * (m : Int))) rfl rfl (by kernel_rfl) (by kernel_rfl) (by kernel_rfl) (fun _ _ _ h => h) (Or.inl ⟨by rfl, fun W hW => by go_simp⟩) hS ?_
                simp only [List.setIfInBounds_toArray, List.set_cons_zero, List.set_cons_succ]
                refine take_at (i := 3) 51 (.int .i64 (64 * (m : Int))) rfl rfl (by kernel_rfl) (by kernel_rfl) (by kernel_rfl) (fun _ _ _ h => h) (Or.inl ⟨by rfl, fun W hW => by go_simp⟩) hS ?_
                simp only [List.setIfInBounds_toArray, List.set_cons_zero, List.set_cons_succ]
                refine take_at (i := 4) 52 (.int .i64 (64 * (m : Int) + 64)) rfl rfl (by kernel_rfl) (by kernel_rfl) (by kernel_rfl) (fun _ _ _ h => h) (Or.inl ⟨by rfl, fun W hW => by go_simp⟩) hS ?_
                simp only [List.setIfInBounds_toArray, List.set_cons_zero, List.set_cons_succ]
                refine take_at (i := 5) 53 (.slice (some ⟨g, 64 * m, none⟩) 64 (cap - 64 * m)) rfl rfl (by kernel_rfl) (by kernel_rfl) (by kernel_rfl) (fun _ _ _ h => h) (Or.inl ⟨by rfl, fun W hW => by go_simp⟩) hS ?_
                simp only [List.setIfInBounds_toArray, List.set_cons_zero, List.set_cons_succ]
                refine take_at (i := 6) 54 (.string (strOf ((l.drop (64 * m)).take 64))) rfl rfl (by kernel_rfl) (by kernel_rfl) (by kernel_rfl) (fun _ _ _ h => h) (Or.inl ⟨by rfl, fun W hW => by have hcv := hW.2.2.conv (64 * m) (cap - 64 * m) hcl; go_simp⟩) hS ?_
                simp only [List.setIfInBounds_toArray, List.set_cons_zero, List.set_cons_succ]
                refine wpAnyH_ready (rs := [0]) (by kernel_rfl) (by simp) ?_
                refine AllReadyH.cons rfl (fun K hK => ?_) AllReadyH.nil
                rw [if_pos (by rfl)]
                refine wpo_loadRow 61 (.tmp 5) rfl B rfl (run_loadVar_Blk k1.drew Tryd.underlying61 rfl size61 (A32.size _ _)) ?_
                refine hK.out _ _ (hS) (fun hS => ?_)
                clear hK K
                try simp only [Act.put, List.setIfInBounds_toArray, List.set_cons_zero, List.set_cons_succ]
                refine wpAnyH_ready (rs := [7]) (by kernel_rfl) (by simp) ?_
                refine AllReadyH.cons rfl (fun K hK => ?_) AllReadyH.nil
                go_simp
                refine (cb _ (hKK.below hw0 hS.1)).mono ?_
                rintro e X2 ⟨rfl, hb⟩
                refine hK.out _ _ (⟨hS.1.trans (hb.mono hS.1.size), hS.2.1.below hb hS.2.1.lt, hS.2.2.below hb⟩) (fun hS => ?_)
                clear hK K
                have k2 := k1.drew.below hb k1.drew.lt
                try simp only [Act.put, List.setIfInBounds_toArray, List.set_cons_zero, List.set_cons_succ]
                refine wpAnyH_ready (rs := [8]) (by kernel_rfl) (by simp) ?_
                refine AllReadyH.cons rfl (fun K hK => ?_) AllReadyH.nil
                rw [if_pos (by rfl)]
                refine wpo_storeRow (C' := A32 8 (shaFold roundK h l (m + 1))) 61 (.tmp 5) (.tmp 55) rfl B rfl rfl k2 size61 (A32.size _ _) (A32.size _ _) (A32.one _) rfl ?_
                intro X3 hu k3
                refine hK.out _ _ (⟨hu.below hS.1 (by omega), hS.2.1.upd hu (by omega), hS.2.2.upd hu (by omega)⟩) (fun hS => ?_)
                clear hK K
                try simp only [Act.put, List.setIfInBounds_toArray, List.set_cons_zero, List.set_cons_succ]
                refine wpAnyH_done (by kernel_rfl) ?_ _
                go_wp2_with fail
                exact ⟨⟨m + 1, by omega, by go_num, hS.2.2, hS.2.1, k3, hS.1⟩, by simp [intOf]; omega⟩
              · have hm1 : ¬ 64 * (m : Int) < (n : Int) := by omega
                obtain ⟨H, hH⟩ : ∃ H, addH roundK h l = H := ⟨_, rfl⟩
                have hm2 : m = l.length / 64 := by have := HNL2.out; omega
                have hH2 : shaFold roundK h l m = H := by rw [← hH, addH, ← hm2]
                rw [hH2] at k1
                have HH := hide hH
                have lB := k1.lt
                clear hH hH2 hm2 b1
                go_wp2_with fail
                have k2 := k1.alloc (.cells (A8 32 fun _ => 0#8) 69)
                have ho3 := ho2.alloc (.cells (A8 32 fun _ => 0#8) 69)
                have hBe := hBd.alloc hBd.size (.cells (A8 32 fun _ => 0#8) 69)
                have kO := Blk.new wr (A8 32 fun _ => 0#8) 69
                have sO := hBd.size
                obtain ⟨O, hOe⟩ : ∃ O, wr.heap.size = O := ⟨_, rfl⟩
                rw [hOe] at kO lB sO ⊢
                clear hOe k1 ho2 hBd
                have kO' : Blk (wr.alloc (.cells (A8 32 fun _ => 0#8) 69)) O (A8 32 fun j => if j < 0 then digestOf H j else 0#8) 69 := kO
                go_loopw [8] (fun s8 X => ∃ t : Nat, t ≤ 32 ∧ s8 = .int .i64 (t : Int) ∧ Blk X (w.heap.size + 1) (dgE (fun _ => 0#8) 0) 73 ∧ Blk X B (A32 8 H) 61 ∧ Blk X O (A8 32 fun j => if j < t then digestOf H j else 0#8) 69 ∧ Below w.heap.size w X) (fun s8 _ => 32 - (intOf s8).toNat)
                case atStart => exact ⟨0, by omega, rfl, ho3, k2, kO', hBe⟩
                case round =>
                  clear kO kO' k2 ho3 hBe
                  obtain ⟨t, ht, rfl, ho3, k2, kO, hBe⟩ := hrel
                  by_cases ht32 : t < 32
                  · have ht1 : (t : Int) < 32 := by omega
                    have hc := k2.cell (t / 4)
                    rw [A32.get _ (by omega)] at hc
                    have hcO := kO.cell t
                    have hfO := kO.free t
                    rw [A8.get _ ht32, if_neg (Nat.lt_irrefl t)] at hcO
                    have ht0 : (0 : Int) ≤ (t : Int) := by omega
                    have hd0 : (0 : Int) ≤ (t : Int) / 4 := by omega
                    have hd1 : (t : Int) / 4 < 8 := by omega
                    have hd2 : ((t : Int) / 4).toNat = t / 4 := by omega
                    have hwm : IntKind.i64.wrap (8 * ((t : Int) % 4)) = 8 * ((t : Int) % 4) := IntWalk.i64_in _ (by omega)
                    have hws : IntKind.i64.wrap (24 - 8 * ((t : Int) % 4)) = 24 - 8 * ((t : Int) % 4) := IntWalk.i64_in _ (by omega)
                    have hs0 : (0 : Int) ≤ 24 - 8 * ((t : Int) % 4) := by omega
                    have hs1 : 8 * ((t : Int) % 4) ≤ 24 := by omega
                    go_wp2_with fail
                    have k9 := kO.set t (U8 (digestOf H t))
                    rw [A8.step] at k9
                    exact ⟨⟨t + 1, by omega, by go_num, ho3.other (by simp; omega) _, k2.other (by simp; omega) _, k9, hBe.setCell (p := ⟨O, t, none⟩) (by simp; omega) _⟩, by simp [intOf]; omega⟩
                  · have ht1 : ¬ (t : Int) < 32 := by omega
                    have ht' : t = 32 := by omega
                    subst ht'
                    go_upto_region 21 with fail
                    apply wp_region_lit
                    have kF : Blk wr O (A8 32 (digestOf H)) 69 := by
                      have e : (A8 32 fun j => if j < 32 then digestOf H j else 0#8) = A8 32 (digestOf H) := A8.ext fun j hj => if_pos hj
                      rw [← e]; exact kO
                    refine wp_loadRow (t := 69) (C := A8 32 (digestOf H)) (n := 32) rfl 69 (.tmp 7) rfl O rfl kF Tryd.underlying69 rfl size69 (A8.size _ _) ?_
                    refine wp_buildL rfl 73 #[(0, .tmp 72)] rfl #[(0, .agg (A8 32 (digestOf H)))] rfl (.agg (dgE (digestOf H) 0)) (build73 _) ?_
                    refine wp_storeRow (C' := dgE (digestOf H) 0) (n := 33) rfl 73 (.tmp 2) (.tmp 73) rfl (w.heap.size + 1) rfl rfl ho3 size73 (dgE.size _ _) (dgE.size _ _) (dgE.one _ _) rfl ?_
                    intro W9 hu9 k9
                    go_wp2_with fail
                    refine ret_row rfl (w.heap.size + 1) rfl k9 Tryd.underlying73 rfl size73 (dgE.size _ _) rfl ⟨?_, hu9.below hBe (by omega)⟩
                    rw [endAns, if_pos hv, ← HH.out, ← HLE.out, ← hxe]
                    rfl
      · have ht : ((n : Int) % 64 != 56) = true := by
          have : (n : Int) % 64 ≠ 56 := by rw [hnl]; unfold padZ at hz hk2; split at hz <;> split at hk2 <;> omega
          simpa using this
        have hy : padCell (padZ rest.size) x k = 0#8 := by rw [padCell, if_neg (by omega), if_pos (by omega)]
        go_wp2_with (at_builtin; go_loud (refine wp_append_rw rfl _ _ 43 rfl Tryd.underlying43 infoU8 (base := B0) rfl (r1.alloc _) _ 1 rfl (y := 0#8) (by rw [(Blk.new _ _ _).cell]; rfl) (by rw [padUp_length]; omega) (by simp; omega) ?_); intro v1 W2 r2 hb2)
        rw [← hy, padUp_next] at r2
        refine ⟨⟨k + 1, by omega, by omega, r2, (hn2.alloc _).below hb2 (by omega), (ho2.alloc _).below hb2 (by omega), (hBd.alloc hBd.size _).trans (hb2.mono (by omega)), by have := hb2.size; simp at this; omega⟩, ?_⟩
        obtain ⟨g', cap', n', rfl, hnl'⟩ := r2.form
        rw [padUp_length] at hnl'
        simp [lenOfSl]
        omega
  · have hv' : validB rest len = false := by
      cases e : validB rest len
      · rfl
      · exact absurd e hv
    go_upto_region 2 with fail
    apply wp_region_lit
    refine wp_buildL rfl 73 #[(1, .const (.int .i64 2))] rfl #[(1, .int .i64 2)] rfl (.agg (dgE (fun _ => 0#8) 2)) (build73e 2) ?_
    refine wp_storeRow (C' := dgE (fun _ => 0#8) 2) (n := 33) rfl 73 (.tmp 2) (.tmp 12) rfl (w.heap.size + 1) rfl rfl ho1 size73 (dgE.size _ _) (dgE.size _ _) (dgE.one _ _) rfl ?_
    intro W3 hu3 ho3
    go_wp2_with fail
    exact ret_row rfl (w.heap.size + 1) rfl ho3 Tryd.underlying73 rfl size73 (dgE.size _ _) rfl ⟨by rw [endAns, if_neg hv], hu3.below hBb (by omega)⟩
end Go.Proofs.YtdpgebifeaakjaaDoor

/- States in plain: adding part after part. -/
namespace Go.Proofs.YtdpgebifeaakjaaDoor
set_option linter.unusedSimpArgs false
set_option linter.unusedVariables false
open Go.RowKit

theorem shaFold_left (k h : Nat → BitVec 32) (x y : List (BitVec 8)) : ∀ a, 64 * a ≤ x.length → shaFold k h (x ++ y) a = shaFold k h x a
  | 0, _ => rfl
  | a + 1, hl => by
    rw [shaFold, shaFold, shaFold_left k h x y a (by omega), List.drop_append_of_le_length (by omega), List.take_append_of_le_length (by rw [List.length_drop]; omega)]
theorem shaFold_go (k h : Nat → BitVec 32) (x : List (BitVec 8)) (a : Nat) : ∀ n, shaFold k (shaFold k h x a) (x.drop (64 * a)) n = shaFold k h x (a + n)
  | 0 => rfl
  | n + 1 => by
    rw [← Nat.add_assoc, shaFold, shaFold, shaFold_go k h x a n, List.drop_drop, Nat.mul_add]
theorem split_eq (x y : List (BitVec 8)) : addRest x ++ y = (x ++ y).drop (64 * (x.length / 64)) := by
  rw [addRest, List.drop_append_of_le_length (by omega)]
theorem addRest_append (x y : List (BitVec 8)) : addRest (addRest x ++ y) = addRest (x ++ y) := by
  rw [split_eq, addRest, addRest, List.drop_drop, List.length_drop, List.length_append]
  congr 1
  omega
theorem addH_append (k h : Nat → BitVec 32) (x y : List (BitVec 8)) : addH k (addH k h x) (addRest x ++ y) = addH k h (x ++ y) := by
  rw [split_eq, addH, addH, addH, ← shaFold_left k h x y _ (by omega), shaFold_go, List.length_drop, List.length_append]
  congr 1
  omega
theorem addRest_length (l : List (BitVec 8)) : (addRest l).length = l.length % 64 := by
  rw [addRest, List.length_drop]; omega
theorem validB_of (l : List (BitVec 8)) (hl : l.length ≤ 1099511627776) : validB (strOf (addRest l)) l.length = true := by
  unfold validB
  rw [size_strOf, addRest_length, Bool.and_eq_true, Bool.and_eq_true]
  refine ⟨⟨decide_eq_true (by omega), decide_eq_true (by omega)⟩, beq_iff_eq.2 (by omega)⟩
/-- The state behind a byte sequence. -/
def stP (l : List (BitVec 8)) : Array Value := stG (addH roundK startK l) (strOf (addRest l)) l.length
theorem stP_nil : stG startK ByteArray.empty 0 = stP [] := rfl
theorem addAns_ok (l : List (BitVec 8)) (s : ByteArray) (h : l.length + s.size ≤ 1099511627776) :
    addAns (addH roundK startK l) (strOf (addRest l)) l.length s = (stP (l ++ bts s), 0) := by
  rw [addAns, if_pos (validB_of l (by omega)), if_pos (by omega), bts_strOf, addH_append, addRest_append, stP, List.length_append, bts_length]
  push_cast
  rfl
theorem endAns_ok (l : List (BitVec 8)) (h : l.length ≤ 1099511627776) : endAns (addH roundK startK l) (strOf (addRest l)) l.length = (sha l, 0) := by
  rw [endAns, if_pos (validB_of l h), bts_strOf, size_strOf]
  rfl
end Go.Proofs.YtdpgebifeaakjaaDoor

/- The specification's Start, Sum256 and Sum. -/
namespace Go.Proofs.YtdpgebifeaakjaaDoor
set_option linter.unusedSimpArgs false
set_option linter.unusedVariables false
open Go.RowKit

theorem build61s (w : World) : (Instr.build 61 #[(0, .int .u32 1779033703), (1, .int .u32 3144134277), (2, .int .u32 1013904242), (3, .int .u32 2773480762), (4, .int .u32 1359893119), (5, .int .u32 2600822924), (6, .int .u32 528734635), (7, .int .u32 1541459225)]).run Tryd.prog w = .ok (.agg (A32 8 startK)) w := by kernel_rfl
set_option maxRecDepth 20000 in
set_option maxHeartbeats 400000 in
theorem rstart_any (w : World) :
    Calls Tryd.prog 130 #[] w fun e w' => e = .returned (.agg (stP [])) ∧ Below w.heap.size w w' := by
  have ho := Blk.new w (stG (fun _ => 0#32) ByteArray.empty 0) 63
  have hB : Below w.heap.size w (w.alloc (.cells (stG (fun _ => 0#32) ByteArray.empty 0) 63)) := (Below.refl _ _).alloc (Nat.le_refl _) _
  go_enter Tryd.func130, Tryd.ntmps130
  go_upto_region 1 with fail
  apply wp_region_lit
  refine wp_buildL rfl 61 _ rfl #[(0, .int .u32 1779033703), (1, .int .u32 3144134277), (2, .int .u32 1013904242), (3, .int .u32 2773480762), (4, .int .u32 1359893119), (5, .int .u32 2600822924), (6, .int .u32 528734635), (7, .int .u32 1541459225)] rfl (.agg (A32 8 startK)) build61s ?_
  refine wp_buildL rfl 63 #[(0, .tmp 1)] rfl #[(0, .agg (A32 8 startK))] rfl (.agg (stP [])) (build63g startK) ?_
  refine wp_storeRow (C' := stP []) (n := 10) rfl 63 (.tmp 0) (.tmp 2) rfl w.heap.size rfl rfl ho size63 (stG.size _ _ _) (stG.size _ _ _) (stG.one _ _ _) rfl ?_
  intro W1 hu k1
  go_wp2_with fail
  exact ret_row rfl w.heap.size rfl k1 Tryd.underlying63 rfl size63 (stG.size _ _ _) rfl ⟨rfl, hu.below hB (Nat.le_refl _)⟩
theorem field67 (h : Nat → BitVec 32) (rest : ByteArray) (len e : Int) (w : World) : (Instr.field 67 (.agg (stE h rest len e)) 0).run Tryd.prog w = .ok (.agg (stG h rest len)) w := by kernel_rfl
theorem field73 (D : Nat → BitVec 8) (e : Int) (w : World) : (Instr.field 73 (.agg (dgE D e)) 0).run Tryd.prog w = .ok (.agg (A8 32 D)) w := by kernel_rfl
theorem addS_ok (l : List (BitVec 8)) (s : ByteArray) (h : l.length + s.size ≤ 1099511627776) :
    addS (addH roundK startK l) (strOf (addRest l)) l.length s = (addH roundK startK (l ++ bts s), strOf (addRest (l ++ bts s)), ((l ++ bts s).length : Int), 0) := by
  rw [addS, if_pos (validB_of l (by omega)), if_pos (by omega), bts_strOf, addH_append, addRest_append, List.length_append, bts_length]
  push_cast
  rfl
set_option maxRecDepth 20000 in
set_option maxHeartbeats 400000 in
theorem rsum256_any (s : ByteArray) (hs : s.size ≤ 1099511627776) (w : World) (hKK : KAt w) :
    Calls Tryd.prog 113 #[.string s] w fun e w' => e = .returned (.agg (A8 32 (sha (bts s)))) ∧ Below w.heap.size w w' := by
  have hw0 := hKK.pos
  have c1 := rstart_any
  have c2 : ∀ w, KAt w → Calls Tryd.prog 39 #[.agg (stP []), .string s] w fun e w' => e = .returned (.agg (stE (addH roundK startK (bts s)) (strOf (addRest (bts s))) (bts s).length 0)) ∧ Below w.heap.size w w' := fun w hk => by
    have h := radd_any (addH roundK startK []) (strOf (addRest [])) ([] : List (BitVec 8)).length (by decide) s (by omega) w hk
    rw [addS_ok [] s (by simpa using hs)] at h
    exact h
  have c3 : ∀ w, KAt w → Calls Tryd.prog 41 #[.agg (stG (addH roundK startK (bts s)) (strOf (addRest (bts s))) (bts s).length)] w fun e w' => e = .returned (.agg (dgE (sha (bts s)) 0)) ∧ Below w.heap.size w w' := fun w hk => by
    have h := rend_any (addH roundK startK (bts s)) (strOf (addRest (bts s))) (bts s).length (by rw [size_strOf, addRest_length]; unfold maxLen; omega) w hk
    rw [endAns_ok _ (by rw [bts_length]; exact hs)] at h
    exact h
  have f1 := field67 (addH roundK startK (bts s)) (strOf (addRest (bts s))) (bts s).length 0
  have f2 := field73 (sha (bts s)) 0
  have ho := Blk.new w (A8 32 fun _ => 0#8) 69
  have hB : Below w.heap.size w (w.alloc (.cells (A8 32 fun _ => 0#8) 69)) := (Below.refl _ _).alloc (Nat.le_refl _) _
  go_enter Tryd.func113, Tryd.ntmps113
  go_wp2_with fail
  refine (c1 _).mono ?_
  rintro e W1 ⟨rfl, hb⟩
  replace hB := hB.trans (hb.mono hB.size)
  replace ho := ho.below hb ho.lt
  clear hb
  go_wp2_with fail
  refine (c2 _ (hKK.below hw0 hB)).mono ?_
  rintro e W2 ⟨rfl, hb⟩
  replace hB := hB.trans (hb.mono hB.size)
  replace ho := ho.below hb ho.lt
  clear hb
  go_wp2_with fail
  refine (c3 _ (hKK.below hw0 hB)).mono ?_
  rintro e W3 ⟨rfl, hb⟩
  replace hB := hB.trans (hb.mono hB.size)
  replace ho := ho.below hb ho.lt
  clear hb
  go_wp2_with (refine wp_storeRow (C' := A8 32 (sha (bts s))) rfl 69 _ _ rfl _ rfl rfl ho size69 (A8.size _ _) (A8.size _ _) (A8.one _) rfl ?_; intro W4 hu k1)
  exact ret_row rfl w.heap.size rfl k1 Tryd.underlying69 rfl size69 (A8.size _ _) rfl ⟨rfl, hu.below hB (Nat.le_refl _)⟩
end Go.Proofs.YtdpgebifeaakjaaDoor

/- Leaves and joins of a tree, of both sides; the specification's Sum. -/
namespace Go.Proofs.YtdpgebifeaakjaaDoor
set_option linter.unusedSimpArgs false
set_option linter.unusedVariables false
open Go.RowKit

set_option maxRecDepth 20000 in
set_option maxHeartbeats 400000 in
theorem rsum_any (s : ByteArray) (hs : s.size ≤ 1099511627776) (w : World) (hKK : KAt w) :
    Calls Tryd.prog 80 #[.string s] w fun e w' => e = .returned (.agg (A8 16 (sha (bts s)))) ∧ Below w.heap.size w w' := by
  have hw0 := hKK.pos
  have c1 := fun w hk => rsum256_any s hs w hk
  obtain ⟨D, hD⟩ : ∃ D, sha (bts s) = D := ⟨_, rfl⟩
  rw [hD] at c1 ⊢
  clear hD
  have ho := Blk.new w (A8 16 fun _ => 0#8) 23
  have hB : Below w.heap.size w (w.alloc (.cells (A8 16 fun _ => 0#8) 23)) := (Below.refl _ _).alloc (Nat.le_refl _) _
  go_enter Tryd.func80, Tryd.ntmps80
  go_wp2_with fail
  refine (c1 _ (hKK.below hw0 hB)).mono ?_
  rintro e W1 ⟨rfl, hb⟩
  replace hB := hB.trans (hb.mono hB.size)
  replace ho := ho.below hb ho.lt
  have l1 := ho.lt
  clear hb c1
  go_wp2_with (refine wp_storeRow (C' := A8 32 D) rfl 69 _ _ rfl _ rfl rfl (Blk.new _ _ _) size69 (A8.size _ _) (A8.size _ _) (A8.one _) rfl ?_; intro W2 hu k1)
  replace hB := hu.below (hB.alloc hB.size (.cells (A8 32 fun _ => 0#8) 69)) hB.size
  replace ho := (ho.alloc (.cells (A8 32 fun _ => 0#8) 69)).upd hu (by omega)
  have l2 := k1.lt
  have k2 := k1.alloc (.cells (A8 16 fun _ => 0#8) 23)
  have ho2 := ho.alloc (.cells (A8 16 fun _ => 0#8) 23)
  have hBe := hB.alloc hB.size (.cells (A8 16 fun _ => 0#8) 23)
  have kO : Blk (W2.alloc (.cells (A8 16 fun _ => 0#8) 23)) W2.heap.size (A8 16 fun j => if j < 0 then D j else 0#8) 23 := Blk.new W2 (A8 16 fun _ => 0#8) 23
  have sO := hB.size
  obtain ⟨O, hOe⟩ : ∃ O, W2.heap.size = O := ⟨_, rfl⟩
  rw [hOe] at kO l2 sO ⊢
  obtain ⟨B, hBE⟩ : ∃ B, W1.heap.size = B := ⟨_, rfl⟩
  rw [hBE] at k2 l2 l1 ⊢
  clear hOe hBE k1 ho hB hu
  go_loopw [5] (fun s5 X => ∃ t : Nat, t ≤ 16 ∧ s5 = .int .i64 (t : Int) ∧ Blk X w.heap.size (A8 16 fun _ => 0#8) 23 ∧ Blk X B (A8 32 D) 69 ∧ Blk X O (A8 16 fun j => if j < t then D j else 0#8) 23 ∧ Below w.heap.size w X) (fun s5 _ => 16 - (intOf s5).toNat)
  case atStart => exact ⟨0, by omega, rfl, ho2, k2, kO, hBe⟩
  case round =>
    clear kO k2 ho2 hBe
    obtain ⟨t, ht, rfl, ho2, k2, kO, hBe⟩ := hrel
    by_cases ht16 : t < 16
    · have ht1 : (t : Int) < 16 := by omega
      have ht2 : (t : Int) < 32 := by omega
      have ht0 : (0 : Int) ≤ (t : Int) := by omega
      have hc := k2.cell t
      rw [A8.get _ (by omega)] at hc
      have hcO := kO.cell t
      have hfO := kO.free t
      rw [A8.get _ ht16, if_neg (Nat.lt_irrefl t)] at hcO
      go_wp2_with fail
      have k9 := kO.set t (U8 (D t))
      rw [A8.step] at k9
      exact ⟨⟨t + 1, by omega, by go_num, ho2.other (by simp; omega) _, k2.other (by simp; omega) _, k9, hBe.setCell (p := ⟨O, t, none⟩) (by simp; omega) _⟩, by simp [intOf]; omega⟩
    · have ht1 : ¬ (t : Int) < 16 := by omega
      have kF : Blk wr O (A8 16 D) 23 := by
        have e : (A8 16 fun j => if j < t then D j else 0#8) = A8 16 D := A8.ext fun j hj => if_pos (by omega)
        rw [← e]; exact kO
      go_wp2_with (first | (refine wp_loadRow (C := A8 16 D) rfl 23 _ rfl O rfl kF Tryd.underlying23 rfl size23 (A8.size _ _) ?_) | (refine wp_storeRow (C' := A8 16 D) rfl 23 _ _ rfl w.heap.size rfl rfl ho2 size23 (A8.size _ _) (A8.size _ _) (A8.one _) rfl ?_; intro W4 hu k9))
      exact ret_row rfl w.heap.size rfl k9 Tryd.underlying23 rfl size23 (A8.size _ _) rfl ⟨rfl, hu.below hBe (Nat.le_refl _)⟩
end Go.Proofs.YtdpgebifeaakjaaDoor

/- Leaves and joins of a tree, of both sides. -/
namespace Go.Proofs.YtdpgebifeaakjaaDoor
set_option linter.unusedSimpArgs false
set_option linter.unusedVariables false
open Go.RowKit

theorem step_storeRow {P : Program} {ops : Array Oper} {o : Oper} {a : Act} {w : World} {K : Act → World → Prop} {Q : Exit → Act → World → Prop} {E : Prop} (hgd : o.guard = none) (ty : TypeId) (x y : Operand) (ho : o.op = .store ty x y)
    (b : Nat) (hx : a.eval x = .pointer (some ⟨b, 0, none⟩)) {C' : Array Value} (hy : a.eval y = .agg C') {t : TypeId} {C : Array Value} (hb : Blk w b C t) {n : Nat}
    (hi : (P.info? ty).map (·.size) = some n) (hn' : C'.size = n) (hn : C.size = n) (h1 : C'.all (·.oneCell') = true) (hdst : o.dst = none)
    (h : ∀ w', Upd b w w' → Blk w' b C' t → K a w') : if Region.wanted o (yielded ops a.tmps) = true then Oper.wp P o a w K Q else E := by
  have hw : Region.wanted o (yielded ops a.tmps) = true := by simp [Region.wanted, hgd]
  rw [if_pos hw]
  exact wpo_storeRow ty x y ho b hx hy hb hi hn' hn h1 hdst h
/-- The bytes of a digest. -/
def dl (d : Nat → BitVec 8) : List (BitVec 8) := (List.range 16).map d
theorem dl_length (d : Nat → BitVec 8) : (dl d).length = 16 := by simp [dl]
def leafD (d : Nat → BitVec 8) : Nat → BitVec 8 := sha (0#8 :: dl d)
def nodeD (d f : Nat → BitVec 8) : Nat → BitVec 8 := sha (1#8 :: (dl d ++ dl f))
theorem leaf_bytes (d : Nat → BitVec 8) : sha (bts (⟨#[0]⟩ ++ strOf (dl d))) = leafD d := by rw [bts_append, bts_strOf]; rfl
theorem node_bytes (d f : Nat → BitVec 8) : sha (bts (⟨#[1]⟩ ++ strOf (dl d) ++ strOf (dl f))) = nodeD d f := by rw [bts_append, bts_append, bts_strOf, bts_strOf, List.append_assoc]; rfl
theorem conv_dl {W : World} {b : Nat} {d : Nat → BitVec 8} (k : Blk W b (A8 16 d) 23) : (convert 43 9 (.slice (some ⟨b, 0, none⟩) 16 16)).run Tryd.prog W = .ok (.string (strOf (dl d))) W :=
  run_bytes_str W 43 9 5 b 0 16 _ 16 (dl_length d) Tryd.underlying43 Tryd.underlying5 Tryd.underlying9 fun j hj => by
    have hj' : j < 16 := by rw [dl_length] at hj; exact hj
    rw [Nat.zero_add, k.cell, A8.get _ hj']
    simp [dl]

set_option maxRecDepth 20000 in
set_option maxHeartbeats 400000 in
theorem leaf_any (d : Nat → BitVec 8) (w : World) :
    Calls Tryd.prog 77 #[.agg (A8 16 d)] w fun e w' => e = .returned (.agg (A8 16 (leafD d))) ∧ Below w.heap.size w w' := by
  have hbx := box23 d
  have c1 := fun w => sum_any (⟨#[0]⟩ ++ strOf (dl d)) (by rw [ByteArray.size_append, size_strOf, dl_length]; decide) w
  simp only [leaf_bytes] at c1
  have k1 := (Blk.new w (A8 16 d) 23).alloc (.cells (A8 16 fun _ => 0#8) 23)
  have ho := Blk.new (w.alloc (.cells (A8 16 d) 23)) (A8 16 fun _ => 0#8) 23
  rw [World.size_alloc] at ho
  have hB : Below w.heap.size w ((w.alloc (.cells (A8 16 d) 23)).alloc (.cells (A8 16 fun _ => 0#8) 23)) := ((Below.refl _ _).alloc (Nat.le_refl _) _).alloc (by simp) _
  have hcv := conv_dl k1
  have hsum := fun w : World => run_string_add_sum (P := Tryd.prog) w ⟨#[0]⟩ (strOf (dl d)) (by rw [size_strOf, dl_length]; decide)
  generalize strOf (dl d) = X at c1 hcv hsum
  generalize (⟨#[0]⟩ : ByteArray) ++ X = Y at c1 hsum
  generalize leafD d = D at c1 ⊢
  go_enter Tryd.func77, Tryd.ntmps77
  go_wp2_with fail
  refine (c1 _).mono ?_
  rintro e W1 ⟨rfl, hb⟩
  replace hB := hB.trans (hb.mono hB.size)
  replace ho := ho.below hb ho.lt
  go_wp2_with (refine wp_storeRow (C' := A8 16 D) rfl 23 _ _ rfl _ rfl rfl ho size23 (A8.size _ _) (A8.size _ _) (A8.one _) rfl ?_; intro W4 hu k9)
  exact ret_row rfl (w.heap.size + 1) rfl k9 Tryd.underlying23 rfl size23 (A8.size _ _) rfl ⟨rfl, hu.below hB (by omega)⟩

set_option maxRecDepth 20000 in
set_option maxHeartbeats 400000 in
theorem rleaf_any (d : Nat → BitVec 8) (w : World) (hKK : KAt w) :
    Calls Tryd.prog 81 #[.agg (A8 16 d)] w fun e w' => e = .returned (.agg (A8 16 (leafD d))) ∧ Below w.heap.size w w' := by
  have hbx := box23 d
  have c1 := fun w hk => rsum_any (⟨#[0]⟩ ++ strOf (dl d)) (by rw [ByteArray.size_append, size_strOf, dl_length]; decide) w hk
  simp only [leaf_bytes] at c1
  have k1 := (Blk.new w (A8 16 d) 23).alloc (.cells (A8 16 fun _ => 0#8) 23)
  have ho := Blk.new (w.alloc (.cells (A8 16 d) 23)) (A8 16 fun _ => 0#8) 23
  rw [World.size_alloc] at ho
  have hB : Below w.heap.size w ((w.alloc (.cells (A8 16 d) 23)).alloc (.cells (A8 16 fun _ => 0#8) 23)) := ((Below.refl _ _).alloc (Nat.le_refl _) _).alloc (by simp) _
  have hcv := conv_dl k1
  have hsum := fun w : World => run_string_add_sum (P := Tryd.prog) w ⟨#[0]⟩ (strOf (dl d)) (by rw [size_strOf, dl_length]; decide)
  generalize strOf (dl d) = X at c1 hcv hsum
  generalize (⟨#[0]⟩ : ByteArray) ++ X = Y at c1 hsum
  generalize leafD d = D at c1 ⊢
  go_enter Tryd.func81, Tryd.ntmps81
  go_wp2_with fail
  refine (c1 _ (hKK.below hKK.pos hB)).mono ?_
  rintro e W1 ⟨rfl, hb⟩
  replace hB := hB.trans (hb.mono hB.size)
  replace ho := ho.below hb ho.lt
  go_wp2_with (refine wp_storeRow (C' := A8 16 D) rfl 23 _ _ rfl _ rfl rfl ho size23 (A8.size _ _) (A8.size _ _) (A8.one _) rfl ?_; intro W4 hu k9)
  exact ret_row rfl (w.heap.size + 1) rfl k9 Tryd.underlying23 rfl size23 (A8.size _ _) rfl ⟨rfl, hu.below hB (by omega)⟩

end Go.Proofs.YtdpgebifeaakjaaDoor
