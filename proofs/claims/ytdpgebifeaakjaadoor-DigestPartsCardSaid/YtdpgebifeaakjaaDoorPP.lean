/- The walk of DigestParts: true. -/
import Derived.Test.YtdpgebifeaakjaaDoorL6
import Derived.Test.YtdpgebifeaakjaaDoorSN
import Derived.Test.YtdpgebifeaakjaaDoorK6
import Derived.Test.YtdpgebifeaakjaaDoorC4
namespace Go.Proofs.YtdpgebifeaakjaaDoor
set_option linter.unusedSimpArgs false
set_option linter.unusedVariables false
open Go.RowKit

/-- A slice of numbers of 16 bits, as it lies. -/
def Cuts (W : World) (u : Value) (n : Nat) (c : Nat → Nat) : Prop :=
  ∃ p cap, u = .slice p n cap ∧ ∀ j, j < n → ∃ g o, p = some ⟨g, o, none⟩ ∧ W.cell? ⟨g, o + j, none⟩ = some (.int .u16 (c j)) ∧ c j < 65536

theorem rangeAt_st {W : World} {B : Nat} {l : List (BitVec 8)} (h : Blk W B (stP l) 63) : W.rangeAt B 0 (stP l).toList := by
  unfold stP stG at h ⊢
  exact h.rangeAt 0 10 _ (by omega) (fun j hj => by rw [Nat.zero_add])
theorem stP.size (l : List (BitVec 8)) : (stP l).size = 10 := stG.size _ _ _
theorem stP.one (l : List (BitVec 8)) : (stP l).all (·.oneCell') = true := stG.one _ _ _

set_option maxRecDepth 100000 in
set_option maxHeartbeats 4000000 in
theorem parts_any (s : ByteArray) (hs : s.size ≤ maxLen) (u : Value) (n : Nat) (c : Nat → Nat) (w : World) (hu : Cuts w u n c) (hn : n ≤ maxLen) (hT : TabAt 3 Lib.deBruijn64tab w) (h3 : 3 < w.heap.size) :
    Calls Tryd.prog 9 #[.string s, u] w fun e w' => e = .returned (.bool true) ∧ Below w.heap.size w w' := by
  unfold maxLen at hs hn
  obtain ⟨p, cap, rfl, hc⟩ := hu
  have hshort : (3000 : Int) < (s.size : Int) ∨ ¬ (3000 : Int) < (s.size : Int) ∧ (100 : Int) < (n : Int) ∨ ¬ (3000 : Int) < (s.size : Int) ∧ ¬ (100 : Int) < (n : Int) := by omega
  rcases hshort with h | ⟨h, h'⟩ | ⟨h, h'⟩
  · go_enter Tryd.func9, Tryd.ntmps9
    go_wp2_with fail
    refine (sane_any _ hT h3).mono ?_
    rintro e w' ⟨rfl, hB⟩
    go_wp2_with fail
    go_ret
    exact ⟨rfl, hB⟩
  · go_enter Tryd.func9, Tryd.ntmps9
    go_wp2_with fail
    refine (sane_any _ hT h3).mono ?_
    rintro e w' ⟨rfl, hB⟩
    go_wp2_with fail
    go_ret
    exact ⟨rfl, hB⟩
  · go_enter Tryd.func9, Tryd.ntmps9
    go_wp2_with fail
    refine (start_any _).mono ?_
    rintro e W0 ⟨rfl, hB⟩
    have k0 := Blk.new W0 (stG (fun _ => 0#32) ByteArray.empty 0) 63
    have hsz := hB.size
    go_wp2_with (refine wp_storeRow rfl 63 _ _ rfl _ rfl rfl k0 size63 (stG.size _ _ _) (stG.size _ _ _) (stG.one _ _ _) rfl ?_; intro W1 hu1 k1)
    have hB1 := hu1.below (hB.alloc hB.size _) (by omega)
    rw [stP_nil] at k1
    clear hB k0 hu1
    obtain ⟨B, hBe⟩ : ∃ B, W0.heap.size = B := ⟨_, rfl⟩
    rw [hBe] at k1 hsz ⊢
    clear hBe
    go_loopw [6, 7, 8] (fun s6 s7 s8 W => ∃ (i : Nat) (l : List (BitVec 8)) (R : ByteArray), i ≤ n + 1 ∧ s8 = .int .i64 i ∧ s7 = .string R ∧ s6 = U32 (crcExt 0#32 l) ∧ bts s = l ++ bts R ∧ (i = n + 1 → bts R = []) ∧ Blk W B (stP l) 63 ∧ Below w.heap.size w W) (fun _ _ s8 _ => n + 1 - (intOf s8).toNat)
    case atStart => exact ⟨0, [], s, by omega, rfl, rfl, by rw [crcExt_nil]; rfl, rfl, by omega, k1, hB1⟩
    case round =>
      clear k1 hB1
      obtain ⟨i, l, R, hi, rfl, rfl, rfl, hl, hend, k1, hB1⟩ := hrel
      have hls : l.length + R.size ≤ 3000 := by
        have e := congrArg List.length hl
        rw [List.length_append, bts_length, bts_length] at e
        omega
      by_cases hin : i ≤ n
      · have hin1 : (i : Int) ≤ (n : Int) := by omega
        by_cases hlt : i < n
        · have hlt1 : (i : Int) < (n : Int) := by omega
          obtain ⟨g, o, rfl, hcl, hc6⟩ := hc i hlt
          replace hcl := cell_below hcl hB1
          have hc0 : (0 : Int) ≤ (c i : Int) := by omega
          go_wp2_with fail
          obtain ⟨k, hk, hkR⟩ : ∃ k : Nat, (c i : Int) % ((R.size : Int) + 1) = (k : Int) ∧ k ≤ R.size := ⟨c i % (R.size + 1), by push_cast; rfl, by have := Nat.mod_lt (c i) (show 0 < R.size + 1 by omega); omega⟩
          rw [hk]
          clear hk hcl hc6 hc0
          have hX : (R.extract 0 k).size = k := by rw [ByteArray.size_extract]; omega
          have hbX : bts (R.extract 0 k) = (bts R).take k := by rw [bts_extract, List.drop_zero, Nat.sub_zero]
          have hbY : bts (R.extract k R.size) = (bts R).drop k := by rw [bts_extract, List.take_of_length_le (by rw [List.length_drop, bts_length]; omega)]
          have ca : ∀ w, Calls Tryd.prog 38 #[.agg (stP l), .string (R.extract 0 k)] w fun e w' => e = .returned (.tuple #[.agg (stP (l ++ bts (R.extract 0 k))), .int .i64 0]) ∧ Below w.heap.size w w' := fun w => by
            have h := addp_any (addH roundK startK l) (strOf (addRest l)) l.length (by rw [size_strOf, addRest_length]; unfold maxLen; omega) (R.extract 0 k) (by omega) w
            rw [addAns_ok l _ (by omega)] at h
            exact h
          have ce : ∀ w, Calls Tryd.prog 33 #[U32 (crcExt 0#32 l), .string (R.extract 0 k)] w fun e w' => e = .returned (U32 (crcExt 0#32 (l ++ bts (R.extract 0 k)))) ∧ Below w.heap.size w w' := fun w => by
            have h := extend_any (crcExt 0#32 l) (R.extract 0 k) w (by unfold maxLen; omega)
            rw [crcExt_append] at h
            exact h
          have hl3 : bts s = (l ++ bts (R.extract 0 k)) ++ bts (R.extract k R.size) := by rw [hl, hbX, hbY, List.append_assoc, List.take_append_drop]
          obtain ⟨l2, hl2e⟩ : ∃ l2, l ++ bts (R.extract 0 k) = l2 := ⟨_, rfl⟩
          rw [hl2e] at ca ce hl3
          have hk0 : (0 : Int) ≤ (k : Int) := by omega
          have hk1 : (k : Int) ≤ (R.size : Int) := by omega
          clear hX hbX hl2e
          have hend2 : i + 1 = n + 1 → bts (R.extract k R.size) = [] := by omega
          refine wp_region_held_drew (S := fun w' => Below w.heap.size w w' ∧ Blk w' B (stP l) 63) (by kernel_rfl) (⟨hB1.drew, k1.drew⟩) (fun hS => ?_)
          refine take_at (i := 0) 47 (.agg (stP l)) rfl rfl (by kernel_rfl) (by kernel_rfl) (by kernel_rfl) (fun _ _ _ h => h) (Or.inl ⟨by rfl, fun W hW => exec_load_range _ 63 _ rfl B 0 rfl (rangeAt_st hW.2) Tryd.underlying63 rfl size63 (stG.size _ _ _)⟩) hS ?_
          simp only [List.setIfInBounds_toArray, List.set_cons_zero, List.set_cons_succ]
          refine take_at (i := 1) 48 (.string R) rfl rfl (by kernel_rfl) (by kernel_rfl) (by kernel_rfl) (fun _ _ _ h => h) (Or.inl ⟨by rfl, fun W hW => by go_simp⟩) hS ?_
          simp only [List.setIfInBounds_toArray, List.set_cons_zero, List.set_cons_succ]
          refine take_at (i := 2) 49 (.int .i64 k) rfl rfl (by kernel_rfl) (by kernel_rfl) (by kernel_rfl) (fun _ _ _ h => h) (Or.inl ⟨by rfl, fun W hW => by go_simp⟩) hS ?_
          simp only [List.setIfInBounds_toArray, List.set_cons_zero, List.set_cons_succ]
          refine take_at (i := 3) 50 (.string (R.extract 0 k)) rfl rfl (by kernel_rfl) (by kernel_rfl) (by kernel_rfl) (fun _ _ _ h => h) (Or.inl ⟨by rfl, fun W hW => by go_simp⟩) hS ?_
          simp only [List.setIfInBounds_toArray, List.set_cons_zero, List.set_cons_succ]
          refine wpAnyH_ready (rs := [4, 8]) (by kernel_rfl) (by simp) ?_
          refine AllReadyH.cons rfl (fun K hK => ?_) ?_
          · skip
            go_simp
            refine (ca _).mono ?_
            rintro e X1 ⟨rfl, hb⟩
            refine hK.out _ _ (⟨hS.1.trans (hb.mono hS.1.size), hS.2.below hb hS.2.lt⟩) (fun hS => ?_)
            clear hK K
            try simp only [Act.put, List.setIfInBounds_toArray, List.set_cons_zero, List.set_cons_succ]
            refine take_at (i := 5) 46 (.tuple #[.agg (stP l2), .int .i64 0]) rfl rfl (by kernel_rfl) (by kernel_rfl) (by kernel_rfl) (fun _ _ _ h => h) (Or.inl ⟨by rfl, fun W hW => by go_simp⟩) hS ?_
            simp only [List.setIfInBounds_toArray, List.set_cons_zero, List.set_cons_succ]
            refine take_at (i := 6) 52 (.agg (stP l2)) rfl rfl (by kernel_rfl) (by kernel_rfl) (by kernel_rfl) (fun _ _ _ h => h) (Or.inl ⟨by rfl, fun W hW => by go_simp⟩) hS ?_
            simp only [List.setIfInBounds_toArray, List.set_cons_zero, List.set_cons_succ]
            refine take_at (i := 7) 53 (.int .i64 0) rfl rfl (by kernel_rfl) (by kernel_rfl) (by kernel_rfl) (fun _ _ _ h => h) (Or.inl ⟨by rfl, fun W hW => by go_simp⟩) hS ?_
            simp only [List.setIfInBounds_toArray, List.set_cons_zero, List.set_cons_succ]
            refine wpAnyH_ready (rs := [8]) (by kernel_rfl) (by simp) ?_
            refine AllReadyH.cons rfl (fun K hK => ?_) AllReadyH.nil
            have hlt := hS.2.lt
            have hlw := hS.1.size
            go_simp
            refine hK.out _ _ (⟨hS.1.alloc hS.1.size _, hS.2.alloc _⟩) (fun hS => ?_)
            clear hK K
            have k10 := Blk.new (X1) (stG (fun _ => 0#32) ByteArray.empty 0) 63
            try simp only [Act.put, List.setIfInBounds_toArray, List.set_cons_zero, List.set_cons_succ]
            refine wpAnyH_ready (rs := [9]) (by kernel_rfl) (by simp) ?_
            refine AllReadyH.cons rfl (fun K hK => ?_) AllReadyH.nil
            rw [if_pos (by rfl)]
            refine wpo_storeRow (C' := stP l2) 63 (.tmp 10) (.tmp 52) rfl (X1.heap.size) rfl rfl k10 size63 (stG.size _ _ _) (stG.size _ _ _) (stG.one _ _ _) rfl ?_
            intro X3 hu k10'
            refine hK.out _ _ (⟨hu.below hS.1 (by omega), hS.2.upd hu (by omega)⟩) (fun hS => ?_)
            clear hK K
            try simp only [Act.put, List.setIfInBounds_toArray, List.set_cons_zero, List.set_cons_succ]
            refine take_at (i := 10) 11 (.int .i64 0) rfl rfl (by kernel_rfl) (by kernel_rfl) (by kernel_rfl) (fun _ _ _ h => h) (Or.inl ⟨by rfl, fun W hW => by go_simp⟩) hS ?_
            simp only [List.setIfInBounds_toArray, List.set_cons_zero, List.set_cons_succ]
            refine wpAnyH_done (by kernel_rfl) ?_ _
            obtain ⟨hB2, k2⟩ := hS
            clear k10 hu
            go_wp2_with (first | (refine wp_loadRow (C := stP l2) rfl 63 _ rfl (X1.heap.size) rfl k10' Tryd.underlying63 rfl size63 (stP.size _) ?_) | (refine wp_storeRow (C' := stP l2) rfl 63 _ _ rfl B rfl rfl k2 size63 (stP.size _) (stP.size _) (stP.one _) rfl ?_; intro Y hu k3))
            refine (ce _).mono ?_
            rintro e Z ⟨rfl, hb⟩
            have hB3 := hu.below hB2 (by omega)
            go_wp2_with fail
            exact ⟨⟨i + 1, l2, R.extract k R.size, by omega, by go_num, rfl, rfl, hl3, hend2, k3.below hb k3.lt, hB3.trans (hb.mono hB3.size)⟩, by simp [intOf]; omega⟩
          refine AllReadyH.cons rfl (fun K hK => ?_) AllReadyH.nil
          have hlt := hS.2.lt
          have hlw := hS.1.size
          go_simp
          refine hK.out _ _ (⟨hS.1.alloc hS.1.size _, hS.2.alloc _⟩) (fun hS => ?_)
          clear hK K
          have k10 := Blk.new (wr.drew) (stG (fun _ => 0#32) ByteArray.empty 0) 63
          try simp only [Act.put, List.setIfInBounds_toArray, List.set_cons_zero, List.set_cons_succ]
          refine wpAnyH_ready (rs := [4]) (by kernel_rfl) (by simp) ?_
          refine AllReadyH.cons rfl (fun K hK => ?_) AllReadyH.nil
          go_simp
          refine (ca _).mono ?_
          rintro e X5 ⟨rfl, hb⟩
          refine hK.out _ _ (⟨hS.1.trans (hb.mono hS.1.size), hS.2.below hb hS.2.lt⟩) (fun hS => ?_)
          clear hK K
          replace k10 := k10.below hb k10.lt
          try simp only [Act.put, List.setIfInBounds_toArray, List.set_cons_zero, List.set_cons_succ]
          refine take_at (i := 5) 46 (.tuple #[.agg (stP l2), .int .i64 0]) rfl rfl (by kernel_rfl) (by kernel_rfl) (by kernel_rfl) (fun _ _ _ h => h) (Or.inl ⟨by rfl, fun W hW => by go_simp⟩) hS ?_
          simp only [List.setIfInBounds_toArray, List.set_cons_zero, List.set_cons_succ]
          refine take_at (i := 6) 52 (.agg (stP l2)) rfl rfl (by kernel_rfl) (by kernel_rfl) (by kernel_rfl) (fun _ _ _ h => h) (Or.inl ⟨by rfl, fun W hW => by go_simp⟩) hS ?_
          simp only [List.setIfInBounds_toArray, List.set_cons_zero, List.set_cons_succ]
          refine take_at (i := 7) 53 (.int .i64 0) rfl rfl (by kernel_rfl) (by kernel_rfl) (by kernel_rfl) (fun _ _ _ h => h) (Or.inl ⟨by rfl, fun W hW => by go_simp⟩) hS ?_
          simp only [List.setIfInBounds_toArray, List.set_cons_zero, List.set_cons_succ]
          refine wpAnyH_ready (rs := [9]) (by kernel_rfl) (by simp) ?_
          refine AllReadyH.cons rfl (fun K hK => ?_) AllReadyH.nil
          rw [if_pos (by rfl)]
          refine wpo_storeRow (C' := stP l2) 63 (.tmp 10) (.tmp 52) rfl (wr.drew.heap.size) rfl rfl k10 size63 (stG.size _ _ _) (stG.size _ _ _) (stG.one _ _ _) rfl ?_
          intro X6 hu k10'
          refine hK.out _ _ (⟨hu.below hS.1 (by omega), hS.2.upd hu (by omega)⟩) (fun hS => ?_)
          clear hK K
          try simp only [Act.put, List.setIfInBounds_toArray, List.set_cons_zero, List.set_cons_succ]
          refine take_at (i := 10) 11 (.int .i64 0) rfl rfl (by kernel_rfl) (by kernel_rfl) (by kernel_rfl) (fun _ _ _ h => h) (Or.inl ⟨by rfl, fun W hW => by go_simp⟩) hS ?_
          simp only [List.setIfInBounds_toArray, List.set_cons_zero, List.set_cons_succ]
          refine wpAnyH_done (by kernel_rfl) ?_ _
          obtain ⟨hB2, k2⟩ := hS
          clear k10 hu
          go_wp2_with (first | (refine wp_loadRow (C := stP l2) rfl 63 _ rfl (wr.drew.heap.size) rfl k10' Tryd.underlying63 rfl size63 (stP.size _) ?_) | (refine wp_storeRow (C' := stP l2) rfl 63 _ _ rfl B rfl rfl k2 size63 (stP.size _) (stP.size _) (stP.one _) rfl ?_; intro Y hu k3))
          refine (ce _).mono ?_
          rintro e Z ⟨rfl, hb⟩
          have hB3 := hu.below hB2 (by omega)
          go_wp2_with fail
          exact ⟨⟨i + 1, l2, R.extract k R.size, by omega, by go_num, rfl, rfl, hl3, hend2, k3.below hb k3.lt, hB3.trans (hb.mono hB3.size)⟩, by simp [intOf]; omega⟩
        · have hlt1 : ¬ (i : Int) < (n : Int) := by omega
          go_wp2_with fail
          obtain ⟨k, hk⟩ : ∃ k : Nat, k = R.size := ⟨_, rfl⟩
          have hkR : k ≤ R.size := by omega
          rw [show ((R.size : Int)) = (k : Int) by omega]
          have hX : (R.extract 0 k).size = k := by rw [ByteArray.size_extract]; omega
          have hbX : bts (R.extract 0 k) = (bts R).take k := by rw [bts_extract, List.drop_zero, Nat.sub_zero]
          have hbY : bts (R.extract k R.size) = (bts R).drop k := by rw [bts_extract, List.take_of_length_le (by rw [List.length_drop, bts_length]; omega)]
          have ca : ∀ w, Calls Tryd.prog 38 #[.agg (stP l), .string (R.extract 0 k)] w fun e w' => e = .returned (.tuple #[.agg (stP (l ++ bts (R.extract 0 k))), .int .i64 0]) ∧ Below w.heap.size w w' := fun w => by
            have h := addp_any (addH roundK startK l) (strOf (addRest l)) l.length (by rw [size_strOf, addRest_length]; unfold maxLen; omega) (R.extract 0 k) (by omega) w
            rw [addAns_ok l _ (by omega)] at h
            exact h
          have ce : ∀ w, Calls Tryd.prog 33 #[U32 (crcExt 0#32 l), .string (R.extract 0 k)] w fun e w' => e = .returned (U32 (crcExt 0#32 (l ++ bts (R.extract 0 k)))) ∧ Below w.heap.size w w' := fun w => by
            have h := extend_any (crcExt 0#32 l) (R.extract 0 k) w (by unfold maxLen; omega)
            rw [crcExt_append] at h
            exact h
          have hl3 : bts s = (l ++ bts (R.extract 0 k)) ++ bts (R.extract k R.size) := by rw [hl, hbX, hbY, List.append_assoc, List.take_append_drop]
          obtain ⟨l2, hl2e⟩ : ∃ l2, l ++ bts (R.extract 0 k) = l2 := ⟨_, rfl⟩
          rw [hl2e] at ca ce hl3
          have hk0 : (0 : Int) ≤ (k : Int) := by omega
          have hk1 : (k : Int) ≤ (R.size : Int) := by omega
          clear hX hbX hl2e
          have hend2 : i + 1 = n + 1 → bts (R.extract k R.size) = [] := fun _ => by rw [hbY, List.drop_eq_nil_of_le (by rw [bts_length]; omega)]
          clear hk
          refine wp_region_held_drew (S := fun w' => Below w.heap.size w w' ∧ Blk w' B (stP l) 63) (by kernel_rfl) (⟨hB1.drew, k1.drew⟩) (fun hS => ?_)
          refine take_at (i := 0) 47 (.agg (stP l)) rfl rfl (by kernel_rfl) (by kernel_rfl) (by kernel_rfl) (fun _ _ _ h => h) (Or.inl ⟨by rfl, fun W hW => exec_load_range _ 63 _ rfl B 0 rfl (rangeAt_st hW.2) Tryd.underlying63 rfl size63 (stG.size _ _ _)⟩) hS ?_
          simp only [List.setIfInBounds_toArray, List.set_cons_zero, List.set_cons_succ]
          refine take_at (i := 1) 48 (.string R) rfl rfl (by kernel_rfl) (by kernel_rfl) (by kernel_rfl) (fun _ _ _ h => h) (Or.inl ⟨by rfl, fun W hW => by go_simp⟩) hS ?_
          simp only [List.setIfInBounds_toArray, List.set_cons_zero, List.set_cons_succ]
          refine take_at (i := 2) 49 (.int .i64 k) rfl rfl (by kernel_rfl) (by kernel_rfl) (by kernel_rfl) (fun _ _ _ h => h) (Or.inl ⟨by rfl, fun W hW => by go_simp⟩) hS ?_
          simp only [List.setIfInBounds_toArray, List.set_cons_zero, List.set_cons_succ]
          refine take_at (i := 3) 50 (.string (R.extract 0 k)) rfl rfl (by kernel_rfl) (by kernel_rfl) (by kernel_rfl) (fun _ _ _ h => h) (Or.inl ⟨by rfl, fun W hW => by go_simp⟩) hS ?_
          simp only [List.setIfInBounds_toArray, List.set_cons_zero, List.set_cons_succ]
          refine wpAnyH_ready (rs := [4, 8]) (by kernel_rfl) (by simp) ?_
          refine AllReadyH.cons rfl (fun K hK => ?_) ?_
          · skip
            go_simp
            refine (ca _).mono ?_
            rintro e X1 ⟨rfl, hb⟩
            refine hK.out _ _ (⟨hS.1.trans (hb.mono hS.1.size), hS.2.below hb hS.2.lt⟩) (fun hS => ?_)
            clear hK K
            try simp only [Act.put, List.setIfInBounds_toArray, List.set_cons_zero, List.set_cons_succ]
            refine take_at (i := 5) 46 (.tuple #[.agg (stP l2), .int .i64 0]) rfl rfl (by kernel_rfl) (by kernel_rfl) (by kernel_rfl) (fun _ _ _ h => h) (Or.inl ⟨by rfl, fun W hW => by go_simp⟩) hS ?_
            simp only [List.setIfInBounds_toArray, List.set_cons_zero, List.set_cons_succ]
            refine take_at (i := 6) 52 (.agg (stP l2)) rfl rfl (by kernel_rfl) (by kernel_rfl) (by kernel_rfl) (fun _ _ _ h => h) (Or.inl ⟨by rfl, fun W hW => by go_simp⟩) hS ?_
            simp only [List.setIfInBounds_toArray, List.set_cons_zero, List.set_cons_succ]
            refine take_at (i := 7) 53 (.int .i64 0) rfl rfl (by kernel_rfl) (by kernel_rfl) (by kernel_rfl) (fun _ _ _ h => h) (Or.inl ⟨by rfl, fun W hW => by go_simp⟩) hS ?_
            simp only [List.setIfInBounds_toArray, List.set_cons_zero, List.set_cons_succ]
            refine wpAnyH_ready (rs := [8]) (by kernel_rfl) (by simp) ?_
            refine AllReadyH.cons rfl (fun K hK => ?_) AllReadyH.nil
            have hlt := hS.2.lt
            have hlw := hS.1.size
            go_simp
            refine hK.out _ _ (⟨hS.1.alloc hS.1.size _, hS.2.alloc _⟩) (fun hS => ?_)
            clear hK K
            have k10 := Blk.new (X1) (stG (fun _ => 0#32) ByteArray.empty 0) 63
            try simp only [Act.put, List.setIfInBounds_toArray, List.set_cons_zero, List.set_cons_succ]
            refine wpAnyH_ready (rs := [9]) (by kernel_rfl) (by simp) ?_
            refine AllReadyH.cons rfl (fun K hK => ?_) AllReadyH.nil
            rw [if_pos (by rfl)]
            refine wpo_storeRow (C' := stP l2) 63 (.tmp 10) (.tmp 52) rfl (X1.heap.size) rfl rfl k10 size63 (stG.size _ _ _) (stG.size _ _ _) (stG.one _ _ _) rfl ?_
            intro X3 hu k10'
            refine hK.out _ _ (⟨hu.below hS.1 (by omega), hS.2.upd hu (by omega)⟩) (fun hS => ?_)
            clear hK K
            try simp only [Act.put, List.setIfInBounds_toArray, List.set_cons_zero, List.set_cons_succ]
            refine take_at (i := 10) 11 (.int .i64 0) rfl rfl (by kernel_rfl) (by kernel_rfl) (by kernel_rfl) (fun _ _ _ h => h) (Or.inl ⟨by rfl, fun W hW => by go_simp⟩) hS ?_
            simp only [List.setIfInBounds_toArray, List.set_cons_zero, List.set_cons_succ]
            refine wpAnyH_done (by kernel_rfl) ?_ _
            obtain ⟨hB2, k2⟩ := hS
            clear k10 hu
            go_wp2_with (first | (refine wp_loadRow (C := stP l2) rfl 63 _ rfl (X1.heap.size) rfl k10' Tryd.underlying63 rfl size63 (stP.size _) ?_) | (refine wp_storeRow (C' := stP l2) rfl 63 _ _ rfl B rfl rfl k2 size63 (stP.size _) (stP.size _) (stP.one _) rfl ?_; intro Y hu k3))
            refine (ce _).mono ?_
            rintro e Z ⟨rfl, hb⟩
            have hB3 := hu.below hB2 (by omega)
            go_wp2_with fail
            exact ⟨⟨i + 1, l2, R.extract k R.size, by omega, by go_num, rfl, rfl, hl3, hend2, k3.below hb k3.lt, hB3.trans (hb.mono hB3.size)⟩, by simp [intOf]; omega⟩
          refine AllReadyH.cons rfl (fun K hK => ?_) AllReadyH.nil
          have hlt := hS.2.lt
          have hlw := hS.1.size
          go_simp
          refine hK.out _ _ (⟨hS.1.alloc hS.1.size _, hS.2.alloc _⟩) (fun hS => ?_)
          clear hK K
          have k10 := Blk.new (wr.drew) (stG (fun _ => 0#32) ByteArray.empty 0) 63
          try simp only [Act.put, List.setIfInBounds_toArray, List.set_cons_zero, List.set_cons_succ]
          refine wpAnyH_ready (rs := [4]) (by kernel_rfl) (by simp) ?_
          refine AllReadyH.cons rfl (fun K hK => ?_) AllReadyH.nil
          go_simp
          refine (ca _).mono ?_
          rintro e X5 ⟨rfl, hb⟩
          refine hK.out _ _ (⟨hS.1.trans (hb.mono hS.1.size), hS.2.below hb hS.2.lt⟩) (fun hS => ?_)
          clear hK K
          replace k10 := k10.below hb k10.lt
          try simp only [Act.put, List.setIfInBounds_toArray, List.set_cons_zero, List.set_cons_succ]
          refine take_at (i := 5) 46 (.tuple #[.agg (stP l2), .int .i64 0]) rfl rfl (by kernel_rfl) (by kernel_rfl) (by kernel_rfl) (fun _ _ _ h => h) (Or.inl ⟨by rfl, fun W hW => by go_simp⟩) hS ?_
          simp only [List.setIfInBounds_toArray, List.set_cons_zero, List.set_cons_succ]
          refine take_at (i := 6) 52 (.agg (stP l2)) rfl rfl (by kernel_rfl) (by kernel_rfl) (by kernel_rfl) (fun _ _ _ h => h) (Or.inl ⟨by rfl, fun W hW => by go_simp⟩) hS ?_
          simp only [List.setIfInBounds_toArray, List.set_cons_zero, List.set_cons_succ]
          refine take_at (i := 7) 53 (.int .i64 0) rfl rfl (by kernel_rfl) (by kernel_rfl) (by kernel_rfl) (fun _ _ _ h => h) (Or.inl ⟨by rfl, fun W hW => by go_simp⟩) hS ?_
          simp only [List.setIfInBounds_toArray, List.set_cons_zero, List.set_cons_succ]
          refine wpAnyH_ready (rs := [9]) (by kernel_rfl) (by simp) ?_
          refine AllReadyH.cons rfl (fun K hK => ?_) AllReadyH.nil
          rw [if_pos (by rfl)]
          refine wpo_storeRow (C' := stP l2) 63 (.tmp 10) (.tmp 52) rfl (wr.drew.heap.size) rfl rfl k10 size63 (stG.size _ _ _) (stG.size _ _ _) (stG.one _ _ _) rfl ?_
          intro X6 hu k10'
          refine hK.out _ _ (⟨hu.below hS.1 (by omega), hS.2.upd hu (by omega)⟩) (fun hS => ?_)
          clear hK K
          try simp only [Act.put, List.setIfInBounds_toArray, List.set_cons_zero, List.set_cons_succ]
          refine take_at (i := 10) 11 (.int .i64 0) rfl rfl (by kernel_rfl) (by kernel_rfl) (by kernel_rfl) (fun _ _ _ h => h) (Or.inl ⟨by rfl, fun W hW => by go_simp⟩) hS ?_
          simp only [List.setIfInBounds_toArray, List.set_cons_zero, List.set_cons_succ]
          refine wpAnyH_done (by kernel_rfl) ?_ _
          obtain ⟨hB2, k2⟩ := hS
          clear k10 hu
          go_wp2_with (first | (refine wp_loadRow (C := stP l2) rfl 63 _ rfl (wr.drew.heap.size) rfl k10' Tryd.underlying63 rfl size63 (stP.size _) ?_) | (refine wp_storeRow (C' := stP l2) rfl 63 _ _ rfl B rfl rfl k2 size63 (stP.size _) (stP.size _) (stP.one _) rfl ?_; intro Y hu k3))
          refine (ce _).mono ?_
          rintro e Z ⟨rfl, hb⟩
          have hB3 := hu.below hB2 (by omega)
          go_wp2_with fail
          exact ⟨⟨i + 1, l2, R.extract k R.size, by omega, by go_num, rfl, rfl, hl3, hend2, k3.below hb k3.lt, hB3.trans (hb.mono hB3.size)⟩, by simp [intOf]; omega⟩
      · have hin1 : ¬ (i : Int) ≤ (n : Int) := by omega
        have hR := hend (by omega)
        rw [hR, List.append_nil] at hl
        subst hl
        have c1 : ∀ w, Calls Tryd.prog 40 #[.agg (stP (bts s))] w fun e w' => e = .returned (.tuple #[.agg (A8 32 (sha (bts s))), .int .i64 0]) ∧ Below w.heap.size w w' := fun w => by
          have h := endp_any (addH roundK startK (bts s)) (strOf (addRest (bts s))) (bts s).length (by rw [size_strOf, addRest_length]; unfold maxLen; omega) w
          rw [endAns_ok _ (by omega)] at h
          exact h
        have c2 := fun w => sum256_any s (by omega) w
        have c3 := fun w => crc_any s w (by unfold maxLen; omega)
        clear hls hR hend
        rw [show crcExt 0#32 (bts s) = crc (bts s) from rfl]
        go_wp2_with (refine wp_loadRow (C := stP (bts s)) rfl 63 _ rfl B rfl k1 Tryd.underlying63 rfl size63 (stP.size _) ?_)
        refine (c1 _).mono ?_
        rintro e V2 ⟨rfl, hb⟩
        have hB2 := hB1.trans (hb.mono hB1.size)
        have k4 := Blk.new V2 (A8 32 fun _ => 0#8) 69
        go_wp2_with (refine wp_storeRow (C' := A8 32 (sha (bts s))) rfl 69 _ _ rfl _ rfl rfl k4 size69 (A8.size _ _) (A8.size _ _) (A8.one _) rfl ?_; intro V3 hu k5)
        have hB4 := hu.below (hB2.alloc hB2.size _) (by have := hB2.size; omega)
        have r1 := k5.rangeAt 0 32 (fun i => U8 (sha (bts s) i)) (by omega) (fun j hj => by rw [Nat.zero_add])
        have cs := sane_any V3.drew (tabC hT h3 hB4.drew) (Nat.lt_of_lt_of_le h3 hB4.size)
        have heqd := eql_same (P := Tryd.prog) Tryd.underlying69 size5 Tryd.isAgg5 Tryd.underlying5 (sha (bts s))
        clear k1 hB1 hb hB2 k4 hu k5
        refine wp_region_held_drew (S := fun w' => Below w.heap.size w w' ∧ w'.rangeAt V2.heap.size 0 (A8 32 (sha (bts s))).toList) (by kernel_rfl) (⟨hB4.drew, r1⟩) (fun hS => ?_)
        refine wpAnyH_ready (rs := [0]) (by kernel_rfl) (by simp) ?_
        refine AllReadyH.cons rfl (fun K hK => ?_) AllReadyH.nil
        go_simp
        refine (cs).mono ?_
        rintro e X1 ⟨rfl, hb⟩
        refine hK.out _ _ (⟨hS.1.trans (hb.mono hS.1.size), rangeAt_below hS.2 hb⟩) (fun hS => ?_)
        clear hK K
        try simp only [Act.put, List.setIfInBounds_toArray, List.set_cons_zero, List.set_cons_succ]
        refine take_at (i := 1) 71 (.bool true) rfl rfl (by kernel_rfl) (by kernel_rfl) (by kernel_rfl) (fun _ _ _ h => h) (Or.inl ⟨by rfl, fun W hW => by go_simp⟩) hS ?_
        simp only [List.setIfInBounds_toArray, List.set_cons_zero, List.set_cons_succ]
        refine take_at (i := 2) 72 (.int .i64 0) rfl rfl (by kernel_rfl) (by kernel_rfl) (by kernel_rfl) (fun _ _ _ h => h) (Or.inl ⟨by rfl, fun W hW => by go_simp⟩) hS ?_
        simp only [List.setIfInBounds_toArray, List.set_cons_zero, List.set_cons_succ]
        refine take_at (i := 3) 73 (.bool true) rfl rfl (by kernel_rfl) (by kernel_rfl) (by kernel_rfl) (fun _ _ _ h => h) (Or.inl ⟨by rfl, fun W hW => by go_simp⟩) hS ?_
        simp only [List.setIfInBounds_toArray, List.set_cons_zero, List.set_cons_succ]
        refine take_at (i := 4) 74 (.bool true) rfl rfl (by kernel_rfl) (by kernel_rfl) (by kernel_rfl) (fun _ _ _ h => h) (Or.inl ⟨by rfl, fun W hW => by go_simp⟩) hS ?_
        simp only [List.setIfInBounds_toArray, List.set_cons_zero, List.set_cons_succ]
        refine take_at (i := 5) 75 (.bool true) rfl rfl (by kernel_rfl) (by kernel_rfl) (by kernel_rfl) (fun _ _ _ h => h) (Or.inl ⟨by rfl, fun W hW => by go_simp⟩) hS ?_
        simp only [List.setIfInBounds_toArray, List.set_cons_zero, List.set_cons_succ]
        refine take_at (i := 6) 76 (.agg (A8 32 (sha (bts s)))) rfl rfl (by kernel_rfl) (by kernel_rfl) (by kernel_rfl) (fun _ _ _ h => h) (Or.inl ⟨by rfl, fun W hW => exec_load_range _ 69 _ rfl V2.heap.size 0 rfl hW.2 Tryd.underlying69 rfl size69 (A8.size _ _)⟩) hS ?_
        simp only [List.setIfInBounds_toArray, List.set_cons_zero, List.set_cons_succ]
        refine take_at (i := 7) 77 (.string s) rfl rfl (by kernel_rfl) (by kernel_rfl) (by kernel_rfl) (fun _ _ _ h => h) (Or.inl ⟨by rfl, fun W hW => by go_simp⟩) hS ?_
        simp only [List.setIfInBounds_toArray, List.set_cons_zero, List.set_cons_succ]
        refine wpAnyH_ready (rs := [8]) (by kernel_rfl) (by simp) ?_
        refine AllReadyH.cons rfl (fun K hK => ?_) AllReadyH.nil
        go_simp
        refine (c2 _).mono ?_
        rintro e X2 ⟨rfl, hb⟩
        refine hK.out _ _ (⟨hS.1.trans (hb.mono hS.1.size), rangeAt_below hS.2 hb⟩) (fun hS => ?_)
        clear hK K
        try simp only [Act.put, List.setIfInBounds_toArray, List.set_cons_zero, List.set_cons_succ]
        refine take_at (i := 9) 79 (.bool true) rfl rfl (by kernel_rfl) (by kernel_rfl) (by kernel_rfl) (fun _ _ _ h => h) (Or.inl ⟨by rfl, fun W hW => by go_simp⟩) hS ?_
        simp only [List.setIfInBounds_toArray, List.set_cons_zero, List.set_cons_succ]
        refine take_at (i := 10) 80 (.bool true) rfl rfl (by kernel_rfl) (by kernel_rfl) (by kernel_rfl) (fun _ _ _ h => h) (Or.inl ⟨by rfl, fun W hW => by go_simp⟩) hS ?_
        simp only [List.setIfInBounds_toArray, List.set_cons_zero, List.set_cons_succ]
        refine take_at (i := 11) 81 (.bool true) rfl rfl (by kernel_rfl) (by kernel_rfl) (by kernel_rfl) (fun _ _ _ h => h) (Or.inl ⟨by rfl, fun W hW => by go_simp⟩) hS ?_
        simp only [List.setIfInBounds_toArray, List.set_cons_zero, List.set_cons_succ]
        refine take_at (i := 12) 82 (U32 (crc (bts s))) rfl rfl (by kernel_rfl) (by kernel_rfl) (by kernel_rfl) (fun _ _ _ h => h) (Or.inl ⟨by rfl, fun W hW => by go_simp⟩) hS ?_
        simp only [List.setIfInBounds_toArray, List.set_cons_zero, List.set_cons_succ]
        refine take_at (i := 13) 83 (.string s) rfl rfl (by kernel_rfl) (by kernel_rfl) (by kernel_rfl) (fun _ _ _ h => h) (Or.inl ⟨by rfl, fun W hW => by go_simp⟩) hS ?_
        simp only [List.setIfInBounds_toArray, List.set_cons_zero, List.set_cons_succ]
        refine wpAnyH_ready (rs := [14]) (by kernel_rfl) (by simp) ?_
        refine AllReadyH.cons rfl (fun K hK => ?_) AllReadyH.nil
        go_simp
        refine (c3 _).mono ?_
        rintro e X3 ⟨rfl, hb⟩
        refine hK.out _ _ (⟨hS.1.trans (hb.mono hS.1.size), rangeAt_below hS.2 hb⟩) (fun hS => ?_)
        clear hK K
        try simp only [Act.put, List.setIfInBounds_toArray, List.set_cons_zero, List.set_cons_succ]
        refine take_at (i := 15) 85 (.bool true) rfl rfl (by kernel_rfl) (by kernel_rfl) (by kernel_rfl) (fun _ _ _ h => h) (Or.inl ⟨by rfl, fun W hW => by go_simp⟩) hS ?_
        simp only [List.setIfInBounds_toArray, List.set_cons_zero, List.set_cons_succ]
        refine take_at (i := 16) 86 (.bool true) rfl rfl (by kernel_rfl) (by kernel_rfl) (by kernel_rfl) (fun _ _ _ h => h) (Or.inl ⟨by rfl, fun W hW => by go_simp⟩) hS ?_
        simp only [List.setIfInBounds_toArray, List.set_cons_zero, List.set_cons_succ]
        refine take_at (i := 17) 4 (.bool true) rfl rfl (by kernel_rfl) (by kernel_rfl) (by kernel_rfl) (fun _ _ _ h => h) (Or.inl ⟨by rfl, fun W hW => by go_simp⟩) hS ?_
        simp only [List.setIfInBounds_toArray, List.set_cons_zero, List.set_cons_succ]
        refine wpAnyH_done (by kernel_rfl) ?_ _
        go_wp2_with fail
        go_ret
        exact ⟨rfl, hS.1⟩
end Go.Proofs.YtdpgebifeaakjaaDoor
