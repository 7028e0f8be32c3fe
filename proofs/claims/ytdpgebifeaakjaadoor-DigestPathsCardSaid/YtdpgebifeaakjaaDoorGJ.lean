/- The bodies of DigestGrowths and of DigestPaths. -/
import Derived.Test.YtdpgebifeaakjaaDoorRG
import Derived.Test.YtdpgebifeaakjaaDoorRH
namespace Go.Proofs.YtdpgebifeaakjaaDoor
set_option linter.unusedSimpArgs false
set_option linter.unusedVariables false
open Go.RowKit
theorem tab_below {w W : World} (hT : TabAt 3 Lib.deBruijn64tab w) (h3 : 3 < w.heap.size) (hW : Below w.heap.size w W) : TabAt 3 Lib.deBruijn64tab W := fun j hj => (hW.cell (p := ⟨3, j, none⟩) h3).trans (hT j hj)
theorem cgrow_both (old new : Nat → BitVec 8) (m n : Int) (L c : Nat) (p : Option Addr) (D : Nat → Nat → BitVec 8) (w : World) (hL : L ≤ 200) (hD : Digs w (.slice p L c) L D) (hT : TabAt 3 Lib.deBruijn64tab w) (hKK : KAt w) (h3 : 3 < w.heap.size) :
    ∃ r : Int, (∀ W, Below w.heap.size w W → Calls Tryd.prog 51 #[.agg (A8 16 old), .int .i64 m, .agg (A8 16 new), .int .i64 n, .slice p L c] W fun e w' => e = .returned (.int .i64 r) ∧ Below W.heap.size W w') ∧
      (∀ W, Below w.heap.size w W → Calls Tryd.prog 52 #[.agg (A8 16 old), .int .i64 m, .agg (A8 16 new), .int .i64 n, .slice p L c] W fun e w' => e = .returned (.int .i64 r) ∧ Below W.heap.size W w') := by
  by_cases hbad : m < 0 ∨ n < m ∨ 1099511627776 < n
  · exact ⟨1, fun W hW => cgrow_bad old new m n (.bool true) L c p W hbad, fun W hW => rcgrow_bad old new m n L c p W hbad⟩
  · obtain ⟨m, rfl⟩ := Int.eq_ofNat_of_zero_le (by omega : 0 ≤ m)
    obtain ⟨n, rfl⟩ := Int.eq_ofNat_of_zero_le (by omega : 0 ≤ n)
    have hmn : m ≤ n := by omega
    have hn : n ≤ 1099511627776 := by omega
    obtain ⟨d1, hg1⟩ := gives_all D m (coverL 0 m) (by omega) (cover_al' (Nat.zero_le m) (by omega))
    obtain ⟨d2, hg2⟩ := gives_all D n (coverL 0 m ++ coverL m n) hn ((cover_al' (Nat.zero_le m) (by omega)).append (cover_al' hmn hn))
    by_cases hc : L = (coverL 0 m).length + (coverL m n).length ∧ eqRow 16 d1 old = true ∧ eqRow 16 d2 new = true
    · refine ⟨0, fun W hW => (cgrow_ok old new d1 d2 m n L c p D W hmn hn (by omega) (hD.below hW) (tab_below hT h3 hW) (Nat.lt_of_lt_of_le h3 hW.size) hg1 hg2).mono ?_, fun W hW => (rcgrow_ok old new d1 d2 m n L c p D W hmn hn (by omega) (hD.below hW) (hKK.below hKK.pos hW) hg1 hg2).mono ?_⟩
      · rintro e w' ⟨⟨_, h⟩ | ⟨h, _⟩, hb⟩
        · exact ⟨h, hb⟩
        · exact absurd hc h
      · rintro e w' ⟨⟨_, h⟩ | ⟨h, _⟩, hb⟩
        · exact ⟨h, hb⟩
        · exact absurd hc h
    · refine ⟨9, fun W hW => (cgrow_ok old new d1 d2 m n L c p D W hmn hn (by omega) (hD.below hW) (tab_below hT h3 hW) (Nat.lt_of_lt_of_le h3 hW.size) hg1 hg2).mono ?_, fun W hW => (rcgrow_ok old new d1 d2 m n L c p D W hmn hn (by omega) (hD.below hW) (hKK.below hKK.pos hW) hg1 hg2).mono ?_⟩
      · rintro e w' ⟨⟨h, _⟩ | ⟨_, h⟩, hb⟩
        · exact absurd h hc
        · exact ⟨h, hb⟩
      · rintro e w' ⟨⟨h, _⟩ | ⟨_, h⟩, hb⟩
        · exact absurd h hc
        · exact ⟨h, hb⟩
theorem cpath_both (root : Nat → BitVec 8) (n i : Int) (K ic L c : Nat) (ip p : Option Addr) (D I : Nat → Nat → BitVec 8) (w : World) (hL : L ≤ 200) (hK : K ≤ 100) (hD : Digs w (.slice p L c) L D) (hI : Digs w (.slice ip K ic) K I) (hT : TabAt 3 Lib.deBruijn64tab w) (hKK : KAt w) (h3 : 3 < w.heap.size) :
    ∃ r : Int, (∀ W, Below w.heap.size w W → Calls Tryd.prog 57 #[.agg (A8 16 root), .int .i64 n, .int .i64 i, .slice ip K ic, .slice p L c] W fun e w' => e = .returned (.int .i64 r) ∧ Below W.heap.size W w') ∧
      (∀ W, Below w.heap.size w W → Calls Tryd.prog 58 #[.agg (A8 16 root), .int .i64 n, .int .i64 i, .slice ip K ic, .slice p L c] W fun e w' => e = .returned (.int .i64 r) ∧ Below W.heap.size W w') := by
  by_cases hbad : i < 0 ∨ 1099511627776 < n ∨ n < (K : Int) ∨ n - (K : Int) < i
  · exact ⟨1, fun W hW => cpath_bad root n i K ic L c ip p W (by omega) hbad, fun W hW => rcpath_bad root n i K ic L c ip p W (by omega) (by omega)⟩
  · obtain ⟨i, rfl⟩ := Int.eq_ofNat_of_zero_le (by omega : 0 ≤ i)
    obtain ⟨n, rfl⟩ := Int.eq_ofNat_of_zero_le (by omega : 0 ≤ n)
    have hiK : i + K ≤ n := by omega
    have hn : n ≤ 1099511627776 := by omega
    obtain ⟨d, hg⟩ := gives_all (mixT (coverL 0 i).length K D I) n (coverL 0 i ++ singles i K ++ coverL (i + K) n) hn (((cover_al' (Nat.zero_le i) (by omega)).append (singles_al i K)).append (cover_al' hiK hn))
    by_cases hc : L = (coverL 0 i).length + (coverL (i + K) n).length ∧ eqRow 16 d root = true
    · refine ⟨0, fun W hW => (cpath_ok root d i K n L c ic ip p D I W hiK hn (by omega) (by omega) (hD.below hW) (hI.below hW) (tab_below hT h3 hW) (Nat.lt_of_lt_of_le h3 hW.size) hg).mono ?_, fun W hW => (rcpath_ok root d i K n L c ic ip p D I W hiK hn (by omega) (by omega) (hD.below hW) (hI.below hW) (hKK.below hKK.pos hW) hg).mono ?_⟩
      · rintro e w' ⟨⟨_, h⟩ | ⟨h, _⟩, hb⟩
        · exact ⟨h, hb⟩
        · exact absurd hc h
      · rintro e w' ⟨⟨_, h⟩ | ⟨h, _⟩, hb⟩
        · exact ⟨h, hb⟩
        · exact absurd hc h
    · refine ⟨9, fun W hW => (cpath_ok root d i K n L c ic ip p D I W hiK hn (by omega) (by omega) (hD.below hW) (hI.below hW) (tab_below hT h3 hW) (Nat.lt_of_lt_of_le h3 hW.size) hg).mono ?_, fun W hW => (rcpath_ok root d i K n L c ic ip p D I W hiK hn (by omega) (by omega) (hD.below hW) (hI.below hW) (hKK.below hKK.pos hW) hg).mono ?_⟩
      · rintro e w' ⟨⟨h, _⟩ | ⟨_, h⟩, hb⟩
        · exact absurd h hc
        · exact ⟨h, hb⟩
      · rintro e w' ⟨⟨h, _⟩ | ⟨_, h⟩, hb⟩
        · exact absurd h hc
        · exact ⟨h, hb⟩
set_option maxRecDepth 20000 in
set_option maxHeartbeats 2000000 in
theorem growths_any (old new : Nat → BitVec 8) (m n : Int) (L c : Nat) (p : Option Addr) (D : Nat → Nat → BitVec 8) (w : World) (hD : Digs w (.slice p L c) L D) (hT : TabAt 3 Lib.deBruijn64tab w) (hKK : KAt w) (h3 : 3 < w.heap.size) :
    Calls Tryd.prog 11 #[.agg (A8 16 old), .int .i64 m, .agg (A8 16 new), .int .i64 n, .slice p L c] w fun e w' => e = .returned (.bool true) ∧ Below w.heap.size w w' := by
  have hbx := box23 old
  have hbx2 := box23 new
  have SN := hide fun (W : World) (hB : Below w.heap.size w W) => sane_any W (tabC hT h3 hB) (Nat.lt_of_lt_of_le h3 hB.size)
  by_cases hL : 200 < L
  · have hh : (200 : Int) < (L : Int) := by omega
    clear hD hT
    have k0 := Blk.new (w) (A8 16 old) 23
    have k1 := Blk.new ((w).alloc (.cells (A8 16 old) 23)) (A8 16 new) 23
    rw [World.size_alloc] at k1
    replace k0 := k0.alloc (.cells (A8 16 new) 23)
    have hB : Below w.heap.size w (((w).alloc (.cells (A8 16 old) 23)).alloc (.cells (A8 16 new) 23)) := (((Below.refl _ w).alloc (Nat.le_refl _) _).alloc (by simp) _)
    obtain ⟨W0, hW0⟩ : ∃ W0, ((w).alloc (.cells (A8 16 old) 23)).alloc (.cells (A8 16 new) 23) = W0 := ⟨_, rfl⟩
    rw [hW0] at k0 k1 hB
    go_enter Tryd.func11, Tryd.ntmps11
    go_upto_region 1 with (fail)
    try rw [hW0]
    clear hW0
    clear hbx hbx2
    go_wp2_with fail
    refine (SN.out _ hB).mono ?_
    rintro e W1 ⟨rfl, hb⟩
    go_wp2_with fail
    go_ret
    exact ⟨rfl, hB.trans (hb.mono hB.size)⟩
  · have hh : ¬ (200 : Int) < (L : Int) := by omega
    obtain ⟨r, b1, b2⟩ := cgrow_both old new m n L c p D w (by omega) hD hT hKK h3
    have B1 := hide b1
    have B2 := hide b2
    clear b1 b2 hD hT
    have k0 := Blk.new (w) (A8 16 old) 23
    have k1 := Blk.new ((w).alloc (.cells (A8 16 old) 23)) (A8 16 new) 23
    rw [World.size_alloc] at k1
    replace k0 := k0.alloc (.cells (A8 16 new) 23)
    have hB : Below w.heap.size w (((w).alloc (.cells (A8 16 old) 23)).alloc (.cells (A8 16 new) 23)) := (((Below.refl _ w).alloc (Nat.le_refl _) _).alloc (by simp) _)
    obtain ⟨W0, hW0⟩ : ∃ W0, ((w).alloc (.cells (A8 16 old) 23)).alloc (.cells (A8 16 new) 23) = W0 := ⟨_, rfl⟩
    rw [hW0] at k0 k1 hB
    go_enter Tryd.func11, Tryd.ntmps11
    go_upto_region 1 with (fail)
    try rw [hW0]
    clear hW0
    clear hbx hbx2
    go_wp2_with fail
    refine wp_region_held_drew (S := fun w' => Below w.heap.size w w' ∧ Blk w' w.heap.size (A8 16 old) 23 ∧ Blk w' (w.heap.size + 1) (A8 16 new) 23) (by kernel_rfl) (⟨hB.drew, k0.drew, k1.drew⟩) (fun hS => ?_)
    simp only [List.size_toArray, List.length_cons, List.length_nil, Nat.reduceAdd, Array.replicate_succ, Array.replicate_zero, List.push_toArray, List.nil_append, List.cons_append]
    refine wpAnyH_ready (rs := [0]) (by kernel_rfl) (by simp) ?_
    refine AllReadyH.cons rfl (fun K hK => ?_) AllReadyH.nil
    go_simp
    refine (SN.out _ hS.1).mono ?_
    rintro e X1 ⟨rfl, hb⟩
    refine hK.out _ _ (⟨hS.1.trans (hb.mono hS.1.size), hS.2.1.below hb hS.2.1.lt, hS.2.2.below hb hS.2.2.lt⟩) (fun hS => ?_)
    clear hK K
    clear hb
    try simp only [Act.put, List.getElem_toArray, List.getElem_cons_succ, List.getElem_cons_zero, List.setIfInBounds_toArray, List.set_cons_zero, List.set_cons_succ]
    refine take_at (i := 1) 16 (.bool true) rfl rfl (by kernel_rfl) (by kernel_rfl) (by kernel_rfl) (fun _ _ _ h => h) (Or.inl ⟨by rfl, fun W hW => by go_simp⟩) hS ?_
    try simp only [List.setIfInBounds_toArray, List.set_cons_zero, List.set_cons_succ]
    refine take_at (i := 2) 17 (.agg (A8 16 old)) rfl rfl (by kernel_rfl) (by kernel_rfl) (by kernel_rfl) (fun _ _ _ h => h) (Or.inl ⟨by rfl, fun W hW => exec_load_blk hW.2.1⟩) hS ?_
    try simp only [List.setIfInBounds_toArray, List.set_cons_zero, List.set_cons_succ]
    refine take_at (i := 3) 18 (.int .i64 m) rfl rfl (by kernel_rfl) (by kernel_rfl) (by kernel_rfl) (fun _ _ _ h => h) (Or.inl ⟨by rfl, fun W hW => by go_simp⟩) hS ?_
    try simp only [List.setIfInBounds_toArray, List.set_cons_zero, List.set_cons_succ]
    refine take_at (i := 4) 19 (.agg (A8 16 new)) rfl rfl (by kernel_rfl) (by kernel_rfl) (by kernel_rfl) (fun _ _ _ h => h) (Or.inl ⟨by rfl, fun W hW => exec_load_blk hW.2.2⟩) hS ?_
    try simp only [List.setIfInBounds_toArray, List.set_cons_zero, List.set_cons_succ]
    refine take_at (i := 5) 20 (.int .i64 n) rfl rfl (by kernel_rfl) (by kernel_rfl) (by kernel_rfl) (fun _ _ _ h => h) (Or.inl ⟨by rfl, fun W hW => by go_simp⟩) hS ?_
    try simp only [List.setIfInBounds_toArray, List.set_cons_zero, List.set_cons_succ]
    refine take_at (i := 6) 21 (.slice p L c) rfl rfl (by kernel_rfl) (by kernel_rfl) (by kernel_rfl) (fun _ _ _ h => h) (Or.inl ⟨by rfl, fun W hW => by go_simp⟩) hS ?_
    try simp only [List.setIfInBounds_toArray, List.set_cons_zero, List.set_cons_succ]
    refine take_at (i := 8) 23 (.agg (A8 16 old)) rfl rfl (by kernel_rfl) (by kernel_rfl) (by kernel_rfl) (fun _ _ _ h => h) (Or.inl ⟨by rfl, fun W hW => exec_load_blk hW.2.1⟩) hS ?_
    try simp only [List.setIfInBounds_toArray, List.set_cons_zero, List.set_cons_succ]
    refine take_at (i := 9) 24 (.int .i64 m) rfl rfl (by kernel_rfl) (by kernel_rfl) (by kernel_rfl) (fun _ _ _ h => h) (Or.inl ⟨by rfl, fun W hW => by go_simp⟩) hS ?_
    try simp only [List.setIfInBounds_toArray, List.set_cons_zero, List.set_cons_succ]
    refine take_at (i := 10) 25 (.agg (A8 16 new)) rfl rfl (by kernel_rfl) (by kernel_rfl) (by kernel_rfl) (fun _ _ _ h => h) (Or.inl ⟨by rfl, fun W hW => exec_load_blk hW.2.2⟩) hS ?_
    try simp only [List.setIfInBounds_toArray, List.set_cons_zero, List.set_cons_succ]
    refine take_at (i := 11) 26 (.int .i64 n) rfl rfl (by kernel_rfl) (by kernel_rfl) (by kernel_rfl) (fun _ _ _ h => h) (Or.inl ⟨by rfl, fun W hW => by go_simp⟩) hS ?_
    try simp only [List.setIfInBounds_toArray, List.set_cons_zero, List.set_cons_succ]
    refine take_at (i := 12) 27 (.slice p L c) rfl rfl (by kernel_rfl) (by kernel_rfl) (by kernel_rfl) (fun _ _ _ h => h) (Or.inl ⟨by rfl, fun W hW => by go_simp⟩) hS ?_
    try simp only [List.setIfInBounds_toArray, List.set_cons_zero, List.set_cons_succ]
    refine wpAnyH_ready (rs := [7]) (by kernel_rfl) (by simp) ?_
    refine AllReadyH.cons rfl (fun K hK => ?_) AllReadyH.nil
    rw [if_pos (by rfl)]
    go_simp
    refine (B1.out _ hS.1).mono ?_
    rintro e X2 ⟨rfl, hb⟩
    refine hK.out _ _ (⟨hS.1.trans (hb.mono hS.1.size), hS.2.1.below hb hS.2.1.lt, hS.2.2.below hb hS.2.2.lt⟩) (fun hS => ?_)
    clear hK K
    clear hb
    try simp only [Act.put, List.getElem_toArray, List.getElem_cons_succ, List.getElem_cons_zero, List.setIfInBounds_toArray, List.set_cons_zero, List.set_cons_succ]
    refine wpAnyH_ready (rs := [13]) (by kernel_rfl) (by simp) ?_
    refine AllReadyH.cons rfl (fun K hK => ?_) AllReadyH.nil
    rw [if_pos (by rfl)]
    go_simp
    refine (B2.out _ hS.1).mono ?_
    rintro e X3 ⟨rfl, hb⟩
    refine hK.out _ _ (⟨hS.1.trans (hb.mono hS.1.size), hS.2.1.below hb hS.2.1.lt, hS.2.2.below hb hS.2.2.lt⟩) (fun hS => ?_)
    clear hK K
    clear hb
    try simp only [Act.put, List.getElem_toArray, List.getElem_cons_succ, List.getElem_cons_zero, List.setIfInBounds_toArray, List.set_cons_zero, List.set_cons_succ]
    refine take_at (i := 14) 29 (.bool true) rfl rfl (by kernel_rfl) (by kernel_rfl) (by kernel_rfl) (fun _ _ _ h => h) (Or.inl ⟨by rfl, fun W hW => by go_simp⟩) hS ?_
    try simp only [List.setIfInBounds_toArray, List.set_cons_zero, List.set_cons_succ]
    refine take_at (i := 15) 30 (.bool true) rfl rfl (by kernel_rfl) (by kernel_rfl) (by kernel_rfl) (fun _ _ _ h => h) (Or.inl ⟨by rfl, fun W hW => by go_simp⟩) hS ?_
    try simp only [List.setIfInBounds_toArray, List.set_cons_zero, List.set_cons_succ]
    refine take_at (i := 16) 10 (.bool true) rfl rfl (by kernel_rfl) (by kernel_rfl) (by kernel_rfl) (fun _ _ _ h => h) (Or.inl ⟨by rfl, fun W hW => by go_simp⟩) hS ?_
    try simp only [List.setIfInBounds_toArray, List.set_cons_zero, List.set_cons_succ]
    refine wpAnyH_done (by kernel_rfl) ?_ _
    go_wp2_with fail
    go_ret
    exact ⟨rfl, hS.1⟩
set_option maxRecDepth 20000 in
set_option maxHeartbeats 2000000 in
theorem paths_any (root : Nat → BitVec 8) (n i : Int) (K ic L c : Nat) (ip p : Option Addr) (D I : Nat → Nat → BitVec 8) (w : World) (hD : Digs w (.slice p L c) L D) (hI : Digs w (.slice ip K ic) K I) (hT : TabAt 3 Lib.deBruijn64tab w) (hKK : KAt w) (h3 : 3 < w.heap.size) :
    Calls Tryd.prog 13 #[.agg (A8 16 root), .int .i64 n, .int .i64 i, .slice ip K ic, .slice p L c] w fun e w' => e = .returned (.bool true) ∧ Below w.heap.size w w' := by
  have hbx := box23 root
  have SN := hide fun (W : World) (hB : Below w.heap.size w W) => sane_any W (tabC hT h3 hB) (Nat.lt_of_lt_of_le h3 hB.size)
  by_cases hK : 100 < K
  · have hh : (100 : Int) < (K : Int) := by omega
    clear hD hI hT
    have k0 := Blk.new (w) (A8 16 root) 23
    have hB : Below w.heap.size w ((w).alloc (.cells (A8 16 root) 23)) := ((Below.refl _ w).alloc (Nat.le_refl _) _)
    obtain ⟨W0, hW0⟩ : ∃ W0, (w).alloc (.cells (A8 16 root) 23) = W0 := ⟨_, rfl⟩
    rw [hW0] at k0 hB
    go_enter Tryd.func13, Tryd.ntmps13
    go_upto_region 1 with (fail)
    try rw [hW0]
    clear hW0
    clear hbx
    go_wp2_with fail
    refine (SN.out _ hB).mono ?_
    rintro e W1 ⟨rfl, hb⟩
    go_wp2_with fail
    go_ret
    exact ⟨rfl, hB.trans (hb.mono hB.size)⟩
  · have hh : ¬ (100 : Int) < (K : Int) := by omega
    by_cases hL : 200 < L
    · have hh2 : (200 : Int) < (L : Int) := by omega
      clear hD hI hT
      have k0 := Blk.new (w) (A8 16 root) 23
      have hB : Below w.heap.size w ((w).alloc (.cells (A8 16 root) 23)) := ((Below.refl _ w).alloc (Nat.le_refl _) _)
      obtain ⟨W0, hW0⟩ : ∃ W0, (w).alloc (.cells (A8 16 root) 23) = W0 := ⟨_, rfl⟩
      rw [hW0] at k0 hB
      go_enter Tryd.func13, Tryd.ntmps13
      go_upto_region 1 with (fail)
      try rw [hW0]
      clear hW0
      clear hbx
      go_wp2_with fail
      refine (SN.out _ hB).mono ?_
      rintro e W1 ⟨rfl, hb⟩
      go_wp2_with fail
      go_ret
      exact ⟨rfl, hB.trans (hb.mono hB.size)⟩
    · have hh2 : ¬ (200 : Int) < (L : Int) := by omega
      obtain ⟨r, b1, b2⟩ := cpath_both root n i K ic L c ip p D I w (by omega) (by omega) hD hI hT hKK h3
      have B1 := hide b1
      have B2 := hide b2
      clear b1 b2 hD hI hT
      have k0 := Blk.new (w) (A8 16 root) 23
      have hB : Below w.heap.size w ((w).alloc (.cells (A8 16 root) 23)) := ((Below.refl _ w).alloc (Nat.le_refl _) _)
      obtain ⟨W0, hW0⟩ : ∃ W0, (w).alloc (.cells (A8 16 root) 23) = W0 := ⟨_, rfl⟩
      rw [hW0] at k0 hB
      go_enter Tryd.func13, Tryd.ntmps13
      go_upto_region 1 with (fail)
      try rw [hW0]
      clear hW0
      clear hbx
      go_wp2_with fail
      refine wp_region_held_drew (S := fun w' => Below w.heap.size w w' ∧ Blk w' w.heap.size (A8 16 root) 23) (by kernel_rfl) (⟨hB.drew, k0.drew⟩) (fun hS => ?_)
      simp only [List.size_toArray, List.length_cons, List.length_nil, Nat.reduceAdd, Array.replicate_succ, Array.replicate_zero, List.push_toArray, List.nil_append, List.cons_append]
      refine wpAnyH_ready (rs := [0]) (by kernel_rfl) (by simp) ?_
      refine AllReadyH.cons rfl (fun K hK => ?_) AllReadyH.nil
      go_simp
      refine (SN.out _ hS.1).mono ?_
      rintro e X1 ⟨rfl, hb⟩
      refine hK.out _ _ (⟨hS.1.trans (hb.mono hS.1.size), hS.2.below hb hS.2.lt⟩) (fun hS => ?_)
      clear hK K
      clear hb
      try simp only [Act.put, List.getElem_toArray, List.getElem_cons_succ, List.getElem_cons_zero, List.setIfInBounds_toArray, List.set_cons_zero, List.set_cons_succ]
      refine take_at (i := 1) 21 (.bool true) rfl rfl (by kernel_rfl) (by kernel_rfl) (by kernel_rfl) (fun _ _ _ h => h) (Or.inl ⟨by rfl, fun W hW => by go_simp⟩) hS ?_
      try simp only [List.setIfInBounds_toArray, List.set_cons_zero, List.set_cons_succ]
      refine take_at (i := 2) 22 (.agg (A8 16 root)) rfl rfl (by kernel_rfl) (by kernel_rfl) (by kernel_rfl) (fun _ _ _ h => h) (Or.inl ⟨by rfl, fun W hW => exec_load_blk hW.2⟩) hS ?_
      try simp only [List.setIfInBounds_toArray, List.set_cons_zero, List.set_cons_succ]
      refine take_at (i := 3) 23 (.int .i64 n) rfl rfl (by kernel_rfl) (by kernel_rfl) (by kernel_rfl) (fun _ _ _ h => h) (Or.inl ⟨by rfl, fun W hW => by go_simp⟩) hS ?_
      try simp only [List.setIfInBounds_toArray, List.set_cons_zero, List.set_cons_succ]
      refine take_at (i := 4) 24 (.int .i64 i) rfl rfl (by kernel_rfl) (by kernel_rfl) (by kernel_rfl) (fun _ _ _ h => h) (Or.inl ⟨by rfl, fun W hW => by go_simp⟩) hS ?_
      try simp only [List.setIfInBounds_toArray, List.set_cons_zero, List.set_cons_succ]
      refine take_at (i := 5) 25 (.slice ip K ic) rfl rfl (by kernel_rfl) (by kernel_rfl) (by kernel_rfl) (fun _ _ _ h => h) (Or.inl ⟨by rfl, fun W hW => by go_simp⟩) hS ?_
      try simp only [List.setIfInBounds_toArray, List.set_cons_zero, List.set_cons_succ]
      refine take_at (i := 6) 26 (.slice p L c) rfl rfl (by kernel_rfl) (by kernel_rfl) (by kernel_rfl) (fun _ _ _ h => h) (Or.inl ⟨by rfl, fun W hW => by go_simp⟩) hS ?_
      try simp only [List.setIfInBounds_toArray, List.set_cons_zero, List.set_cons_succ]
      refine take_at (i := 8) 28 (.agg (A8 16 root)) rfl rfl (by kernel_rfl) (by kernel_rfl) (by kernel_rfl) (fun _ _ _ h => h) (Or.inl ⟨by rfl, fun W hW => exec_load_blk hW.2⟩) hS ?_
      try simp only [List.setIfInBounds_toArray, List.set_cons_zero, List.set_cons_succ]
      refine take_at (i := 9) 29 (.int .i64 n) rfl rfl (by kernel_rfl) (by kernel_rfl) (by kernel_rfl) (fun _ _ _ h => h) (Or.inl ⟨by rfl, fun W hW => by go_simp⟩) hS ?_
      try simp only [List.setIfInBounds_toArray, List.set_cons_zero, List.set_cons_succ]
      refine take_at (i := 10) 30 (.int .i64 i) rfl rfl (by kernel_rfl) (by kernel_rfl) (by kernel_rfl) (fun _ _ _ h => h) (Or.inl ⟨by rfl, fun W hW => by go_simp⟩) hS ?_
      try simp only [List.setIfInBounds_toArray, List.set_cons_zero, List.set_cons_succ]
      refine take_at (i := 11) 31 (.slice ip K ic) rfl rfl (by kernel_rfl) (by kernel_rfl) (by kernel_rfl) (fun _ _ _ h => h) (Or.inl ⟨by rfl, fun W hW => by go_simp⟩) hS ?_
      try simp only [List.setIfInBounds_toArray, List.set_cons_zero, List.set_cons_succ]
      refine take_at (i := 12) 32 (.slice p L c) rfl rfl (by kernel_rfl) (by kernel_rfl) (by kernel_rfl) (fun _ _ _ h => h) (Or.inl ⟨by rfl, fun W hW => by go_simp⟩) hS ?_
      try simp only [List.setIfInBounds_toArray, List.set_cons_zero, List.set_cons_succ]
      refine wpAnyH_ready (rs := [7]) (by kernel_rfl) (by simp) ?_
      refine AllReadyH.cons rfl (fun K hK => ?_) AllReadyH.nil
      rw [if_pos (by rfl)]
      go_simp
      refine (B1.out _ hS.1).mono ?_
      rintro e X2 ⟨rfl, hb⟩
      refine hK.out _ _ (⟨hS.1.trans (hb.mono hS.1.size), hS.2.below hb hS.2.lt⟩) (fun hS => ?_)
      clear hK K
      clear hb
      try simp only [Act.put, List.getElem_toArray, List.getElem_cons_succ, List.getElem_cons_zero, List.setIfInBounds_toArray, List.set_cons_zero, List.set_cons_succ]
      refine wpAnyH_ready (rs := [13]) (by kernel_rfl) (by simp) ?_
      refine AllReadyH.cons rfl (fun K hK => ?_) AllReadyH.nil
      rw [if_pos (by rfl)]
      go_simp
      refine (B2.out _ hS.1).mono ?_
      rintro e X3 ⟨rfl, hb⟩
      refine hK.out _ _ (⟨hS.1.trans (hb.mono hS.1.size), hS.2.below hb hS.2.lt⟩) (fun hS => ?_)
      clear hK K
      clear hb
      try simp only [Act.put, List.getElem_toArray, List.getElem_cons_succ, List.getElem_cons_zero, List.setIfInBounds_toArray, List.set_cons_zero, List.set_cons_succ]
      refine take_at (i := 14) 34 (.bool true) rfl rfl (by kernel_rfl) (by kernel_rfl) (by kernel_rfl) (fun _ _ _ h => h) (Or.inl ⟨by rfl, fun W hW => by go_simp⟩) hS ?_
      try simp only [List.setIfInBounds_toArray, List.set_cons_zero, List.set_cons_succ]
      refine take_at (i := 15) 35 (.bool true) rfl rfl (by kernel_rfl) (by kernel_rfl) (by kernel_rfl) (fun _ _ _ h => h) (Or.inl ⟨by rfl, fun W hW => by go_simp⟩) hS ?_
      try simp only [List.setIfInBounds_toArray, List.set_cons_zero, List.set_cons_succ]
      refine take_at (i := 16) 10 (.bool true) rfl rfl (by kernel_rfl) (by kernel_rfl) (by kernel_rfl) (fun _ _ _ h => h) (Or.inl ⟨by rfl, fun W hW => by go_simp⟩) hS ?_
      try simp only [List.setIfInBounds_toArray, List.set_cons_zero, List.set_cons_succ]
      refine wpAnyH_done (by kernel_rfl) ?_ _
      go_wp2_with fail
      go_ret
      exact ⟨rfl, hS.1⟩
end Go.Proofs.YtdpgebifeaakjaaDoor
