/- The walk of Grow. -/
import Derived.Test.YtdpgebifeaakjaaDoorFH
import Derived.Test.YtdpgebifeaakjaaDoorFA
import Derived.Test.YtdpgebifeaakjaaDoorRJ1
namespace Go.Proofs.YtdpgebifeaakjaaDoor
set_option linter.unusedSimpArgs false
set_option linter.unusedVariables false
open Go.RowKit

set_option maxRecDepth 20000 in
set_option maxHeartbeats 4000000 in
theorem grow_ok (a n cap : Nat) (p : Option Addr) (D : Nat → Nat → BitVec 8) (d : Nat → BitVec 8) (w : World) (ha : a < 1099511627776) (hn : n = pcN 64 a) (hv : Digs w (.slice p n cap) n D) :
    Calls Tryd.prog 53 #[.agg #[.int .i64 (a : Int), .slice p n cap], .agg (A8 16 d)] w fun e w' => ∃ r, e = .returned (.tuple #[.agg #[.int .i64 ((a : Int) + 1), r], .int .i64 0]) ∧
      Digs w' r ((growF 64 a n D (leafD d)).1 + 1) (snocT (growF 64 a n D (leafD d)).1 D (growF 64 a n D (leafD d)).2) ∧ Below w.heap.size w w' := by
  obtain ⟨gk, gx, hG⟩ : ∃ gk gx, growF 64 a n D (leafD d) = (gk, gx) := ⟨_, _, rfl⟩
  rw [hG]
  dsimp only
  have HG := hide hG
  clear hG
  have hvv := hv
  have hbx := box23 d
  have hfr : frB (a : Int) n = true := by
    unfold frB
    rw [show decide ((0 : Int) ≤ (a : Int)) = true from decide_eq_true (by omega), show decide ((a : Int) ≤ 1099511627776) = true from decide_eq_true (by omega), Int.toNat_natCast, hn]
    simp
  have hn64 : n ≤ 64 := by
    have : ∀ f x, pcN f x ≤ f := by
      intro f
      induction f with
      | zero => intro x; exact Nat.le_refl _
      | succ f ih => intro x; have := ih (x / 2); rw [pcN]; omega
    rw [hn]; exact this 64 a
  have hne : ¬ (a : Int) = 1099511627776 := by omega
  have hwr : IntKind.i64.wrap ((a : Int) + 1) = (a : Int) + 1 := IntWalk.i64_in _ (by omega)
  have k2 := Blk.new w #[.int .i64 (a : Int), .slice p n cap] 94
  have k3 := Blk.new (w.alloc (.cells #[.int .i64 (a : Int), .slice p n cap] 94)) (A8 16 d) 23
  have k4 := Blk.new ((w.alloc (.cells #[.int .i64 (a : Int), .slice p n cap] 94)).alloc (.cells (A8 16 d) 23)) #[.int .i64 0, .slice none 0 0] 94
  rw [World.size_alloc] at k3
  rw [World.size_alloc, World.size_alloc] at k4
  replace k2 := (k2.alloc (.cells (A8 16 d) 23)).alloc (.cells #[.int .i64 0, .slice none 0 0] 94)
  replace k3 := k3.alloc (.cells #[.int .i64 0, .slice none 0 0] 94)
  have hB : Below w.heap.size w (((w.alloc (.cells #[.int .i64 (a : Int), .slice p n cap] 94)).alloc (.cells (A8 16 d) 23)).alloc (.cells #[.int .i64 0, .slice none 0 0] 94)) := (((Below.refl _ w).alloc (Nat.le_refl _) _).alloc (by simp) _).alloc (by simp; omega) _
  obtain ⟨W0, hW0⟩ : ∃ W0, ((w.alloc (.cells #[.int .i64 (a : Int), .slice p n cap] 94)).alloc (.cells (A8 16 d) 23)).alloc (.cells #[.int .i64 0, .slice none 0 0] 94) = W0 := ⟨_, rfl⟩
  rw [hW0] at k2 k3 k4 hB
  have HN := hide hn
  clear hv hn
  go_enter Tryd.func53, Tryd.ntmps53
  go_upto_region 1 with (fail)
  try rw [hW0]
  clear hW0 hbx
  go_wp2_with (refine wp_loadRow rfl 94 _ rfl w.heap.size rfl k2 Tryd.underlying94 rfl size94 rfl ?_)
  refine (vfront_any (a : Int) p n cap _).mono ?_
  rintro e W1 ⟨rfl, hb⟩
  rw [hfr]
  replace k2 := k2.below hb k2.lt
  replace k3 := k3.below hb k3.lt
  replace k4 := k4.below hb k4.lt
  replace hB := hB.trans (hb.mono hB.size)
  clear hb hfr
  have q0 := k2.cell 0
  have q1 := k2.cell 1
  go_wp2_with fail
  refine wp_region_held_drew (S := fun w' => Below W1.heap.size W1 w') (by kernel_rfl) ((Below.refl _ _).drew) (fun hS => ?_)
  refine take_at (i := 0) 18 (.pointer (some ⟨w.heap.size, 0, none⟩)) rfl rfl (by kernel_rfl) (by kernel_rfl) (by kernel_rfl) (fun _ _ _ h => h) (Or.inl ⟨by rfl, fun W hW => by go_simp⟩) hS ?_
  try simp only [List.setIfInBounds_toArray, List.set_cons_zero, List.set_cons_succ]
  refine take_at (i := 1) 19 (.int .i64 (a : Int)) rfl rfl (by kernel_rfl) (by kernel_rfl) (by kernel_rfl) (fun _ _ _ h => h) (Or.inl ⟨by rfl, fun W hW => by have hc := cell_below q0 hW; go_simp⟩) hS ?_
  try simp only [List.setIfInBounds_toArray, List.set_cons_zero, List.set_cons_succ]
  refine take_at (i := 2) 20 (.int .i64 ((a : Int) + 1)) rfl rfl (by kernel_rfl) (by kernel_rfl) (by kernel_rfl) (fun _ _ _ h => h) (Or.inl ⟨by rfl, fun W hW => by go_simp⟩) hS ?_
  try simp only [List.setIfInBounds_toArray, List.set_cons_zero, List.set_cons_succ]
  refine take_at (i := 3) 21 (.pointer (some ⟨w.heap.size, 1, none⟩)) rfl rfl (by kernel_rfl) (by kernel_rfl) (by kernel_rfl) (fun _ _ _ h => h) (Or.inl ⟨by rfl, fun W hW => by go_simp⟩) hS ?_
  try simp only [List.setIfInBounds_toArray, List.set_cons_zero, List.set_cons_succ]
  refine take_at (i := 4) 22 (.slice p n cap) rfl rfl (by kernel_rfl) (by kernel_rfl) (by kernel_rfl) (fun _ _ _ h => h) (Or.inl ⟨by rfl, fun W hW => by have hc := cell_below q1 hW; go_simp⟩) hS ?_
  try simp only [List.setIfInBounds_toArray, List.set_cons_zero, List.set_cons_succ]
  refine wpAnyH_ready (rs := [5, 7]) (by kernel_rfl) (by simp) ?_
  refine AllReadyH.cons rfl (fun K hK => ?_) ?_
  · skip
    rw [if_pos (by rfl)]
    refine oper_append_digs (base := W1.drew.heap.size) (k := 0) (T := D) _ _ rfl rfl (World.ownsRow_nil _ _ _ _) rfl (hvv.below (hB.trans (hS.mono hB.size))) (by omega) (Nat.le_refl _) ?_
    intro gv X1 hown hgr
    rw [Nat.zero_add, digCells, List.nil_append] at hown
    obtain ⟨gp, gc, rfl, _⟩ := Digs.of_owns hown
    have hbx : Below W1.drew.heap.size W1.drew X1 := (Below.refl _ _).grown hgr (Nat.le_refl _) (fun q e => by cases e)
    have hS0 := hS
    refine hK.out _ _ (hS.trans (hbx.mono hS.size)) (fun hS => ?_)
    clear hK K
    replace hown := ownsRow_base hown (base' := W1.heap.size) hS0.size
    try simp only [Act.put, List.setIfInBounds_toArray, List.set_cons_zero, List.set_cons_succ]
    refine take_at (i := 6) 24 (.agg #[.int .i64 ((a : Int) + 1), .slice gp n gc]) rfl rfl (by kernel_rfl) (by kernel_rfl) (by kernel_rfl) (fun _ _ _ h => h) (Or.inl ⟨by rfl, fun W hW => by go_simp⟩) hS ?_
    try simp only [List.setIfInBounds_toArray, List.set_cons_zero, List.set_cons_succ]
    refine wpAnyH_ready (rs := [7]) (by kernel_rfl) (by simp) ?_
    refine AllReadyH.cons rfl (fun K hK => ?_) AllReadyH.nil
    have k6 : Blk (X1.alloc (.cells #[.int .i64 0, .slice none 0 0] 94)) X1.heap.size #[.int .i64 0, .slice none 0 0] 94 := Blk.new X1 #[.int .i64 0, .slice none 0 0] 94
    go_simp
    have hS0 := hS
    refine hK.out _ _ (hS.alloc hS.size _) (fun hS => ?_)
    clear hK K
    have hle : W1.heap.size ≤ X1.heap.size := hS0.size
    replace hown := ownsRow_below hown ((Below.refl _ _).alloc (Nat.le_refl _) (.cells #[.int .i64 0, .slice none 0 0] 94))
    try simp only [Act.put, List.setIfInBounds_toArray, List.set_cons_zero, List.set_cons_succ]
    refine wpAnyH_ready (rs := [8]) (by kernel_rfl) (by simp) ?_
    refine AllReadyH.cons rfl (fun K hK => ?_) AllReadyH.nil
    rw [if_pos (by rfl)]
    refine wpo_storeRow (C' := #[.int .i64 ((a : Int) + 1), .slice gp n gc]) 94 (.tmp 6) (.tmp 24) rfl _ rfl rfl k6 size94 rfl rfl (by simp [Value.oneCell']) rfl ?_
    intro W5 hu k5
    have hS0 := hS
    refine hK.out _ _ (hu.below hS hle) (fun hS => ?_)
    clear hK K
    replace hown := ownsRow_upd hown hu k6 (by decide)
    try simp only [Act.put, List.setIfInBounds_toArray, List.set_cons_zero, List.set_cons_succ]
    refine wpAnyH_done (by kernel_rfl) ?_ _
    have hS2 : Below W1.heap.size W1 W5 := hS
    clear hS k6 hu hbx hgr hS0
    have l4 := k4.lt
    replace k2 := k2.below hS2 k2.lt
    replace k3 := k3.below hS2 k3.lt
    replace k4 := k4.below hS2 k4.lt
    replace hB := hB.trans (hS2.mono hB.size)
    replace hown := ownsRow_base hown (base' := w.heap.size + 1 + 1 + 1) (by omega)
    have l46 : w.heap.size + 1 + 1 < X1.heap.size := by omega
    clear q0 q1 hS2 hle l4
    generalize X1.heap.size = b6 at *
    go_wp2_with (refine wp_loadRow rfl 23 _ rfl (w.heap.size + 1) rfl k3 Tryd.underlying23 rfl size23 (A8.size _ _) ?_)
    refine (leaf_any d _).mono ?_
    rintro e W6 ⟨rfl, hb⟩
    replace k2 := k2.below hb k2.lt
    replace k4 := k4.below hb k4.lt
    replace k5 := k5.below hb k5.lt
    replace hown := ownsRow_below hown hb
    replace hB := hB.trans (hb.mono hB.size)
    have hgp : ∀ g, gp = some ⟨g, 0, none⟩ → g < W6.heap.size := fun g e => (hown.lt g (by rw [e]; rfl)).2
    have l6 := k5.lt
    clear hb k3
    have n7 := Blk.new W6 (A8 16 fun _ => 0#8) 23
    go_wp2_with (refine wp_storeRow (C' := A8 16 (leafD d)) rfl 23 _ _ rfl _ rfl rfl n7 size23 (A8.size _ _) (A8.size _ _) (A8.one _) rfl ?_; intro W7 hu kt; have hb7 : Below W6.heap.size W6 W7 := hu.below ((Below.refl _ _).alloc (Nat.le_refl _) _) (Nat.le_refl _); have q0 := (k2.below hb7 k2.lt).cell 0)
    replace kf := k5.below hb7 k5.lt
    replace kr := k4.below hb7 k4.lt
    replace hown := ownsRow_below hown hb7
    replace hB := hB.trans (hb7.mono hB.size)
    clear k5 k4 k2 n7 hu hb7 q0
    generalize W6.heap.size = b7 at *
    go_loopw [8] (fun s8 W => ∃ (f m k : Nat) (x : Nat → BitVec 8), s8 = .int .i64 (m : Int) ∧ m < 2 ^ f ∧ m < 1099511627776 ∧ k ≤ 64 ∧ pcN 64 m = k ∧ growF f m k D x = (gk, gx) ∧ Blk W b7 (A8 16 x) 23 ∧ Blk W b6 #[.int .i64 ((a : Int) + 1), .slice gp k gc] 94 ∧ W.ownsRow (w.heap.size + 1 + 1 + 1) 23 16 (.slice gp k gc) k (digCells D k) ∧ Blk W (w.heap.size + 1 + 1) #[.int .i64 0, .slice none 0 0] 94 ∧ Below w.heap.size w W) (fun s8 _ => (intOf s8).toNat)
    case atStart => exact ⟨64, a, n, leafD d, rfl, Nat.lt_trans ha (by decide), ha, hn64, HN.out.symm, HG.out, kt, kf, hown, kr, hB⟩
    case round =>
      clear hB kt kf kr hown
      obtain ⟨f, m, k, x, rfl, hmf, hm, hk, hpc, hgr, kt, kf, hown, kr, hB⟩ := hrel
      have hph := pc_half m (Nat.lt_trans hm (by decide))
      by_cases hodd : m % 2 = 1
      · have hA : bits BinOp.and IntKind.i64 (m : Int) 1 = 1 := and_one_odd m hm hodd
        obtain ⟨f', rfl, hmf2, hgr2⟩ := growF_odd f m k D x hodd hmf
        obtain ⟨j, rfl⟩ : ∃ j, k = j + 1 := ⟨k - 1, by omega⟩
        rw [hgr2, Nat.add_sub_cancel] at hgr
        obtain ⟨g, rfl, hown2⟩ := ownsRow_take hown (Nat.lt_succ_self j)
        have hg7 := hgp g rfl
        have r1 := ownsRow_range hown j (by omega)
        have hpj : pcN 64 (m / 2) = j := by omega
        have HP := hide (And.intro hpj (And.intro hmf2 hgr))
        clear hpj hown2 hph hmf hmf2 hgr hgr2 hpc
        have q1 := kf.cell 1
        have hj0 : (0 : Int) ≤ (j : Int) := by omega
        have hj2 : (j : Int) ≤ (gc : Int) := by have := ownsRow_le hown; omega
        have hj1 : ¬ ((j : Int) + 1 ≤ (j : Int)) := by omega
        go_wp2_with fail
        refine wp_region_held_drew (S := fun w' => w'.cell? ⟨b6, 1, none⟩ = some (.slice (some ⟨g, 0, none⟩) (j + 1) gc) ∧ w'.rangeAt g (0 + j * 16) (A8 16 (D j)).toList) (by kernel_rfl) (⟨kf.drew.cell 1, r1⟩) (fun hS => ?_)
        refine take_at (i := 0) 38 (.pointer (some ⟨b6, 1, none⟩)) rfl rfl (by kernel_rfl) (by kernel_rfl) (by kernel_rfl) (fun _ _ _ h => h) (Or.inl ⟨by rfl, fun W hW => by go_simp⟩) hS ?_
        try simp only [List.setIfInBounds_toArray, List.set_cons_zero, List.set_cons_succ]
        refine take_at (i := 1) 39 (.slice (some ⟨g, 0, none⟩) (j + 1) gc) rfl rfl (by kernel_rfl) (by kernel_rfl) (by kernel_rfl) (fun _ _ _ h => h) (Or.inl ⟨by rfl, fun W hW => by have hc := hW.1; go_simp⟩) hS ?_
        try simp only [List.setIfInBounds_toArray, List.set_cons_zero, List.set_cons_succ]
        refine take_at (i := 2) 40 (.int .i64 (j : Int)) rfl rfl (by kernel_rfl) (by kernel_rfl) (by kernel_rfl) (fun _ _ _ h => h) (Or.inl ⟨by rfl, fun W hW => by go_simp⟩) hS ?_
        try simp only [List.setIfInBounds_toArray, List.set_cons_zero, List.set_cons_succ]
        refine take_at (i := 3) 41 (.pointer (some ⟨g, 0 + j * 16, none⟩)) rfl rfl (by kernel_rfl) (by kernel_rfl) (by kernel_rfl) (fun _ _ _ h => h) (Or.inl ⟨by rfl, fun W hW => by go_simp⟩) hS ?_
        try simp only [List.setIfInBounds_toArray, List.set_cons_zero, List.set_cons_succ]
        refine take_at (i := 4) 42 (.agg (A8 16 (D j))) rfl rfl (by kernel_rfl) (by kernel_rfl) (by kernel_rfl) (fun _ _ _ h => h) (Or.inl ⟨by rfl, fun W hW => exec_load_range _ 23 _ rfl g (0 + j * 16) rfl hW.2 Tryd.underlying23 rfl size23 (A8.size _ _)⟩) hS ?_
        try simp only [List.setIfInBounds_toArray, List.set_cons_zero, List.set_cons_succ]
        refine wpAnyH_ready (rs := [5]) (by kernel_rfl) (by simp) ?_
        refine AllReadyH.cons rfl (fun K hK => ?_) AllReadyH.nil
        rw [if_pos (by rfl)]
        refine wpo_loadRow 23 (.tmp 7) rfl b7 rfl (run_loadVar_Blk kt.drew Tryd.underlying23 rfl size23 (A8.size _ _)) ?_
        have hS0 := hS
        refine hK.out _ _ (hS) (fun hS => ?_)
        clear hK K
        try simp only [Act.put, List.setIfInBounds_toArray, List.set_cons_zero, List.set_cons_succ]
        refine wpAnyH_ready (rs := [6]) (by kernel_rfl) (by simp) ?_
        refine AllReadyH.cons rfl (fun K hK => ?_) AllReadyH.nil
        go_simp
        refine (join_any _ _ _).mono ?_
        rintro e X9 ⟨rfl, hb⟩
        have hS0 := hS
        refine hK.out _ _ (⟨cell_below hS.1 hb, rangeAt_below hS.2 hb⟩) (fun hS => ?_)
        clear hK K
        replace kt := kt.drew.below hb kt.lt
        replace kf := kf.drew.below hb kf.lt
        replace kr := kr.drew.below hb kr.lt
        replace hown := ownsRow_below hown.drew hb
        replace hB := hB.drew.trans (hb.mono hB.size)
        clear hb
        try simp only [Act.put, List.setIfInBounds_toArray, List.set_cons_zero, List.set_cons_succ]
        refine wpAnyH_ready (rs := [7]) (by kernel_rfl) (by simp) ?_
        refine AllReadyH.cons rfl (fun K hK => ?_) AllReadyH.nil
        rw [if_pos (by rfl)]
        refine wpo_storeRow (C' := A8 16 (nodeD (D j) x)) 23 (.tmp 7) (.tmp 44) rfl b7 rfl rfl kt size23 (A8.size _ _) (A8.size _ _) (A8.one _) rfl ?_
        intro X8 hu kt2
        have hS0 := hS
        refine hK.out _ _ (⟨cell_upd hS.1 hu (by simp; omega), rangeAt_upd hS.2 hu (by omega)⟩) (fun hS => ?_)
        clear hK K
        try simp only [Act.put, List.setIfInBounds_toArray, List.set_cons_zero, List.set_cons_succ]
        refine wpAnyH_done (by kernel_rfl) ?_ _
        replace kf := kf.upd hu (by omega)
        replace kr := kr.upd hu (by omega)
        replace hown := ownsRow_upd2 hown hu (by omega)
        replace hB := hu.below hB (by omega)
        clear kt hu hS r1
        have q1 := kf.cell 1
        have f1 := kf.free 1
        go_wp2_with fail
        obtain ⟨HP1, HP2, HP3⟩ := HP.out
        exact ⟨⟨f', m / 2, j, nodeD (D j) x, (by first | go_num | exact congrArg (Value.int IntKind.i64) (by omega)), HP2, by omega, by omega, HP1, HP3, kt2.other (by simp; omega) _, kf.set 1 (.slice (some ⟨g, 0, none⟩) j gc), (by obtain ⟨_, _, h⟩ := ownsRow_take (hown.kept (grownBy_setCell _ ⟨b6, 1, none⟩ (.slice (some ⟨g, 0, none⟩) j gc)) (ownsRow_other hown kf (by decide))) (Nat.lt_succ_self j); exact h), kr.other (by simp; omega) _, hB.setCell (p := ⟨b6, 1, none⟩) (by simp; omega) _⟩, by simp [intOf]; omega⟩
      · have hA : bits BinOp.and IntKind.i64 (m : Int) 1 = 0 := and_one_even m hm (by omega)
        have he := growF_even f m k D x (by omega)
        rw [he] at hgr
        injection hgr with hgk hgx
        subst hgk hgx
        have HK := hide hk
        clear he hph hmf hpc hk hgp
        have q1 := kf.cell 1
        have l7 := kt.lt
        go_wp2_with (first | (refine wp_loadRow rfl 23 _ rfl b7 rfl kt Tryd.underlying23 rfl size23 (A8.size _ _) ?_) | (refine wp_build80 rfl _ rfl rfl ?_) | (refine wpl_append_digs (v := .slice gp k gc) rfl _ _ rfl rfl (ownsRow_below hown ((Below.refl _ _).alloc (Nat.le_refl _) (.cells (A8 16 x) 23))) rfl (digs_new _ _) (by have := HK.out; omega) (by have := hB.size; have := kr.lt; simp; omega) ?_; intro v8 W8 hown8 hg8; obtain ⟨vp, vn, vc, rfl⟩ := ownsRow_slice' hown8; have kf8 := grown_blk hown hg8 kf (by decide); have kr8 := grown_blk hown hg8 kr (by decide); have q8 := kf8.cell 1; have f8 := kf8.free 1; have q80 := kf8.cell 0; have c0 := kr8.cell 0; have c1 := kr8.cell 1; have g0 := kr8.free 0; have g1 := kr8.free 1))
        obtain ⟨kz, dz, bz⟩ := grow_fin hB hown hg8 hown8 kf8 kr8 l46 (.int .i64 ((a : Int) + 1))
        exact ret_row_tmp rfl (w.heap.size + 1 + 1) rfl rfl (run_loadVar_Blk kz Tryd.underlying94 rfl size94 rfl) rfl ⟨_, rfl, dz, bz⟩
  refine AllReadyH.cons rfl (fun K hK => ?_) AllReadyH.nil
  have k6 : Blk (W1.drew.alloc (.cells #[.int .i64 0, .slice none 0 0] 94)) W1.heap.size #[.int .i64 0, .slice none 0 0] 94 := Blk.new W1.drew #[.int .i64 0, .slice none 0 0] 94
  go_simp
  have hS0 := hS
  refine hK.out _ _ (hS.alloc hS.size _) (fun hS => ?_)
  clear hK K
  have hle : W1.heap.size ≤ W1.heap.size := hS0.size
  try simp only [Act.put, List.setIfInBounds_toArray, List.set_cons_zero, List.set_cons_succ]
  refine wpAnyH_ready (rs := [5]) (by kernel_rfl) (by simp) ?_
  refine AllReadyH.cons rfl (fun K hK => ?_) AllReadyH.nil
  rw [if_pos (by rfl)]
  refine oper_append_digs (base := (W1.drew.alloc (.cells #[.int .i64 0, .slice none 0 0] 94)).heap.size) (k := 0) (T := D) _ _ rfl rfl (World.ownsRow_nil _ _ _ _) rfl (hvv.below (hB.trans (hS.mono hB.size))) (by omega) (Nat.le_refl _) ?_
  intro gv X5 hown hgr
  rw [Nat.zero_add, digCells, List.nil_append] at hown
  obtain ⟨gp, gc, rfl, _⟩ := Digs.of_owns hown
  have hbx : Below (W1.drew.alloc (.cells #[.int .i64 0, .slice none 0 0] 94)).heap.size (W1.drew.alloc (.cells #[.int .i64 0, .slice none 0 0] 94)) X5 := (Below.refl _ _).grown hgr (Nat.le_refl _) (fun q e => by cases e)
  replace k6 := k6.below hbx k6.lt
  have hS0 := hS
  refine hK.out _ _ (hS.trans (hbx.mono hS.size)) (fun hS => ?_)
  clear hK K
  replace hown := ownsRow_base hown (base' := W1.heap.size) hS0.size
  try simp only [Act.put, List.setIfInBounds_toArray, List.set_cons_zero, List.set_cons_succ]
  refine take_at (i := 6) 24 (.agg #[.int .i64 ((a : Int) + 1), .slice gp n gc]) rfl rfl (by kernel_rfl) (by kernel_rfl) (by kernel_rfl) (fun _ _ _ h => h) (Or.inl ⟨by rfl, fun W hW => by go_simp⟩) hS ?_
  try simp only [List.setIfInBounds_toArray, List.set_cons_zero, List.set_cons_succ]
  refine wpAnyH_ready (rs := [8]) (by kernel_rfl) (by simp) ?_
  refine AllReadyH.cons rfl (fun K hK => ?_) AllReadyH.nil
  rw [if_pos (by rfl)]
  refine wpo_storeRow (C' := #[.int .i64 ((a : Int) + 1), .slice gp n gc]) 94 (.tmp 6) (.tmp 24) rfl _ rfl rfl k6 size94 rfl rfl (by simp [Value.oneCell']) rfl ?_
  intro W5 hu k5
  have hS0 := hS
  refine hK.out _ _ (hu.below hS hle) (fun hS => ?_)
  clear hK K
  replace hown := ownsRow_upd hown hu k6 (by decide)
  try simp only [Act.put, List.setIfInBounds_toArray, List.set_cons_zero, List.set_cons_succ]
  refine wpAnyH_done (by kernel_rfl) ?_ _
  have hS2 : Below W1.heap.size W1 W5 := hS
  clear hS k6 hu hbx hgr hS0
  have l4 := k4.lt
  replace k2 := k2.below hS2 k2.lt
  replace k3 := k3.below hS2 k3.lt
  replace k4 := k4.below hS2 k4.lt
  replace hB := hB.trans (hS2.mono hB.size)
  replace hown := ownsRow_base hown (base' := w.heap.size + 1 + 1 + 1) (by omega)
  have l46 : w.heap.size + 1 + 1 < W1.heap.size := by omega
  clear q0 q1 hS2 hle l4
  generalize W1.heap.size = b6 at *
  go_wp2_with (refine wp_loadRow rfl 23 _ rfl (w.heap.size + 1) rfl k3 Tryd.underlying23 rfl size23 (A8.size _ _) ?_)
  refine (leaf_any d _).mono ?_
  rintro e W6 ⟨rfl, hb⟩
  replace k2 := k2.below hb k2.lt
  replace k4 := k4.below hb k4.lt
  replace k5 := k5.below hb k5.lt
  replace hown := ownsRow_below hown hb
  replace hB := hB.trans (hb.mono hB.size)
  have hgp : ∀ g, gp = some ⟨g, 0, none⟩ → g < W6.heap.size := fun g e => (hown.lt g (by rw [e]; rfl)).2
  have l6 := k5.lt
  clear hb k3
  have n7 := Blk.new W6 (A8 16 fun _ => 0#8) 23
  go_wp2_with (refine wp_storeRow (C' := A8 16 (leafD d)) rfl 23 _ _ rfl _ rfl rfl n7 size23 (A8.size _ _) (A8.size _ _) (A8.one _) rfl ?_; intro W7 hu kt; have hb7 : Below W6.heap.size W6 W7 := hu.below ((Below.refl _ _).alloc (Nat.le_refl _) _) (Nat.le_refl _); have q0 := (k2.below hb7 k2.lt).cell 0)
  replace kf := k5.below hb7 k5.lt
  replace kr := k4.below hb7 k4.lt
  replace hown := ownsRow_below hown hb7
  replace hB := hB.trans (hb7.mono hB.size)
  clear k5 k4 k2 n7 hu hb7 q0
  generalize W6.heap.size = b7 at *
  go_loopw [8] (fun s8 W => ∃ (f m k : Nat) (x : Nat → BitVec 8), s8 = .int .i64 (m : Int) ∧ m < 2 ^ f ∧ m < 1099511627776 ∧ k ≤ 64 ∧ pcN 64 m = k ∧ growF f m k D x = (gk, gx) ∧ Blk W b7 (A8 16 x) 23 ∧ Blk W b6 #[.int .i64 ((a : Int) + 1), .slice gp k gc] 94 ∧ W.ownsRow (w.heap.size + 1 + 1 + 1) 23 16 (.slice gp k gc) k (digCells D k) ∧ Blk W (w.heap.size + 1 + 1) #[.int .i64 0, .slice none 0 0] 94 ∧ Below w.heap.size w W) (fun s8 _ => (intOf s8).toNat)
  case atStart => exact ⟨64, a, n, leafD d, rfl, Nat.lt_trans ha (by decide), ha, hn64, HN.out.symm, HG.out, kt, kf, hown, kr, hB⟩
  case round =>
    clear hB kt kf kr hown
    obtain ⟨f, m, k, x, rfl, hmf, hm, hk, hpc, hgr, kt, kf, hown, kr, hB⟩ := hrel
    have hph := pc_half m (Nat.lt_trans hm (by decide))
    by_cases hodd : m % 2 = 1
    · have hA : bits BinOp.and IntKind.i64 (m : Int) 1 = 1 := and_one_odd m hm hodd
      obtain ⟨f', rfl, hmf2, hgr2⟩ := growF_odd f m k D x hodd hmf
      obtain ⟨j, rfl⟩ : ∃ j, k = j + 1 := ⟨k - 1, by omega⟩
      rw [hgr2, Nat.add_sub_cancel] at hgr
      obtain ⟨g, rfl, hown2⟩ := ownsRow_take hown (Nat.lt_succ_self j)
      have hg7 := hgp g rfl
      have r1 := ownsRow_range hown j (by omega)
      have hpj : pcN 64 (m / 2) = j := by omega
      have HP := hide (And.intro hpj (And.intro hmf2 hgr))
      clear hpj hown2 hph hmf hmf2 hgr hgr2 hpc
      have q1 := kf.cell 1
      have hj0 : (0 : Int) ≤ (j : Int) := by omega
      have hj2 : (j : Int) ≤ (gc : Int) := by have := ownsRow_le hown; omega
      have hj1 : ¬ ((j : Int) + 1 ≤ (j : Int)) := by omega
      go_wp2_with fail
      refine wp_region_held_drew (S := fun w' => w'.cell? ⟨b6, 1, none⟩ = some (.slice (some ⟨g, 0, none⟩) (j + 1) gc) ∧ w'.rangeAt g (0 + j * 16) (A8 16 (D j)).toList) (by kernel_rfl) (⟨kf.drew.cell 1, r1⟩) (fun hS => ?_)
      refine take_at (i := 0) 38 (.pointer (some ⟨b6, 1, none⟩)) rfl rfl (by kernel_rfl) (by kernel_rfl) (by kernel_rfl) (fun _ _ _ h => h) (Or.inl ⟨by rfl, fun W hW => by go_simp⟩) hS ?_
      try simp only [List.setIfInBounds_toArray, List.set_cons_zero, List.set_cons_succ]
      refine take_at (i := 1) 39 (.slice (some ⟨g, 0, none⟩) (j + 1) gc) rfl rfl (by kernel_rfl) (by kernel_rfl) (by kernel_rfl) (fun _ _ _ h => h) (Or.inl ⟨by rfl, fun W hW => by have hc := hW.1; go_simp⟩) hS ?_
      try simp only [List.setIfInBounds_toArray, List.set_cons_zero, List.set_cons_succ]
      refine take_at (i := 2) 40 (.int .i64 (j : Int)) rfl rfl (by kernel_rfl) (by kernel_rfl) (by kernel_rfl) (fun _ _ _ h => h) (Or.inl ⟨by rfl, fun W hW => by go_simp⟩) hS ?_
      try simp only [List.setIfInBounds_toArray, List.set_cons_zero, List.set_cons_succ]
      refine take_at (i := 3) 41 (.pointer (some ⟨g, 0 + j * 16, none⟩)) rfl rfl (by kernel_rfl) (by kernel_rfl) (by kernel_rfl) (fun _ _ _ h => h) (Or.inl ⟨by rfl, fun W hW => by go_simp⟩) hS ?_
      try simp only [List.setIfInBounds_toArray, List.set_cons_zero, List.set_cons_succ]
      refine take_at (i := 4) 42 (.agg (A8 16 (D j))) rfl rfl (by kernel_rfl) (by kernel_rfl) (by kernel_rfl) (fun _ _ _ h => h) (Or.inl ⟨by rfl, fun W hW => exec_load_range _ 23 _ rfl g (0 + j * 16) rfl hW.2 Tryd.underlying23 rfl size23 (A8.size _ _)⟩) hS ?_
      try simp only [List.setIfInBounds_toArray, List.set_cons_zero, List.set_cons_succ]
      refine wpAnyH_ready (rs := [5]) (by kernel_rfl) (by simp) ?_
      refine AllReadyH.cons rfl (fun K hK => ?_) AllReadyH.nil
      rw [if_pos (by rfl)]
      refine wpo_loadRow 23 (.tmp 7) rfl b7 rfl (run_loadVar_Blk kt.drew Tryd.underlying23 rfl size23 (A8.size _ _)) ?_
      have hS0 := hS
      refine hK.out _ _ (hS) (fun hS => ?_)
      clear hK K
      try simp only [Act.put, List.setIfInBounds_toArray, List.set_cons_zero, List.set_cons_succ]
      refine wpAnyH_ready (rs := [6]) (by kernel_rfl) (by simp) ?_
      refine AllReadyH.cons rfl (fun K hK => ?_) AllReadyH.nil
      go_simp
      refine (join_any _ _ _).mono ?_
      rintro e X9 ⟨rfl, hb⟩
      have hS0 := hS
      refine hK.out _ _ (⟨cell_below hS.1 hb, rangeAt_below hS.2 hb⟩) (fun hS => ?_)
      clear hK K
      replace kt := kt.drew.below hb kt.lt
      replace kf := kf.drew.below hb kf.lt
      replace kr := kr.drew.below hb kr.lt
      replace hown := ownsRow_below hown.drew hb
      replace hB := hB.drew.trans (hb.mono hB.size)
      clear hb
      try simp only [Act.put, List.setIfInBounds_toArray, List.set_cons_zero, List.set_cons_succ]
      refine wpAnyH_ready (rs := [7]) (by kernel_rfl) (by simp) ?_
      refine AllReadyH.cons rfl (fun K hK => ?_) AllReadyH.nil
      rw [if_pos (by rfl)]
      refine wpo_storeRow (C' := A8 16 (nodeD (D j) x)) 23 (.tmp 7) (.tmp 44) rfl b7 rfl rfl kt size23 (A8.size _ _) (A8.size _ _) (A8.one _) rfl ?_
      intro X8 hu kt2
      have hS0 := hS
      refine hK.out _ _ (⟨cell_upd hS.1 hu (by simp; omega), rangeAt_upd hS.2 hu (by omega)⟩) (fun hS => ?_)
      clear hK K
      try simp only [Act.put, List.setIfInBounds_toArray, List.set_cons_zero, List.set_cons_succ]
      refine wpAnyH_done (by kernel_rfl) ?_ _
      replace kf := kf.upd hu (by omega)
      replace kr := kr.upd hu (by omega)
      replace hown := ownsRow_upd2 hown hu (by omega)
      replace hB := hu.below hB (by omega)
      clear kt hu hS r1
      have q1 := kf.cell 1
      have f1 := kf.free 1
      go_wp2_with fail
      obtain ⟨HP1, HP2, HP3⟩ := HP.out
      exact ⟨⟨f', m / 2, j, nodeD (D j) x, (by first | go_num | exact congrArg (Value.int IntKind.i64) (by omega)), HP2, by omega, by omega, HP1, HP3, kt2.other (by simp; omega) _, kf.set 1 (.slice (some ⟨g, 0, none⟩) j gc), (by obtain ⟨_, _, h⟩ := ownsRow_take (hown.kept (grownBy_setCell _ ⟨b6, 1, none⟩ (.slice (some ⟨g, 0, none⟩) j gc)) (ownsRow_other hown kf (by decide))) (Nat.lt_succ_self j); exact h), kr.other (by simp; omega) _, hB.setCell (p := ⟨b6, 1, none⟩) (by simp; omega) _⟩, by simp [intOf]; omega⟩
    · have hA : bits BinOp.and IntKind.i64 (m : Int) 1 = 0 := and_one_even m hm (by omega)
      have he := growF_even f m k D x (by omega)
      rw [he] at hgr
      injection hgr with hgk hgx
      subst hgk hgx
      have HK := hide hk
      clear he hph hmf hpc hk hgp
      have q1 := kf.cell 1
      have l7 := kt.lt
      go_wp2_with (first | (refine wp_loadRow rfl 23 _ rfl b7 rfl kt Tryd.underlying23 rfl size23 (A8.size _ _) ?_) | (refine wp_build80 rfl _ rfl rfl ?_) | (refine wpl_append_digs (v := .slice gp k gc) rfl _ _ rfl rfl (ownsRow_below hown ((Below.refl _ _).alloc (Nat.le_refl _) (.cells (A8 16 x) 23))) rfl (digs_new _ _) (by have := HK.out; omega) (by have := hB.size; have := kr.lt; simp; omega) ?_; intro v8 W8 hown8 hg8; obtain ⟨vp, vn, vc, rfl⟩ := ownsRow_slice' hown8; have kf8 := grown_blk hown hg8 kf (by decide); have kr8 := grown_blk hown hg8 kr (by decide); have q8 := kf8.cell 1; have f8 := kf8.free 1; have q80 := kf8.cell 0; have c0 := kr8.cell 0; have c1 := kr8.cell 1; have g0 := kr8.free 0; have g1 := kr8.free 1))
      obtain ⟨kz, dz, bz⟩ := grow_fin hB hown hg8 hown8 kf8 kr8 l46 (.int .i64 ((a : Int) + 1))
      exact ret_row_tmp rfl (w.heap.size + 1 + 1) rfl rfl (run_loadVar_Blk kz Tryd.underlying94 rfl size94 rfl) rfl ⟨_, rfl, dz, bz⟩
end Go.Proofs.YtdpgebifeaakjaaDoor
