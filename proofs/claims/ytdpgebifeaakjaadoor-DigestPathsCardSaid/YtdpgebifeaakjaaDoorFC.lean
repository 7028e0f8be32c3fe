/- The walk of the specification's Grow. -/
import Derived.Test.YtdpgebifeaakjaaDoorGB
import Derived.Test.YtdpgebifeaakjaaDoorRJ2
import Derived.Test.YtdpgebifeaakjaaDoorAH
import Derived.Deep.Cut
namespace Go.Proofs.YtdpgebifeaakjaaDoor
set_option linter.unusedSimpArgs false
set_option linter.unusedVariables false
open Go.RowKit

theorem size98 : (Tryd.prog.info? 98).map (·.size) = some 3 := by kernel_rfl
theorem build98 (x : Int) (p : Option Addr) (k c : Nat) (w : World) : (Instr.build 98 #[(0, .agg #[.int .i64 x, .slice p k c])]).run Tryd.prog w = .ok (.agg #[.int .i64 x, .slice p k c, .int .i64 0]) w := by kernel_rfl
theorem build80z (w : World) : (Instr.buildSlice 80 0 #[]).run Tryd.prog w = .ok (.slice (some ⟨w.heap.size, 0, none⟩) 0 0) (w.alloc (.cells #[] 23)) := by kernel_rfl
/-- An empty slice of digests is made. -/
theorem wp_build80z {ops : Array Oper} {rest : List Oper} {o : Oper} {a : Act} {w : World} {Q : Exit → Act → World → Prop} (hgd : o.guard = none) (ho : o.op = .buildSlice 80 0 #[])
    (h : wpList Tryd.prog ops Q rest (a.put o.dst (.slice (some ⟨w.heap.size, 0, none⟩) 0 0)) (w.alloc (.cells #[] 23))) : wpList Tryd.prog ops Q (o :: rest) a w := by
  refine wpList_plain hgd fun _ hK => ?_
  unfold Oper.wp execOp
  simp only [ho, Sem.run_bind, Array.map_empty, build80z, Result.andThen_ok, Sem.run_pure]
  exact hK _ _ h
theorem owns_empty (w : World) (D : Nat → Nat → BitVec 8) : (w.alloc (.cells #[] 23)).ownsRow w.heap.size 23 16 (.slice (some ⟨w.heap.size, 0, none⟩) 0 0) 0 (digCells D 0) :=
  World.ownsRow_lit w #[] 0 (Nat.le_refl _) (Nat.zero_le _) rfl
/-- A block of digests that is not the row's own. -/
theorem grown_own {X w1 : World} {tmp : Obj} {base k gc : Nat} {gp : Option Addr} {xs : List Value} (hrow : X.ownsRow base 23 16 (.slice gp k gc) k xs) (hgrow : (X.alloc tmp).grownBy w1 (Value.slice gp k gc).ownBlock) {b : Nat} {C : Array Value} {t : TypeId} (hb : Blk X b C t) (hgp : ∀ g, gp = some ⟨g, 0, none⟩ → g < b) : Blk w1 b C t := by
  have e1 : w1.heap[b]? = X.heap[b]? := by
    rw [hgrow.block b (by have := Blk.lt hb; simp; omega) (by
      intro e
      obtain ⟨_, ⟨h1, _⟩ | ⟨g, cap', cur, h1, _⟩⟩ := hrow
      · injection h1 with h1
        subst h1
        cases e
      · injection h1 with h1
        subst h1
        have := hgp g rfl
        have e' : some b = some g := e
        injection e' with e'
        omega)]
    exact Below.heap_alloc _ _ _ (Blk.lt hb)
  exact e1.trans hb
set_option maxRecDepth 20000 in
set_option maxHeartbeats 1000000 in
theorem rgrow_ok (a n cap : Nat) (p : Option Addr) (D : Nat → Nat → BitVec 8) (d : Nat → BitVec 8) (w : World) (ha : a < 1099511627776) (hn : n = pcN 64 a) (hv : Digs w (.slice p n cap) n D) (hKK : KAt w) :
    Calls Tryd.prog 54 #[.agg #[.int .i64 (a : Int), .slice p n cap], .agg (A8 16 d)] w fun e w' => ∃ r, e = .returned (.agg #[.int .i64 ((a : Int) + 1), r, .int .i64 0]) ∧
      Digs w' r ((growF 64 a n D (leafD d)).1 + 1) (snocT (growF 64 a n D (leafD d)).1 D (growF 64 a n D (leafD d)).2) ∧ Below w.heap.size w w' := by
  obtain ⟨gk, gx, hG⟩ : ∃ gk gx, growF 64 a n D (leafD d) = (gk, gx) := ⟨_, _, rfl⟩
  rw [hG]
  dsimp only
  have HG := hide hG
  clear hG
  have hvv := hv
  have hbx := box23 d
  have hfr := frB_true a n (by omega) hn
  have hn64 : n ≤ 64 := by rw [hn]; exact pcN_le 64 a
  have hne : ¬ (a : Int) = 1099511627776 := by omega
  have hwr : IntKind.i64.wrap ((a : Int) + 1) = (a : Int) + 1 := IntWalk.i64_in _ (by omega)
  have k2 := Blk.new w #[.int .i64 (a : Int), .slice p n cap] 94
  have k3 := Blk.new (w.alloc (.cells #[.int .i64 (a : Int), .slice p n cap] 94)) (A8 16 d) 23
  have k4 := Blk.new ((w.alloc (.cells #[.int .i64 (a : Int), .slice p n cap] 94)).alloc (.cells (A8 16 d) 23)) #[.int .i64 0, .slice none 0 0, .int .i64 0] 98
  rw [World.size_alloc] at k3
  rw [World.size_alloc, World.size_alloc] at k4
  replace k2 := (k2.alloc (.cells (A8 16 d) 23)).alloc (.cells #[.int .i64 0, .slice none 0 0, .int .i64 0] 98)
  replace k3 := k3.alloc (.cells #[.int .i64 0, .slice none 0 0, .int .i64 0] 98)
  have hB : Below w.heap.size w (((w.alloc (.cells #[.int .i64 (a : Int), .slice p n cap] 94)).alloc (.cells (A8 16 d) 23)).alloc (.cells #[.int .i64 0, .slice none 0 0, .int .i64 0] 98)) := (((Below.refl _ w).alloc (Nat.le_refl _) _).alloc (by simp) _).alloc (by simp; omega) _
  obtain ⟨W0, hW0⟩ : ∃ W0, ((w.alloc (.cells #[.int .i64 (a : Int), .slice p n cap] 94)).alloc (.cells (A8 16 d) 23)).alloc (.cells #[.int .i64 0, .slice none 0 0, .int .i64 0] 98) = W0 := ⟨_, rfl⟩
  rw [hW0] at k2 k3 k4 hB
  have HN := hide hn
  clear hv hn
  go_enter Tryd.func54, Tryd.ntmps54
  go_upto_region 1 with (fail)
  try rw [hW0]
  clear hW0 hbx
  go_wp2_with (refine wp_loadRow rfl 94 _ rfl w.heap.size rfl k2 Tryd.underlying94 rfl size94 rfl ?_)
  refine (rsound_any _ _ _ _ _).mono ?_
  rintro e W1 ⟨rfl, hb⟩
  rw [hfr]
  replace k2 := k2.below hb k2.lt
  replace k3 := k3.below hb k3.lt
  replace k4 := k4.below hb k4.lt
  replace hB := hB.trans (hb.mono hB.size)
  clear hb hfr
  have q0 := k2.cell 0
  have q1 := k2.cell 1
  have hbz : Below W1.heap.size W1 (W1.alloc (.cells #[] 23)) := (Below.refl _ _).alloc (Nat.le_refl _) _
  have q1z := (k2.below hbz k2.lt).cell 1
  have l4 := k4.lt
  go_upto_region 5 with (fail)
  apply wp_region_lit
  refine wp_build80z rfl rfl ?_
  have oz := owns_empty W1 D
  have sz : W1.heap.size ≤ (W1.alloc (.cells #[] 23)).heap.size := hbz.size
  have hB1 := hB.trans (hbz.mono hB.size)
  have hvz := hvv.below hB1
  generalize W1.alloc (.cells #[] 23) = Wz at oz hbz q1z sz hB1 hvz ⊢
  go_wp2_with (first | (at_builtin; go_loud (refine wpl_append_digs (v := .slice (some ⟨W1.heap.size, 0, none⟩) 0 0) (T := D) rfl _ _ rfl rfl oz rfl hvz (by omega) sz ?_); intro v5 W5 hown hg5; rw [Nat.zero_add, digCells, List.nil_append] at hown; obtain ⟨gp, gc, rfl, _⟩ := Digs.of_owns hown; have hb5 : Below W1.heap.size W1 W5 := hbz.grown hg5 sz (fun q e => by have e2 : some W1.heap.size = some q := e; injection e2 with e2; omega)) | (refine wp_loadRow rfl 23 _ rfl (w.heap.size + 1) rfl (k3.below hb5 k3.lt) Tryd.underlying23 rfl size23 (A8.size _ _) ?_))
  replace k2 := k2.below hb5 k2.lt
  replace k4 := k4.below hb5 k4.lt
  replace hB := hB.trans (hb5.mono hB.size)
  replace hown := ownsRow_base hown (base' := w.heap.size + 1 + 1 + 1) (by omega)
  clear hg5 hb5 hbz q0 q1 q1z k3 l4 oz sz hB1 hvz
  refine (rleaf_any d _ (hKK.below hKK.pos hB)).mono ?_
  rintro e W6 ⟨rfl, hb⟩
  replace k2 := k2.below hb k2.lt
  replace k4 := k4.below hb k4.lt
  replace hown := ownsRow_below hown hb
  replace hB := hB.trans (hb.mono hB.size)
  have hgp : ∀ g, gp = some ⟨g, 0, none⟩ → g < W6.heap.size := fun g e => (hown.lt g (by rw [e]; rfl)).2
  have l6 := k4.lt
  clear hb
  have n7 := Blk.new W6 (A8 16 fun _ => 0#8) 23
  go_wp2_with (refine wp_storeRow (C' := A8 16 (leafD d)) rfl 23 _ _ rfl _ rfl rfl n7 size23 (A8.size _ _) (A8.size _ _) (A8.one _) rfl ?_; intro W7 hu kt; have hb7 : Below W6.heap.size W6 W7 := hu.below ((Below.refl _ _).alloc (Nat.le_refl _) _) (Nat.le_refl _); have q0 := (k2.below hb7 k2.lt).cell 0)
  replace kf := k2.below hb7 k2.lt
  replace kr := k4.below hb7 k4.lt
  replace hown := ownsRow_below hown hb7
  replace hB := hB.trans (hb7.mono hB.size)
  clear k4 k2 n7 hu hb7 q0
  generalize W6.heap.size = b6 at *
  go_loopw [5, 7] (fun s5 s7 W => ∃ (f m k : Nat) (x : Nat → BitVec 8), s5 = .slice gp k gc ∧ s7 = .int .i64 (m : Int) ∧ m < 2 ^ f ∧ m < 1099511627776 ∧ k ≤ 64 ∧ pcN 64 m = k ∧ growF f m k D x = (gk, gx) ∧ Blk W b6 (A8 16 x) 23 ∧ Blk W w.heap.size #[.int .i64 (a : Int), .slice p n cap] 94 ∧ W.ownsRow (w.heap.size + 1 + 1 + 1) 23 16 (.slice gp k gc) k (digCells D k) ∧ Blk W (w.heap.size + 1 + 1) #[.int .i64 0, .slice none 0 0, .int .i64 0] 98 ∧ Below w.heap.size w W) (fun _ s7 _ => (intOf s7).toNat)
  case atStart => exact ⟨64, a, n, leafD d, rfl, rfl, Nat.lt_trans ha (by decide), ha, hn64, HN.out.symm, HG.out, kt, kf, hown, kr, hB⟩
  case round =>
    clear hB kt kf kr hown
    obtain ⟨f, m, k, x, rfl, rfl, hmf, hm, hk, hpc, hgr, kt, kf, hown, kr, hB⟩ := hrel
    have hph := pc_half m (Nat.lt_trans hm (by decide))
    by_cases hodd : m % 2 = 1
    · have hA : (m : Int) % 2 = 1 := by omega
      have hA2 : (m : Int).tmod 2 = 1 := by rw [Int.tmod_eq_emod_of_nonneg (by omega)]; exact hA
      obtain ⟨f', rfl, hmf2, hgr2⟩ := growF_odd f m k D x hodd hmf
      obtain ⟨j, rfl⟩ : ∃ j, k = j + 1 := ⟨k - 1, by omega⟩
      rw [hgr2, Nat.add_sub_cancel] at hgr
      obtain ⟨g, rfl, hown2⟩ := ownsRow_take hown (Nat.lt_succ_self j)
      have hg7 := hgp g rfl
      have r1 := ownsRow_range hown j (by omega)
      have hpj : pcN 64 (m / 2) = j := by omega
      have HP := hide (And.intro hpj (And.intro hmf2 hgr))
      clear hpj hown2 hph hmf hmf2 hgr hgr2 hpc
      have hj0 : (0 : Int) ≤ (j : Int) := by omega
      have hjw : IntKind.i64.wrap (j : Int) = (j : Int) := IntWalk.i64_in _ (by omega)
      have hj2 : (j : Int) ≤ (gc : Int) := by have := ownsRow_le hown; omega
      have hj1 : ¬ ((j : Int) + 1 ≤ (j : Int)) := by omega
      go_wp2_with fail

      refine wp_region_held_drew (S := fun w' => w'.rangeAt g (0 + j * 16) (A8 16 (D j)).toList) (by kernel_rfl) (r1) (fun hS => ?_)
      simp only [List.size_toArray, List.length_cons, List.length_nil, Nat.reduceAdd, Array.replicate_succ, Array.replicate_zero, List.push_toArray, List.nil_append, List.cons_append]
      refine take_at (i := 0) 29 (.slice (some ⟨g, 0, none⟩) (j + 1) gc) rfl rfl (by kernel_rfl) (by kernel_rfl) (by kernel_rfl) (fun _ _ _ h => h) (Or.inl ⟨by rfl, fun W hW => by go_simp⟩) hS ?_
      try simp only [List.setIfInBounds_toArray, List.set_cons_zero, List.set_cons_succ]
      refine take_at (i := 1) 30 (.slice (some ⟨g, 0, none⟩) (j + 1) gc) rfl rfl (by kernel_rfl) (by kernel_rfl) (by kernel_rfl) (fun _ _ _ h => h) (Or.inl ⟨by rfl, fun W hW => by go_simp⟩) hS ?_
      try simp only [List.setIfInBounds_toArray, List.set_cons_zero, List.set_cons_succ]
      refine take_at (i := 2) 31 (.int .i64 ((j : Int) + 1)) rfl rfl (by kernel_rfl) (by kernel_rfl) (by kernel_rfl) (fun _ _ _ h => h) (Or.inl ⟨by rfl, fun W hW => by go_simp⟩) hS ?_
      try simp only [List.setIfInBounds_toArray, List.set_cons_zero, List.set_cons_succ]
      refine take_at (i := 3) 32 (.int .i64 (j : Int)) rfl rfl (by kernel_rfl) (by kernel_rfl) (by kernel_rfl) (fun _ _ _ h => h) (Or.inl ⟨by rfl, fun W hW => by go_simp⟩) hS ?_
      try simp only [List.setIfInBounds_toArray, List.set_cons_zero, List.set_cons_succ]
      refine take_at (i := 4) 33 (.pointer (some ⟨g, 0 + j * 16, none⟩)) rfl rfl (by kernel_rfl) (by kernel_rfl) (by kernel_rfl) (fun _ _ _ h => h) (Or.inl ⟨by rfl, fun W hW => by go_simp⟩) hS ?_
      try simp only [List.setIfInBounds_toArray, List.set_cons_zero, List.set_cons_succ]
      refine take_at (i := 5) 34 (.agg (A8 16 (D j))) rfl rfl (by kernel_rfl) (by kernel_rfl) (by kernel_rfl) (fun _ _ _ h => h) (Or.inl ⟨by rfl, fun W hW => exec_load_range _ 23 _ rfl g (0 + j * 16) rfl hW Tryd.underlying23 rfl size23 (A8.size _ _)⟩) hS ?_
      try simp only [List.setIfInBounds_toArray, List.set_cons_zero, List.set_cons_succ]
      refine wpAnyH_ready (rs := [6]) (by kernel_rfl) (by simp) ?_
      refine AllReadyH.cons rfl (fun K hK => ?_) AllReadyH.nil
      rw [if_pos (by rfl)]
      refine wpo_loadRow 23 (.tmp 6) rfl b6 rfl (run_loadVar_Blk kt.drew Tryd.underlying23 rfl size23 (A8.size _ _)) ?_
      refine hK.out _ _ (hS) (fun hS => ?_)
      clear hK K
      try simp only [Act.put, List.getElem_toArray, List.getElem_cons_succ, List.getElem_cons_zero, List.setIfInBounds_toArray, List.set_cons_zero, List.set_cons_succ]
      refine wpAnyH_ready (rs := [7]) (by kernel_rfl) (by simp) ?_
      refine AllReadyH.cons rfl (fun K hK => ?_) AllReadyH.nil
      go_simp
      refine (rnode_any _ _ _ (hKK.below hKK.pos hB.drew)).mono ?_
      rintro e X9 ⟨rfl, hb⟩
      refine hK.out _ _ (rangeAt_below hS hb) (fun hS => ?_)
      clear hK K
      replace kt := kt.drew.below hb kt.lt
      replace kf := kf.drew.below hb kf.lt
      replace kr := kr.drew.below hb kr.lt
      replace hown := ownsRow_below hown.drew hb
      replace hB := hB.drew.trans (hb.mono hB.size)
      clear hb
      try simp only [Act.put, List.getElem_toArray, List.getElem_cons_succ, List.getElem_cons_zero, List.setIfInBounds_toArray, List.set_cons_zero, List.set_cons_succ]
      refine wpAnyH_ready (rs := [8]) (by kernel_rfl) (by simp) ?_
      refine allReadyH_store rfl rfl (C' := A8 16 (nodeD (D j) x)) 23 (.tmp 6) (.tmp 36) rfl b6 rfl rfl kt size23 (A8.size _ _) (A8.size _ _) (A8.one _) rfl (fun X8 hu kt2 => ?_)
      refine ⟨rangeAt_upd hS hu (by omega), fun hS => ?_⟩
      try simp only [Act.put, List.getElem_toArray, List.getElem_cons_succ, List.getElem_cons_zero, List.setIfInBounds_toArray, List.set_cons_zero, List.set_cons_succ]
      refine wpAnyH_done (by kernel_rfl) ?_ _
      replace kf := kf.upd hu (by omega)
      replace kr := kr.upd hu (by omega)
      replace hown := ownsRow_upd2 hown hu (by omega)
      replace hB := hu.below hB (by omega)
      clear kt hu hS r1
      go_wp2_with fail
      obtain ⟨HP1, HP2, HP3⟩ := HP.out
      obtain ⟨_, _, hown3⟩ := ownsRow_take hown (Nat.lt_succ_self j)
      exact ⟨⟨f', m / 2, j, nodeD (D j) x, rfl, (by first | go_num | exact congrArg (Value.int IntKind.i64) (by omega)), HP2, by omega, by omega, HP1, HP3, kt2, kf, hown3, kr, hB⟩, by simp [intOf]; omega⟩
    · have hA : (m : Int) % 2 = 0 := by omega
      have hA2 : (m : Int).tmod 2 = 0 := by rw [Int.tmod_eq_emod_of_nonneg (by omega)]; exact hA
      have he := growF_even f m k D x (by omega)
      rw [he] at hgr
      injection hgr with hgk hgx
      subst hgk hgx
      have HK := hide hk
      clear he hph hmf hpc hk
      have l7 := kt.lt
      go_wp2_with fail

      refine wp_region_held_drew (S := fun w' => Blk w' w.heap.size #[.int .i64 (a : Int), .slice p n cap] 94 ∧ Blk w' b6 (A8 16 x) 23) (by kernel_rfl) (⟨kf.drew, kt.drew⟩) (fun hS => ?_)
      simp only [List.size_toArray, List.length_cons, List.length_nil, Nat.reduceAdd, Array.replicate_succ, Array.replicate_zero, List.push_toArray, List.nil_append, List.cons_append]
      refine take_at (i := 0) 42 (.pointer (some ⟨w.heap.size, 0, none⟩)) rfl rfl (by kernel_rfl) (by kernel_rfl) (by kernel_rfl) (fun _ _ _ h => h) (Or.inl ⟨by rfl, fun W hW => by go_simp⟩) hS ?_
      try simp only [List.setIfInBounds_toArray, List.set_cons_zero, List.set_cons_succ]
      refine take_at (i := 1) 43 (.int .i64 (a : Int)) rfl rfl (by kernel_rfl) (by kernel_rfl) (by kernel_rfl) (fun _ _ _ h => h) (Or.inl ⟨by rfl, fun W hW => by have hc := hW.1.cell 0; go_simp⟩) hS ?_
      try simp only [List.setIfInBounds_toArray, List.set_cons_zero, List.set_cons_succ]
      refine take_at (i := 2) 44 (.int .i64 ((a : Int) + 1)) rfl rfl (by kernel_rfl) (by kernel_rfl) (by kernel_rfl) (fun _ _ _ h => h) (Or.inl ⟨by rfl, fun W hW => by go_simp⟩) hS ?_
      try simp only [List.setIfInBounds_toArray, List.set_cons_zero, List.set_cons_succ]
      refine take_at (i := 3) 45 (.slice gp k gc) rfl rfl (by kernel_rfl) (by kernel_rfl) (by kernel_rfl) (fun _ _ _ h => h) (Or.inl ⟨by rfl, fun W hW => by go_simp⟩) hS ?_
      try simp only [List.setIfInBounds_toArray, List.set_cons_zero, List.set_cons_succ]
      refine take_at (i := 4) 46 (.agg (A8 16 x)) rfl rfl (by kernel_rfl) (by kernel_rfl) (by kernel_rfl) (fun _ _ _ h => h) (Or.inl ⟨by rfl, fun W hW => exec_load_blk hW.2⟩) hS ?_
      try simp only [List.setIfInBounds_toArray, List.set_cons_zero, List.set_cons_succ]
      refine wpAnyH_ready (rs := [5]) (by kernel_rfl) (by simp) ?_
      refine AllReadyH.cons rfl (fun K hK => ?_) AllReadyH.nil
      refine step_build80 rfl (.tmp 46) rfl (T := x) rfl ?_
      refine hK.out _ _ (⟨hS.1.alloc _, hS.2.alloc _⟩) (fun hS => ?_)
      clear hK K
      try simp only [Act.put, List.getElem_toArray, List.getElem_cons_succ, List.getElem_cons_zero, List.setIfInBounds_toArray, List.set_cons_zero, List.set_cons_succ]
      refine wpAnyH_ready (rs := [6]) (by kernel_rfl) (by simp) ?_
      refine AllReadyH.cons rfl (fun K hK => ?_) AllReadyH.nil
      rw [if_pos (by rfl)]
      refine oper_append_digs (v := .slice gp k gc) _ _ rfl rfl (ownsRow_below hown.drew ((Below.refl _ _).alloc (Nat.le_refl _) (.cells (A8 16 x) 23))) rfl (digs_new _ _) (by have := HK.out; omega) (by have := hB.size; have := kr.lt; simp; omega) ?_
      intro v8 W8 hown8 hg8
      obtain ⟨vp, vn, vc, rfl⟩ := ownsRow_slice' hown8
      have kr8 := grown_blk hown.drew hg8 kr.drew (by decide)
      have kf8 := grown_blk hown.drew hg8 kf.drew (by decide)
      refine hK.out _ _ (⟨kf8, grown_own hown.drew hg8 kt.drew hgp⟩) (fun hS => ?_)
      clear hK K
      try simp only [Act.put, List.getElem_toArray, List.getElem_cons_succ, List.getElem_cons_zero, List.setIfInBounds_toArray, List.set_cons_zero, List.set_cons_succ]
      refine take_at (i := 7) 49 (.agg #[.int .i64 ((a : Int) + 1), .slice vp vn vc]) rfl rfl (by kernel_rfl) (by kernel_rfl) (by kernel_rfl) (fun _ _ _ h => h) (Or.inl ⟨by rfl, fun W hW => by go_simp⟩) hS ?_
      try simp only [List.setIfInBounds_toArray, List.set_cons_zero, List.set_cons_succ]
      refine take_at (i := 8) 50 (.agg #[.int .i64 ((a : Int) + 1), .slice vp vn vc, .int .i64 0]) rfl rfl (by kernel_rfl) (by kernel_rfl) (by kernel_rfl) (fun _ _ _ h => h) (Or.inl ⟨by rfl, fun W hW => exec_build _ 98 #[(0, .tmp 49)] rfl #[(0, .agg #[.int .i64 ((a : Int) + 1), .slice vp vn vc])] rfl _ (build98 _ _ _ _)⟩) hS ?_
      try simp only [List.setIfInBounds_toArray, List.set_cons_zero, List.set_cons_succ]
      refine wpAnyH_ready (rs := [9]) (by kernel_rfl) (by simp) ?_
      refine allReadyH_store rfl rfl (C' := #[.int .i64 ((a : Int) + 1), .slice vp vn vc, .int .i64 0]) 98 (.tmp 4) (.tmp 50) rfl _ rfl rfl kr8 size98 rfl rfl (by simp [Value.oneCell']) rfl (fun W9 hu k9 => ?_)
      refine ⟨⟨hS.1.upd hu (by omega), hS.2.upd hu (by omega)⟩, fun hS => ?_⟩
      try simp only [Act.put, List.getElem_toArray, List.getElem_cons_succ, List.getElem_cons_zero, List.setIfInBounds_toArray, List.set_cons_zero, List.set_cons_succ]
      refine wpAnyH_done (by kernel_rfl) ?_ _
      rw [digCells, digCells, List.nil_append, digCells_snoc] at hown8
      have hB8 : Below w.heap.size w W8 := (hB.drew.alloc hB.size (.cells (A8 16 x) 23)).grown hg8 (by have := hB.size; simp; omega) (fun q e => by have := (hown.lt q e).1; omega)
      go_wp2_with fail
      exact ret_row rfl (w.heap.size + 1 + 1) rfl k9 Tryd.underlying98 rfl size98 rfl rfl ⟨_, rfl, Digs.of_owns (ownsRow_upd hown8 hu kr8 (by decide)), hu.below hB8 (by omega)⟩
end Go.Proofs.YtdpgebifeaakjaaDoor
