/- The walk of the specification's give and given, for any tiling. -/
import Derived.Test.YtdpgebifeaakjaaDoorFT
import Derived.Test.YtdpgebifeaakjaaDoorG5
namespace Go.Proofs.YtdpgebifeaakjaaDoor
set_option linter.unusedSimpArgs false
set_option linter.unusedVariables false
open Go.RowKit
set_option maxRecDepth 20000 in
set_option maxHeartbeats 2000000 in
theorem give_one (w0 : World) (x : Nat × Nat) (R : List (Nat × Nat)) (a b : Nat) (T : Nat → Nat → BitVec 8) (v1 v2 : Value) (w : World) (hW0 : Below w0.heap.size w0 w) (hb : b = a + x.2) (hb2 : b ≤ 1099511627776) (h1 : SlC w0 v1 (x :: R)) (h2 : Digs w0 v2 (R.length + 1) T) :
    Calls Tryd.prog 117 #[v1, v2, .int .i64 (a : Int), .int .i64 (b : Int)] w fun e w' => ∃ u1 u2, e = .returned (.agg (partC (T 0) u1 u2)) ∧ SlC w0 u1 R ∧ Digs w0 u2 R.length (fun j => T (j + 1)) ∧ Below w.heap.size w w' := by
  have h11 := h1
  have h22 := h2
  obtain ⟨p, c, rfl, hc, hcell⟩ := h1
  obtain ⟨bg, bo, rfl, c0, c1⟩ := hcell 0 x rfl
  rw [List.length_cons] at h11 hc ⊢
  obtain ⟨q, c2, rfl, hc2, hd⟩ := h2
  obtain ⟨g, o, rfl, r0⟩ := hd 0 (by omega)
  rw [Nat.zero_mul, Nat.add_zero] at r0 c1
  replace r0 := rangeAt_below r0 hW0
  replace c1 := cell_below c1 hW0
  have hg : g < w.heap.size := World.block_lt_of_cell? w _ (r0 0 _ (by rw [Array.getElem?_toList, A8.get _ (by omega)]))
  obtain ⟨p1, hp1⟩ : ∃ p1 : Option Addr, (if c = 1 then some ⟨bg, bo, none⟩ else some ⟨bg, bo + 2, none⟩) = p1 := ⟨_, rfl⟩
  obtain ⟨p2, hp2⟩ : ∃ p2 : Option Addr, (if c2 = 1 then some ⟨g, o, none⟩ else some ⟨g, o + 16, none⟩) = p2 := ⟨_, rfl⟩
  have d1 := slC_tail h11 hp1
  have d2 := digs_tail h22 hp2
  have ko := Blk.new w (partC (fun _ => 0#8) (.slice none 0 0) (.slice none 0 0)) 174
  have hB : Below w.heap.size w (w.alloc (.cells (partC (fun _ => 0#8) (.slice none 0 0) (.slice none 0 0)) 174)) := (Below.refl _ _).alloc (Nat.le_refl _) _
  obtain ⟨W1, hW1⟩ : ∃ W1, w.alloc (.cells (partC (fun _ => 0#8) (.slice none 0 0) (.slice none 0 0)) 174) = W1 := ⟨_, rfl⟩
  rw [hW1] at ko hB
  have c1' := cell_below c1 hB
  have hbm : (b : Int) - (a : Int) = (x.2 : Int) := by omega
  have hr0 : (0 : Int) < (R.length : Int) + 1 := by omega
  have hr1 : ¬ ((R.length : Int) + 1 ≤ 0) := by omega
  have hw1 : wrap64 (x.2 : Int) = (x.2 : Int) := by unfold wrap64; omega
  have HP := hide hp1
  have HQ := hide hp2
  clear h11 h22 hcell hd hc hc2 c0 hp1 hp2 hb
  go_enter Tryd.func117, Tryd.ntmps117
  go_wp2_with fail
  have hp1 := HP.out
  have hp2 := HQ.out
  refine wp_region_held_drew (S := fun w' => w'.rangeAt g o (A8 16 (T 0)).toList) (by kernel_rfl) (rangeAt_below r0 hB.drew) (fun hS => ?_)
  simp only [List.size_toArray, List.length_cons, List.length_nil, Nat.reduceAdd, Array.replicate_succ, Array.replicate_zero, List.push_toArray, List.nil_append, List.cons_append]
  refine take_at (i := 0) 20 (.slice (some ⟨g, o, none⟩) (R.length + 1) c2) rfl rfl (by kernel_rfl) (by kernel_rfl) (by kernel_rfl) (fun _ _ _ h => h) (Or.inl ⟨by rfl, fun W hW => by go_simp⟩) hS ?_
  try simp only [List.setIfInBounds_toArray, List.set_cons_zero, List.set_cons_succ]
  refine take_at (i := 1) 21 (.pointer (some ⟨g, o, none⟩)) rfl rfl (by kernel_rfl) (by kernel_rfl) (by kernel_rfl) (fun _ _ _ h => h) (Or.inl ⟨by rfl, fun W hW => by go_simp⟩) hS ?_
  try simp only [List.setIfInBounds_toArray, List.set_cons_zero, List.set_cons_succ]
  refine take_at (i := 2) 22 (.agg (A8 16 (T 0))) rfl rfl (by kernel_rfl) (by kernel_rfl) (by kernel_rfl) (fun _ _ _ h => h) (Or.inl ⟨by rfl, fun W hW => exec_load_range _ 23 _ rfl g o rfl hW Tryd.underlying23 rfl size23 (A8.size _ _)⟩) hS ?_
  try simp only [List.setIfInBounds_toArray, List.set_cons_zero, List.set_cons_succ]
  refine take_at (i := 3) 23 (.slice (some ⟨bg, bo, none⟩) (R.length + 1) c) rfl rfl (by kernel_rfl) (by kernel_rfl) (by kernel_rfl) (fun _ _ _ h => h) (Or.inl ⟨by rfl, fun W hW => by go_simp⟩) hS ?_
  try simp only [List.setIfInBounds_toArray, List.set_cons_zero, List.set_cons_succ]
  refine take_at (i := 4) 24 (.slice p1 R.length (c - 1)) rfl rfl (by kernel_rfl) (by kernel_rfl) (by kernel_rfl) (fun _ _ _ h => h) (Or.inl ⟨by rfl, fun W hW => by rw [← hp1]; exact exec_slice1 _ 33 106 2 _ rfl bg bo (R.length + 1) c rfl rfl Tryd.underlying33 (by kernel_rfl) (by omega)⟩) hS ?_
  try simp only [List.setIfInBounds_toArray, List.set_cons_zero, List.set_cons_succ]
  refine take_at (i := 5) 25 (.slice (some ⟨g, o, none⟩) (R.length + 1) c2) rfl rfl (by kernel_rfl) (by kernel_rfl) (by kernel_rfl) (fun _ _ _ h => h) (Or.inl ⟨by rfl, fun W hW => by go_simp⟩) hS ?_
  try simp only [List.setIfInBounds_toArray, List.set_cons_zero, List.set_cons_succ]
  refine take_at (i := 6) 26 (.slice p2 R.length (c2 - 1)) rfl rfl (by kernel_rfl) (by kernel_rfl) (by kernel_rfl) (fun _ _ _ h => h) (Or.inl ⟨by rfl, fun W hW => by rw [← hp2]; exact exec_slice1 _ 80 23 16 _ rfl g o (R.length + 1) c2 rfl rfl Tryd.underlying80 size23 (by omega)⟩) hS ?_
  try simp only [List.setIfInBounds_toArray, List.set_cons_zero, List.set_cons_succ]
  refine take_at (i := 7) 27 (.agg (partC (T 0) (.slice p1 R.length (c - 1)) (.slice p2 R.length (c2 - 1)))) rfl rfl (by kernel_rfl) (by kernel_rfl) (by kernel_rfl) (fun _ _ _ h => h) (Or.inl ⟨by rfl, fun W hW => exec_build _ 174 #[(0, .tmp 22), (1, .tmp 24), (2, .tmp 26)] rfl #[(0, .agg (A8 16 (T 0))), (1, .slice p1 R.length (c - 1)), (2, .slice p2 R.length (c2 - 1))] rfl _ (build174 _ _ _ _ _ _ _)⟩) hS ?_
  try simp only [List.setIfInBounds_toArray, List.set_cons_zero, List.set_cons_succ]
  refine wpAnyH_ready (rs := [8]) (by kernel_rfl) (by simp) ?_
  refine allReadyH_store rfl rfl (C' := partC (T 0) (.slice p1 R.length (c - 1)) (.slice p2 R.length (c2 - 1))) 174 (.tmp 8) (.tmp 27) rfl w.heap.size rfl rfl ko.drew size174 (partC.size _ _ _) (partC.size _ _ _) (partC.one _ _ _ rfl rfl) rfl (fun W9 hu k9 => ?_)
  refine ⟨rangeAt_upd hS hu (by omega), fun hS => ?_⟩
  try simp only [Act.put, List.getElem_toArray, List.getElem_cons_succ, List.getElem_cons_zero, List.setIfInBounds_toArray, List.set_cons_zero, List.set_cons_succ]
  refine wpAnyH_done (by kernel_rfl) ?_ _
  go_wp2_with fail
  exact ret_row rfl w.heap.size rfl k9 Tryd.underlying174 rfl size174 (partC.size _ _ _) rfl ⟨_, _, rfl, d1, d2, hu.below hB.drew (Nat.le_refl _)⟩
set_option maxRecDepth 20000 in
set_option maxHeartbeats 4000000 in
theorem give_step (w0 : World) (x : Nat × Nat) (R R1 R2 : List (Nat × Nat)) (a h m b : Nat) (T0 T1 T2 : Nat → Nat → BitVec 8) (Da Db : Nat → BitVec 8) (v1 v2 : Value) (w : World) (hW0 : Below w0.heap.size w0 w) (hm : 2 ≤ m) (hb : b = a + m) (hb2 : b ≤ 1099511627776) (hh : halfN m = h) (hx : x.2 < m) (h1 : SlC w0 v1 (x :: R)) (h2 : Digs w0 v2 (R.length + 1) T0) (hKK : KAt w)
    (base : ∀ W, Below w.heap.size w W → Calls Tryd.prog 117 #[v1, v2, .int .i64 (a : Int), .int .i64 ((a : Int) + (h : Int))] W fun e w' => ∃ u1 u2, e = .returned (.agg (partC Da u1 u2)) ∧ SlC w0 u1 R1 ∧ Digs w0 u2 R1.length T1 ∧ Below W.heap.size W w')
    (recu : ∀ u1 u2 W, SlC w0 u1 R1 → Digs w0 u2 R1.length T1 → Below w0.heap.size w0 W → KAt W → Calls Tryd.prog 117 #[u1, u2, .int .i64 ((a : Int) + (h : Int)), .int .i64 (b : Int)] W fun e w' => ∃ u1 u2, e = .returned (.agg (partC Db u1 u2)) ∧ SlC w0 u1 R2 ∧ Digs w0 u2 R2.length T2 ∧ Below W.heap.size W w') :
    Calls Tryd.prog 117 #[v1, v2, .int .i64 (a : Int), .int .i64 (b : Int)] w fun e w' => ∃ u1 u2, e = .returned (.agg (partC (nodeD Da Db) u1 u2)) ∧ SlC w0 u1 R2 ∧ Digs w0 u2 R2.length T2 ∧ Below w.heap.size w w' := by
  have c82 := fun w => rhalf_any m hm (by omega) w
  have hfa := halfN_facts m hm (by omega)
  rw [hh] at c82 hfa
  have hsum : (a : Int) + (h : Int) ≤ 1099511627776 := by omega
  obtain ⟨p, c, rfl, hc, hcell⟩ := h1
  obtain ⟨bg, bo, rfl, c0, c1⟩ := hcell 0 _ rfl
  rw [Nat.zero_mul, Nat.add_zero] at c1
  replace c1 := cell_below c1 hW0
  obtain ⟨s, hs⟩ : ∃ s, x.2 = s := ⟨_, rfl⟩
  rw [hs] at c1 hx
  obtain ⟨q, c2, rfl, hc2, hd⟩ := h2
  have ko := Blk.new w (partC (fun _ => 0#8) (.slice none 0 0) (.slice none 0 0)) 174
  have hB : Below w.heap.size w (w.alloc (.cells (partC (fun _ => 0#8) (.slice none 0 0) (.slice none 0 0)) 174)) := (Below.refl _ _).alloc (Nat.le_refl _) _
  obtain ⟨W1, hW1⟩ : ∃ W1, w.alloc (.cells (partC (fun _ => 0#8) (.slice none 0 0) (.slice none 0 0)) 174) = W1 := ⟨_, rfl⟩
  rw [hW1] at ko hB
  have c1' := cell_below c1 hB
  have hbm : (b : Int) - (a : Int) = (m : Int) := by omega
  have hr0 : (0 : Int) < (R.length : Int) + 1 := by omega
  have hr1 : ¬ ((R.length : Int) + 1 ≤ 0) := by omega
  have hne2 : ¬ (s : Int) = (m : Int) := by omega
  have hne : ((s : Int) == (m : Int)) = false := beq_eq_false_iff_ne.2 hne2
  have l0 := ko.lt
  have BASE := hide base; have REC := hide recu; have C82 := hide c82
  clear base recu c82 hcell hd hc hc2 c0 hb hx hs hh hm hfa
  have hw2 := wrap_small a h hsum
  have hw1 : wrap64 (m : Int) = (m : Int) := by clear hw2; unfold wrap64; omega
  go_enter Tryd.func117, Tryd.ntmps117
  go_wp2_with fail
  refine (C82.out _).mono ?_
  rintro e w' ⟨rfl, rfl⟩
  go_wp2_with fail
  refine (BASE.out _ hB).mono ?_
  rintro e W2 ⟨u1, u2, rfl, s1, s2, hb⟩
  replace ko := ko.below hb ko.lt
  replace hB := hB.trans (hb.mono hB.size)
  clear hb c1'
  have n10 := Blk.new W2 (partC (fun _ => 0#8) (.slice none 0 0) (.slice none 0 0)) 174
  obtain ⟨a1, a2, rfl, _⟩ := id s1
  obtain ⟨a3, a4, rfl, _⟩ := id s2
  go_wp2_with (refine wp_storeRow (C' := partC Da (.slice a1 R1.length a2) (.slice a3 R1.length a4)) rfl 174 _ _ rfl _ rfl rfl n10 size174 (partC.size _ _ _) (partC.size _ _ _) (partC.one _ _ _ rfl rfl) rfl ?_; intro W3 hu k10; have q16 := partC.cell16 k10; have q17 := partC.cell17 k10)
  have hb3 : Below W2.heap.size W2 W3 := hu.below ((Below.refl _ _).alloc (Nat.le_refl _) _) (Nat.le_refl _)
  have l10 := ko.lt
  replace ko := ko.below hb3 ko.lt
  replace hB := hB.trans (hb3.mono hB.size)
  clear hb3 hu n10
  generalize W2.heap.size = b10 at k10 q16 q17 l10 ⊢
  refine (REC.out _ _ _ s1 s2 (hW0.trans (hB.mono hW0.size)) (hKK.below hKK.pos hB)).mono ?_
  rintro e W5 ⟨y1, y2, rfl, t1, t2, hb⟩
  obtain ⟨e1, f1, rfl, _⟩ := id t1
  obtain ⟨e2, f2, rfl, _⟩ := id t2
  have l11 := k10.lt
  have l12 := hb.size
  replace ko := ko.below hb ko.lt
  replace k10 := k10.below hb k10.lt
  replace hB := hB.trans (hb.mono hB.size)
  clear hb s1 s2 q16 q17
  have n11 := Blk.new W5 (partC (fun _ => 0#8) (.slice none 0 0) (.slice none 0 0)) 174
  go_wp2_with (refine wp_storeRow (C' := partC Db (.slice e1 R2.length f1) (.slice e2 R2.length f2)) rfl 174 _ _ rfl _ rfl rfl n11 size174 (partC.size _ _ _) (partC.size _ _ _) (partC.one _ _ _ rfl rfl) rfl ?_; intro W8 hu k11)
  have hb3 : Below W5.heap.size W5 W8 := hu.below ((Below.refl _ _).alloc (Nat.le_refl _) _) (Nat.le_refl _)
  replace ko := ko.below hb3 ko.lt
  replace k10 := k10.below hb3 k10.lt
  replace hB := hB.trans (hb3.mono hB.size)
  clear hw1 hw2
  have l13 : w.heap.size < W5.heap.size := by omega
  clear hb3 hu n11
  generalize W5.heap.size = b11 at k11 l13 ⊢
  refine wp_region_held_drew (S := fun w' => Blk w' b10 (partC Da (.slice a1 R1.length a2) (.slice a3 R1.length a4)) 174 ∧ Blk w' b11 (partC Db (.slice e1 R2.length f1) (.slice e2 R2.length f2)) 174) (by kernel_rfl) (⟨k10.drew, k11.drew⟩) (fun hS => ?_)
  simp only [List.size_toArray, List.length_cons, List.length_nil, Nat.reduceAdd, Array.replicate_succ, Array.replicate_zero, List.push_toArray, List.nil_append, List.cons_append]
  refine take_at (i := 0) 46 (.pointer (some ⟨b10, 0, none⟩)) rfl rfl (by kernel_rfl) (by kernel_rfl) (by kernel_rfl) (fun _ _ _ h => h) (Or.inl ⟨by rfl, fun W hW => by go_simp⟩) hS ?_
  try simp only [List.setIfInBounds_toArray, List.set_cons_zero, List.set_cons_succ]
  refine take_at (i := 1) 47 (.agg (A8 16 Da)) rfl rfl (by kernel_rfl) (by kernel_rfl) (by kernel_rfl) (fun _ _ _ h => h) (Or.inl ⟨by rfl, fun W hW => exec_load_range _ 23 _ rfl b10 0 rfl (partC.range hW.1) Tryd.underlying23 rfl size23 (A8.size _ _)⟩) hS ?_
  try simp only [List.setIfInBounds_toArray, List.set_cons_zero, List.set_cons_succ]
  refine take_at (i := 2) 48 (.pointer (some ⟨b11, 0, none⟩)) rfl rfl (by kernel_rfl) (by kernel_rfl) (by kernel_rfl) (fun _ _ _ h => h) (Or.inl ⟨by rfl, fun W hW => by go_simp⟩) hS ?_
  try simp only [List.setIfInBounds_toArray, List.set_cons_zero, List.set_cons_succ]
  refine take_at (i := 3) 49 (.agg (A8 16 Db)) rfl rfl (by kernel_rfl) (by kernel_rfl) (by kernel_rfl) (fun _ _ _ h => h) (Or.inl ⟨by rfl, fun W hW => exec_load_range _ 23 _ rfl b11 0 rfl (partC.range hW.2) Tryd.underlying23 rfl size23 (A8.size _ _)⟩) hS ?_
  try simp only [List.setIfInBounds_toArray, List.set_cons_zero, List.set_cons_succ]
  refine take_at (i := 5) 51 (.pointer (some ⟨b11, 16, none⟩)) rfl rfl (by kernel_rfl) (by kernel_rfl) (by kernel_rfl) (fun _ _ _ h => h) (Or.inl ⟨by rfl, fun W hW => by go_simp⟩) hS ?_
  try simp only [List.setIfInBounds_toArray, List.set_cons_zero, List.set_cons_succ]
  refine take_at (i := 6) 52 (.slice e1 R2.length f1) rfl rfl (by kernel_rfl) (by kernel_rfl) (by kernel_rfl) (fun _ _ _ h => h) (Or.inl ⟨by rfl, fun W hW => by have hc := partC.cell16 hW.2; go_simp⟩) hS ?_
  try simp only [List.setIfInBounds_toArray, List.set_cons_zero, List.set_cons_succ]
  refine take_at (i := 7) 53 (.pointer (some ⟨b11, 17, none⟩)) rfl rfl (by kernel_rfl) (by kernel_rfl) (by kernel_rfl) (fun _ _ _ h => h) (Or.inl ⟨by rfl, fun W hW => by go_simp⟩) hS ?_
  try simp only [List.setIfInBounds_toArray, List.set_cons_zero, List.set_cons_succ]
  refine take_at (i := 8) 54 (.slice e2 R2.length f2) rfl rfl (by kernel_rfl) (by kernel_rfl) (by kernel_rfl) (fun _ _ _ h => h) (Or.inl ⟨by rfl, fun W hW => by have hc := partC.cell17 hW.2; go_simp⟩) hS ?_
  try simp only [List.setIfInBounds_toArray, List.set_cons_zero, List.set_cons_succ]
  refine wpAnyH_ready (rs := [4]) (by kernel_rfl) (by simp) ?_
  refine AllReadyH.cons rfl (fun K hK => ?_) AllReadyH.nil
  go_simp
  refine (rnode_any _ _ _ (hKK.below hKK.pos hB.drew)).mono ?_
  rintro e X9 ⟨rfl, hb⟩
  refine hK.out _ _ (⟨hS.1.below hb hS.1.lt, hS.2.below hb hS.2.lt⟩) (fun hS => ?_)
  clear hK K
  replace ko := ko.drew.below hb ko.lt
  replace hB := hB.drew.trans (hb.mono hB.size)
  try simp only [Act.put, List.getElem_toArray, List.getElem_cons_succ, List.getElem_cons_zero, List.setIfInBounds_toArray, List.set_cons_zero, List.set_cons_succ]
  refine take_at (i := 9) 55 (.agg (partC (nodeD Da Db) (.slice e1 R2.length f1) (.slice e2 R2.length f2))) rfl rfl (by kernel_rfl) (by kernel_rfl) (by kernel_rfl) (fun _ _ _ h => h) (Or.inl ⟨by rfl, fun W hW => exec_build _ 174 #[(0, .tmp 50), (1, .tmp 52), (2, .tmp 54)] rfl #[(0, .agg (A8 16 (nodeD Da Db))), (1, .slice e1 R2.length f1), (2, .slice e2 R2.length f2)] rfl _ (build174 _ _ _ _ _ _ _)⟩) hS ?_
  try simp only [List.setIfInBounds_toArray, List.set_cons_zero, List.set_cons_succ]
  refine wpAnyH_ready (rs := [10]) (by kernel_rfl) (by simp) ?_
  refine allReadyH_store rfl rfl (C' := partC (nodeD Da Db) (.slice e1 R2.length f1) (.slice e2 R2.length f2)) 174 (.tmp 8) (.tmp 55) rfl w.heap.size rfl rfl ko size174 (partC.size _ _ _) (partC.size _ _ _) (partC.one _ _ _ rfl rfl) rfl (fun W9 hu k9 => ?_)
  refine ⟨⟨hS.1.upd hu (by omega), hS.2.upd hu (by omega)⟩, fun hS => ?_⟩
  try simp only [Act.put, List.getElem_toArray, List.getElem_cons_succ, List.getElem_cons_zero, List.setIfInBounds_toArray, List.set_cons_zero, List.set_cons_succ]
  refine wpAnyH_done (by kernel_rfl) ?_ _
  go_wp2_with fail
  exact ret_row rfl w.heap.size rfl k9 Tryd.underlying174 rfl size174 (partC.size _ _ _) rfl ⟨_, _, rfl, t1, t2, hu.below hB (Nat.le_refl _)⟩
end Go.Proofs.YtdpgebifeaakjaaDoor
