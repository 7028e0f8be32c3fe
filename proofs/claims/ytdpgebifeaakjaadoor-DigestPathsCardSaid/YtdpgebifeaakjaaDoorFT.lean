/- The walks of the specification's given and Top. -/
import Derived.Test.YtdpgebifeaakjaaDoorFV
namespace Go.Proofs.YtdpgebifeaakjaaDoor
set_option linter.unusedSimpArgs false
set_option linter.unusedVariables false
open Go.RowKit

theorem field174 (d : Nat → BitVec 8) (p : Option Addr) (k c : Nat) (q : Option Addr) (l e : Nat) (w : World) : (Instr.field 174 (.agg (partC d (.slice p k c) (.slice q l e))) 0).run Tryd.prog w = .ok (.agg (A8 16 d)) w := by kernel_rfl
theorem wp_field174 {ops : Array Oper} {rest : List Oper} {o : Oper} {a : Act} {w : World} {Q : Exit → Act → World → Prop} (hgd : o.guard = none) (x : Operand) (ho : o.op = .field 174 x 0)
    {d : Nat → BitVec 8} {p : Option Addr} {k c : Nat} {q : Option Addr} {l e : Nat} (hx : a.eval x = .agg (partC d (.slice p k c) (.slice q l e)))
    (h : wpList Tryd.prog ops Q rest (a.put o.dst (.agg (A8 16 d))) w) : wpList Tryd.prog ops Q (o :: rest) a w := by
  refine wpList_plain hgd fun _ hK => ?_
  unfold Oper.wp execOp
  simp only [ho, hx, Sem.run_bind, field174, Result.andThen_ok, Sem.run_pure]
  exact hK _ _ h
/-- The digest that a frontier gives. -/
def topZ (a n : Nat) (D : Nat → Nat → BitVec 8) : Nat → BitVec 8 := if a = 0 then sha [] else topF (n - 1) (D (n - 1)) D
set_option maxRecDepth 20000 in
set_option maxHeartbeats 1000000 in
theorem given_any (a n : Nat) (D : Nat → Nat → BitVec 8) (v1 v2 : Value) (w : World) (ha : a ≤ 1099511627776) (hn : n = (coverL 0 a).length) (h1 : SlC w v1 (coverL 0 a)) (h2 : Digs w v2 n D) (hKK : KAt w) :
    Calls Tryd.prog 89 #[v1, v2, .int .i64 (a : Int)] w fun e w' => e = .returned (.agg (A8 16 (topZ a n D))) ∧ Below w.heap.size w w' := by
  have k0 := Blk.new w (A8 16 fun _ => 0#8) 23
  have hB : Below w.heap.size w (w.alloc (.cells (A8 16 fun _ => 0#8) 23)) := (Below.refl _ _).alloc (Nat.le_refl _) _
  by_cases h0 : a = 0
  · subst h0
    have c0 := fun w hk => rsum_any ⟨#[]⟩ (by decide) w hk
    go_enter Tryd.func89, Tryd.ntmps89
    go_wp2_with fail
    refine (c0 _ (hKK.below hKK.pos hB)).mono ?_
    rintro e W1 ⟨rfl, hb⟩
    replace hB := hB.trans (hb.mono hB.size)
    replace k0 := k0.below hb k0.lt
    go_wp2_with (refine wp_storeRow (C' := A8 16 (sha [])) rfl 23 _ _ rfl _ rfl rfl k0 size23 (A8.size _ _) (A8.size _ _) (A8.one _) rfl ?_; intro W4 hu k9)
    exact ret_row rfl w.heap.size rfl k9 Tryd.underlying23 rfl size23 (A8.size _ _) rfl ⟨rfl, hu.below hB (Nat.le_refl _)⟩
  · obtain ⟨x, R, hc⟩ : ∃ x R, coverL 0 a = x :: R := ⟨_, _, coverL_cons (by omega)⟩
    rw [hc] at h1 hn
    have hz : topZ a n D = topF R.length (D R.length) D := by rw [topZ, if_neg h0, hn, List.length_cons, Nat.add_sub_cancel]
    rw [hz]
    subst hn
    have cg : ∀ W, Below w.heap.size w W → Calls Tryd.prog 117 #[v1, v2, .int .i64 0, .int .i64 (a : Int)] W fun e w' => ∃ p k c q l f, e = .returned (.agg (partC (topF R.length (D R.length) D) (.slice p k c) (.slice q l f))) ∧ Below W.heap.size W w' :=
      fun W hB => give_any R x 0 a a D v1 v2 W (by omega) ha (by omega) (.inl rfl) hc (h1.below hB) (h2.below hB) (hKK.below hKK.pos hB)
    have CG := hide cg
    have hne : ¬ (a : Int) = 0 := by omega
    have hne2 : ((a : Int) == 0) = false := beq_eq_false_iff_ne.2 hne
    generalize topF R.length (D R.length) D = Z at CG
    clear cg hz hc h1 h2
    go_enter Tryd.func89, Tryd.ntmps89
    go_wp2_with fail
    refine (CG.out _ hB).mono ?_
    rintro e W1 ⟨p, k, c, q, l, f, rfl, hb⟩
    replace hB := hB.trans (hb.mono hB.size)
    replace k0 := k0.below hb k0.lt
    go_wp2_with (first | (refine wp_field174 rfl _ rfl rfl ?_) | (refine wp_storeRow (C' := A8 16 Z) rfl 23 _ _ rfl _ rfl rfl k0 size23 (A8.size _ _) (A8.size _ _) (A8.one _) rfl ?_; intro W4 hu k9))
    exact ret_row rfl w.heap.size rfl k9 Tryd.underlying23 rfl size23 (A8.size _ _) rfl ⟨rfl, hu.below hB (Nat.le_refl _)⟩
set_option maxRecDepth 20000 in
set_option maxHeartbeats 1000000 in
theorem rtop_ok (a n cap : Nat) (p : Option Addr) (D : Nat → Nat → BitVec 8) (w : World) (ha : a ≤ 1099511627776) (hn : n = pcN 64 a) (hv : Digs w (.slice p n cap) n D) (hKK : KAt w) :
    Calls Tryd.prog 56 #[.agg #[.int .i64 (a : Int), .slice p n cap]] w fun e w' => e = .returned (.agg (digC (topZ a n D) 0)) ∧ Below w.heap.size w w' := by
  have hfr := frB_true a n ha hn
  have hpc := coverL_pc a 0 (by omega) (.inl rfl)
  rw [Nat.zero_add] at hpc
  have hc : ∀ w, Calls Tryd.prog 63 #[.int .i64 0, .int .i64 (a : Int)] w fun e w' => ∃ v, e = .returned v ∧ w'.ownsRow w.heap.size 106 2 v (coverL 0 a).length (cellsOf (coverL 0 a)) ∧ Below w.heap.size w w' := fun w => rcover_any 0 a (by omega) ha w
  have gv : ∀ W cv, SlC W cv (coverL 0 a) → Below w.heap.size w W → Calls Tryd.prog 89 #[cv, .slice p n cap, .int .i64 (a : Int)] W fun e w' => e = .returned (.agg (A8 16 (topZ a n D))) ∧ Below W.heap.size W w' :=
    fun W cv s1 hB => given_any a n D cv _ W ha (hn.trans hpc.symm) s1 (hv.below hB) (hKK.below hKK.pos hB)
  generalize topZ a n D = Z at gv ⊢
  generalize coverL 0 a = L at hc gv
  have CC := hide hc
  have GV := hide gv
  clear hc gv hpc hv hn
  have k0 := Blk.new (w) #[.int .i64 (a : Int), .slice p n cap] 94
  have k1 := Blk.new ((w).alloc (.cells #[.int .i64 (a : Int), .slice p n cap] 94)) (digC (fun _ => 0#8) 0) 29
  rw [World.size_alloc] at k1
  replace k0 := k0.alloc (.cells (digC (fun _ => 0#8) 0) 29)
  have hB : Below w.heap.size w (((w).alloc (.cells #[.int .i64 (a : Int), .slice p n cap] 94)).alloc (.cells (digC (fun _ => 0#8) 0) 29)) := (((Below.refl _ w).alloc (Nat.le_refl _) _).alloc (by simp) _)
  obtain ⟨W0, hW0⟩ : ∃ W0, ((w).alloc (.cells #[.int .i64 (a : Int), .slice p n cap] 94)).alloc (.cells (digC (fun _ => 0#8) 0) 29) = W0 := ⟨_, rfl⟩
  rw [hW0] at k0 k1 hB
  go_enter Tryd.func56, Tryd.ntmps56
  go_upto_region 1 with (fail)
  try rw [hW0]
  clear hW0
  go_wp2_with (refine wp_loadRow rfl 94 _ rfl w.heap.size rfl k0 Tryd.underlying94 rfl size94 rfl ?_)
  refine (rsound_any _ _ _ _ _).mono ?_
  rintro e W1 ⟨rfl, hb⟩
  rw [hfr]
  replace k0 := k0.below hb k0.lt
  replace k1 := k1.below hb k1.lt
  replace hB := hB.trans (hb.mono hB.size)
  clear hb hfr
  go_wp2_with fail
  refine wp_region_held_drew (S := fun w' => Below w.heap.size w w' ∧ w'.cell? ⟨w.heap.size, 0, none⟩ = some (.int .i64 (a : Int)) ∧ w'.cell? ⟨w.heap.size, 1, none⟩ = some (.slice p n cap)) (by kernel_rfl) (⟨hB.drew, k0.cell 0, k0.cell 1⟩) (fun hS => ?_)
  simp only [List.size_toArray, List.length_cons, List.length_nil, Nat.reduceAdd, Array.replicate_succ, Array.replicate_zero, List.push_toArray, List.nil_append, List.cons_append]
  refine take_at (i := 0) 7 (.pointer (some ⟨w.heap.size, 0, none⟩)) rfl rfl (by kernel_rfl) (by kernel_rfl) (by kernel_rfl) (fun _ _ _ h => h) (Or.inl ⟨by rfl, fun W hW => by go_simp⟩) hS ?_
  try simp only [List.setIfInBounds_toArray, List.set_cons_zero, List.set_cons_succ]
  refine take_at (i := 1) 8 (.int .i64 (a : Int)) rfl rfl (by kernel_rfl) (by kernel_rfl) (by kernel_rfl) (fun _ _ _ h => h) (Or.inl ⟨by rfl, fun W hW => by have hc := hW.2.1; go_simp⟩) hS ?_
  try simp only [List.setIfInBounds_toArray, List.set_cons_zero, List.set_cons_succ]
  refine take_at (i := 3) 10 (.pointer (some ⟨w.heap.size, 1, none⟩)) rfl rfl (by kernel_rfl) (by kernel_rfl) (by kernel_rfl) (fun _ _ _ h => h) (Or.inl ⟨by rfl, fun W hW => by go_simp⟩) hS ?_
  try simp only [List.setIfInBounds_toArray, List.set_cons_zero, List.set_cons_succ]
  refine take_at (i := 4) 11 (.slice p n cap) rfl rfl (by kernel_rfl) (by kernel_rfl) (by kernel_rfl) (fun _ _ _ h => h) (Or.inl ⟨by rfl, fun W hW => by have hc := hW.2.2; go_simp⟩) hS ?_
  try simp only [List.setIfInBounds_toArray, List.set_cons_zero, List.set_cons_succ]
  refine take_at (i := 5) 12 (.pointer (some ⟨w.heap.size, 0, none⟩)) rfl rfl (by kernel_rfl) (by kernel_rfl) (by kernel_rfl) (fun _ _ _ h => h) (Or.inl ⟨by rfl, fun W hW => by go_simp⟩) hS ?_
  try simp only [List.setIfInBounds_toArray, List.set_cons_zero, List.set_cons_succ]
  refine take_at (i := 6) 13 (.int .i64 (a : Int)) rfl rfl (by kernel_rfl) (by kernel_rfl) (by kernel_rfl) (fun _ _ _ h => h) (Or.inl ⟨by rfl, fun W hW => by have hc := hW.2.1; go_simp⟩) hS ?_
  try simp only [List.setIfInBounds_toArray, List.set_cons_zero, List.set_cons_succ]
  refine wpAnyH_ready (rs := [2]) (by kernel_rfl) (by simp) ?_
  refine AllReadyH.cons rfl (fun K hK => ?_) AllReadyH.nil
  go_simp
  refine (CC.out _).mono ?_
  rintro e X1 ⟨cv, rfl, ho, hb⟩
  refine hK.out _ _ (⟨hS.1.trans (hb.mono hS.1.size), cell_below hS.2.1 hb, cell_below hS.2.2 hb⟩) (fun hS => ?_)
  clear hK K
  have s1 := SlC.of_owns ho
  replace k1 := k1.drew.below hb k1.lt
  clear ho hb
  try simp only [Act.put, List.getElem_toArray, List.getElem_cons_succ, List.getElem_cons_zero, List.setIfInBounds_toArray, List.set_cons_zero, List.set_cons_succ]
  refine wpAnyH_ready (rs := [7]) (by kernel_rfl) (by simp) ?_
  refine AllReadyH.cons rfl (fun K hK => ?_) AllReadyH.nil
  go_simp
  refine (GV.out _ _ s1 hS.1).mono ?_
  rintro e X2 ⟨rfl, hb⟩
  refine hK.out _ _ (⟨hS.1.trans (hb.mono hS.1.size), cell_below hS.2.1 hb, cell_below hS.2.2 hb⟩) (fun hS => ?_)
  clear hK K
  replace k1 := k1.below hb k1.lt
  clear hb s1
  try simp only [Act.put, List.getElem_toArray, List.getElem_cons_succ, List.getElem_cons_zero, List.setIfInBounds_toArray, List.set_cons_zero, List.set_cons_succ]
  refine take_at (i := 8) 15 (.agg (digC Z 0)) rfl rfl (by kernel_rfl) (by kernel_rfl) (by kernel_rfl) (fun _ _ _ h => h) (Or.inl ⟨by rfl, fun W hW => exec_build _ 29 #[(0, .tmp 14)] rfl #[(0, .agg (A8 16 Z))] rfl _ (build29 _)⟩) hS ?_
  try simp only [List.setIfInBounds_toArray, List.set_cons_zero, List.set_cons_succ]
  refine wpAnyH_ready (rs := [9]) (by kernel_rfl) (by simp) ?_
  refine allReadyH_store rfl rfl (C' := digC Z 0) 29 (.tmp 2) (.tmp 15) rfl (w.heap.size + 1) rfl rfl k1 size29 (digC_size _ _) (digC_size _ _) (digC_one _ _) rfl (fun W9 hu k9 => ?_)
  refine ⟨⟨hu.below hS.1 (Nat.le_succ _), cell_upd hS.2.1 hu (by simp), cell_upd hS.2.2 hu (by simp)⟩, fun hS => ?_⟩
  try simp only [Act.put, List.getElem_toArray, List.getElem_cons_succ, List.getElem_cons_zero, List.setIfInBounds_toArray, List.set_cons_zero, List.set_cons_succ]
  refine wpAnyH_done (by kernel_rfl) ?_ _
  go_wp2_with fail
  exact ret_row rfl (w.heap.size + 1) rfl k9 Tryd.underlying29 rfl size29 (digC_size _ _) rfl ⟨rfl, hS.1⟩
end Go.Proofs.YtdpgebifeaakjaaDoor
