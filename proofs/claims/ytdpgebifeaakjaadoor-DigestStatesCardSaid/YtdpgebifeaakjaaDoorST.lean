/- The walk of DigestStates: true. -/
import Derived.Test.YtdpgebifeaakjaaDoorLS
namespace Go.Proofs.YtdpgebifeaakjaaDoor
set_option linter.unusedSimpArgs false
set_option linter.unusedVariables false
open Go.RowKit

/-- An array loaded, whether the load is guarded or not. -/
theorem wp_loadRun {P : Program} {ops : Array Oper} {rest : List Oper} {o : Oper} {a : Act} {w : World} {Q : Exit → Act → World → Prop} (hw : Region.wanted o (yielded ops a.tmps) = true) (ty : TypeId) (x : Operand) (ho : o.op = .load ty x)
    (b off : Nat) (hx : a.eval x = .pointer (some ⟨b, off, none⟩)) {C : Array Value} (hrun : (loadVar ty ⟨b, off, none⟩).run P w = .ok (.agg C) w)
    (h : wpList P ops Q rest (a.put o.dst (.agg C)) w) : wpList P ops Q (o :: rest) a w := by
  refine wpList_step fun K hK => ?_
  rw [if_pos hw]
  unfold Oper.wp execOp
  simp only [ho, hx, Instr.loadAt, Instr.sureAddr, Sem.run_bind, Sem.run_pure, Result.andThen_ok, hrun]
  exact hK _ _ h
theorem run63 {W : World} {b : Nat} {h : Nat → BitVec 32} {r : ByteArray} {l : Int} {E : TypeId} (k : Blk W b (stG h r l) E) : (loadVar 63 ⟨b, 0, none⟩).run Tryd.prog W = .ok (.agg (stG h r l)) W :=
  run_loadVar_Blk k Tryd.underlying63 rfl size63 (stG.size _ _ _)
theorem run67 {W : World} {b : Nat} {h : Nat → BitVec 32} {r : ByteArray} {l e : Int} {E : TypeId} (k : Blk W b (stE h r l e) E) : (loadVar 63 ⟨b, 0, none⟩).run Tryd.prog W = .ok (.agg (stG h r l)) W := by
  have hr : W.rangeAt b 0 (stG h r l).toList := by
    unfold stE at k
    unfold stG
    refine k.rangeAt 0 10 _ (by omega) (fun j hj => ?_)
    rw [Nat.zero_add]
    by_cases h1 : j < 8
    · rw [if_pos h1, if_pos h1]
    · by_cases h2 : j = 8
      · rw [if_neg h1, if_neg h1, if_pos h2, if_pos h2]
      · rw [if_neg h1, if_neg h1, if_neg h2, if_neg h2, if_pos (by omega)]
  have := run_loadVar_mid W b 0 63 (stG h r l).toList _ hr Tryd.underlying63 rfl (by rw [Array.length_toList, stG.size]; exact size63)
  rw [Array.toArray_toList] at this
  exact this
theorem run69 {W : World} {b : Nat} {D : Nat → BitVec 8} {E : TypeId} (k : Blk W b (A8 32 D) E) : (loadVar 69 ⟨b, 0, none⟩).run Tryd.prog W = .ok (.agg (A8 32 D)) W :=
  run_loadVar_Blk k Tryd.underlying69 rfl size69 (A8.size _ _)
theorem run73 {W : World} {b : Nat} {D : Nat → BitVec 8} {e : Int} {E : TypeId} (k : Blk W b (dgE D e) E) : (loadVar 69 ⟨b, 0, none⟩).run Tryd.prog W = .ok (.agg (A8 32 D)) W := by
  have hr : W.rangeAt b 0 (A8 32 D).toList := by
    unfold dgE at k
    unfold A8
    exact k.rangeAt 0 32 _ (by omega) (fun j hj => by rw [Nat.zero_add, if_pos hj])
  have := run_loadVar_mid W b 0 69 (A8 32 D).toList _ hr Tryd.underlying69 rfl (by rw [Array.length_toList, A8.size]; exact size69)
  rw [Array.toArray_toList] at this
  exact this

set_option maxRecDepth 100000 in
set_option maxHeartbeats 2000000 in
theorem states_any (h : Nat → BitVec 32) (rest : ByteArray) (len : Int) (s : ByteArray) (hs : s.size ≤ maxLen) (w : World) (hT : TabAt 3 Lib.deBruijn64tab w) (hKK : KAt w) (h3 : 3 < w.heap.size) :
    Calls Tryd.prog 8 #[.agg (stG h rest len), .string s] w fun e w' => e = .returned (.bool true) ∧ Below w.heap.size w w' := by
  have hw0 := hKK.pos
  have hbx := box63g h rest len
  have k1 := Blk.new w (stG h rest len) 63
  have hB : Below w.heap.size w (w.alloc (.cells (stG h rest len) 63)) := (Below.refl _ _).alloc (Nat.le_refl _) _
  have h8 := k1.cell 8
  rw [stG.rest] at h8
  have hshort : (3000 : Int) < (rest.size : Int) ∨ ¬ (3000 : Int) < (rest.size : Int) ∧ (3000 : Int) < (s.size : Int) ∨ ¬ (3000 : Int) < (rest.size : Int) ∧ ¬ (3000 : Int) < (s.size : Int) := by omega
  rcases hshort with hh | ⟨hh, hh'⟩ | ⟨hh, hh'⟩
  · go_enter Tryd.func8, Tryd.ntmps8
    go_wp2_with fail
    refine (sane_any _ (tabC hT h3 hB) (Nat.lt_of_lt_of_le h3 hB.size)).mono ?_
    rintro e w' ⟨rfl, hb⟩
    go_wp2_with fail
    go_ret
    exact ⟨rfl, hB.trans (hb.mono hB.size)⟩
  · go_enter Tryd.func8, Tryd.ntmps8
    go_wp2_with fail
    refine (sane_any _ (tabC hT h3 hB) (Nat.lt_of_lt_of_le h3 hB.size)).mono ?_
    rintro e w' ⟨rfl, hb⟩
    go_wp2_with fail
    go_ret
    exact ⟨rfl, hB.trans (hb.mono hB.size)⟩
  · have hrm : rest.size ≤ maxLen := by unfold maxLen; omega
    have c1 := fun w => addp_any h rest len hrm s (by omega) w
    have c2 := fun w hk => radd_any h rest len hrm s (by omega) w hk
    have c3 := fun w => endp_any h rest len hrm w
    have c4 := fun w hk => rend_any h rest len hrm w hk
    rw [addAns_eq] at c1
    generalize addS h rest len s = A at c1 c2
    obtain ⟨ah, ar, al, ae⟩ := A
    generalize endAns h rest len = E at c3 c4
    obtain ⟨eD, ee⟩ := E
    dsimp only at c1 c2 c3 c4
    go_enter Tryd.func8, Tryd.ntmps8
    go_wp2_with (refine wp_loadRow rfl 63 _ rfl w.heap.size rfl k1 Tryd.underlying63 rfl size63 (stG.size _ _ _) ?_)
    clear h8 hh hh'
    refine (c1 _).mono ?_
    rintro e W1 ⟨rfl, hb⟩
    replace k1 := k1.below hb k1.lt
    replace hB := hB.trans (hb.mono hB.size)
    have n5 := Blk.new W1 (stG (fun _ => 0#32) ByteArray.empty 0) 63
    have l1 := k1.lt
    go_wp2_with (first | (refine wp_storeRow (C' := stG ah ar al) rfl 63 _ _ rfl _ rfl rfl n5 size63 (stG.size _ _ _) (stG.size _ _ _) (stG.one _ _ _) rfl ?_; intro W2 hu k5) | (refine wp_loadRow rfl 63 _ rfl w.heap.size rfl ((k1.alloc _).upd hu (by omega)) Tryd.underlying63 rfl size63 (stG.size _ _ _) ?_))
    replace hB := hu.below (hB.alloc hB.size (.cells (stG (fun _ => 0#32) ByteArray.empty 0) 63)) (by omega)
    replace k1 := (k1.alloc (.cells (stG (fun _ => 0#32) ByteArray.empty 0) 63)).upd hu (by omega)
    have l2 := k5.lt
    clear n5 hu hb
    refine (c2 _ (hKK.below hw0 hB)).mono ?_
    rintro e W3 ⟨rfl, hb⟩
    replace k1 := k1.below hb k1.lt
    replace k5 := k5.below hb k5.lt
    replace hB := hB.trans (hb.mono hB.size)
    have n7 := Blk.new W3 (stE (fun _ => 0#32) ByteArray.empty 0 0) 67
    have l3 := k5.lt
    go_wp2_with (first | (refine wp_storeRow (C' := stE ah ar al ae) rfl 67 _ _ rfl _ rfl rfl n7 size67 (stE.size _ _ _ _) (stE.size _ _ _ _) (stE.one _ _ _ _) rfl ?_; intro W4 hu k7) | (refine wp_loadRow rfl 63 _ rfl w.heap.size rfl ((k1.alloc _).upd hu (by omega)) Tryd.underlying63 rfl size63 (stG.size _ _ _) ?_))
    replace hB := hu.below (hB.alloc hB.size (.cells (stE (fun _ => 0#32) ByteArray.empty 0 0) 67)) (by omega)
    replace k1 := (k1.alloc (.cells (stE (fun _ => 0#32) ByteArray.empty 0 0) 67)).upd hu (by omega)
    replace k5 := (k5.alloc (.cells (stE (fun _ => 0#32) ByteArray.empty 0 0) 67)).upd hu (by omega)
    have l4 := k7.lt
    clear n7 hu hb
    refine (c3 _).mono ?_
    rintro e W5 ⟨rfl, hb⟩
    replace k1 := k1.below hb k1.lt
    replace k5 := k5.below hb k5.lt
    replace k7 := k7.below hb k7.lt
    replace hB := hB.trans (hb.mono hB.size)
    have n8 := Blk.new W5 (A8 32 fun _ => 0#8) 69
    have l5 := k7.lt
    go_wp2_with (first | (refine wp_storeRow (C' := A8 32 eD) rfl 69 _ _ rfl _ rfl rfl n8 size69 (A8.size _ _) (A8.size _ _) (A8.one _) rfl ?_; intro W6 hu k8) | (refine wp_loadRow rfl 63 _ rfl w.heap.size rfl ((k1.alloc _).upd hu (by omega)) Tryd.underlying63 rfl size63 (stG.size _ _ _) ?_))
    replace hB := hu.below (hB.alloc hB.size (.cells (A8 32 fun _ => 0#8) 69)) (by omega)
    replace k5 := (k5.alloc (.cells (A8 32 fun _ => 0#8) 69)).upd hu (by omega)
    replace k7 := (k7.alloc (.cells (A8 32 fun _ => 0#8) 69)).upd hu (by omega)
    have l6 := k8.lt
    clear n8 hu hb k1
    refine (c4 _ (hKK.below hw0 hB)).mono ?_
    rintro e W7 ⟨rfl, hb⟩
    replace k5 := k5.below hb k5.lt
    replace k7 := k7.below hb k7.lt
    replace k8 := k8.below hb k8.lt
    replace hB := hB.trans (hb.mono hB.size)
    have n10 := Blk.new W7 (dgE (fun _ => 0#8) 0) 73
    have l7 := k8.lt
    go_wp2_with (refine wp_storeRow (C' := dgE eD ee) rfl 73 _ _ rfl _ rfl rfl n10 size73 (dgE.size _ _) (dgE.size _ _) (dgE.one _ _) rfl ?_; intro W8 hu k10)
    replace hB := hu.below (hB.alloc hB.size (.cells (dgE (fun _ => 0#8) 0) 73)) (by omega)
    replace k5 := (k5.alloc (.cells (dgE (fun _ => 0#8) 0) 73)).upd hu (by omega)
    replace k7 := (k7.alloc (.cells (dgE (fun _ => 0#8) 0) 73)).upd hu (by omega)
    replace k8 := (k8.alloc (.cells (dgE (fun _ => 0#8) 0) 73)).upd hu (by omega)
    clear n10 hu hb
    refine (sane_any _ (tabC hT h3 hB) (Nat.lt_of_lt_of_le h3 hB.size)).mono ?_
    rintro e W9 ⟨rfl, hb⟩
    replace k5 := k5.below hb k5.lt
    replace k7 := k7.below hb k7.lt
    replace k8 := k8.below hb k8.lt
    replace k10 := k10.below hb k10.lt
    replace hB := hB.trans (hb.mono hB.size)
    have q7 := k7.cell 10
    have q10 := k10.cell 32
    rw [stE, Row.get _ (by omega), if_neg (by omega), if_neg (by omega), if_neg (by omega)] at q7
    rw [dgE, Row.get _ (by omega), if_neg (by omega)] at q10
    have heq1 := eql63 ah ar al
    have heq2 := eql_same (P := Tryd.prog) Tryd.underlying69 size5 Tryd.isAgg5 Tryd.underlying5 eD
    have r5 := run63 k5
    have r7 := run67 k7
    have r8 := run69 k8
    have r10 := run73 k10
    clear k5 k7 k8 k10 hb c1 c2 c3 c4
    go_wp2_with (first | (refine wp_loadRun (by rfl) 63 _ rfl _ 0 rfl r5 ?_) | (refine wp_loadRun (by rfl) 63 _ rfl _ 0 rfl r7 ?_) | (refine wp_loadRun (by rfl) 69 _ rfl _ 0 rfl r8 ?_) | (refine wp_loadRun (by rfl) 69 _ rfl _ 0 rfl r10 ?_))
    go_ret
    exact ⟨rfl, hB⟩
end Go.Proofs.YtdpgebifeaakjaaDoor
