/- The walks of checked and of the closure that it defers. -/
import Derived.Test.YtdpgebifeaakjaaDoorG5
import Derived.Defers
import Derived.Recover
namespace Go.Proofs.YtdpgebifeaakjaaDoor
set_option linter.unusedSimpArgs false
set_option linter.unusedVariables false
open Go.RowKit
theorem caught_idle (p : Addr) (w : World) :
    CallsD Tryd.prog 114 #[.pointer (some p)] .returning w fun e u' w' => e = .returned (.tuple #[]) ∧ u' = .returning ∧ w' = w := by
  refine callsD_of_wpS Tryd.func114 rfl fun c₀ cs hu => ?_
  apply wpS_seq
  apply wpS_region
  simp [wpOpsS, go_sem, recoverD, hu, Tryd.ntmps114, Exit.thenS]
  apply wpS_seq
  apply wpS_region
  simp [wpOpsS, go_sem, Exit.thenS]
  refine wpS_cond (t := false) (by simp [Act.eval, Array.replicate]) ?_
  simp only [Bool.false_eq_true, if_false]
  refine wpS_of_wp (wp_skip ?_)
  cases c₀
  simp_all [bodyPostS, results, Tryd.results114]
set_option maxHeartbeats 1000000 in
theorem caught_panicking (p : Addr) (x : Int) (w : World) (hc : w.cell? p = some (.int .i64 x)) (hz : w.frozen? p = false) (hp : p.block < w.heap.size) :
    CallsD Tryd.prog 114 #[.pointer (some p)] (.panicking refusedP) w fun e u' w' =>
      e = .returned (.tuple #[]) ∧ u' = .panicking [{ v := .iface 167 (.agg #[]), recovered := true }] ∧ w' = (w.alloc (.cells #[] 167)).setCell p (.int .i64 9) := by
  unfold refusedP
  have hta : ∀ w, (Instr.typeAssert (.iface 167 (.agg #[])) 20 167 true).run Tryd.prog w = .ok (.tuple #[.agg #[], .bool true]) w := fun w => by kernel_rfl
  have hc2 : (w.alloc (.cells #[] 167)).cell? p = some (.int .i64 x) := (World.cell?_of_block (Below.heap_alloc _ _ _ hp)).trans hc
  have hz2 : (w.alloc (.cells #[] 167)).frozen? p = false := (World.frozen?_of_block (Below.heap_alloc _ _ _ hp)).trans hz
  refine callsD_of_wpS Tryd.func114 rfl fun c₀ cs hu => ?_
  apply wpS_seq
  apply wpS_region
  simp [wpOpsS, go_sem, recoverD, hu, Tryd.ntmps114, Exit.thenS]
  refine wpS_of_wp ?_
  simp only [List.size_toArray, List.length_cons, List.length_nil, Nat.reduceAdd, Nat.reduceSub, Array.replicate_succ, Array.replicate_zero, List.push_toArray, List.append_toArray, List.nil_append, List.cons_append, List.setIfInBounds_toArray, List.set_cons_zero, List.set_cons_succ]
  go_wp2_with fail
  simp [bodyPostS, results, Tryd.results114]
set_option maxRecDepth 20000 in
set_option maxHeartbeats 1000000 in
theorem checked_85 (ok bad : Prop) (lb : Array Value) (w : World) (hcall : ∀ W, Below w.heap.size w W → Calls Tryd.prog 85 lb W fun e w' => (ok ∧ (∃ v, e = .returned v) ∨ bad ∧ e = .panicked refusedP) ∧ Below W.heap.size W w') :
    Calls Tryd.prog 84 #[.func (.func 85) #[] lb] w fun e w' => (ok ∧ e = .returned (.int .i64 0) ∨ bad ∧ e = .returned (.int .i64 9)) ∧ Below w.heap.size w w' := by
  have hmf : ∀ (fn : Fn) (first cap : Array Value) (w : World), (Instr.makeFunc fn first cap).run Tryd.prog w = .ok (.func fn first cap) w := fun _ _ _ _ => rfl
  have k0 := Blk.new w #[.int .i64 0] 25
  have hB : Below w.heap.size w (w.alloc (.cells #[.int .i64 0] 25)) := (Below.refl _ _).alloc (Nat.le_refl _) _
  go_enter_defers Tryd.func84, Tryd.ntmps84
  go_wp2_with fail
  refine (hcall _ hB).mono ?_
  rintro e W1 ⟨⟨hok, v, rfl⟩ | ⟨hbad, rfl⟩, hb⟩
  · have k1 := k0.below hb k0.lt
    have hc := k1.cell 0
    have hz := k1.free 0
    have hB1 := (hB.trans (hb.mono hB.size)).setCell (p := ⟨w.heap.size, 0, none⟩) (Nat.le_refl _) (.int .i64 0)
    have k2 := k1.set 0 (.int .i64 0)
    have hc2 := k2.cell 0
    go_wp2_with fail
    refine leaves_cons (f := 114) (args := #[.pointer (some ⟨w.heap.size, 0, none⟩)]) (by simp) (by simp [go_sem]) ?_
    refine (caught_idle ⟨w.heap.size, 0, none⟩ _).mono ?_
    rintro e u' w'' ⟨rfl, rfl, rfl⟩
    simp [Leaves, settle, results, Tryd.results84, go_sem, hc2]
    exact ⟨hok, hB1⟩
  · have k1 := k0.below hb k0.lt
    have hc := k1.cell 0
    have hz := k1.free 0
    have hB1 := (((hB.trans (hb.mono hB.size))).alloc (Nat.le_trans hB.size hb.size) (.cells #[] 167)).setCell (p := ⟨w.heap.size, 0, none⟩) (Nat.le_refl _) (.int .i64 9)
    have k2 := (k1.alloc (.cells #[] 167)).set 0 (.int .i64 9)
    have hc2 := k2.cell 0
    have hp := k1.lt
    go_wp2_with fail
    refine leaves_cons (f := 114) (args := #[.pointer (some ⟨w.heap.size, 0, none⟩)]) (by simp) (by simp [go_sem]) ?_
    refine (caught_panicking ⟨w.heap.size, 0, none⟩ 0 _ hc hz hp).mono ?_
    rintro e u' w'' ⟨rfl, rfl, rfl⟩
    simp [Leaves, settle, results, Tryd.results84, go_sem, hc2]
    exact ⟨hbad, hB1⟩
set_option maxRecDepth 20000 in
set_option maxHeartbeats 1000000 in
theorem checked_92 (ok bad : Prop) (lb : Array Value) (w : World) (hcall : ∀ W, Below w.heap.size w W → Calls Tryd.prog 92 lb W fun e w' => (ok ∧ (∃ v, e = .returned v) ∨ bad ∧ e = .panicked refusedP) ∧ Below W.heap.size W w') :
    Calls Tryd.prog 84 #[.func (.func 92) #[] lb] w fun e w' => (ok ∧ e = .returned (.int .i64 0) ∨ bad ∧ e = .returned (.int .i64 9)) ∧ Below w.heap.size w w' := by
  have hmf : ∀ (fn : Fn) (first cap : Array Value) (w : World), (Instr.makeFunc fn first cap).run Tryd.prog w = .ok (.func fn first cap) w := fun _ _ _ _ => rfl
  have k0 := Blk.new w #[.int .i64 0] 25
  have hB : Below w.heap.size w (w.alloc (.cells #[.int .i64 0] 25)) := (Below.refl _ _).alloc (Nat.le_refl _) _
  go_enter_defers Tryd.func84, Tryd.ntmps84
  go_wp2_with fail
  refine (hcall _ hB).mono ?_
  rintro e W1 ⟨⟨hok, v, rfl⟩ | ⟨hbad, rfl⟩, hb⟩
  · have k1 := k0.below hb k0.lt
    have hc := k1.cell 0
    have hz := k1.free 0
    have hB1 := (hB.trans (hb.mono hB.size)).setCell (p := ⟨w.heap.size, 0, none⟩) (Nat.le_refl _) (.int .i64 0)
    have k2 := k1.set 0 (.int .i64 0)
    have hc2 := k2.cell 0
    go_wp2_with fail
    refine leaves_cons (f := 114) (args := #[.pointer (some ⟨w.heap.size, 0, none⟩)]) (by simp) (by simp [go_sem]) ?_
    refine (caught_idle ⟨w.heap.size, 0, none⟩ _).mono ?_
    rintro e u' w'' ⟨rfl, rfl, rfl⟩
    simp [Leaves, settle, results, Tryd.results84, go_sem, hc2]
    exact ⟨hok, hB1⟩
  · have k1 := k0.below hb k0.lt
    have hc := k1.cell 0
    have hz := k1.free 0
    have hB1 := (((hB.trans (hb.mono hB.size))).alloc (Nat.le_trans hB.size hb.size) (.cells #[] 167)).setCell (p := ⟨w.heap.size, 0, none⟩) (Nat.le_refl _) (.int .i64 9)
    have k2 := (k1.alloc (.cells #[] 167)).set 0 (.int .i64 9)
    have hc2 := k2.cell 0
    have hp := k1.lt
    go_wp2_with fail
    refine leaves_cons (f := 114) (args := #[.pointer (some ⟨w.heap.size, 0, none⟩)]) (by simp) (by simp [go_sem]) ?_
    refine (caught_panicking ⟨w.heap.size, 0, none⟩ 0 _ hc hz hp).mono ?_
    rintro e u' w'' ⟨rfl, rfl, rfl⟩
    simp [Leaves, settle, results, Tryd.results84, go_sem, hc2]
    exact ⟨hbad, hB1⟩
end Go.Proofs.YtdpgebifeaakjaaDoor
