/- States of a digest: what is valid, and Start. -/
import Derived.Test.YtdpgebifeaakjaaDoorRB
import Derived.Test.YtdpgebifeaakjaaDoorS11
namespace Go.Proofs.YtdpgebifeaakjaaDoor
set_option linter.unusedSimpArgs false
set_option linter.unusedVariables false
open Go.RowKit

/-- A state: eight words, the rest, the length. -/
def stG (h : Nat → BitVec 32) (rest : ByteArray) (len : Int) : Array Value := Row 10 fun i => if i < 8 then U32 (h i) else if i = 8 then .string rest else .int .i64 len
theorem stG.size (h : Nat → BitVec 32) (rest : ByteArray) (len : Int) : (stG h rest len).size = 10 := Row.size _ _
theorem stG.one (h : Nat → BitVec 32) (rest : ByteArray) (len : Int) : (stG h rest len).all (·.oneCell') = true := Row.all fun i hi => by
  by_cases h1 : i < 8
  · simp [h1]; rfl
  · by_cases h2 : i = 8
    · simp [h2]; rfl
    · simp [h1, h2]; rfl
theorem stG.rest (h : Nat → BitVec 32) (rest : ByteArray) (len : Int) : (stG h rest len)[8]? = some (.string rest) := by
  rw [stG, Row.get _ (by omega), if_neg (by omega), if_pos rfl]
theorem stG.len (h : Nat → BitVec 32) (rest : ByteArray) (len : Int) : (stG h rest len)[9]? = some (.int .i64 len) := by
  rw [stG, Row.get _ (by omega), if_neg (by omega), if_neg (by omega)]
theorem size63 : (Tryd.prog.info? 63).map (·.size) = some 10 := by kernel_rfl
def validB (rest : ByteArray) (len : Int) : Bool := decide (0 ≤ len) && decide (len ≤ 1099511627776) && ((rest.size : Int) == len % 64)

set_option maxRecDepth 20000 in
set_option maxHeartbeats 400000 in
theorem valid_any (h : Nat → BitVec 32) (rest : ByteArray) (len : Int) (hr : rest.size ≤ maxLen) (w : World) :
    Calls Tryd.prog 69 #[.agg (stG h rest len)] w fun e w' => e = .returned (.bool (validB rest len)) ∧ Below w.heap.size w w' := by
  have hbx : ∀ w, (Instr.box 63 (.agg (stG h rest len))).run Tryd.prog w = .ok (.pointer (some ⟨w.heap.size, 0, none⟩)) (w.alloc (.cells (stG h rest len) 63)) := fun w => by kernel_rfl
  have hn := Blk.new w (stG h rest len) 63
  have h8 := hn.cell 8
  have h9 := hn.cell 9
  rw [stG.rest] at h8
  rw [stG.len] at h9
  have hB : Below w.heap.size w (w.alloc (.cells (stG h rest len) 63)) := (Below.refl _ _).alloc (Nat.le_refl _) _
  clear hn
  unfold validB
  go_enter Tryd.func69, Tryd.ntmps69
  by_cases h0 : 0 ≤ len
  · by_cases h1 : len ≤ 1099511627776
    · go_wp2_with fail
      go_ret
      refine ⟨?_, hB⟩
      rw [show decide (0 ≤ len) = true from decide_eq_true h0, show decide (len ≤ 1099511627776) = true from decide_eq_true h1]
      rfl
    · go_wp2_with fail
      go_ret
      refine ⟨?_, hB⟩
      rw [show decide (len ≤ 1099511627776) = false from decide_eq_false (by omega), Bool.false_and]
      rfl
  · go_wp2_with fail
    go_ret
    refine ⟨?_, hB⟩
    rw [show decide (0 ≤ len) = false from decide_eq_false (by omega), Bool.false_and, Bool.false_and]
    rfl
set_option maxRecDepth 20000 in
set_option maxHeartbeats 400000 in
theorem rvalid_any (h : Nat → BitVec 32) (rest : ByteArray) (len : Int) (hr : rest.size ≤ maxLen) (w : World) :
    Calls Tryd.prog 72 #[.agg (stG h rest len)] w fun e w' => e = .returned (.bool (validB rest len)) ∧ Below w.heap.size w w' := by
  have hbx : ∀ w, (Instr.box 63 (.agg (stG h rest len))).run Tryd.prog w = .ok (.pointer (some ⟨w.heap.size, 0, none⟩)) (w.alloc (.cells (stG h rest len) 63)) := fun w => by kernel_rfl
  have hn := Blk.new w (stG h rest len) 63
  have h8 := hn.cell 8
  have h9 := hn.cell 9
  rw [stG.rest] at h8
  rw [stG.len] at h9
  have hB : Below w.heap.size w (w.alloc (.cells (stG h rest len) 63)) := (Below.refl _ _).alloc (Nat.le_refl _) _
  clear hn
  unfold validB
  go_enter Tryd.func72, Tryd.ntmps72
  by_cases h0 : 0 ≤ len
  · by_cases h1 : len ≤ 1099511627776
    · go_wp2_with fail
      go_ret
      refine ⟨?_, hB⟩
      rw [show decide (0 ≤ len) = true from decide_eq_true h0, show decide (len ≤ 1099511627776) = true from decide_eq_true h1]
      rfl
    · go_wp2_with fail
      go_ret
      refine ⟨?_, hB⟩
      rw [show decide (len ≤ 1099511627776) = false from decide_eq_false (by omega), Bool.false_and]
      rfl
  · go_wp2_with fail
    go_ret
    refine ⟨?_, hB⟩
    rw [show decide (0 ≤ len) = false from decide_eq_false (by omega), Bool.false_and, Bool.false_and]
    rfl

theorem build63g (h : Nat → BitVec 32) (w : World) : (Instr.build 63 #[(0, .agg (A32 8 h))]).run Tryd.prog w = .ok (.agg (stG h ByteArray.empty 0)) w := by kernel_rfl
theorem build63e (w : World) : (Instr.build 63 #[]).run Tryd.prog w = .ok (.agg (stG (fun _ => 0#32) ByteArray.empty 0)) w := by kernel_rfl
theorem build128g (h k : Nat → BitVec 32) (rest : ByteArray) (len : Int) (w : World) : (Instr.build 128 #[(0, .agg (stG h rest len)), (1, .agg (A32 64 k))]).run Tryd.prog w = .ok (.agg (hasherC h rest len k)) w := by kernel_rfl
theorem box128g (h k : Nat → BitVec 32) (rest : ByteArray) (len : Int) (w : World) : (Instr.box 128 (.agg (hasherC h rest len k))).run Tryd.prog w = .ok (.pointer (some ⟨w.heap.size, 0, none⟩)) (w.alloc (.cells (hasherC h rest len k) 128)) := by kernel_rfl
theorem box63g (h : Nat → BitVec 32) (rest : ByteArray) (len : Int) (w : World) : (Instr.box 63 (.agg (stG h rest len))).run Tryd.prog w = .ok (.pointer (some ⟨w.heap.size, 0, none⟩)) (w.alloc (.cells (stG h rest len) 63)) := by kernel_rfl
@[go_sem] theorem lit63 : (#[Value.int .u32 0, Value.int .u32 0, Value.int .u32 0, Value.int .u32 0, Value.int .u32 0, Value.int .u32 0, Value.int .u32 0, Value.int .u32 0, Value.string ByteArray.empty, Value.int .i64 0] : Array Value) = stG (fun _ => 0#32) ByteArray.empty 0 := by kernel_rfl
@[go_sem] theorem lit63b : (#[Value.int .u32 0, Value.int .u32 0, Value.int .u32 0, Value.int .u32 0, Value.int .u32 0, Value.int .u32 0, Value.int .u32 0, Value.int .u32 0, Value.string { data := #[] }, Value.int .i64 0] : Array Value) = stG (fun _ => 0#32) ByteArray.empty 0 := by kernel_rfl

set_option maxRecDepth 20000 in
set_option maxHeartbeats 400000 in
theorem start_any (w : World) :
    Calls Tryd.prog 42 #[] w fun e w' => e = .returned (.agg (stG startK ByteArray.empty 0)) ∧ Below w.heap.size w w' := by
  have c70 := constants_any
  have hb63 := build63g startK
  go_enter Tryd.func42, Tryd.ntmps42
  have ho := Blk.new w (stG (fun _ => 0#32) ByteArray.empty 0) 63
  go_wp2_with fail
  refine (c70 _).mono ?_
  rintro e W ⟨rfl, hB⟩
  have hszW : w.heap.size + 1 ≤ W.heap.size := by have := hB.size; simpa using this
  have hBb : Below w.heap.size w W := ((Below.refl _ _).alloc (Nat.le_refl _) _).trans (hB.mono (by simp))
  have ho1 := ho.below hB (by simp)
  have ho2 := (ho1.alloc (.cells (A32 8 fun _ => 0#32) 61)).alloc (.cells (A32 64 fun _ => 0#32) 123)
  have h3 := (Blk.new W (A32 8 fun _ => 0#32) 61).alloc (.cells (A32 64 fun _ => 0#32) 123)
  have h4 := Blk.new (W.alloc (.cells (A32 8 fun _ => 0#32) 61)) (A32 64 fun _ => 0#32) 123
  rw [World.size_alloc] at h4
  have hBc : Below w.heap.size w ((W.alloc (.cells (A32 8 fun _ => 0#32) 61)).alloc (.cells (A32 64 fun _ => 0#32) 123)) := (hBb.alloc (by omega) _).alloc (by simp; omega) _
  clear hB ho ho1 hBb
  go_wp2_with (first
    | (refine wp_storeRow rfl 61 _ _ rfl _ rfl rfl h3 size61 (A32.size _ _) (A32.size _ _) (A32.one _) rfl ?_; intro W1 hu1 h31; have h41 := h4.upd hu1 (by omega))
    | (refine wp_storeRow rfl 123 _ _ rfl _ rfl rfl h41 size123 (A32.size _ _) (A32.size _ _) (A32.one _) rfl ?_; intro W2 hu2 h42; have h32 := h31.upd hu2 (by omega))
    | (refine wp_loadRow rfl 61 _ rfl _ rfl h32 Tryd.underlying61 rfl size61 (A32.size _ _) ?_)
    | (refine wp_storeRow rfl 63 _ _ rfl _ rfl rfl ((ho2.upd hu1 (by omega)).upd hu2 (by omega)) size63 (stG.size _ _ _) (stG.size _ _ _) (stG.one _ _ _) rfl ?_; intro W3 hu3 ho3))
  have hBd := hu3.below (hu2.below (hu1.below hBc (by omega)) (by omega)) (Nat.le_refl _)
  exact ret_row rfl w.heap.size rfl ho3 Tryd.underlying63 rfl size63 (stG.size _ _ _) rfl ⟨rfl, hBd⟩
end Go.Proofs.YtdpgebifeaakjaaDoor
