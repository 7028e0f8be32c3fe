/- The specification's Add: what it answers, and steps. -/
import Derived.Test.YtdpgebifeaakjaaDoorPE
import Derived.Test.YtdpgebifeaakjaaDoorK6
namespace Go.Proofs.YtdpgebifeaakjaaDoor
set_option linter.unusedSimpArgs false
set_option linter.unusedVariables false
open Go.RowKit

theorem exec_build {P : Program} {o : Oper} {w : World} (ρ : Operand → Value) (t : TypeId) (parts : Array (Nat × Operand)) (ho : o.op = .build t parts)
    (vals : Array (Nat × Value)) (hv : parts.toList.map (fun p => (p.1, ρ p.2)) = vals.toList) (v : Value) (hrun : ∀ w, (Instr.build t vals).run P w = .ok v w) :
    (execOp ρ o).run P w = .ok (.value v) w := by
  have e : (parts.map fun (i, x) => (i, ρ x)) = vals := by
    rw [← Array.toList_inj, Array.toList_map]
    exact hv
  unfold execOp
  simp only [ho, Sem.run_bind, e, hrun, Result.andThen_ok, Sem.run_pure]
theorem wpo_loadRow {P : Program} {o : Oper} {a : Act} {w : World} {K : Act → World → Prop} {Q : Exit → Act → World → Prop} (ty : TypeId) (x : Operand) (ho : o.op = .load ty x)
    (b : Nat) (hx : a.eval x = .pointer (some ⟨b, 0, none⟩)) {C : Array Value}
    (hrun : (loadVar ty ⟨b, 0, none⟩).run P w = .ok (.agg C) w)
    (h : K (a.put o.dst (.agg C)) w) : Oper.wp P o a w K Q := by
  unfold Oper.wp execOp
  simp only [ho, hx, Instr.loadAt, Instr.sureAddr, Sem.run_bind, Sem.run_pure, Result.andThen_ok, hrun]
  exact h
/-- A state and an error, in a struct. -/
def stE (h : Nat → BitVec 32) (rest : ByteArray) (len e : Int) : Array Value := Row 11 fun i => if i < 8 then U32 (h i) else if i = 8 then .string rest else if i = 9 then .int .i64 len else .int .i64 e
theorem stE.size (h : Nat → BitVec 32) (rest : ByteArray) (len e : Int) : (stE h rest len e).size = 11 := Row.size _ _
theorem stE.one (h : Nat → BitVec 32) (rest : ByteArray) (len e : Int) : (stE h rest len e).all (·.oneCell') = true := Row.all fun i hi => by
  by_cases h1 : i < 8
  · simp [h1]; rfl
  · by_cases h2 : i = 8
    · simp [h2]; rfl
    · by_cases h3 : i = 9
      · simp [h3]; rfl
      · simp [h1, h2, h3]; rfl
theorem size67 : (Tryd.prog.info? 67).map (·.size) = some 11 := by kernel_rfl
theorem build67e (e : Int) (w : World) : (Instr.build 67 #[(1, .int .i64 e)]).run Tryd.prog w = .ok (.agg (stE (fun _ => 0#32) ByteArray.empty 0 e)) w := by kernel_rfl
theorem build67 (h : Nat → BitVec 32) (rest : ByteArray) (len : Int) (w : World) : (Instr.build 67 #[(0, .agg (stG h rest len))]).run Tryd.prog w = .ok (.agg (stE h rest len 0)) w := by kernel_rfl
theorem build63f (h : Nat → BitVec 32) (rest : ByteArray) (len : Int) (w : World) : (Instr.build 63 #[(0, .agg (A32 8 h)), (1, .string rest), (2, .int .i64 len)]).run Tryd.prog w = .ok (.agg (stG h rest len)) w := by kernel_rfl
@[go_sem] theorem lit67 : (#[Value.int .u32 0, Value.int .u32 0, Value.int .u32 0, Value.int .u32 0, Value.int .u32 0, Value.int .u32 0, Value.int .u32 0, Value.int .u32 0, Value.string ByteArray.empty, Value.int .i64 0, Value.int .i64 0] : Array Value) = stE (fun _ => 0#32) ByteArray.empty 0 0 := by kernel_rfl
@[go_sem] theorem lit67b : (#[Value.int .u32 0, Value.int .u32 0, Value.int .u32 0, Value.int .u32 0, Value.int .u32 0, Value.int .u32 0, Value.int .u32 0, Value.int .u32 0, Value.string { data := #[] }, Value.int .i64 0, Value.int .i64 0] : Array Value) = stE (fun _ => 0#32) ByteArray.empty 0 0 := by kernel_rfl

/-- What Add answers, in parts. -/
def addS (h : Nat → BitVec 32) (rest : ByteArray) (len : Int) (s : ByteArray) : (Nat → BitVec 32) × ByteArray × Int × Int :=
  if validB rest len = true then
    if (s.size : Int) ≤ 1099511627776 - len then (addH roundK h (bts rest ++ bts s), strOf (addRest (bts rest ++ bts s)), len + s.size, 0)
    else (fun _ => 0#32, ByteArray.empty, 0, 3)
  else (fun _ => 0#32, ByteArray.empty, 0, 2)
theorem addAns_eq (h : Nat → BitVec 32) (rest : ByteArray) (len : Int) (s : ByteArray) :
    addAns h rest len s = (stG (addS h rest len s).1 (addS h rest len s).2.1 (addS h rest len s).2.2.1, (addS h rest len s).2.2.2) := by
  unfold addAns addS
  by_cases hv : validB rest len = true
  · by_cases hl : (s.size : Int) ≤ 1099511627776 - len
    · rw [if_pos hv, if_pos hl, if_pos hv, if_pos hl]
    · rw [if_pos hv, if_neg hl, if_pos hv, if_neg hl]
  · rw [if_neg hv, if_neg hv]
end Go.Proofs.YtdpgebifeaakjaaDoor
