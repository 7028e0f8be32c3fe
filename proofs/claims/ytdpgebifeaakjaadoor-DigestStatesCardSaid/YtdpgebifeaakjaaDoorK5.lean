/- Steps of a region that draws its order, and what such a region keeps. -/
import Derived.Test.YtdpgebifeaakjaaDoorK2
import Derived.Deep.RegionHeld3
import Derived.Shelf.Spec.TrailingZeros
namespace Go.Proofs.YtdpgebifeaakjaaDoor
set_option linter.unusedSimpArgs false
set_option linter.unusedVariables false
open Go.RowKit

/-- An array's load out of a range, run. -/
theorem exec_load_range {P : Program} {o : Oper} {w : World} (ρ : Operand → Value) (ty : TypeId) (x : Operand) (ho : o.op = .load ty x) (b off : Nat) (hx : ρ x = .pointer (some ⟨b, off, none⟩)) {C : Array Value} (hc : w.rangeAt b off C.toList) {d : TypeDesc} {n : Nat}
    (hu : P.underlying ty = some d) (hd : d.isRow = true) (hi : (P.info? ty).map (·.size) = some n) (hn : C.size = n) :
    (execOp ρ o).run P w = .ok (.value (.agg C)) w := by
  unfold execOp
  simp only [ho, hx, Instr.loadAt, Instr.sureAddr, Sem.run_bind, Sem.run_pure, Result.andThen_ok, run_loadVar_mid w b off ty C.toList d hc hu hd (by rw [Array.length_toList, hn]; exact hi), Array.toArray_toList]
/-- An operation taken first, its temporary named. -/
theorem take_at {P : Program} {md : Region.Mode} {ops : Array Oper} {Q : Exit → Act → World → Prop} {S : World → Prop} {i : Nat} {oi : Oper} {fuel : Nat} {listed : Array Bool} {t : Array Value} {df : List Deferred} {w : World} (d : Nat) (v : Value) (hi : ops[i]? = some oi) (hd : oi.dst = some d)
    (hs : Region.noSelect ops = true) (hf : Region.free md ops listed i = true) (hr : (Region.ready md ops listed).contains i = true)
    (hQ : ∀ c a w, Q (.panic c) (a.put oi.dst v) w → Q (.panic c) a w) (hy : YieldsIf P ops S oi v { tmps := t, defers := df }) (hS : S w)
    (h : wpAnyH P md ops Q S fuel (listed.setIfInBounds i true) { tmps := t.setIfInBounds d v, defers := df } w) : wpAnyH P md ops Q S (fuel + 1) listed { tmps := t, defers := df } w := by
  refine wpAnyH_take hi hs hf hr hQ hy hS ?_
  rw [hd]
  exact h
theorem rangeAt_below {W W' : World} {b o : Nat} {cs : List Value} (h : W.rangeAt b o cs) (hb : Below W.heap.size W W') : W'.rangeAt b o cs := fun j v hv => by
  have hc := h j v hv
  exact (hb.cell (p := ⟨b, o + j, none⟩) (World.block_lt_of_cell? W _ hc)).trans hc
theorem cell_below {W W' : World} {a : Addr} {v : Value} (h : W.cell? a = some v) (hb : Below W.heap.size W W') : W'.cell? a = some v :=
  (hb.cell (World.block_lt_of_cell? W _ h)).trans h
theorem Blk.rangeAt {w : World} {b : Nat} {n : Nat} {F : Nat → Value} {E : TypeId} (h : Blk w b (Row n F) E) (o m : Nat) (G : Nat → Value) (hm : o + m ≤ n) (e : ∀ j, j < m → F (o + j) = G j) : w.rangeAt b o (Row m G).toList := by
  intro j v hv
  have hj : j < m := by
    have := (List.getElem?_eq_some_iff.1 hv).1
    simpa [Row] using this
  rw [h.cell, Row.get _ (by omega), e j hj]
  rw [Array.getElem?_toList, Row.get _ hj] at hv
  exact hv
/-- A struct or an array is built: by a fact on the run. -/
theorem wp_buildL {P : Program} {ops : Array Oper} {rest : List Oper} {o : Oper} {a : Act} {w : World} {Q : Exit → Act → World → Prop} (hgd : o.guard = none) (t : TypeId) (parts : Array (Nat × Operand)) (ho : o.op = .build t parts)
    (vals : Array (Nat × Value)) (hv : parts.toList.map (fun p => (p.1, a.eval p.2)) = vals.toList) (v : Value) (hrun : ∀ w, (Instr.build t vals).run P w = .ok v w) (h : wpList P ops Q rest (a.put o.dst v) w) : wpList P ops Q (o :: rest) a w := by
  have e : (parts.map fun (i, x) => (i, a.eval x)) = vals := by
    rw [← Array.toList_inj, Array.toList_map]
    exact hv
  refine wpList_plain hgd fun K hK => ?_
  unfold Oper.wp execOp
  simp only [ho, Sem.run_bind, e, hrun, Result.andThen_ok]
  exact hK _ _ h
theorem eqRow_self {n : Nat} (f : Nat → BitVec 8) : eqRow n f f = true := (eqRow_iff n f f).2 fun _ _ => rfl
theorem eql_same {P : Program} {T E n : Nat} (hu : P.underlying T = some (.array n E)) (hi1 : (P.info? E).map (·.size) = some 1) (hA : ∀ w, (isAgg E).run P w = .ok false w) {q : IntKind} (hE : P.underlying E = some (.int q))
    (f : Nat → BitVec 8) (w : World) : (binOp .eql T (.agg (A8 n f)) (.agg (A8 n f))).run P w = .ok (.bool true) w := by
  rw [eql_A8 hu hi1 hA hE f f w, eqRow_self]
theorem tabC {w w' : World} (h : TabAt 3 Lib.deBruijn64tab w) (h3 : 3 < w.heap.size) (hb : Below w.heap.size w w') : TabAt 3 Lib.deBruijn64tab w' :=
  fun j hj => (hb.cell (p := ⟨3, j, none⟩) h3).trans (h j hj)
end Go.Proofs.YtdpgebifeaakjaaDoor
