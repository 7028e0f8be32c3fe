/- More rules on rows: a whole store inside a region that draws, results that lie in cells. -/
import Derived.Test.YtdpgebifeaakjaaDoorK1
import Derived.Deep.MidRow
import Derived.StillTailTactics
namespace Go.Proofs.YtdpgebifeaakjaaDoor
set_option linter.unusedSimpArgs false
set_option linter.unusedVariables false
open Go.RowKit
section
variable {P : Program} {o : Oper} {a : Act} {w : World} {Q : Exit → Act → World → Prop} {K : Act → World → Prop}
/-- A whole array is stored: one operation. -/
theorem op_storeRow (ty : TypeId) (x y : Operand) (ho : o.op = .store ty x y)
    (b : Nat) (hx : a.eval x = .pointer (some ⟨b, 0, none⟩)) {C' : Array Value} (hy : a.eval y = .agg C') {t : TypeId} {C : Array Value} (hb : Blk w b C t) {n : Nat}
    (hi : (P.info? ty).map (·.size) = some n) (hn' : C'.size = n) (hn : C.size = n) (h1 : C'.all (·.oneCell') = true) (hdst : o.dst = none)
    (h : ∀ w', Upd b w w' → Blk w' b C' t → K a w') : o.wp P a w K Q := by
  have hrun := run_storeVar_row (P := P) w b t ty C C' hb (hn' ▸ hi) (hn.trans hn'.symm) h1
  unfold Oper.wp execOp
  simp only [ho, hx, hy, Instr.storeAt, Instr.sureAddr, Sem.run_bind, Sem.run_pure, Result.andThen_ok, hrun]
  have h2 := h _ (Upd.setRow w b C') (hb.setRow C')
  simpa [go_sem, Oper.upon, hdst, Act.put] using h2
end
/-- A run of cells in the middle of a row. -/
theorem rangeAt_Row {w : World} {b t N : Nat} {F : Nat → Value} (hb : Blk w b (Row N F) t) (o n : Nat) (hn : o + n ≤ N) : w.rangeAt b o (Row n fun i => F (o + i)).toList := by
  intro j v hv
  have hj : j < n := by
    have := (List.getElem?_eq_some_iff.1 hv).1
    simpa [Row] using this
  rw [hb.cell, Row.get _ (by omega)]
  have h2 : (Row n fun i => F (o + i))[j]? = some v := by simpa using hv
  rw [Row.get _ hj] at h2
  exact h2
/-- An array is loaded out of the middle of a row. -/
theorem wp_loadMid {P : Program} {ops : Array Oper} {rest : List Oper} {o : Oper} {a : Act} {w : World} {Q : Exit → Act → World → Prop} (hgd : o.guard = none) (ty : TypeId) (x : Operand) (ho : o.op = .load ty x)
    (b f : Nat) (hx : a.eval x = .pointer (some ⟨b, f, none⟩)) {t N : Nat} {F : Nat → Value} (hb : Blk w b (Row N F) t) {d : TypeDesc} {n : Nat}
    (hu : P.underlying ty = some d) (hd : d.isRow = true) (hi : (P.info? ty).map (·.size) = some n) (hn : f + n ≤ N) {C : Array Value} (hC : (Row n fun i => F (f + i)) = C)
    (h : wpList P ops Q rest (a.put o.dst (.agg C)) w) : wpList P ops Q (o :: rest) a w := by
  subst hC
  refine wpList_load_mid hgd ty x ho b f hx _ d (rangeAt_Row hb f n hn) hu hd (by rw [Array.length_toList, Row.size]; exact hi) ?_
  rw [Array.toArray_toList]
  exact h
/-- Between w and w' block b alone of those that were there has turned. -/
structure But (b : Nat) (w w' : World) : Prop where
  os : w'.os = w.os
  tape : w'.tape = w.tape
  output : w'.output = w.output
  size : w.heap.size ≤ w'.heap.size
  block : ∀ k, k < w.heap.size → k ≠ b → w'.heap[k]? = w.heap[k]?
theorem But.refl (b : Nat) (w : World) : But b w w := ⟨rfl, rfl, rfl, Nat.le_refl _, fun _ _ _ => rfl⟩
theorem But.trans {b : Nat} {u v w : World} (h : But b u v) (k : But b v w) : But b u w :=
  ⟨k.os.trans h.os, k.tape.trans h.tape, k.output.trans h.output, Nat.le_trans h.size k.size, fun i hi hne => (k.block i (Nat.lt_of_lt_of_le hi h.size) hne).trans (h.block i hi hne)⟩
theorem But.of_below {b : Nat} {w w' : World} (h : Below w.heap.size w w') : But b w w' := ⟨h.os, h.tape, h.output, h.size, fun k hk _ => h.block k hk⟩
theorem But.setCell {b : Nat} {a w : World} (h : But b a w) {p : Addr} (hp : p.block = b ∨ a.heap.size ≤ p.block) (v : Value) : But b a (w.setCell p v) :=
  ⟨h.os, h.tape, h.output, by simp [World.setCell]; exact h.size, fun k hk hne => by rw [Below.heap_setCell _ _ _ _ (by omega)]; exact h.block k hk hne⟩
theorem But.alloc {b : Nat} {a w : World} (h : But b a w) (o : Obj) : But b a (w.alloc o) :=
  ⟨h.os, h.tape, h.output, by simp; have := h.size; omega, fun k hk hne => by rw [Below.heap_alloc _ _ _ (Nat.lt_of_lt_of_le hk h.size)]; exact h.block k hk hne⟩
theorem But.drew {b : Nat} {a w : World} (h : But b a w) : But b a w.drew := ⟨h.os, h.tape, h.output, h.size, h.block⟩
theorem But.upd {b c : Nat} {a w w' : World} (h : But b a w) (u : Upd c w w') (hc : c = b ∨ a.heap.size ≤ c) : But b a w' :=
  ⟨u.os.trans h.os, u.tape.trans h.tape, u.output.trans h.output, by rw [u.size]; exact h.size, fun k hk hne => (u.block k (by omega)).trans (h.block k hk hne)⟩
theorem But.onto {b B : Nat} {a w w' : World} (h : Below B a w) (k : But b w w') (hb : B ≤ b) (hB : B ≤ w.heap.size) : Below B a w' :=
  ⟨k.os.trans h.os, k.tape.trans h.tape, k.output.trans h.output, Nat.le_trans h.size k.size, fun i hi => (k.block i (by omega) (by omega)).trans (h.block i hi)⟩
theorem Blk.but {w w' : World} {b c : Nat} {C : Array Value} {E : TypeId} (h : Blk w b C E) (k : But c w w') (hne : b ≠ c) : Blk w' b C E := by
  unfold Blk; rw [k.block b h.lt hne]; exact h
theorem run_loadVar_Blk {P : Program} {w : World} {b : Nat} {t ty : TypeId} {C : Array Value} (hb : Blk w b C t) {d : TypeDesc} {n : Nat}
    (hu : P.underlying ty = some d) (hd : (match d with | .struct _ | .array _ _ => true | _ => false) = true) (hi : (P.info? ty).map (·.size) = some n) (hn : C.size = n) :
    (loadVar ty ⟨b, 0, none⟩).run P w = .ok (.agg C) w := run_loadVar_row w b t ty C (0, 0) d hb hu hd (hn ▸ hi)
/-- Two results that lie in cells. -/
theorem ret_row2 {P : Program} {fn : Func} {R : Ending → World → Prop} {a : Act} {w : World} {p q : Tmp} {ty uy : TypeId} (hres : fn.results = #[.cell p ty, .cell q uy])
    (b c : Nat) (hp : a.tmps.getD p undef = .pointer (some ⟨b, 0, none⟩)) (hq : a.tmps.getD q undef = .pointer (some ⟨c, 0, none⟩)) {C D : Array Value}
    (hb : (loadVar ty ⟨b, 0, none⟩).run P w = .ok (.agg C) w) (hc : (loadVar uy ⟨c, 0, none⟩).run P w = .ok (.agg D) w)
    (hdef : a.defers = []) (hR : R (.returned (.tuple #[.agg C, .agg D])) w) : bodyPost P fn R .ret a w := by
  have hp' : a.tmps[p]?.getD undef = .pointer (some ⟨b, 0, none⟩) := by simpa using hp
  have hq' : a.tmps[q]?.getD undef = .pointer (some ⟨c, 0, none⟩) := by simpa using hq
  refine bodyPost_ret (v := .tuple #[.agg C, .agg D]) ?_ hdef hR
  simp [results, hres, hp', hq', asAddr, hb, hc]
/-- A result in a cell, and one in a temporary. -/
theorem ret_row_tmp {P : Program} {fn : Func} {R : Ending → World → Prop} {a : Act} {w : World} {p q : Tmp} {ty : TypeId} (hres : fn.results = #[.cell p ty, .tmp q])
    (b : Nat) (hp : a.tmps.getD p undef = .pointer (some ⟨b, 0, none⟩)) {v : Value} (hq : a.tmps.getD q undef = v) {C : Value}
    (hb : (loadVar ty ⟨b, 0, none⟩).run P w = .ok C w)
    (hdef : a.defers = []) (hR : R (.returned (.tuple #[C, v])) w) : bodyPost P fn R .ret a w := by
  have hp' : a.tmps[p]?.getD undef = .pointer (some ⟨b, 0, none⟩) := by simpa using hp
  have hq' : a.tmps[q]?.getD undef = v := by simpa using hq
  refine bodyPost_ret (v := .tuple #[C, v]) ?_ hdef hR
  simp [results, hres, hp', hq', asAddr, hb]
/-- A quiet call, where the contract says that the world is the same. -/
theorem quiet_left {P : Program} {f : FuncId} {args : Array Value} {w : World} {n : Nat} {v : Value}
    (h : Calls P f args (w.drewN n) fun e w' => e = .returned v ∧ w.drewN n = w') : Calls P f args (w.drewN n) fun e w'' => e = .returned v ∧ ∃ m, w'' = w.drewN m :=
  h.mono fun _ _ ⟨he, hm⟩ => ⟨he, n, hm.symm⟩
theorem below_drewN' {B : Nat} {a w : World} (n : Nat) (h : Below B a w) : Below B a (w.drewN n) := ⟨h.os, h.tape, h.output, h.size, h.block⟩
theorem Blk.drewN {w : World} {b : Nat} {C : Array Value} {E : TypeId} (n : Nat) (h : Blk w b C E) : Blk (w.drewN n) b C E := h
end Go.Proofs.YtdpgebifeaakjaaDoor
