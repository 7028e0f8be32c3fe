/- Rows of machine words in memory, and blocks of the call's own: what the walks of this seat want of them. -/
import Derived.Test.YtdpgebifeaakjaaDoorK0
import Derived.ChangeKeysEq
import Derived.Deep.RegionHeld3
import Derived.BigQuiet
import Derived.Deep.QuietTactic
namespace Go.Proofs.YtdpgebifeaakjaaDoor
set_option linter.unusedSimpArgs false
set_option linter.unusedVariables false
open Go.RowKit

theorem hide {p : Prop} (h : p) : Hid p := h
theorem retU32 {a b : BitVec 32} (h : a = b) : Ending.returned (U32 a) = .returned (U32 b) := by rw [h]
theorem retU64 {a b : BitVec 64} (h : a = b) : Ending.returned (U64 a) = .returned (U64 b) := by rw [h]
theorem retBool {a b : Bool} (h : a = b) : Ending.returned (.bool a) = .returned (.bool b) := by rw [h]
theorem retInt {k : IntKind} {a b : Int} (h : a = b) : Ending.returned (.int k a) = .returned (.int k b) := by rw [h]
/-- A row of n values, by its places. -/
def Row (n : Nat) (f : Nat → Value) : Array Value := Array.ofFn fun i : Fin n => f i.1
def A8 (n : Nat) (f : Nat → BitVec 8) : Array Value := Row n fun i => U8 (f i)
def A32 (n : Nat) (f : Nat → BitVec 32) : Array Value := Row n fun i => U32 (f i)
def A64 (n : Nat) (f : Nat → BitVec 64) : Array Value := Row n fun i => U64 (f i)

theorem Row.size (n : Nat) (f : Nat → Value) : (Row n f).size = n := by simp [Row]
theorem Row.get {n : Nat} (f : Nat → Value) {i : Nat} (h : i < n) : (Row n f)[i]? = some (f i) := by simp [Row, h]
theorem Row.getD {n : Nat} (f : Nat → Value) {i : Nat} (h : i < n) (d : Value) : (Row n f).getD i d = f i := by simp [Row, h]
theorem Row.set {n : Nat} (f : Nat → Value) (i : Nat) (v : Value) : (Row n f).setIfInBounds i v = Row n fun j => if j = i then v else f j := by
  apply Array.ext_getElem?
  intro j
  rw [Array.getElem?_setIfInBounds]
  by_cases hj : j < n
  · rw [Row.get _ hj, Row.size]
    by_cases e : i = j
    · subst e; rw [if_pos rfl, if_pos hj, Row.get _ hj, if_pos rfl]
    · rw [if_neg e, Row.get _ hj, if_neg (fun h => e h.symm)]
  · have h1 : (Row n f)[j]? = none := by simp [Row, hj]
    have h2 : (Row n fun j => if j = i then v else f j)[j]? = none := by simp [Row, hj]
    rw [h1, h2, Row.size]
    by_cases e : i = j
    · subst e; rw [if_pos rfl, if_neg hj]
    · rw [if_neg e]
theorem Row.ext {n : Nat} {f g : Nat → Value} (h : ∀ i, i < n → f i = g i) : Row n f = Row n g := by
  unfold Row; congr 1; funext i; exact h i.1 i.2
theorem Row.inj {n : Nat} {f g : Nat → Value} (h : Row n f = Row n g) : ∀ i, i < n → f i = g i := by
  intro i hi
  have := Row.get f hi; rw [h, Row.get g hi] at this; exact (Option.some.inj this).symm
theorem Row.all {n : Nat} {f : Nat → Value} {p : Value → Bool} (h : ∀ i, i < n → p (f i) = true) : (Row n f).all p = true := by
  rw [Array.all_eq_true]; intro i hi
  have hn : i < n := by simpa [Row] using hi
  simpa [Row] using h i hn

theorem A32.set {n : Nat} (f : Nat → BitVec 32) (i : Nat) (v : BitVec 32) : (A32 n f).setIfInBounds i (U32 v) = A32 n fun j => if j = i then v else f j := by
  unfold A32; rw [Row.set]; apply Row.ext; intro j _; dsimp only; split <;> rfl
theorem A32.ext {n : Nat} {f g : Nat → BitVec 32} (h : ∀ i, i < n → f i = g i) : A32 n f = A32 n g := Row.ext fun i hi => by rw [h i hi]
theorem A32.get {n : Nat} (f : Nat → BitVec 32) {i : Nat} (h : i < n) : (A32 n f)[i]? = some (U32 (f i)) := Row.get _ h
theorem A32.one {n : Nat} (f : Nat → BitVec 32) : (A32 n f).all (·.oneCell') = true := Row.all fun _ _ => rfl
theorem A32.size (n : Nat) (f : Nat → BitVec 32) : (A32 n f).size = n := Row.size _ _
theorem A8.set {n : Nat} (f : Nat → BitVec 8) (i : Nat) (v : BitVec 8) : (A8 n f).setIfInBounds i (U8 v) = A8 n fun j => if j = i then v else f j := by
  unfold A8; rw [Row.set]; apply Row.ext; intro j _; dsimp only; split <;> rfl
theorem A8.ext {n : Nat} {f g : Nat → BitVec 8} (h : ∀ i, i < n → f i = g i) : A8 n f = A8 n g := Row.ext fun i hi => by rw [h i hi]
theorem A8.get {n : Nat} (f : Nat → BitVec 8) {i : Nat} (h : i < n) : (A8 n f)[i]? = some (U8 (f i)) := Row.get _ h
theorem A8.one {n : Nat} (f : Nat → BitVec 8) : (A8 n f).all (·.oneCell') = true := Row.all fun _ _ => rfl
theorem A8.size (n : Nat) (f : Nat → BitVec 8) : (A8 n f).size = n := Row.size _ _
theorem A64.set {n : Nat} (f : Nat → BitVec 64) (i : Nat) (v : BitVec 64) : (A64 n f).setIfInBounds i (U64 v) = A64 n fun j => if j = i then v else f j := by
  unfold A64; rw [Row.set]; apply Row.ext; intro j _; dsimp only; split <;> rfl
theorem A64.ext {n : Nat} {f g : Nat → BitVec 64} (h : ∀ i, i < n → f i = g i) : A64 n f = A64 n g := Row.ext fun i hi => by rw [h i hi]
theorem A64.get {n : Nat} (f : Nat → BitVec 64) {i : Nat} (h : i < n) : (A64 n f)[i]? = some (U64 (f i)) := Row.get _ h
theorem A64.one {n : Nat} (f : Nat → BitVec 64) : (A64 n f).all (·.oneCell') = true := Row.all fun _ _ => rfl
theorem A64.size (n : Nat) (f : Nat → BitVec 64) : (A64 n f).size = n := Row.size _ _

theorem fill_step {α : Type} (g z : Nat → α) (k : Nat) : (fun j => if j = k then g k else if j < k then g j else z j) = fun j => if j < k + 1 then g j else z j := by
  funext j
  by_cases e : j = k
  · subst e; rw [if_pos rfl, if_pos (by omega)]
  · rw [if_neg e]; by_cases h : j < k
    · rw [if_pos h, if_pos (by omega)]
    · rw [if_neg h, if_neg (by omega)]
theorem fill_all {α : Type} {n : Nat} (g z : Nat → α) : ∀ i, i < n → (if i < n then g i else z i) = g i := fun i h => if_pos h
theorem A32.step {n : Nat} (g z : Nat → BitVec 32) (k : Nat) : (A32 n fun i => if i < k then g i else z i).setIfInBounds k (U32 (g k)) = A32 n fun i => if i < k + 1 then g i else z i := by
  rw [A32.set, fill_step g z k]
theorem A8.step {n : Nat} (g z : Nat → BitVec 8) (k : Nat) : (A8 n fun i => if i < k then g i else z i).setIfInBounds k (U8 (g k)) = A8 n fun i => if i < k + 1 then g i else z i := by
  rw [A8.set, fill_step g z k]
theorem A64.step {n : Nat} (g z : Nat → BitVec 64) (k : Nat) : (A64 n fun i => if i < k then g i else z i).setIfInBounds k (U64 (g k)) = A64 n fun i => if i < k + 1 then g i else z i := by
  rw [A64.set, fill_step g z k]
/-- Block b of the world holds the cells C. -/
def Blk (w : World) (b : Nat) (C : Array Value) (E : TypeId) : Prop := w.heap[b]? = some (.cells C E (0, 0))
theorem Blk.cell {w : World} {b : Nat} {C : Array Value} {E : TypeId} (h : Blk w b C E) (o : Nat) : w.cell? ⟨b, o, none⟩ = C[o]? := by
  unfold Blk at h; simp [World.cell?, h]
theorem Blk.free {w : World} {b : Nat} {C : Array Value} {E : TypeId} (h : Blk w b C E) (o : Nat) : w.frozen? ⟨b, o, none⟩ = false := by
  unfold Blk at h; simp [World.frozen?, h]
theorem Blk.lt {w : World} {b : Nat} {C : Array Value} {E : TypeId} (h : Blk w b C E) : b < w.heap.size := by
  unfold Blk at h; exact (Array.getElem?_eq_some_iff.1 h).1
theorem Blk.new (w : World) (C : Array Value) (E : TypeId) : Blk (w.alloc (.cells C E)) w.heap.size C E := heap_alloc_new _ _
theorem Blk.alloc {w : World} {b : Nat} {C : Array Value} {E : TypeId} (h : Blk w b C E) (o : Obj) : Blk (w.alloc o) b C E := by
  unfold Blk; rw [Below.heap_alloc _ _ _ h.lt]; exact h
theorem Blk.drew {w : World} {b : Nat} {C : Array Value} {E : TypeId} (h : Blk w b C E) : Blk w.drew b C E := h
theorem Blk.below {w w' : World} {b B : Nat} {C : Array Value} {E : TypeId} (h : Blk w b C E) (hb : Below B w w') (hlt : b < B) : Blk w' b C E := by
  unfold Blk; rw [hb.block b hlt]; exact h
theorem Blk.set {w : World} {b : Nat} {C : Array Value} {E : TypeId} (h : Blk w b C E) (o : Nat) (v : Value) : Blk (w.setCell ⟨b, o, none⟩ v) b (C.setIfInBounds o v) E := by
  unfold Blk at *; simp [World.setCell, Array.getElem?_modify, h]
theorem Blk.other {w : World} {b : Nat} {C : Array Value} {E : TypeId} (h : Blk w b C E) {a : Addr} (ha : b ≠ a.block) (v : Value) : Blk (w.setCell a v) b C E := by
  unfold Blk; rw [Below.heap_setCell _ _ _ _ ha]; exact h

theorem below_undrew {B : Nat} {w w' : World} (h : Below B w.drew w') : Below B w w' := ⟨h.os, h.tape, h.output, h.size, h.block⟩
/-- Between w and w' block b alone has turned. -/
structure Upd (b : Nat) (w w' : World) : Prop where
  os : w'.os = w.os
  tape : w'.tape = w.tape
  output : w'.output = w.output
  size : w'.heap.size = w.heap.size
  block : ∀ k, k ≠ b → w'.heap[k]? = w.heap[k]?
theorem Upd.below {b B : Nat} {w w' a : World} (h : Upd b w w') (ha : Below B a w) (hb : B ≤ b) : Below B a w' :=
  ha.trans ⟨h.os, h.tape, h.output, by rw [h.size]; exact Nat.le_refl _, fun k hk => h.block k (by omega)⟩
theorem Blk.upd {w w' : World} {b b' : Nat} {C : Array Value} {E : TypeId} (h : Blk w b C E) (hu : Upd b' w w') (hne : b ≠ b') : Blk w' b C E := by
  unfold Blk; rw [hu.block b hne]; exact h
theorem Upd.setRow (w : World) (b : Nat) (C : Array Value) : Upd b w (w.setRow b C) :=
  ⟨rfl, rfl, rfl, by simp [World.setRow], fun k hk => by simp only [World.setRow, Array.getElem?_modify]; rw [if_neg (fun e => hk e.symm)]⟩
theorem Blk.setRow {w : World} {b : Nat} {C : Array Value} {E : TypeId} (h : Blk w b C E) (C' : Array Value) : Blk (w.setRow b C') b C' E := by
  unfold Blk at *; simp [World.setRow, Array.getElem?_modify, h]

section rules
variable {P : Program} {ops : Array Oper} {rest : List Oper} {o : Oper} {a : Act} {w : World} {Q : Exit → Act → World → Prop}
/-- A whole array is loaded. -/
theorem wp_loadRow (hgd : o.guard = none) (ty : TypeId) (x : Operand) (ho : o.op = .load ty x)
    (b : Nat) (hx : a.eval x = .pointer (some ⟨b, 0, none⟩)) {t : TypeId} {C : Array Value} (hb : Blk w b C t) {d : TypeDesc} {n : Nat}
    (hu : P.underlying ty = some d) (hd : (match d with | .struct _ | .array _ _ => true | _ => false) = true) (hi : (P.info? ty).map (·.size) = some n) (hn : C.size = n)
    (h : wpList P ops Q rest (a.put o.dst (.agg C)) w) : wpList P ops Q (o :: rest) a w :=
  wpList_load_row hgd ty x ho b hx t C (0, 0) d hb hu hd (hn ▸ hi) h
/-- A whole array is stored. -/
theorem wp_storeRow (hgd : o.guard = none) (ty : TypeId) (x y : Operand) (ho : o.op = .store ty x y)
    (b : Nat) (hx : a.eval x = .pointer (some ⟨b, 0, none⟩)) {C' : Array Value} (hy : a.eval y = .agg C') {t : TypeId} {C : Array Value} (hb : Blk w b C t) {n : Nat}
    (hi : (P.info? ty).map (·.size) = some n) (hn' : C'.size = n) (hn : C.size = n) (h1 : C'.all (·.oneCell') = true) (hdst : o.dst = none)
    (h : ∀ w', Upd b w w' → Blk w' b C' t → wpList P ops Q rest a w') : wpList P ops Q (o :: rest) a w := by
  refine wpList_plain hgd fun K hK => ?_
  have hrun := run_storeVar_row (P := P) w b t ty C C' hb (hn' ▸ hi) (hn.trans hn'.symm) h1
  unfold Oper.wp execOp
  simp only [ho, hx, hy, Instr.storeAt, Instr.sureAddr, Sem.run_bind, Sem.run_pure, Result.andThen_ok, hrun]
  have h2 := hK _ _ (h _ (Upd.setRow w b C') (hb.setRow C'))
  simpa [go_sem, Oper.upon, hdst, Act.put] using h2
/-- A whole array's load, run. -/
theorem run_exec_loadRow (ρ : Operand → Value) (ty : TypeId) (x : Operand) (ho : o.op = .load ty x) (b : Nat) (hx : ρ x = .pointer (some ⟨b, 0, none⟩)) {t : TypeId} {C : Array Value} (hb : Blk w b C t) {d : TypeDesc} {n : Nat}
    (hu : P.underlying ty = some d) (hd : (match d with | .struct _ | .array _ _ => true | _ => false) = true) (hi : (P.info? ty).map (·.size) = some n) (hn : C.size = n) :
    (execOp ρ o).run P w = .ok (.value (.agg C)) w := by
  unfold execOp
  simp only [ho, hx, Instr.loadAt, Instr.sureAddr, Sem.run_bind, Sem.run_pure, Result.andThen_ok, run_loadVar_row w b t ty C (0, 0) d hb hu hd (hn ▸ hi)]
end rules
/-- The call returns a whole array that lies in a cell. -/
theorem ret_row {P : Program} {fn : Func} {R : Ending → World → Prop} {a : Act} {w : World} {p : Tmp} {ty : TypeId} (hres : fn.results = #[.cell p ty])
    (b : Nat) (hp : a.tmps.getD p undef = .pointer (some ⟨b, 0, none⟩)) {t : TypeId} {C : Array Value} (hb : Blk w b C t) {d : TypeDesc} {n : Nat}
    (hu : P.underlying ty = some d) (hd : (match d with | .struct _ | .array _ _ => true | _ => false) = true) (hi : (P.info? ty).map (·.size) = some n) (hn : C.size = n)
    (hdef : a.defers = []) (hR : R (.returned (.agg C)) w) : bodyPost P fn R .ret a w :=
  bodyPost_ret (results_cell_row hres a.tmps w b t C (0, 0) d hp hb hu hd (hn ▸ hi)) hdef hR
/-- The bytes of a string. -/
def bts (s : ByteArray) : List (BitVec 8) := s.data.toList.map UInt8.toBitVec
def byteAt (s : ByteArray) (i : Nat) : BitVec 8 := (bts s).getD i 0#8
theorem bts_length (s : ByteArray) : (bts s).length = s.size := by simp [bts]
theorem bts_take_succ (s : ByteArray) (k : Nat) (h : k < s.size) : (bts s).take (k + 1) = (bts s).take k ++ [byteAt s k] := by
  have hl : k < (bts s).length := by rw [bts_length]; exact h
  rw [List.take_succ_eq_append_getElem hl]
  simp [byteAt, hl]
theorem run_index_str {P : Program} {T : TypeId} (hT : P.underlying T = some .string) (s : ByteArray) (k : Nat) (h : k < s.size) (w : World) :
    (Instr.index T (.string s) (.int .i64 (k : Int))).run P w = .ok (U8 (byteAt s k)) w := by
  have e : byteAt s k = (s[k]'h).toBitVec := by
    have hl : k < (bts s).length := by rw [bts_length]; exact h
    simp only [byteAt, List.getD_eq_getElem?_getD, List.getElem?_eq_getElem hl, Option.getD_some]
    simp only [bts, List.getElem_map]; rfl
  rw [e]
  simp [Instr.index, go_sem, run_underlying hT, h]
  rfl
/-- An array's address, indexed within its bounds. -/
theorem indexAt_word {P : Program} {T E n : Nat} (hT : P.underlying T = some (.array n E)) (hE : ∀ w, (sizeOf E).run P w = .ok 1 w) (b o : Nat) (k : IntKind) (i : Nat) (h : i < n) (w : World) :
    (Instr.indexAt T (.pointer (some ⟨b, o, none⟩)) (.int k (i : Int))).run P w = .ok (.pointer (some ⟨b, o + i, none⟩)) w := by
  have h1 : (i : Int) < (n : Int) := by omega
  simp [Instr.indexAt, go_sem, run_underlying hT, hE, h, h1]
/-- An array's value, indexed within its bounds. -/
theorem index_Row {P : Program} {T E n : Nat} (hT : P.underlying T = some (.array n E)) (hE : ∀ w, (sizeOf E).run P w = .ok 1 w) (hA : ∀ w, (isAgg E).run P w = .ok false w) (f : Nat → Value) (k : IntKind) (i : Nat) (h : i < n) (w : World) :
    (Instr.index T (.agg (Row n f)) (.int k (i : Int))).run P w = .ok (f i) w := by
  have h1 : (i : Int) < (n : Int) := by omega
  simp [Instr.index, go_sem, run_underlying hT, hE, hA, h, Row.get f h]
theorem index_A32 {P : Program} {T E n : Nat} (hT : P.underlying T = some (.array n E)) (hE : ∀ w, (sizeOf E).run P w = .ok 1 w) (hA : ∀ w, (isAgg E).run P w = .ok false w) (f : Nat → BitVec 32) (k : IntKind) (i : Nat) (h : i < n) (w : World) :
    (Instr.index T (.agg (A32 n f)) (.int k (i : Int))).run P w = .ok (U32 (f i)) w := index_Row hT hE hA _ k i h w
theorem index_A8 {P : Program} {T E n : Nat} (hT : P.underlying T = some (.array n E)) (hE : ∀ w, (sizeOf E).run P w = .ok 1 w) (hA : ∀ w, (isAgg E).run P w = .ok false w) (f : Nat → BitVec 8) (k : IntKind) (i : Nat) (h : i < n) (w : World) :
    (Instr.index T (.agg (A8 n f)) (.int k (i : Int))).run P w = .ok (U8 (f i)) w := index_Row hT hE hA _ k i h w
theorem index_A64 {P : Program} {T E n : Nat} (hT : P.underlying T = some (.array n E)) (hE : ∀ w, (sizeOf E).run P w = .ok 1 w) (hA : ∀ w, (isAgg E).run P w = .ok false w) (f : Nat → BitVec 64) (k : IntKind) (i : Nat) (h : i < n) (w : World) :
    (Instr.index T (.agg (A64 n f)) (.int k (i : Int))).run P w = .ok (U64 (f i)) w := index_Row hT hE hA _ k i h w
/-- Two rows compared, element by element. -/
theorem run_eqItems_Row {P : Program} {E n d : Nat} (hE : P.cellsOf E = 1) (hA : ∀ w, (isAgg E).run P w = .ok false w) (f g : Nat → Value) (eq : Nat → Bool)
    (he : ∀ i w, i < n → (Op.equalIn d E (f i) (g i)).run P w = .ok (eq i) w) (w : World) : ∀ l : List Nat, (∀ i ∈ l, i < n) →
    (Op.eqItems d E (P.cellsOf E) (Row n f) (Row n g) l).run P w = .ok (l.all eq) w
  | [], _ => by simp [Op.eqItems]
  | i :: l, h => by
    have hi := h i (by simp)
    have ih := run_eqItems_Row hE hA f g eq he w l (fun j hj => h j (by simp [hj]))
    simp only [hE] at ih
    simp [Op.eqItems, go_sem, hE, hA, Row.get _ hi, he i w hi]
    cases eq i <;> simp [ih]
def eqRow {α : Type} [BEq α] (n : Nat) (f g : Nat → α) : Bool := (List.range n).all fun i => f i == g i
theorem eqRow_iff {α : Type} [BEq α] [LawfulBEq α] (n : Nat) (f g : Nat → α) : eqRow n f g = true ↔ ∀ i, i < n → f i = g i := by
  simp [eqRow]
theorem eql_A32 {P : Program} {T E n : Nat} (hu : P.underlying T = some (.array n E)) (hi1 : (P.info? E).map (·.size) = some 1) (hA : ∀ w, (isAgg E).run P w = .ok false w) {q : IntKind} (hE : P.underlying E = some (.int q))
    (f g : Nat → BitVec 32) (w : World) : (binOp .eql T (.agg (A32 n f)) (.agg (A32 n g))).run P w = .ok (.bool (eqRow n f g)) w := by
  have hE1 : P.cellsOf E = 1 := by simp [Program.cellsOf, hi1]
  obtain ⟨i, hi, _⟩ := Option.map_eq_some_iff.1 hi1
  rw [run_eql_struct, run_equalIn_array w _ _ _ hu hi]
  have := run_eqItems_Row (P := P) (n := n) (d := 9999) hE1 hA (fun i => U32 (f i)) (fun i => U32 (g i)) (fun i => f i == g i) (fun i w _ => by
    refine (run_equalIn_int w 9998 E .u32 q _ _ hE).trans ?_
    rw [eq_n32]) w (List.range n) (by simp)
  unfold A32
  rw [this]
  rfl
theorem eql_A8 {P : Program} {T E n : Nat} (hu : P.underlying T = some (.array n E)) (hi1 : (P.info? E).map (·.size) = some 1) (hA : ∀ w, (isAgg E).run P w = .ok false w) {q : IntKind} (hE : P.underlying E = some (.int q))
    (f g : Nat → BitVec 8) (w : World) : (binOp .eql T (.agg (A8 n f)) (.agg (A8 n g))).run P w = .ok (.bool (eqRow n f g)) w := by
  have hE1 : P.cellsOf E = 1 := by simp [Program.cellsOf, hi1]
  obtain ⟨i, hi, _⟩ := Option.map_eq_some_iff.1 hi1
  rw [run_eql_struct, run_equalIn_array w _ _ _ hu hi]
  have := run_eqItems_Row (P := P) (n := n) (d := 9999) hE1 hA (fun i => U8 (f i)) (fun i => U8 (g i)) (fun i => f i == g i) (fun i w _ => by
    refine (run_equalIn_int w 9998 E .u8 q _ _ hE).trans ?_
    rw [eq_n8]) w (List.range n) (by simp)
  unfold A8
  rw [this]
  rfl
/-- A string of bytes. -/
def strOf (l : List (BitVec 8)) : ByteArray := ⟨(l.map UInt8.ofBitVec).toArray⟩
theorem bts_strOf (l : List (BitVec 8)) : bts (strOf l) = l := by
  simp [bts, strOf, Function.comp_def]
theorem strOf_bts (s : ByteArray) : strOf (bts s) = s := by
  simp [bts, strOf, Function.comp_def]
theorem size_strOf (l : List (BitVec 8)) : (strOf l).size = l.length := by rw [← bts_length, bts_strOf]
theorem bts_inj {s t : ByteArray} (h : bts s = bts t) : s = t := by rw [← strOf_bts s, h, strOf_bts]
/-- 'string(b)', b's cells the bytes l. -/
theorem run_bytes_str {P : Program} (w : World) (src dst e : TypeId) (b o : Nat) (cap : Nat) (l : List (BitVec 8)) (n : Nat) (hn : l.length = n) (hs : P.underlying src = some (.slice e)) (he : P.underlying e = some (.int .u8)) (hd : P.underlying dst = some .string)
    (hc : ∀ j (hj : j < l.length), w.cell? ⟨b, o + j, none⟩ = some (U8 l[j])) :
    (convert src dst (.slice (some ⟨b, o, none⟩) n cap)).run P w = .ok (.string (strOf l)) w := by
  have h := run_convert_bytes_back (P := P) w src dst e ⟨b, o, none⟩ cap (l.map UInt8.ofBitVec) hs he hd (fun j hj => by
    have hj' : j < l.length := by simpa using hj
    rw [Addr.add_lit, hc j hj']
    simp [U8, n8])
  rw [List.length_map, hn] at h
  exact h
/-- 'a[:h]', 'a[:]' of an array variable. -/
theorem sliceAt_arr_h {P : Program} {T E n s : Nat} (hT : P.underlying T = some (.array n E)) (hE : ∀ w, (sizeOf E).run P w = .ok s w) (a : Addr) (q : IntKind) (h : Nat) (hh : h ≤ n) (w : World) :
    (Instr.sliceAt T (.pointer (some a)) none (some (.int q (h : Int))) none).run P w = .ok (.slice (some a) h n) w := by
  have h1 : (h : Int) ≤ (n : Int) := by omega
  have h2 : ¬ (n : Int) < (h : Int) := by omega
  simp [Instr.sliceAt, Instr.sureAddr, run_underlying hT, Instr.sliceBounds, run_sliceBound, hE, hh, Addr.add_zero']
theorem sliceAt_arr_all {P : Program} {T E n s : Nat} (hT : P.underlying T = some (.array n E)) (hE : ∀ w, (sizeOf E).run P w = .ok s w) (a : Addr) (w : World) :
    (Instr.sliceAt T (.pointer (some a)) none none none).run P w = .ok (.slice (some a) n n) w := by
  simp [Instr.sliceAt, Instr.sureAddr, run_underlying hT, Instr.sliceBounds, hE, Addr.add_zero']
end Go.Proofs.YtdpgebifeaakjaaDoor
