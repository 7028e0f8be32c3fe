/- Slices as they are read, and appends of any of them to owned ones. -/
import Derived.Test.YtdpgebifeaakjaaDoorGV
namespace Go.Proofs.YtdpgebifeaakjaaDoor
set_option linter.unusedSimpArgs false
set_option linter.unusedVariables false
open Go.RowKit

/-- A slice of k elements of so many cells each, that reads as xs. -/
def Sees (W : World) (size : Nat) (v : Value) (k : Nat) (xs : List Value) : Prop :=
  ∃ p c, v = .slice p k c ∧ k ≤ c ∧ xs.length = k * size ∧ (0 < k → ∃ g o, p = some ⟨g, o, none⟩ ∧ ∀ j u, xs[j]? = some u → W.cell? ⟨g, o + j, none⟩ = some u)
theorem Sees.below {W W' : World} {size k : Nat} {v : Value} {xs : List Value} (h : Sees W size v k xs) (hb : Below W.heap.size W W') : Sees W' size v k xs := by
  obtain ⟨p, c, e, h1, h2, h3⟩ := h
  refine ⟨p, c, e, h1, h2, fun hk => ?_⟩
  obtain ⟨g, o, ep, hc⟩ := h3 hk
  exact ⟨g, o, ep, fun j u hj => cell_below (hc j u hj) hb⟩
theorem Sees.nil (W : World) (size : Nat) (p : Option Addr) (c : Nat) : Sees W size (.slice p 0 c) 0 [] := ⟨p, c, rfl, Nat.zero_le _, by simp, fun h => absurd h (Nat.lt_irrefl _)⟩
theorem Sees.of_owns {W : World} {base e size k : Nat} {v : Value} {xs : List Value} (h : W.ownsRow base e size v k xs) : Sees W size v k xs := by
  have hc := fun (g : Nat) (e : v.ownBlock = some g) => World.ownsRow.cells h e
  obtain ⟨hl, ⟨rfl, rfl⟩ | ⟨g, cap, cur, rfl, _, _, h1, _, _, _⟩⟩ := h
  · exact ⟨none, 0, rfl, Nat.le_refl _, hl, fun h => absurd h (Nat.lt_irrefl _)⟩
  · refine ⟨_, _, rfl, h1, hl, fun _ => ⟨g, 0, rfl, fun j u hj => ?_⟩⟩
    have := hc g rfl j u hj
    rw [Addr.add_lit, Nat.zero_add] at this
    rw [Nat.zero_add]
    exact this
theorem Digs.sees {W : World} {k : Nat} {v : Value} {T : Nat → Nat → BitVec 8} (h : Digs W v k T) : Sees W 16 v k (digCells T k) := by
  have h' := h
  obtain ⟨p, c, rfl, h1, h2⟩ := h
  refine ⟨p, c, rfl, h1, digCells_length T k, fun hk => ?_⟩
  obtain ⟨g, o, e, _⟩ := h2 0 hk
  subst e
  refine ⟨g, o, rfl, fun j u hj => ?_⟩
  have := digs_cells h' j u hj
  rw [Addr.add_lit] at this
  exact this
theorem Sees.digs {W : World} {k : Nat} {v : Value} {T : Nat → Nat → BitVec 8} (h : Sees W 16 v k (digCells T k)) : Digs W v k T := by
  obtain ⟨p, c, rfl, h1, h2, h3⟩ := h
  refine ⟨p, c, rfl, h1, fun j hj => ?_⟩
  obtain ⟨g, o, e, hc⟩ := h3 (by omega)
  refine ⟨g, o, e, fun i u hi => ?_⟩
  have hi' := (List.getElem?_eq_some_iff.1 hi).1
  rw [Array.length_toList, A8.size] at hi'
  rw [Array.getElem?_toList, A8.get _ hi'] at hi
  rw [Nat.add_assoc]
  exact hc (j * 16 + i) u (by rw [digCells_at T k j i hj hi']; exact hi)
theorem cells_at2 : ∀ (l : List (Nat × Nat)) (j : Nat) (x : Nat × Nat), l[j]? = some x → (cellsOf l)[j * 2]? = some (.int .i64 (x.1 : Int)) ∧ (cellsOf l)[j * 2 + 1]? = some (.int .i64 (x.2 : Int))
  | [], j, x, h => by cases h
  | y :: l, 0, x, h => by
    obtain rfl : y = x := by simpa using h
    exact ⟨rfl, rfl⟩
  | y :: l, j + 1, x, h => by
    have := cells_at2 l j x (by simpa using h)
    rw [show (j + 1) * 2 = j * 2 + 1 + 1 by omega]
    exact this
theorem SlC.of_sees {W : World} {v : Value} {l : List (Nat × Nat)} (h : Sees W 2 v l.length (cellsOf l)) : SlC W v l := by
  obtain ⟨p, c, rfl, h1, h2, h3⟩ := h
  refine ⟨p, c, rfl, h1, fun j x hx => ?_⟩
  obtain ⟨g, o, e, hc⟩ := h3 (by have := (List.getElem?_eq_some_iff.1 hx).1; omega)
  have := cells_at2 l j x hx
  refine ⟨g, o, e, ?_, ?_⟩
  · rw [show o + j * 2 = o + (j * 2) by omega]; exact hc _ _ this.1
  · rw [show o + j * 2 + 1 = o + (j * 2 + 1) by omega]; exact hc _ _ this.2
/-- What an append asks of the type of its elements. -/
structure ElemF (t e : TypeId) (size bytes : Nat) : Prop where
  ht : Tryd.prog.underlying t = some (.slice e)
  hi : ∃ i z, Tryd.prog.info? e = some i ∧ i.zero = some z ∧ i.size = size ∧ i.bytes = bytes ∧ z.cells.size = size
  hs : 0 < size
  hb : bytes ≤ 100000
theorem ElemF.of {t e : TypeId} {size bytes : Nat} {z : Value} (ht : Tryd.prog.underlying t = some (.slice e)) (hi : (Tryd.prog.info? e).map (fun i => (i.zero, i.size, i.bytes)) = some (some z, size, bytes)) (hz : z.cells.size = size) (hs : 0 < size) (hb : bytes ≤ 100000) : ElemF t e size bytes := by
  obtain ⟨i0, hi0, hz0, hz1, hz2⟩ := info_parts hi
  exact ⟨ht, ⟨i0, z, hi0, hz0, hz1, hz2, hz⟩, hs, hb⟩
theorem elem80 : ElemF 80 23 16 16 := ElemF.of Tryd.underlying80 info23 rfl (by decide) (by decide)
theorem elem33 : ElemF 33 106 2 16 := ElemF.of Tryd.underlying33 info106 rfl (by decide) (by decide)
theorem info9 : (Tryd.prog.info? 9).map (fun i => (i.zero, i.size, i.bytes)) = some (some (.string ⟨#[]⟩), 1, 16) := by kernel_rfl
theorem elem148 : ElemF 148 9 1 16 := ElemF.of Tryd.underlying148 info9 rfl (by decide) (by decide)
/-- Any slice is appended to an owned one. -/
theorem oper_append {o : Oper} {a : Act} {w : World} {Q : Exit → Act → World → Prop} {K : Act → World → Prop} {t e size bytes : Nat} (E : ElemF t e size bytes)
    (s x : Operand) (hop : o.op = Op.call { callee := Callee.builtin Builtin.append, args := #[s, x], argTypes := #[t, t] })
    {base k m : Nat} {v u : Value} {xs ys : List Value} (hs : a.eval s = v) (hv : w.ownsRow base e size v k xs) (hx : a.eval x = u) (hu : Sees w size u m ys)
    (one : ∀ y ∈ ys, y.oneCell' = true) (hkm : k + m ≤ 1000000) (hbase : base ≤ w.heap.size)
    (h : ∀ v' w', w'.ownsRow base e size v' (k + m) (xs ++ ys) → w.grownBy w' v.ownBlock → K (a.put o.dst v') w') : Oper.wp Tryd.prog o a w K Q := by
  obtain ⟨i0, z, hi0, hz0, hz1, hz2, hz3⟩ := E.hi
  have hbb := E.hb
  have hss := E.hs
  have h63 : k + m ≤ maxLen := by unfold maxLen; omega
  have hbytes : (k + m) * bytes ≤ 140737488355328 := Nat.le_trans (Nat.mul_le_mul hkm hbb) (by decide)
  obtain ⟨p, cap, rfl, hc, hl, hd⟩ := hu
  cases p with
  | none =>
    have hm : m = 0 := by
      cases m with
      | zero => rfl
      | succ m =>
        obtain ⟨_, _, e, _⟩ := hd (by omega)
        cases e
    subst hm
    have hys : ys = [] := List.eq_nil_of_length_eq_zero (by rw [hl]; omega)
    subst hys
    have hrun := run_append_none (P := Tryd.prog) (w := w) base t o.type e i0 size E.ht hi0 v k cap _ hv
    unfold Oper.wp
    simp [execOp, hop, resolve, invoke, builtin, hs, hx, hrun, Result.andThen]
    refine h v w ?_ ⟨rfl, rfl, rfl, Nat.le_refl _, fun k _ _ => rfl⟩
    rw [List.append_nil, Nat.add_zero]
    exact hv
  | some ad =>
    by_cases hm : m = 0
    · subst hm
      have hys : ys = [] := List.eq_nil_of_length_eq_zero (by rw [hl]; omega)
      subst hys
      exact wp_append_own w s x t hop base e i0 z size bytes E.ht hi0 hz0 hz1 hz2 hz3 hss v k _ hs hv ad 0 cap [] hx (by simp) (fun j u hj => by simp at hj) (by simp) h63 hbytes hbase fun v' w' h2 h3 _ => h v' w' h2 h3
    · obtain ⟨g, o', e', hcc⟩ := hd (by omega)
      injection e' with e'
      subst e'
      exact wp_append_own w s x t hop base e i0 z size bytes E.ht hi0 hz0 hz1 hz2 hz3 hss v k _ hs hv ⟨g, o', none⟩ m cap ys hx hl (fun j u hj => by rw [Addr.add_lit]; exact hcc j u hj) one h63 hbytes hbase fun v' w' h2 h3 _ => h v' w' h2 h3
theorem wp_append {ops : Array Oper} {rest : List Oper} {o : Oper} {a : Act} {w : World} {Q : Exit → Act → World → Prop} {t e size bytes : Nat} (E : ElemF t e size bytes) (hgd : o.guard = none)
    (s x : Operand) (hop : o.op = Op.call { callee := Callee.builtin Builtin.append, args := #[s, x], argTypes := #[t, t] })
    {base k m : Nat} {v u : Value} {xs ys : List Value} (hs : a.eval s = v) (hv : w.ownsRow base e size v k xs) (hx : a.eval x = u) (hu : Sees w size u m ys)
    (one : ∀ y ∈ ys, y.oneCell' = true) (hkm : k + m ≤ 1000000) (hbase : base ≤ w.heap.size)
    (h : ∀ v' w', w'.ownsRow base e size v' (k + m) (xs ++ ys) → Below base w w' → wpList Tryd.prog ops Q rest (a.put o.dst v') w') : wpList Tryd.prog ops Q (o :: rest) a w :=
  wpList_plain hgd fun _ hK => oper_append E s x hop hs hv hx hu one hkm hbase fun v' w' h2 h3 => hK _ _ (h v' w' h2 ((Below.refl base w).grown h3 hbase fun q e => (hv.lt q e).1))
theorem wp_appendG {ops : Array Oper} {rest : List Oper} {o : Oper} {a : Act} {w : World} {Q : Exit → Act → World → Prop} {t e size bytes : Nat} (E : ElemF t e size bytes) (hgd : o.guard = none)
    (s x : Operand) (hop : o.op = Op.call { callee := Callee.builtin Builtin.append, args := #[s, x], argTypes := #[t, t] })
    {base k m : Nat} {v u : Value} {xs ys : List Value} (hs : a.eval s = v) (hv : w.ownsRow base e size v k xs) (hx : a.eval x = u) (hu : Sees w size u m ys)
    (one : ∀ y ∈ ys, y.oneCell' = true) (hkm : k + m ≤ 1000000) (hbase : base ≤ w.heap.size)
    (h : ∀ v' w', w'.ownsRow base e size v' (k + m) (xs ++ ys) → w.grownBy w' v.ownBlock → wpList Tryd.prog ops Q rest (a.put o.dst v') w') : wpList Tryd.prog ops Q (o :: rest) a w :=
  wpList_plain hgd fun _ hK => oper_append E s x hop hs hv hx hu one hkm hbase fun v' w' h2 h3 => hK _ _ (h v' w' h2 h3)
theorem grown_below {w w' : World} {base e size k : Nat} {v : Value} {xs : List Value} (hv : w.ownsRow base e size v k xs) (hg : w.grownBy w' v.ownBlock) (hbase : base ≤ w.heap.size) : Below base w w' := (Below.refl base w).grown hg hbase fun q e => (hv.lt q e).1
/-- Of two owned rows of other types, one grows. -/
theorem owns_keep {w w' : World} {base e size k base2 e2 size2 k2 : Nat} {v v2 : Value} {xs ys : List Value} (h : w.ownsRow base e size v k xs) (h2 : w.ownsRow base2 e2 size2 v2 k2 ys) (he : e2 ≠ e) (hg : w.grownBy w' v2.ownBlock) : w'.ownsRow base e size v k xs := by
  refine h.kept hg ?_
  obtain ⟨_, ⟨rfl, _⟩ | ⟨g, cap, cur, rfl, _, hh, _⟩⟩ := h2
  · rcases h.2 with ⟨rfl, _⟩ | ⟨g', cap, cur, rfl, _⟩
    · exact .inl rfl
    · exact .inr (fun e => by cases e)
  · exact ownsRow_other h hh he
theorem cellsOf_one : ∀ (l : List (Nat × Nat)), ∀ u ∈ cellsOf l, u.oneCell' = true
  | [], u, h => by cases h
  | x :: l, u, h => by
    have h' : u = .int .i64 (x.1 : Int) ∨ u = .int .i64 (x.2 : Int) ∨ u ∈ cellsOf l := by simpa [cellsOf] using h
    rcases h' with rfl | rfl | h'
    · rfl
    · rfl
    · exact cellsOf_one l u h'
/-- An empty slice is made. -/
theorem build33z (w : World) : (Instr.buildSlice 33 0 #[]).run Tryd.prog w = .ok (.slice (some ⟨w.heap.size, 0, none⟩) 0 0) (w.alloc (.cells #[] 106)) := by kernel_rfl
theorem build148z (w : World) : (Instr.buildSlice 148 0 #[]).run Tryd.prog w = .ok (.slice (some ⟨w.heap.size, 0, none⟩) 0 0) (w.alloc (.cells #[] 9)) := by kernel_rfl
theorem build148 (s : ByteArray) (w : World) : (Instr.buildSlice 148 1 #[(0, .string s)]).run Tryd.prog w = .ok (.slice (some ⟨w.heap.size, 0, none⟩) 1 1) (w.alloc (.cells #[.string s] 9)) := by kernel_rfl
theorem oper_buildz {o : Oper} {a : Act} {w : World} {K : Act → World → Prop} {Q : Exit → Act → World → Prop} {t e : Nat} (ho : o.op = .buildSlice t 0 #[])
    (hz : (Instr.buildSlice t 0 #[]).run Tryd.prog w = .ok (.slice (some ⟨w.heap.size, 0, none⟩) 0 0) (w.alloc (.cells #[] e)))
    (h : K (a.put o.dst (.slice (some ⟨w.heap.size, 0, none⟩) 0 0)) (w.alloc (.cells #[] e))) : Oper.wp Tryd.prog o a w K Q := by
  unfold Oper.wp execOp
  simp only [ho, Sem.run_bind, Array.map_empty, hz, Result.andThen_ok, Sem.run_pure]
  exact h
theorem wp_buildz {ops : Array Oper} {rest : List Oper} {o : Oper} {a : Act} {w : World} {Q : Exit → Act → World → Prop} {t e : Nat} (hgd : o.guard = none) (ho : o.op = .buildSlice t 0 #[])
    (hz : (Instr.buildSlice t 0 #[]).run Tryd.prog w = .ok (.slice (some ⟨w.heap.size, 0, none⟩) 0 0) (w.alloc (.cells #[] e)))
    (h : wpList Tryd.prog ops Q rest (a.put o.dst (.slice (some ⟨w.heap.size, 0, none⟩) 0 0)) (w.alloc (.cells #[] e))) : wpList Tryd.prog ops Q (o :: rest) a w :=
  wpList_plain hgd fun _ hK => oper_buildz ho hz (hK _ _ h)
/-- A slice of one element is made. -/
theorem oper_build1 {o : Oper} {a : Act} {w : World} {K : Act → World → Prop} {Q : Exit → Act → World → Prop} {t e : Nat} (x : Operand) (ho : o.op = .buildSlice t 1 #[(0, x)]) {u : Value} {C : Array Value} (hx : a.eval x = u)
    (hz : (Instr.buildSlice t 1 #[(0, u)]).run Tryd.prog w = .ok (.slice (some ⟨w.heap.size, 0, none⟩) 1 1) (w.alloc (.cells C e)))
    (h : K (a.put o.dst (.slice (some ⟨w.heap.size, 0, none⟩) 1 1)) (w.alloc (.cells C e))) : Oper.wp Tryd.prog o a w K Q := by
  have e : (#[(0, x)].map fun (i, x) => (i, a.eval x)) = #[(0, u)] := by simp [hx]
  unfold Oper.wp execOp
  simp only [ho, Sem.run_bind, e, hz, Result.andThen_ok, Sem.run_pure]
  exact h
theorem wp_build1 {ops : Array Oper} {rest : List Oper} {o : Oper} {a : Act} {w : World} {Q : Exit → Act → World → Prop} {t e : Nat} (hgd : o.guard = none) (x : Operand) (ho : o.op = .buildSlice t 1 #[(0, x)]) {u : Value} {C : Array Value} (hx : a.eval x = u)
    (hz : (Instr.buildSlice t 1 #[(0, u)]).run Tryd.prog w = .ok (.slice (some ⟨w.heap.size, 0, none⟩) 1 1) (w.alloc (.cells C e)))
    (h : wpList Tryd.prog ops Q rest (a.put o.dst (.slice (some ⟨w.heap.size, 0, none⟩) 1 1)) (w.alloc (.cells C e))) : wpList Tryd.prog ops Q (o :: rest) a w :=
  wpList_plain hgd fun _ hK => oper_build1 x ho hx hz (hK _ _ h)
/-- The owned row that is empty. -/
theorem owns_z (w : World) (base e size : Nat) (hb : base ≤ w.heap.size) : (w.alloc (.cells #[] e)).ownsRow base e size (.slice (some ⟨w.heap.size, 0, none⟩) 0 0) 0 [] := by
  have := World.ownsRow_lit (e := e) (size := size) w #[] 0 (Nat.le_refl _) (Nat.zero_le _) (by simp)
  exact ownsRow_base this hb
/-- A slice that a block of one element is. -/
theorem sees_one (w : World) (e size : Nat) (C : Array Value) (hC : C.size = size) : Sees (w.alloc (.cells C e)) size (.slice (some ⟨w.heap.size, 0, none⟩) 1 1) 1 C.toList := by
  refine ⟨_, _, rfl, Nat.le_refl _, by rw [Array.length_toList, hC, Nat.one_mul], fun _ => ⟨_, 0, rfl, fun j u hj => ?_⟩⟩
  rw [Array.getElem?_toList] at hj
  rw [Nat.zero_add]
  exact (Blk.new w C e).cell j |>.trans hj
/-- An owned row of one element. -/
theorem owns_one (w : World) (base e size : Nat) (C : Array Value) (hC : C.size = size) (hb : base ≤ w.heap.size) : (w.alloc (.cells C e)).ownsRow base e size (.slice (some ⟨w.heap.size, 0, none⟩) 1 1) 1 C.toList := by
  refine ⟨by rw [Array.length_toList, hC, Nat.one_mul], .inr ⟨w.heap.size, 1, C, rfl, hb, heap_alloc_new w _, Nat.le_refl _, by unfold maxLen; omega, by rw [hC, Nat.one_mul], ?_⟩⟩
  rw [Nat.one_mul, ← hC, ← Array.length_toList, List.take_length]
theorem addr_add0 (a : Addr) : a.add 0 = a := by cases a; rfl
/-- A slice cut at its end. -/
theorem exec_sliceTo {o : Oper} {W : World} (ρ : Operand → Value) (ty e : TypeId) (s : Nat) (x y : Operand) (ho : o.op = .slice ty x none (some y) none) (p : Option Addr) (k c hi : Nat) (hx : ρ x = .slice p k c) (hy : ρ y = .int .i64 (hi : Int))
    (hu : Tryd.prog.underlying ty = some (.slice e)) (hs : (Tryd.prog.info? e).map (·.size) = some s) (hk : hi ≤ c) :
    (execOp ρ o).run Tryd.prog W = .ok (.value (.slice p hi c)) W := by
  have hu' := run_underlying (P := Tryd.prog) (w := W) hu
  obtain ⟨i, hi', hs'⟩ := Option.map_eq_some_iff.1 hs
  have hk2 : (hi : Int) ≤ (c : Int) := by omega
  unfold execOp
  simp [ho, hx, hy, Instr.sliceAt, Instr.slice, Instr.sliceBounds, Instr.sliceBound, hu', sizeOf, typeInfo, hi', hs', asIntOf, hk, go_sem]
  try (intro _; cases p <;> simp [addr_add0])
/-- A slice cut at its beginning. -/
theorem exec_sliceFrom {o : Oper} {W : World} (ρ : Operand → Value) (ty e : TypeId) (s : Nat) (x y : Operand) (ho : o.op = .slice ty x (some y) none none) (p : Option Addr) (k c lo : Nat) (hx : ρ x = .slice p k c) (hy : ρ y = .int .i64 (lo : Int))
    (hu : Tryd.prog.underlying ty = some (.slice e)) (hs : (Tryd.prog.info? e).map (·.size) = some s) (hk : lo ≤ k) :
    (execOp ρ o).run Tryd.prog W = .ok (.value (.slice (if c = lo then p else p.map (·.add (lo * s))) (k - lo) (c - lo))) W := by
  have hu' := run_underlying (P := Tryd.prog) (w := W) hu
  obtain ⟨i, hi', hs'⟩ := Option.map_eq_some_iff.1 hs
  have hk2 : (lo : Int) ≤ (k : Int) := by omega
  unfold execOp
  simp [ho, hx, hy, Instr.sliceAt, Instr.slice, Instr.sliceBounds, Instr.sliceBound, hu', sizeOf, typeInfo, hi', hs', asIntOf, hk, go_sem]
theorem wp_sliceTo {ops : Array Oper} {rest : List Oper} {o : Oper} {a : Act} {w : World} {Q : Exit → Act → World → Prop} (hgd : o.guard = none) (ty e : TypeId) (s : Nat) (x y : Operand) (ho : o.op = .slice ty x none (some y) none) {p : Option Addr} {k c hi : Nat} (hx : a.eval x = .slice p k c) (hy : a.eval y = .int .i64 (hi : Int))
    (hu : Tryd.prog.underlying ty = some (.slice e)) (hs : (Tryd.prog.info? e).map (·.size) = some s) (hk : hi ≤ c) (h : wpList Tryd.prog ops Q rest (a.put o.dst (.slice p hi c)) w) : wpList Tryd.prog ops Q (o :: rest) a w := by
  refine wpList_plain hgd fun _ hK => ?_
  unfold Oper.wp
  rw [exec_sliceTo a.eval ty e s x y ho p k c hi hx hy hu hs hk]
  exact hK _ _ h
theorem wp_sliceFrom {ops : Array Oper} {rest : List Oper} {o : Oper} {a : Act} {w : World} {Q : Exit → Act → World → Prop} (hgd : o.guard = none) (ty e : TypeId) (s : Nat) (x y : Operand) (ho : o.op = .slice ty x (some y) none none) {p : Option Addr} {k c lo : Nat} (hx : a.eval x = .slice p k c) (hy : a.eval y = .int .i64 (lo : Int))
    (hu : Tryd.prog.underlying ty = some (.slice e)) (hs : (Tryd.prog.info? e).map (·.size) = some s) (hk : lo ≤ k) (h : wpList Tryd.prog ops Q rest (a.put o.dst (.slice (if c = lo then p else p.map (·.add (lo * s))) (k - lo) (c - lo))) w) : wpList Tryd.prog ops Q (o :: rest) a w := by
  refine wpList_plain hgd fun _ hK => ?_
  unfold Oper.wp
  rw [exec_sliceFrom a.eval ty e s x y ho p k c lo hx hy hu hs hk]
  exact hK _ _ h
theorem Digs.upto {W : World} {p : Option Addr} {n cap : Nat} {D : Nat → Nat → BitVec 8} (h : Digs W (.slice p n cap) n D) (m : Nat) (hm : m ≤ n) : Digs W (.slice p m cap) m D := by
  obtain ⟨p', c, h1, h2, h3⟩ := h
  injection h1 with a b c'
  subst a c'
  exact ⟨_, _, rfl, by omega, fun j hj => h3 j (by omega)⟩
theorem Digs.cap {W : World} {p : Option Addr} {n cap : Nat} {D : Nat → Nat → BitVec 8} (h : Digs W (.slice p n cap) n D) : n ≤ cap := by
  obtain ⟨p', c, h1, h2, h3⟩ := h
  injection h1 with a b c'
  subst a c'
  exact h2
theorem Digs.behind {W : World} {p : Option Addr} {n cap : Nat} {D : Nat → Nat → BitVec 8} (h : Digs W (.slice p n cap) n D) (m : Nat) (hm : m ≤ n) : Digs W (.slice (if cap = m then p else p.map (·.add (m * 16))) (n - m) (cap - m)) (n - m) (fun j => D (m + j)) := by
  obtain ⟨p', c, h1, h2, h3⟩ := h
  injection h1 with a b c'
  subst a c'
  refine ⟨_, _, rfl, by omega, fun j hj => ?_⟩
  obtain ⟨g', o', e, hr⟩ := h3 (m + j) (by omega)
  subst e
  rw [if_neg (by omega)]
  refine ⟨g', o' + m * 16, by simp [Addr.add_lit], ?_⟩
  rw [show o' + m * 16 + j * 16 = o' + (m + j) * 16 by omega]
  exact hr
theorem exec_neq23b {o : Oper} {w : World} (ρ : Operand → Value) (x y : Operand) (ho : o.op = .binOp .neq 23 x y 23) {f g : Nat → BitVec 8} {b : Bool} (hb : (!eqRow 16 f g) = b) (hx : ρ x = .agg (A8 16 f)) (hy : ρ y = .agg (A8 16 g)) :
    (execOp ρ o).run Tryd.prog w = .ok (.value (.bool b)) w := by rw [← hb]; exact exec_neq23 ρ x y ho hx hy
end Go.Proofs.YtdpgebifeaakjaaDoor
