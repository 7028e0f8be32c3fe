/- The walk of put. -/
import Derived.Test.YtdpgebifeaakjaaDoorG0
import Derived.Test.YtdpgebifeaakjaaDoorKL
namespace Go.Proofs.YtdpgebifeaakjaaDoor
set_option linter.unusedSimpArgs false
set_option linter.unusedVariables false
open Go.RowKit

theorem build33 (x1 x2 : Int) (w : World) : (Instr.buildSlice 33 1 #[(0, .agg #[.int .i64 x1, .int .i64 x2])]).run Tryd.prog w = .ok (.slice (some ⟨w.heap.size, 0, none⟩) 1 1) (w.alloc (.cells #[.int .i64 x1, .int .i64 x2] 106)) := by kernel_rfl
theorem step_build33 {ops : Array Oper} {o : Oper} {a : Act} {w : World} {K : Act → World → Prop} {Q : Exit → Act → World → Prop} {E : Prop} (hgd : o.guard = none) (x : Operand) (ho : o.op = .buildSlice 33 1 #[(0, x)])
    {x1 x2 : Int} (hx : a.eval x = .agg #[.int .i64 x1, .int .i64 x2])
    (h : K (a.put o.dst (.slice (some ⟨w.heap.size, 0, none⟩) 1 1)) (w.alloc (.cells #[.int .i64 x1, .int .i64 x2] 106))) : if Region.wanted o (yielded ops a.tmps) = true then Oper.wp Tryd.prog o a w K Q else E := by
  have hw : Region.wanted o (yielded ops a.tmps) = true := by simp [Region.wanted, hgd]
  rw [if_pos hw]
  unfold Oper.wp execOp
  have e : (#[(0, x)].map fun (i, x) => (i, a.eval x)) = #[(0, .agg #[.int .i64 x1, .int .i64 x2])] := by
    simp [hx]
  simp only [ho, Sem.run_bind, e, build33, Result.andThen_ok, Sem.run_pure]
  exact h
theorem oper_append_blk {o : Oper} {a : Act} {w : World} {Q : Exit → Act → World → Prop} {K : Act → World → Prop}
    (s x : Operand) (hop : o.op = Op.call { callee := Callee.builtin Builtin.append, args := #[s, x], argTypes := #[33, 33] })
    {base k bn : Nat} {v : Value} {xs : List Value} {x1 x2 : Int} (hs : a.eval s = v) (hv : w.ownsRow base 106 2 v k xs) (hx : a.eval x = .slice (some ⟨bn, 0, none⟩) 1 1) (hb : Blk w bn #[.int .i64 x1, .int .i64 x2] 106)
    (hk : k ≤ 100000) (hbase : base ≤ w.heap.size)
    (h : ∀ v' w', w'.ownsRow base 106 2 v' (k + 1) (xs ++ [.int .i64 x1, .int .i64 x2]) → w.grownBy w' v.ownBlock → Heads 106 (k * 2) w w' → K (a.put o.dst v') w') : Oper.wp Tryd.prog o a w K Q := by
  obtain ⟨i0, hi0, hz0, hz1, hz2⟩ := info_parts info106
  exact wp_append_heads s x 33 hop base 106 i0 _ 2 16 Tryd.underlying33 hi0 hz0 hz1 hz2 rfl (by omega) v k _ hs hv ⟨bn, 0, none⟩ 1 1 [.int .i64 x1, .int .i64 x2] hx rfl (by
      intro j u hj
      rw [Addr.add_lit, hb.cell, Nat.zero_add]
      simpa using hj) (by simp [Value.oneCell'])
    (by unfold maxLen; omega) (by omega) hbase fun v' w' h2 h3 h4 => h v' w' h2 h3 h4
theorem oper_append_dig {o : Oper} {a : Act} {w : World} {Q : Exit → Act → World → Prop} {K : Act → World → Prop}
    (s x : Operand) (hop : o.op = Op.call { callee := Callee.builtin Builtin.append, args := #[s, x], argTypes := #[80, 80] })
    {base k bn : Nat} {v : Value} {T : Nat → Nat → BitVec 8} {d : Nat → BitVec 8} (hs : a.eval s = v) (hv : w.ownsRow base 23 16 v k (digCells T k)) (hx : a.eval x = .slice (some ⟨bn, 0, none⟩) 1 1) (hb : Blk w bn (A8 16 d) 23)
    (hk : k ≤ 100000) (hbase : base ≤ w.heap.size)
    (h : ∀ v' w', w'.ownsRow base 23 16 v' (k + 1) (digCells (snocT k T d) (k + 1)) → w.grownBy w' v.ownBlock → Heads 23 (k * 16) w w' → K (a.put o.dst v') w') : Oper.wp Tryd.prog o a w K Q := by
  obtain ⟨i0, hi0, hz0, hz1, hz2⟩ := info_parts info23
  refine wp_append_heads s x 80 hop base 23 i0 _ 16 16 Tryd.underlying80 hi0 hz0 hz1 hz2 rfl (by omega) v k _ hs hv ⟨bn, 0, none⟩ 1 1 (A8 16 d).toList hx (by rw [Array.length_toList, A8.size]) (by
      intro j u hj
      rw [Addr.add_lit, hb.cell, Nat.zero_add]
      rw [Array.getElem?_toList] at hj
      exact hj) (by
      intro u hu
      obtain ⟨j, hj⟩ := List.getElem?_of_mem hu
      rw [Array.getElem?_toList] at hj
      have := A8.one (n := 16) d
      exact Array.all_eq_true_iff_forall_mem.1 this u (Array.mem_of_getElem? hj))
    (by unfold maxLen; omega) (by omega) hbase fun v' w' h2 h3 h4 => h v' w' (by rw [← digCells_snoc]; exact h2) h3 h4
theorem grown_ne {X w1 : World} {r : Option Nat} (h : X.grownBy w1 r) {g : Nat} {C : Array Value} {t : TypeId} (hb : Blk X g C t) (hne : some g ≠ r) : Blk w1 g C t := (h.block g hb.lt hne).trans hb
theorem own_ne_ty {X : World} {base e size k g : Nat} {v : Value} {xs : List Value} {C : Array Value} {t : TypeId} (h : X.ownsRow base e size v k xs) (hb : Blk X g C t) (ht : t ≠ e) : some g ≠ v.ownBlock := by
  rcases ownsRow_other h hb ht with h | h
  · rw [h]; simp
  · exact fun e => h e.symm
theorem lt_ne {v : Value} {m g : Nat} (h : ∀ q, v.ownBlock = some q → q < m) (hg : m ≤ g) : some g ≠ v.ownBlock := fun e => by
  have := h g e.symm
  omega
theorem own_ne_row {X : World} {base base2 e e2 size size2 k k2 : Nat} {v v2 : Value} {xs xs2 : List Value} (h : X.ownsRow base e size v k xs) (h2 : X.ownsRow base2 e2 size2 v2 k2 xs2) (ht : e ≠ e2 := by decide) : v.ownBlock = none ∨ v.ownBlock ≠ v2.ownBlock := by
  obtain ⟨_, ⟨rfl, _⟩ | ⟨g, cap, cur, rfl, _, hh, _⟩⟩ := h
  · exact .inl rfl
  · refine .inr fun e' => ?_
    obtain ⟨_, ⟨rfl, _⟩ | ⟨g', cap', cur', rfl, _, hh', _⟩⟩ := h2
    · cases e'
    · have e3 : some g = some g' := e'
      injection e3 with e3
      subst e3
      rw [hh] at hh'
      injection hh' with hh'
      injection hh' with _ h5 _
      exact ht h5
theorem heads_other {X Y : World} {base e size k s : Nat} {v : Value} {xs : List Value} {t : TypeId} (hg : X.grownBy Y v.ownBlock) (hr : X.ownsRow base e size v k xs) (ht : t ≠ e) : Heads t s X Y :=
  (Heads.refl _ _ _).of_same fun g C hl hb => hg.block g hl (own_ne_ty hr hb ht)
/-- What put leaves as it was. -/
structure Put (β b kb kt : Nat) (w w' : World) : Prop where
  below : Below β w w'
  others : KeepsOthers w w'
  blk : ∀ (g : Nat) (C : Array Value) (t : TypeId), Blk w g C t → t ≠ 106 → t ≠ 23 → g ≠ b → w'.heap[g]? = w.heap[g]?
  head33 : Heads 106 (kb * 2) w w'
  head80 : Heads 23 (kt * 16) w w'
theorem Put.refl (β b kb kt : Nat) (w : World) : Put β b kb kt w w := ⟨Below.refl _ _, KeepsOthers.refl _, fun _ _ _ _ _ _ _ => rfl, Heads.refl _ _ _, Heads.refl _ _ _⟩
theorem Put.drew {β b kb kt : Nat} {w w' : World} (h : Put β b kb kt w w') : Put β b kb kt w w'.drew := ⟨h.below.drew, h.others.trans (KeepsOthers.drew _), fun g C t h1 h2 h3 h4 => h.blk g C t h1 h2 h3 h4, h.head33.drew, h.head80.drew⟩
theorem Put.alloc {β b kb kt : Nat} {w w' : World} (h : Put β b kb kt w w') (hβ : β ≤ w.heap.size := by omega) (o : Obj) : Put β b kb kt w (w'.alloc o) :=
  ⟨h.below.alloc (Nat.le_trans hβ h.below.size) o, h.others.trans (KeepsOthers.alloc _ _), fun g C t hg h1 h2 h3 => (Below.heap_alloc _ _ _ (Nat.lt_of_lt_of_le hg.lt h.below.size)).trans (h.blk g C t hg h1 h2 h3), h.head33.alloc o, h.head80.alloc o⟩
theorem Put.grown {β b kb kt : Nat} {w X Y : World} (h : Put β b kb kt w X) {base e size k : Nat} {v : Value} {xs : List Value} (hg : X.grownBy Y v.ownBlock) (hr : X.ownsRow base e size v k xs) (hbase : β ≤ base) (hβ : β ≤ X.heap.size) (he : e = 106 ∨ e = 23) (h33 : Heads 106 (kb * 2) X Y) (h80 : Heads 23 (kt * 16) X Y) : Put β b kb kt w Y := by
  refine ⟨h.below.trans ((Below.refl β X).grown hg hβ fun q eq => Nat.le_trans hbase (hr.lt q eq).1), h.others.trans (KeepsOthers.of_grownBy hg fun j o ej hj => ?_), fun g C t hb h1 h2 h3 => ?_, h.head33.trans h33 (Nat.le_refl _), h.head80.trans h80 (Nat.le_refl _)⟩
  · obtain ⟨_, ⟨rfl, _⟩ | ⟨g, cap, cur, rfl, _, hh, _⟩⟩ := hr
    · cases ej
    · have e3 : some g = some j := ej
      injection e3 with e3
      subst e3
      rw [hh] at hj
      cases hj
      rfl
  · have hx : Blk X g C t := (h.blk g C t hb h1 h2 h3).trans hb
    have hy := grown_ne hg hx (own_ne_ty hr hx (by rcases he with he | he <;> subst he <;> assumption))
    exact (show Y.heap[g]? = _ from hy).trans (show w.heap[g]? = _ from hb).symm
theorem Put.set {β b kb kt : Nat} {w X : World} (h : Put β b kb kt w X) (hb : β ≤ b) (j : Nat) (v : Value) {C : Array Value} (hk : Blk X b C 142) : Put β b kb kt w (X.setCell ⟨b, j, none⟩ v) :=
  ⟨h.below.setCell (p := ⟨b, j, none⟩) hb v, h.others.trans (KeepsOthers.setCell _ _ _), fun g C t hg h1 h2 h3 => (Below.heap_setCell _ _ _ _ h3).trans (h.blk g C t hg h1 h2 h3), h.head33.set (p := ⟨b, j, none⟩) v hk (by decide), h.head80.set (p := ⟨b, j, none⟩) v hk (by decide)⟩
theorem put_fin {β b kb kt k k' : Nat} {w X : World} {lv u v V U : Value} {xs ys : List Value} (kx : Blk X b #[lv, u, v] 142) (r33 : X.ownsRow β 106 2 V k xs) (r80 : X.ownsRow β 23 16 U k' ys) (pt : Put β b kb kt w X) (hβ : β ≤ b) :
    Blk ((X.setCell ⟨b, 1, none⟩ V).setCell ⟨b, 2, none⟩ U) b #[lv, V, U] 142 ∧ ((X.setCell ⟨b, 1, none⟩ V).setCell ⟨b, 2, none⟩ U).ownsRow β 106 2 V k xs ∧ ((X.setCell ⟨b, 1, none⟩ V).setCell ⟨b, 2, none⟩ U).ownsRow β 23 16 U k' ys ∧ Put β b kb kt w ((X.setCell ⟨b, 1, none⟩ V).setCell ⟨b, 2, none⟩ U) := by
  have k1 := kx.set 1 V
  have a1 := r33.kept (grownBy_setCell X ⟨b, 1, none⟩ V) (ownsRow_other r33 kx (by decide))
  have a2 := r80.kept (grownBy_setCell X ⟨b, 1, none⟩ V) (ownsRow_other r80 kx (by decide))
  exact ⟨k1.set 2 U, a1.kept (grownBy_setCell _ ⟨b, 2, none⟩ U) (ownsRow_other a1 k1 (by decide)), a2.kept (grownBy_setCell _ ⟨b, 2, none⟩ U) (ownsRow_other a2 k1 (by decide)), (pt.set hβ 1 V kx).set hβ 2 U k1⟩
set_option maxRecDepth 20000 in
set_option maxHeartbeats 2000000 in
theorem put_any (β b kb kt : Nat) (lv : Value) (bp tp : Option Addr) (bn bc tn tc : Nat) (xs : List Value) (T : Nat → Nat → BitVec 8) (x1 x2 : Int) (d : Nat → BitVec 8) (w : World) (hβ : β ≤ b) (hkb : kb ≤ 100000) (hkt : kt ≤ 100000)
    (hf : Blk w b #[lv, .slice bp bn bc, .slice tp tn tc] 142) (r33 : w.ownsRow β 106 2 (.slice bp bn bc) kb xs) (r80 : w.ownsRow β 23 16 (.slice tp tn tc) kt (digCells T kt)) :
    Calls Tryd.prog 93 #[.pointer (some ⟨b, 0, none⟩), .agg #[.int .i64 x1, .int .i64 x2], .agg (A8 16 d)] w fun e w' => (∃ v, e = .returned v) ∧ ∃ vb1 vb2 vb3 vt1 vt2 vt3, Blk w' b #[lv, .slice vb1 vb2 vb3, .slice vt1 vt2 vt3] 142 ∧
      w'.ownsRow β 106 2 (.slice vb1 vb2 vb3) (kb + 1) (xs ++ [.int .i64 x1, .int .i64 x2]) ∧ w'.ownsRow β 23 16 (.slice vt1 vt2 vt3) (kt + 1) (digCells (snocT kt T d) (kt + 1)) ∧ Put β b kb kt w w' := by
  have hbx := box23 d
  have k4 := Blk.new w #[.int .i64 x1, .int .i64 x2] 106
  have k5 := Blk.new (w.alloc (.cells #[.int .i64 x1, .int .i64 x2] 106)) (A8 16 d) 23
  rw [World.size_alloc] at k5
  replace k4 := k4.alloc (.cells (A8 16 d) 23)
  have lb := hf.lt
  have hβw : β ≤ w.heap.size := by omega
  have kb0 := (hf.alloc (.cells #[.int .i64 x1, .int .i64 x2] 106)).alloc (.cells (A8 16 d) 23)
  have pt := (((Put.refl β b kb kt w).alloc hβw (.cells #[.int .i64 x1, .int .i64 x2] 106))).alloc hβw (.cells (A8 16 d) 23)
  have l33 : ∀ q, (Value.slice bp bn bc).ownBlock = some q → q < w.heap.size := fun q e => (r33.lt q e).2
  have l80 : ∀ q, (Value.slice tp tn tc).ownBlock = some q → q < w.heap.size := fun q e => (r80.lt q e).2
  replace r33 := ownsRow_below (ownsRow_below r33 ((Below.refl _ _).alloc (Nat.le_refl _) (.cells #[.int .i64 x1, .int .i64 x2] 106))) ((Below.refl _ _).alloc (Nat.le_refl _) (.cells (A8 16 d) 23))
  replace r80 := ownsRow_below (ownsRow_below r80 ((Below.refl _ _).alloc (Nat.le_refl _) (.cells #[.int .i64 x1, .int .i64 x2] 106))) ((Below.refl _ _).alloc (Nat.le_refl _) (.cells (A8 16 d) 23))
  obtain ⟨W1, hW1⟩ : ∃ W1, (w.alloc (.cells #[.int .i64 x1, .int .i64 x2] 106)).alloc (.cells (A8 16 d) 23) = W1 := ⟨_, rfl⟩
  rw [hW1] at k4 k5 kb0 pt r33 r80
  clear hf
  go_enter Tryd.func93, Tryd.ntmps93
  go_upto_region 1 with (fail)
  try rw [hW1]
  clear hW1 hbx
  replace pt := pt.drew
  replace r33 := r33.drew
  replace r80 := r80.drew
  refine wp_region_keptK (S := fun w' => Blk w' b #[lv, .slice bp bn bc, .slice tp tn tc] 142 ∧ Blk w' w.heap.size #[.int .i64 x1, .int .i64 x2] 106 ∧ Blk w' (w.heap.size + 1) (A8 16 d) 23) 18 (by kernel_rfl) (⟨kb0.drew, k4.drew, k5.drew⟩) (fun hS => ?_)
  simp only [List.size_toArray, List.length_cons, List.length_nil, Nat.reduceAdd, Array.replicate_succ, Array.replicate_zero, List.push_toArray, List.nil_append, List.cons_append]
  refine take_atK (i := 0) 6 (.pointer (some ⟨b, 0, none⟩)) [18] rfl rfl (by kernel_rfl) (by decide) (by decide) (by kernel_rfl) (by kernel_rfl) (by kernel_rfl) (by kernel_rfl) (fun _ _ _ h => h) (Or.inl ⟨by rfl, fun W hW => by go_simp⟩) hS ?_
  try simp only [List.setIfInBounds_toArray, List.set_cons_zero, List.set_cons_succ]
  refine take_atU (i := 1) 7 (.pointer (some ⟨b, 0, none⟩)) rfl rfl (by decide) (by kernel_rfl) (by kernel_rfl) (by kernel_rfl) (fun _ _ _ h => h) (Or.inl ⟨by rfl, fun W hW => by go_simp⟩) hS ?_
  try simp only [List.setIfInBounds_toArray, List.set_cons_zero, List.set_cons_succ]
  refine take_atK (i := 2) 8 (.pointer (some ⟨b, 0, none⟩)) [18] rfl rfl (by kernel_rfl) (by decide) (by decide) (by kernel_rfl) (by kernel_rfl) (by kernel_rfl) (by kernel_rfl) (fun _ _ _ h => h) (Or.inl ⟨by rfl, fun W hW => by go_simp⟩) hS ?_
  try simp only [List.setIfInBounds_toArray, List.set_cons_zero, List.set_cons_succ]
  refine take_atK (i := 3) 9 (.pointer (some ⟨b, 0, none⟩)) [18] rfl rfl (by kernel_rfl) (by decide) (by decide) (by kernel_rfl) (by kernel_rfl) (by kernel_rfl) (by kernel_rfl) (fun _ _ _ h => h) (Or.inl ⟨by rfl, fun W hW => by go_simp⟩) hS ?_
  try simp only [List.setIfInBounds_toArray, List.set_cons_zero, List.set_cons_succ]
  refine take_atK (i := 4) 10 (.pointer (some ⟨b, 1, none⟩)) [18] rfl rfl (by kernel_rfl) (by decide) (by decide) (by kernel_rfl) (by kernel_rfl) (by kernel_rfl) (by kernel_rfl) (fun _ _ _ h => h) (Or.inl ⟨by rfl, fun W hW => by go_simp⟩) hS ?_
  try simp only [List.setIfInBounds_toArray, List.set_cons_zero, List.set_cons_succ]
  refine take_atK (i := 5) 11 (.slice bp bn bc) [18] rfl rfl (by kernel_rfl) (by decide) (by decide) (by kernel_rfl) (by kernel_rfl) (by kernel_rfl) (by kernel_rfl) (fun _ _ _ h => h) (Or.inl ⟨by rfl, fun W hW => by have hc := hW.1.cell 1; go_simp⟩) hS ?_
  try simp only [List.setIfInBounds_toArray, List.set_cons_zero, List.set_cons_succ]
  refine take_atK (i := 6) 12 (.agg #[.int .i64 x1, .int .i64 x2]) [18] rfl rfl (by kernel_rfl) (by decide) (by decide) (by kernel_rfl) (by kernel_rfl) (by kernel_rfl) (by kernel_rfl) (fun _ _ _ h => h) (Or.inl ⟨by rfl, fun W hW => by have hc := hW.2.1.cell 0; have hc2 := hW.2.1.cell 1; go_simp⟩) hS ?_
  try simp only [List.setIfInBounds_toArray, List.set_cons_zero, List.set_cons_succ]
  refine take_atK (i := 9) 15 (.pointer (some ⟨b, 0, none⟩)) [10, 11, 12, 18] rfl rfl (by kernel_rfl) (by decide) (by decide) (by kernel_rfl) (by kernel_rfl) (by kernel_rfl) (by kernel_rfl) (fun _ _ _ h => h) (Or.inl ⟨by rfl, fun W hW => by go_simp⟩) hS ?_
  try simp only [List.setIfInBounds_toArray, List.set_cons_zero, List.set_cons_succ]
  refine take_atK (i := 10) 16 (.pointer (some ⟨b, 0, none⟩)) [11, 12, 18] rfl rfl (by kernel_rfl) (by decide) (by decide) (by kernel_rfl) (by kernel_rfl) (by kernel_rfl) (by kernel_rfl) (fun _ _ _ h => h) (Or.inl ⟨by rfl, fun W hW => by go_simp⟩) hS ?_
  try simp only [List.setIfInBounds_toArray, List.set_cons_zero, List.set_cons_succ]
  refine take_atK (i := 11) 17 (.pointer (some ⟨b, 2, none⟩)) [12, 18] rfl rfl (by kernel_rfl) (by decide) (by decide) (by kernel_rfl) (by kernel_rfl) (by kernel_rfl) (by kernel_rfl) (fun _ _ _ h => h) (Or.inl ⟨by rfl, fun W hW => by go_simp⟩) hS ?_
  try simp only [List.setIfInBounds_toArray, List.set_cons_zero, List.set_cons_succ]
  refine take_atK (i := 12) 18 (.slice tp tn tc) [18] rfl rfl (by kernel_rfl) (by decide) (by decide) (by kernel_rfl) (by kernel_rfl) (by kernel_rfl) (by kernel_rfl) (fun _ _ _ h => h) (Or.inl ⟨by rfl, fun W hW => by have hc := hW.1.cell 2; go_simp⟩) hS ?_
  try simp only [List.setIfInBounds_toArray, List.set_cons_zero, List.set_cons_succ]
  refine take_atK (i := 13) 19 (.agg (A8 16 d)) [14, 15, 18] rfl rfl (by kernel_rfl) (by decide) (by decide) (by kernel_rfl) (by kernel_rfl) (by kernel_rfl) (by kernel_rfl) (fun _ _ _ h => h) (Or.inl ⟨by rfl, fun W hW => exec_load_blk hW.2.2⟩) hS ?_
  try simp only [List.setIfInBounds_toArray, List.set_cons_zero, List.set_cons_succ]
  refine wpAnyK_ready (rs := [7, 14]) (by kernel_rfl) (by simp) ?_
  refine AllReadyK.cons rfl (fun K hK => ?_) ?_
  · skip
    have z33 := Blk.new W1.drew #[.int .i64 x1, .int .i64 x2] 106
    refine step_build33 rfl (.tmp 12) rfl rfl ?_
    refine hK.out _ _ (⟨hS.1.alloc _, hS.2.1.alloc _, hS.2.2.alloc _⟩) (fun hS => ?_)
    clear hK K
    have r33 := ownsRow_below r33 ((Below.refl _ _).alloc (Nat.le_refl _) (.cells #[.int .i64 x1, .int .i64 x2] 106))
    have r80 := ownsRow_below r80 ((Below.refl _ _).alloc (Nat.le_refl _) (.cells #[.int .i64 x1, .int .i64 x2] 106))
    have pt := pt.alloc hβw (.cells #[.int .i64 x1, .int .i64 x2] 106)
    try simp only [Act.put, List.getElem_toArray, List.getElem_cons_succ, List.getElem_cons_zero, List.setIfInBounds_toArray, List.set_cons_zero, List.set_cons_succ]
    refine wpAnyK_ready (rs := [8, 14]) (by kernel_rfl) (by simp) ?_
    refine AllReadyK.cons rfl (fun K hK => ?_) ?_
    · skip
      rw [if_pos (by rfl)]
      refine oper_append_blk (v := .slice bp bn bc) _ _ rfl rfl r33 rfl z33 (by omega) (by have := hS.1.lt; have := hS.2.2.lt; omega) ?_
      intro v8 Y2 r33n hg8 hh8
      obtain ⟨vb1, vb2, vb3, rfl⟩ := ownsRow_slice' r33n
      have g1 := grown_ne hg8 hS.1 (own_ne_ty r33 hS.1 (by decide))
      have g2 := grown_ne hg8 hS.2.1 (lt_ne l33 (Nat.le_refl _))
      have g3 := grown_ne hg8 hS.2.2 (own_ne_ty r33 hS.2.2 (by decide))
      refine hK.out _ _ (⟨g1, g2, g3⟩) (fun hS => ?_)
      clear hK K
      have pt := pt.grown hg8 r33 (Nat.le_refl _) (Nat.le_trans hβw pt.below.size) (.inl rfl) hh8 (heads_other hg8 r33 (by decide))
      have r80 := r80.kept hg8 (own_ne_row r80 r33)
      clear r33 hg8 hh8 g1 g2 g3
      have r33 := r33n
      clear r33n
      try simp only [Act.put, List.getElem_toArray, List.getElem_cons_succ, List.getElem_cons_zero, List.setIfInBounds_toArray, List.set_cons_zero, List.set_cons_succ]
      refine wpAnyK_ready (rs := [14]) (by kernel_rfl) (by simp) ?_
      refine AllReadyK.cons rfl (fun K hK => ?_) AllReadyK.nil
      have z80 := Blk.new Y2 (A8 16 d) 23
      refine step_build80 rfl (.tmp 19) rfl (T := d) rfl ?_
      refine hK.out _ _ (⟨hS.1.alloc _, hS.2.1.alloc _, hS.2.2.alloc _⟩) (fun hS => ?_)
      clear hK K
      have r33 := ownsRow_below r33 ((Below.refl _ _).alloc (Nat.le_refl _) (.cells (A8 16 d) 23))
      have r80 := ownsRow_below r80 ((Below.refl _ _).alloc (Nat.le_refl _) (.cells (A8 16 d) 23))
      have pt := pt.alloc hβw (.cells (A8 16 d) 23)
      try simp only [Act.put, List.getElem_toArray, List.getElem_cons_succ, List.getElem_cons_zero, List.setIfInBounds_toArray, List.set_cons_zero, List.set_cons_succ]
      refine wpAnyK_ready (rs := [15]) (by kernel_rfl) (by simp) ?_
      refine AllReadyK.cons rfl (fun K hK => ?_) AllReadyK.nil
      rw [if_pos (by rfl)]
      refine oper_append_dig (v := .slice tp tn tc) _ _ rfl rfl r80 rfl z80 (by omega) (by have := hS.1.lt; have := hS.2.2.lt; omega) ?_
      intro v9 Z4 r80n hg9 hh9
      obtain ⟨vt1, vt2, vt3, rfl⟩ := ownsRow_slice' r80n
      have g1 := grown_ne hg9 hS.1 (own_ne_ty r80 hS.1 (by decide))
      have g2 := grown_ne hg9 hS.2.1 (own_ne_ty r80 hS.2.1 (by decide))
      have g3 := grown_ne hg9 hS.2.2 (lt_ne l80 (Nat.le_succ _))
      refine hK.out _ _ (⟨g1, g2, g3⟩) (fun hS => ?_)
      clear hK K
      have pt := pt.grown hg9 r80 (Nat.le_refl _) (Nat.le_trans hβw pt.below.size) (.inr rfl) (heads_other hg9 r80 (by decide)) hh9
      have r33 := r33.kept hg9 (own_ne_row r33 r80)
      clear r80 hg9 hh9 g1 g2 g3
      have r80 := r80n
      clear r80n
      try simp only [Act.put, List.getElem_toArray, List.getElem_cons_succ, List.getElem_cons_zero, List.setIfInBounds_toArray, List.set_cons_zero, List.set_cons_succ]
      refine take_atK (i := 16) 22 (.pointer (some ⟨b, 0, none⟩)) [17, 18] rfl rfl (by kernel_rfl) (by decide) (by decide) (by kernel_rfl) (by kernel_rfl) (by kernel_rfl) (by kernel_rfl) (fun _ _ _ h => h) (Or.inl ⟨by rfl, fun W hW => by go_simp⟩) hS ?_
      try simp only [List.setIfInBounds_toArray, List.set_cons_zero, List.set_cons_succ]
      refine take_atK (i := 17) 23 (.pointer (some ⟨b, 1, none⟩)) [18] rfl rfl (by kernel_rfl) (by decide) (by decide) (by kernel_rfl) (by kernel_rfl) (by kernel_rfl) (by kernel_rfl) (fun _ _ _ h => h) (Or.inl ⟨by rfl, fun W hW => by go_simp⟩) hS ?_
      try simp only [List.setIfInBounds_toArray, List.set_cons_zero, List.set_cons_succ]
      refine storeK (by kernel_rfl) (by decide) rfl rfl (fun K hK => ?_)
      have c1 := hS.1.cell 1
      have f1 := hS.1.free 1
      have kx := hS.1
      have kb1 := hS.1.set 1 (.slice vb1 vb2 vb3)
      go_simp
      refine hK.out _ _ ?_
      clear hK K
      have hS : True := trivial
      have c2 := kb1.cell 2
      have f2 := kb1.free 2
      try simp only [Act.put, List.getElem_toArray, List.getElem_cons_succ, List.getElem_cons_zero, List.setIfInBounds_toArray, List.set_cons_zero, List.set_cons_succ]
      refine take_at (i := 19) 24 (.pointer (some ⟨b, 0, none⟩)) rfl rfl (by kernel_rfl) (by kernel_rfl) (by kernel_rfl) (fun _ _ _ h => h) (Or.inl ⟨by rfl, fun W hW => by go_simp⟩) hS ?_
      try simp only [List.setIfInBounds_toArray, List.set_cons_zero, List.set_cons_succ]
      refine take_at (i := 20) 25 (.pointer (some ⟨b, 2, none⟩)) rfl rfl (by kernel_rfl) (by kernel_rfl) (by kernel_rfl) (fun _ _ _ h => h) (Or.inl ⟨by rfl, fun W hW => by go_simp⟩) hS ?_
      try simp only [List.setIfInBounds_toArray, List.set_cons_zero, List.set_cons_succ]
      refine wpAnyH_ready (rs := [21]) (by kernel_rfl) (by simp) ?_
      refine AllReadyH.cons rfl (fun K hK => ?_) AllReadyH.nil
      go_simp
      refine hK.out _ _ (trivial) (fun hS => ?_)
      clear hK K
      try simp only [Act.put, List.getElem_toArray, List.getElem_cons_succ, List.getElem_cons_zero, List.setIfInBounds_toArray, List.set_cons_zero, List.set_cons_succ]
      refine wpAnyH_done (by kernel_rfl) ?_ _
      go_wp2_with fail
      go_end0
      exact ⟨⟨_, rfl⟩, _, _, _, _, _, _, put_fin kx r33 r80 pt hβ⟩
    refine AllReadyK.cons rfl (fun K hK => ?_) AllReadyK.nil
    have z80 := Blk.new (W1.drew.alloc (.cells #[.int .i64 x1, .int .i64 x2] 106)) (A8 16 d) 23
    refine step_build80 rfl (.tmp 19) rfl (T := d) rfl ?_
    refine hK.out _ _ (⟨hS.1.alloc _, hS.2.1.alloc _, hS.2.2.alloc _⟩) (fun hS => ?_)
    clear hK K
    have r33 := ownsRow_below r33 ((Below.refl _ _).alloc (Nat.le_refl _) (.cells (A8 16 d) 23))
    have r80 := ownsRow_below r80 ((Below.refl _ _).alloc (Nat.le_refl _) (.cells (A8 16 d) 23))
    have pt := pt.alloc hβw (.cells (A8 16 d) 23)
    have z33 := z33.alloc (.cells (A8 16 d) 23)
    try simp only [Act.put, List.getElem_toArray, List.getElem_cons_succ, List.getElem_cons_zero, List.setIfInBounds_toArray, List.set_cons_zero, List.set_cons_succ]
    refine wpAnyK_ready (rs := [8]) (by kernel_rfl) (by simp) ?_
    refine AllReadyK.cons rfl (fun K hK => ?_) AllReadyK.nil
    rw [if_pos (by rfl)]
    refine oper_append_blk (v := .slice bp bn bc) _ _ rfl rfl r33 rfl z33 (by omega) (by have := hS.1.lt; have := hS.2.2.lt; omega) ?_
    intro v8 Y8 r33n hg8 hh8
    obtain ⟨vb1, vb2, vb3, rfl⟩ := ownsRow_slice' r33n
    have g1 := grown_ne hg8 hS.1 (own_ne_ty r33 hS.1 (by decide))
    have g2 := grown_ne hg8 hS.2.1 (lt_ne l33 (Nat.le_refl _))
    have g3 := grown_ne hg8 hS.2.2 (own_ne_ty r33 hS.2.2 (by decide))
    refine hK.out _ _ (⟨g1, g2, g3⟩) (fun hS => ?_)
    clear hK K
    have pt := pt.grown hg8 r33 (Nat.le_refl _) (Nat.le_trans hβw pt.below.size) (.inl rfl) hh8 (heads_other hg8 r33 (by decide))
    have r80 := r80.kept hg8 (own_ne_row r80 r33)
    have z80 := grown_ne hg8 z80 (own_ne_ty r33 z80 (by decide))
    clear r33 hg8 hh8 g1 g2 g3
    have r33 := r33n
    clear r33n
    try simp only [Act.put, List.getElem_toArray, List.getElem_cons_succ, List.getElem_cons_zero, List.setIfInBounds_toArray, List.set_cons_zero, List.set_cons_succ]
    refine wpAnyK_ready (rs := [15]) (by kernel_rfl) (by simp) ?_
    refine AllReadyK.cons rfl (fun K hK => ?_) AllReadyK.nil
    rw [if_pos (by rfl)]
    refine oper_append_dig (v := .slice tp tn tc) _ _ rfl rfl r80 rfl z80 (by omega) (by have := hS.1.lt; have := hS.2.2.lt; omega) ?_
    intro v9 Z9 r80n hg9 hh9
    obtain ⟨vt1, vt2, vt3, rfl⟩ := ownsRow_slice' r80n
    have g1 := grown_ne hg9 hS.1 (own_ne_ty r80 hS.1 (by decide))
    have g2 := grown_ne hg9 hS.2.1 (own_ne_ty r80 hS.2.1 (by decide))
    have g3 := grown_ne hg9 hS.2.2 (lt_ne l80 (Nat.le_succ _))
    refine hK.out _ _ (⟨g1, g2, g3⟩) (fun hS => ?_)
    clear hK K
    have pt := pt.grown hg9 r80 (Nat.le_refl _) (Nat.le_trans hβw pt.below.size) (.inr rfl) (heads_other hg9 r80 (by decide)) hh9
    have r33 := r33.kept hg9 (own_ne_row r33 r80)
    clear r80 hg9 hh9 g1 g2 g3
    have r80 := r80n
    clear r80n
    try simp only [Act.put, List.getElem_toArray, List.getElem_cons_succ, List.getElem_cons_zero, List.setIfInBounds_toArray, List.set_cons_zero, List.set_cons_succ]
    refine take_atK (i := 16) 22 (.pointer (some ⟨b, 0, none⟩)) [17, 18] rfl rfl (by kernel_rfl) (by decide) (by decide) (by kernel_rfl) (by kernel_rfl) (by kernel_rfl) (by kernel_rfl) (fun _ _ _ h => h) (Or.inl ⟨by rfl, fun W hW => by go_simp⟩) hS ?_
    try simp only [List.setIfInBounds_toArray, List.set_cons_zero, List.set_cons_succ]
    refine take_atK (i := 17) 23 (.pointer (some ⟨b, 1, none⟩)) [18] rfl rfl (by kernel_rfl) (by decide) (by decide) (by kernel_rfl) (by kernel_rfl) (by kernel_rfl) (by kernel_rfl) (fun _ _ _ h => h) (Or.inl ⟨by rfl, fun W hW => by go_simp⟩) hS ?_
    try simp only [List.setIfInBounds_toArray, List.set_cons_zero, List.set_cons_succ]
    refine storeK (by kernel_rfl) (by decide) rfl rfl (fun K hK => ?_)
    have c1 := hS.1.cell 1
    have f1 := hS.1.free 1
    have kx := hS.1
    have kb1 := hS.1.set 1 (.slice vb1 vb2 vb3)
    go_simp
    refine hK.out _ _ ?_
    clear hK K
    have hS : True := trivial
    have c2 := kb1.cell 2
    have f2 := kb1.free 2
    try simp only [Act.put, List.getElem_toArray, List.getElem_cons_succ, List.getElem_cons_zero, List.setIfInBounds_toArray, List.set_cons_zero, List.set_cons_succ]
    refine take_at (i := 19) 24 (.pointer (some ⟨b, 0, none⟩)) rfl rfl (by kernel_rfl) (by kernel_rfl) (by kernel_rfl) (fun _ _ _ h => h) (Or.inl ⟨by rfl, fun W hW => by go_simp⟩) hS ?_
    try simp only [List.setIfInBounds_toArray, List.set_cons_zero, List.set_cons_succ]
    refine take_at (i := 20) 25 (.pointer (some ⟨b, 2, none⟩)) rfl rfl (by kernel_rfl) (by kernel_rfl) (by kernel_rfl) (fun _ _ _ h => h) (Or.inl ⟨by rfl, fun W hW => by go_simp⟩) hS ?_
    try simp only [List.setIfInBounds_toArray, List.set_cons_zero, List.set_cons_succ]
    refine wpAnyH_ready (rs := [21]) (by kernel_rfl) (by simp) ?_
    refine AllReadyH.cons rfl (fun K hK => ?_) AllReadyH.nil
    go_simp
    refine hK.out _ _ (trivial) (fun hS => ?_)
    clear hK K
    try simp only [Act.put, List.getElem_toArray, List.getElem_cons_succ, List.getElem_cons_zero, List.setIfInBounds_toArray, List.set_cons_zero, List.set_cons_succ]
    refine wpAnyH_done (by kernel_rfl) ?_ _
    go_wp2_with fail
    go_end0
    exact ⟨⟨_, rfl⟩, _, _, _, _, _, _, put_fin kx r33 r80 pt hβ⟩
  refine AllReadyK.cons rfl (fun K hK => ?_) AllReadyK.nil
  have z80 := Blk.new W1.drew (A8 16 d) 23
  refine step_build80 rfl (.tmp 19) rfl (T := d) rfl ?_
  refine hK.out _ _ (⟨hS.1.alloc _, hS.2.1.alloc _, hS.2.2.alloc _⟩) (fun hS => ?_)
  clear hK K
  have r33 := ownsRow_below r33 ((Below.refl _ _).alloc (Nat.le_refl _) (.cells (A8 16 d) 23))
  have r80 := ownsRow_below r80 ((Below.refl _ _).alloc (Nat.le_refl _) (.cells (A8 16 d) 23))
  have pt := pt.alloc hβw (.cells (A8 16 d) 23)
  try simp only [Act.put, List.getElem_toArray, List.getElem_cons_succ, List.getElem_cons_zero, List.setIfInBounds_toArray, List.set_cons_zero, List.set_cons_succ]
  refine wpAnyK_ready (rs := [7]) (by kernel_rfl) (by simp) ?_
  refine AllReadyK.cons rfl (fun K hK => ?_) AllReadyK.nil
  have z33 := Blk.new (W1.drew.alloc (.cells (A8 16 d) 23)) #[.int .i64 x1, .int .i64 x2] 106
  refine step_build33 rfl (.tmp 12) rfl rfl ?_
  refine hK.out _ _ (⟨hS.1.alloc _, hS.2.1.alloc _, hS.2.2.alloc _⟩) (fun hS => ?_)
  clear hK K
  have r33 := ownsRow_below r33 ((Below.refl _ _).alloc (Nat.le_refl _) (.cells #[.int .i64 x1, .int .i64 x2] 106))
  have r80 := ownsRow_below r80 ((Below.refl _ _).alloc (Nat.le_refl _) (.cells #[.int .i64 x1, .int .i64 x2] 106))
  have pt := pt.alloc hβw (.cells #[.int .i64 x1, .int .i64 x2] 106)
  have z80 := z80.alloc (.cells #[.int .i64 x1, .int .i64 x2] 106)
  try simp only [Act.put, List.getElem_toArray, List.getElem_cons_succ, List.getElem_cons_zero, List.setIfInBounds_toArray, List.set_cons_zero, List.set_cons_succ]
  refine wpAnyK_ready (rs := [8]) (by kernel_rfl) (by simp) ?_
  refine AllReadyK.cons rfl (fun K hK => ?_) AllReadyK.nil
  rw [if_pos (by rfl)]
  refine oper_append_blk (v := .slice bp bn bc) _ _ rfl rfl r33 rfl z33 (by omega) (by have := hS.1.lt; have := hS.2.2.lt; omega) ?_
  intro v8 Y14 r33n hg8 hh8
  obtain ⟨vb1, vb2, vb3, rfl⟩ := ownsRow_slice' r33n
  have g1 := grown_ne hg8 hS.1 (own_ne_ty r33 hS.1 (by decide))
  have g2 := grown_ne hg8 hS.2.1 (lt_ne l33 (Nat.le_refl _))
  have g3 := grown_ne hg8 hS.2.2 (own_ne_ty r33 hS.2.2 (by decide))
  refine hK.out _ _ (⟨g1, g2, g3⟩) (fun hS => ?_)
  clear hK K
  have pt := pt.grown hg8 r33 (Nat.le_refl _) (Nat.le_trans hβw pt.below.size) (.inl rfl) hh8 (heads_other hg8 r33 (by decide))
  have r80 := r80.kept hg8 (own_ne_row r80 r33)
  have z80 := grown_ne hg8 z80 (own_ne_ty r33 z80 (by decide))
  clear r33 hg8 hh8 g1 g2 g3
  have r33 := r33n
  clear r33n
  try simp only [Act.put, List.getElem_toArray, List.getElem_cons_succ, List.getElem_cons_zero, List.setIfInBounds_toArray, List.set_cons_zero, List.set_cons_succ]
  refine wpAnyK_ready (rs := [15]) (by kernel_rfl) (by simp) ?_
  refine AllReadyK.cons rfl (fun K hK => ?_) AllReadyK.nil
  rw [if_pos (by rfl)]
  refine oper_append_dig (v := .slice tp tn tc) _ _ rfl rfl r80 rfl z80 (by omega) (by have := hS.1.lt; have := hS.2.2.lt; omega) ?_
  intro v9 Z15 r80n hg9 hh9
  obtain ⟨vt1, vt2, vt3, rfl⟩ := ownsRow_slice' r80n
  have g1 := grown_ne hg9 hS.1 (own_ne_ty r80 hS.1 (by decide))
  have g2 := grown_ne hg9 hS.2.1 (own_ne_ty r80 hS.2.1 (by decide))
  have g3 := grown_ne hg9 hS.2.2 (lt_ne l80 (Nat.le_succ _))
  refine hK.out _ _ (⟨g1, g2, g3⟩) (fun hS => ?_)
  clear hK K
  have pt := pt.grown hg9 r80 (Nat.le_refl _) (Nat.le_trans hβw pt.below.size) (.inr rfl) (heads_other hg9 r80 (by decide)) hh9
  have r33 := r33.kept hg9 (own_ne_row r33 r80)
  clear r80 hg9 hh9 g1 g2 g3
  have r80 := r80n
  clear r80n
  try simp only [Act.put, List.getElem_toArray, List.getElem_cons_succ, List.getElem_cons_zero, List.setIfInBounds_toArray, List.set_cons_zero, List.set_cons_succ]
  refine take_atK (i := 16) 22 (.pointer (some ⟨b, 0, none⟩)) [17, 18] rfl rfl (by kernel_rfl) (by decide) (by decide) (by kernel_rfl) (by kernel_rfl) (by kernel_rfl) (by kernel_rfl) (fun _ _ _ h => h) (Or.inl ⟨by rfl, fun W hW => by go_simp⟩) hS ?_
  try simp only [List.setIfInBounds_toArray, List.set_cons_zero, List.set_cons_succ]
  refine take_atK (i := 17) 23 (.pointer (some ⟨b, 1, none⟩)) [18] rfl rfl (by kernel_rfl) (by decide) (by decide) (by kernel_rfl) (by kernel_rfl) (by kernel_rfl) (by kernel_rfl) (fun _ _ _ h => h) (Or.inl ⟨by rfl, fun W hW => by go_simp⟩) hS ?_
  try simp only [List.setIfInBounds_toArray, List.set_cons_zero, List.set_cons_succ]
  refine storeK (by kernel_rfl) (by decide) rfl rfl (fun K hK => ?_)
  have c1 := hS.1.cell 1
  have f1 := hS.1.free 1
  have kx := hS.1
  have kb1 := hS.1.set 1 (.slice vb1 vb2 vb3)
  go_simp
  refine hK.out _ _ ?_
  clear hK K
  have hS : True := trivial
  have c2 := kb1.cell 2
  have f2 := kb1.free 2
  try simp only [Act.put, List.getElem_toArray, List.getElem_cons_succ, List.getElem_cons_zero, List.setIfInBounds_toArray, List.set_cons_zero, List.set_cons_succ]
  refine take_at (i := 19) 24 (.pointer (some ⟨b, 0, none⟩)) rfl rfl (by kernel_rfl) (by kernel_rfl) (by kernel_rfl) (fun _ _ _ h => h) (Or.inl ⟨by rfl, fun W hW => by go_simp⟩) hS ?_
  try simp only [List.setIfInBounds_toArray, List.set_cons_zero, List.set_cons_succ]
  refine take_at (i := 20) 25 (.pointer (some ⟨b, 2, none⟩)) rfl rfl (by kernel_rfl) (by kernel_rfl) (by kernel_rfl) (fun _ _ _ h => h) (Or.inl ⟨by rfl, fun W hW => by go_simp⟩) hS ?_
  try simp only [List.setIfInBounds_toArray, List.set_cons_zero, List.set_cons_succ]
  refine wpAnyH_ready (rs := [21]) (by kernel_rfl) (by simp) ?_
  refine AllReadyH.cons rfl (fun K hK => ?_) AllReadyH.nil
  go_simp
  refine hK.out _ _ (trivial) (fun hS => ?_)
  clear hK K
  try simp only [Act.put, List.getElem_toArray, List.getElem_cons_succ, List.getElem_cons_zero, List.setIfInBounds_toArray, List.set_cons_zero, List.set_cons_succ]
  refine wpAnyH_done (by kernel_rfl) ?_ _
  go_wp2_with fail
  go_end0
  exact ⟨⟨_, rfl⟩, _, _, _, _, _, _, put_fin kx r33 r80 pt hβ⟩
end Go.Proofs.YtdpgebifeaakjaaDoor
