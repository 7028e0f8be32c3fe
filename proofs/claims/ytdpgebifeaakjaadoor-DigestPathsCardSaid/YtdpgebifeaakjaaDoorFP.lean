/- Growing a frontier, in plain; appending any slice of digests. -/
import Derived.Test.YtdpgebifeaakjaaDoorMJ
import Derived.Laws.AppendOwnNone
namespace Go.Proofs.YtdpgebifeaakjaaDoor
set_option linter.unusedSimpArgs false
set_option linter.unusedVariables false
open Go.RowKit

/-- The loop of Grow: what is left of the tops, and the new one. -/
def growF : Nat → Nat → Nat → (Nat → Nat → BitVec 8) → (Nat → BitVec 8) → Nat × (Nat → BitVec 8)
  | 0, _, k, _, x => (k, x)
  | f + 1, n, k, T, x => if n % 2 = 1 then growF f (n / 2) (k - 1) T (nodeD (T (k - 1)) x) else (k, x)
theorem growF_even (f n k : Nat) (T : Nat → Nat → BitVec 8) (x : Nat → BitVec 8) (h : n % 2 = 0) : growF f n k T x = (k, x) := by
  cases f with
  | zero => rfl
  | succ f => rw [growF, if_neg (by omega)]
theorem growF_odd (f n k : Nat) (T : Nat → Nat → BitVec 8) (x : Nat → BitVec 8) (h : n % 2 = 1) (hn : n < 2 ^ f) : ∃ g, f = g + 1 ∧ n / 2 < 2 ^ g ∧ growF f n k T x = growF g (n / 2) (k - 1) T (nodeD (T (k - 1)) x) := by
  cases f with
  | zero => rw [Nat.pow_zero] at hn; omega
  | succ f =>
    refine ⟨f, rfl, by rw [Nat.pow_succ] at hn; omega, ?_⟩
    rw [growF, if_pos h]
theorem pc_half (n : Nat) (h : n < 2 ^ 64) : pcN 64 n = n % 2 + pcN 64 (n / 2) := by
  have h1 := pcN_split 63 1 0 (n / 2) (by omega)
  rw [Nat.mul_zero, Nat.zero_add] at h1
  have h4 : pcN 64 (n / 2) = pcN 63 (n / 2) + 0 := h1
  show n % 2 + pcN 63 (n / 2) = _
  omega
/-- One more. -/
def snocT (k : Nat) (T : Nat → Nat → BitVec 8) (x : Nat → BitVec 8) (i : Nat) : Nat → BitVec 8 := if i < k then T i else x
theorem digCells_snoc (k : Nat) (T : Nat → Nat → BitVec 8) (x : Nat → BitVec 8) : digCells T k ++ (A8 16 x).toList = digCells (snocT k T x) (k + 1) := by
  rw [digCells, digCells_congr k (U := snocT k T x) fun i hi => by rw [snocT, if_pos hi], snocT, if_neg (by omega)]
theorem ownsRow_take {W : World} {base k m cap : Nat} {p : Option Addr} {T : Nat → Nat → BitVec 8} (h : W.ownsRow base 23 16 (.slice p k cap) k (digCells T k)) (hm : m < k) : ∃ g, p = some ⟨g, 0, none⟩ ∧ W.ownsRow base 23 16 (.slice p m cap) m (digCells T m) := by
  obtain ⟨_, ⟨h1, h2⟩ | ⟨g, cap', cur, h1, h2, hh, hk, h4, hc, ht⟩⟩ := h
  · omega
  · injection h1 with e1 e2 e3
    subst e1 e3
    refine ⟨g, rfl, digCells_length T m, .inr ⟨g, cap, cur, rfl, h2, hh, by omega, h4, hc, ?_⟩⟩
    have e : ∀ j, digCells T m = (digCells T (m + j)).take (m * 16) := by
      intro j
      induction j with
      | zero => rw [Nat.add_zero, List.take_of_length_le (by rw [digCells_length]; omega)]
      | succ j ih => rw [← Nat.add_assoc, digCells, List.take_append_of_le_length (by rw [digCells_length]; exact Nat.mul_le_mul_right _ (by omega)), ← ih]
    obtain ⟨j, rfl⟩ : ∃ j, k = m + j := ⟨k - m, by omega⟩
    rw [e j, ← ht, List.take_take, Nat.min_eq_left (by omega)]
theorem run_append_none {P : Program} {w : World} (base : Nat) (t ty e : TypeId) (i : TypeInfo) (size : Nat) (ht : P.underlying t = some (.slice e)) (hi : P.info? e = some i)
    (v : Value) (n c : Nat) (xs : List Value) (hown : w.ownsRow base e size v n xs) :
    (Builtin.append_ #[t, t] ty #[v, .slice none 0 c]).run P w = .ok v w := by
  rcases hown.2 with ⟨rfl, rfl⟩ | ⟨g, cap, cur, rfl, _, _, hnc, _⟩
  · simp [Builtin.append_, run_underlying ht, sizeOf, typeInfo, hi, Builtin.lenOf, Builtin.firstCells]
  · simp [Builtin.append_, run_underlying ht, sizeOf, typeInfo, hi, Builtin.lenOf, Builtin.firstCells, hnc, storeCells]
theorem digs_cells {W : World} {g o n cap : Nat} {D : Nat → Nat → BitVec 8} (h : Digs W (.slice (some ⟨g, o, none⟩) n cap) n D) : ∀ (j : Nat) (u : Value), (digCells D n)[j]? = some u → W.cell? ((⟨g, o, none⟩ : Addr).add j) = some u := by
  intro j u hu
  obtain ⟨p, c, h1, h2, h3⟩ := h
  injection h1 with e1 e2 e3
  subst e1
  have hj : j < n * 16 := by
    have := (List.getElem?_eq_some_iff.1 hu).1
    rwa [digCells_length] at this
  obtain ⟨g', o', e, hr⟩ := h3 (j / 16) (by omega)
  injection e with e
  injection e with e4 e5
  subst e4 e5
  have := digCells_at D n (j / 16) (j % 16) (by omega) (by omega)
  rw [show j / 16 * 16 + j % 16 = j by omega, hu] at this
  injection this with this
  rw [this]
  have := hr (j % 16) (U8 (D (j / 16) (j % 16))) (by rw [Array.getElem?_toList, A8.get _ (by omega)])
  rw [show o + j / 16 * 16 + j % 16 = o + j by omega] at this
  rw [Addr.add_lit]
  exact this
theorem digCells_one' (T : Nat → Nat → BitVec 8) : ∀ k, ∀ u ∈ digCells T k, u.oneCell' = true
  | 0, u, hu => by rw [digCells] at hu; cases hu
  | k + 1, u, hu => by
    rw [digCells, List.mem_append] at hu
    rcases hu with hu | hu
    · exact digCells_one' T k u hu
    · obtain ⟨j, hj⟩ := List.getElem?_of_mem hu
      rw [Array.getElem?_toList] at hj
      have := A8.one (n := 16) (T k)
      exact Array.all_eq_true_iff_forall_mem.1 this u (Array.mem_of_getElem? hj)
/-- Any slice of digests is appended to an owned one. -/
theorem oper_append_digs {o : Oper} {a : Act} {w : World} {Q : Exit → Act → World → Prop} {K : Act → World → Prop}
    (s x : Operand) (hop : o.op = Op.call { callee := Callee.builtin Builtin.append, args := #[s, x], argTypes := #[80, 80] })
    {base k m : Nat} {v u : Value} {T U : Nat → Nat → BitVec 8} (hs : a.eval s = v) (hv : w.ownsRow base 23 16 v k (digCells T k)) (hx : a.eval x = u) (hu : Digs w u m U)
    (hkm : k + m ≤ 1000000) (hbase : base ≤ w.heap.size)
    (h : ∀ v' w', w'.ownsRow base 23 16 v' (k + m) (digCells T k ++ digCells U m) → w.grownBy w' v.ownBlock → K (a.put o.dst v') w') : Oper.wp Tryd.prog o a w K Q := by
  obtain ⟨i0, hi0, hz0, hz1, hz2⟩ := info_parts info23
  have hu' := hu
  obtain ⟨p, cap, rfl, hc, hd⟩ := hu
  cases p with
  | none =>
    have hm : m = 0 := by
      cases m with
      | zero => rfl
      | succ m =>
        obtain ⟨_, _, e, _⟩ := hd 0 (by omega)
        cases e
    subst hm
    have hrun := run_append_none (P := Tryd.prog) (w := w) base 80 o.type 23 i0 16 Tryd.underlying80 hi0 v k cap _ hv
    unfold Oper.wp
    simp [execOp, hop, resolve, invoke, builtin, hs, hx, hrun, Result.andThen]
    refine h v w ?_ ⟨rfl, rfl, rfl, Nat.le_refl _, fun k _ _ => rfl⟩
    rw [digCells, List.append_nil, Nat.add_zero]
    exact hv
  | some ad =>
    by_cases hm : m = 0
    · subst hm
      exact wp_append_own w s x 80 hop base 23 i0 _ 16 16 Tryd.underlying80 hi0 hz0 hz1 hz2 rfl (by omega) v k _ hs hv ad 0 cap (digCells U 0) hx (digCells_length U 0) (fun j u hj => by simp [digCells] at hj) (digCells_one' U 0)
        (by unfold maxLen; omega) (by omega) hbase fun v' w' h2 h3 _ => h v' w' h2 h3
    · obtain ⟨g, o', e, _⟩ := hd 0 (by omega)
      injection e with e
      subst e
      exact wp_append_own w s x 80 hop base 23 i0 _ 16 16 Tryd.underlying80 hi0 hz0 hz1 hz2 rfl (by omega) v k _ hs hv ⟨g, o', none⟩ m cap (digCells U m) hx (digCells_length U m) (digs_cells hu') (digCells_one' U m)
        (by unfold maxLen; omega) (by omega) hbase fun v' w' h2 h3 _ => h v' w' h2 h3
theorem wpl_append_digs {ops : Array Oper} {rest : List Oper} {o : Oper} {a : Act} {w : World} {Q : Exit → Act → World → Prop} (hgd : o.guard = none)
    (s x : Operand) (hop : o.op = Op.call { callee := Callee.builtin Builtin.append, args := #[s, x], argTypes := #[80, 80] })
    {base k m : Nat} {v u : Value} {T U : Nat → Nat → BitVec 8} (hs : a.eval s = v) (hv : w.ownsRow base 23 16 v k (digCells T k)) (hx : a.eval x = u) (hu : Digs w u m U)
    (hkm : k + m ≤ 1000000) (hbase : base ≤ w.heap.size)
    (h : ∀ v' w', w'.ownsRow base 23 16 v' (k + m) (digCells T k ++ digCells U m) → w.grownBy w' v.ownBlock → wpList Tryd.prog ops Q rest (a.put o.dst v') w') : wpList Tryd.prog ops Q (o :: rest) a w :=
  wpList_plain hgd fun _ hK => oper_append_digs s x hop hs hv hx hu hkm hbase fun v' w' h2 h3 => hK _ _ (h v' w' h2 h3)
/-- A slice of one digest is made. -/
theorem wp_build80 {ops : Array Oper} {rest : List Oper} {o : Oper} {a : Act} {w : World} {Q : Exit → Act → World → Prop} (hgd : o.guard = none) (x : Operand) (ho : o.op = .buildSlice 80 1 #[(0, x)])
    {T : Nat → BitVec 8} (hx : a.eval x = .agg (A8 16 T))
    (h : wpList Tryd.prog ops Q rest (a.put o.dst (.slice (some ⟨w.heap.size, 0, none⟩) 1 1)) (w.alloc (.cells (A8 16 T) 23))) : wpList Tryd.prog ops Q (o :: rest) a w := by
  refine wpList_plain hgd fun _ hK => ?_
  unfold Oper.wp execOp
  have e : (#[(0, x)].map fun (i, x) => (i, a.eval x)) = #[(0, .agg (A8 16 T))] := by
    simp [hx]
  simp only [ho, Sem.run_bind, e, build80, Result.andThen_ok, Sem.run_pure]
  exact hK _ _ h
theorem digs_new (W : World) (x : Nat → BitVec 8) : Digs (W.alloc (.cells (A8 16 x) 23)) (.slice (some ⟨W.heap.size, 0, none⟩) 1 1) 1 fun _ => x := by
  refine ⟨_, 1, rfl, Nat.le_refl _, fun j hj => ⟨W.heap.size, 0, rfl, ?_⟩⟩
  intro i u hu
  have hi : i < 16 := by
    have := (List.getElem?_eq_some_iff.1 hu).1
    rw [Array.length_toList, A8.size] at this
    exact this
  rw [Array.getElem?_toList] at hu
  have hj0 : j = 0 := by omega
  subst hj0
  rw [(Blk.new W (A8 16 x) 23).cell, show 0 + 0 * 16 + i = i by omega]
  exact hu
end Go.Proofs.YtdpgebifeaakjaaDoor
