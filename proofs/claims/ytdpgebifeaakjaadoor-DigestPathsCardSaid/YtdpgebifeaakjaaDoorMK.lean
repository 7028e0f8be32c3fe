/- The specification's Path and Growth. -/
import Derived.Test.YtdpgebifeaakjaaDoorMJ
import Derived.Test.YtdpgebifeaakjaaDoorTR2
import Derived.Test.YtdpgebifeaakjaaDoorME
import Derived.Laws.AppendOwnNone
import Derived.Test.YtdpgebifeaakjaaDoorMF

/- The walk of the specification's tops. -/
namespace Go.Proofs.YtdpgebifeaakjaaDoor
set_option linter.unusedSimpArgs false
set_option linter.unusedVariables false
open Go.RowKit

theorem ownsRow_below {W W' : World} {base e size n : Nat} {v : Value} {xs : List Value} (h : W.ownsRow base e size v n xs) (hb : Below W.heap.size W W') : W'.ownsRow base e size v n xs := by
  obtain ⟨h0, h1 | ⟨g, cap, cur, rfl, h2, hh, h3⟩⟩ := h
  · exact ⟨h0, .inl h1⟩
  · exact ⟨h0, .inr ⟨g, cap, cur, rfl, h2, (hb.block g (Array.getElem?_eq_some_iff.1 hh).1).trans hh, h3⟩⟩
/-- The digest over the i-th block. -/
def topT (l : List (Nat × Nat)) (D : Nat → Nat → BitVec 8) (i : Nat) : Nat → BitVec 8 := treeF (l.getD i (0, 0)).2 (l.getD i (0, 0)).2 fun j => D ((l.getD i (0, 0)).1 + j)
set_option maxRecDepth 20000 in
set_option maxHeartbeats 8000000 in
theorem rtops_any (n : Nat) (D : Nat → Nat → BitVec 8) (l : List (Nat × Nat)) (u v : Value) (w : World) (hn : n ≤ 1099511627776) (hl : l.length ≤ 1000) (hb : ∀ x, x ∈ l → 0 < x.2 ∧ x.1 + x.2 ≤ n) (hv : Digs w v n D) (hu : SlB w u l) (hKK : KAt w) :
    Calls Tryd.prog 76 #[v, u] w fun e w' => ∃ r, e = .returned r ∧ w'.ownsRow w.heap.size 23 16 r l.length (digCells (topT l D) l.length) ∧ Below w.heap.size w w' := by
  obtain ⟨i0, hi0, hz0, hz1, hz2⟩ := info_parts info23
  have hvv := hv
  obtain ⟨p, cap, rfl, hcap, hv⟩ := hv
  obtain ⟨q, bc, rfl, hu⟩ := hu
  have hB := Below.refl w.heap.size w
  go_enter Tryd.func76, Tryd.ntmps76
  go_wp2_with fail
  go_loopw [5, 6] (fun s5 s6 W => ∃ i : Nat, i ≤ l.length ∧ s6 = .int .i64 (i : Int) ∧ W.ownsRow w.heap.size 23 16 s5 i (digCells (topT l D) i) ∧ Below w.heap.size w W) (fun _ s6 _ => l.length - (intOf s6).toNat)
  case atStart => exact ⟨0, by omega, rfl, World.ownsRow_nil _ _ _ _, hB⟩
  case round =>
    clear hB
    obtain ⟨i, hi, rfl, hrow, hB⟩ := hrel
    by_cases hlt : i < l.length
    · have hlt1 : (i : Int) < (l.length : Int) := by omega
      obtain ⟨a, m, hx⟩ : ∃ a m, l[i]? = some (a, m) := ⟨_, _, List.getElem?_eq_getElem hlt⟩
      obtain ⟨bg, bo, rfl, q1, q2⟩ := hu i (a, m) hx
      have hbm := hb _ (List.mem_of_getElem? hx)
      dsimp only at hbm q1 q2
      obtain ⟨g, o, rfl, _⟩ := hv 0 (by omega)
      have hbg : bg < w.heap.size := World.block_lt_of_cell? w _ q1
      replace q1 := cell_below q1 hB
      replace q2 := cell_below q2 hB
      have d1 := (Digs.right hvv a (by omega)).left m (by omega)
      have ct := fun (W : World) (hB : Below w.heap.size w W) => rtree_any m m (fun j => D (a + j)) _ W (Nat.le_refl _) (by omega) (d1.below hB) (hKK.below hKK.pos hB)
      have hTT : topT l D i = treeF m m fun j => D (a + j) := by simp [topT, List.getD, hx]
      generalize (treeF m m fun j => D (a + j)) = T at ct hTT
      have HTT := hide hTT; have CT := hide ct
      clear hTT ct d1 hx
      have hp0 : (0 : Int) ≤ (a : Int) := by omega
      have hp1 : (0 : Int) ≤ (a : Int) + (m : Int) := by omega
      have hp2 : (a : Int) + (m : Int) ≤ (cap : Int) := by omega
      have hp3 : ¬ ((a : Int) + (m : Int) < (a : Int)) := by omega
      have hp4 : (0 : Int) ≤ (i : Int) := by omega
      have hq1 : ((a : Int) + (m : Int)).toNat = a + m := by omega
      have hq2 : a + m - a = m := by omega
      have hq3 : ¬ cap = a := by omega
      have hwm : IntKind.i64.wrap ((a : Int) + (m : Int)) = (a : Int) + (m : Int) := IntWalk.i64_in _ (by omega)
      go_wp2_with fail
      refine wp_region_held_drew (S := fun w' => Below w.heap.size w w' ∧ w'.cell? ⟨bg, bo + i * 2, none⟩ = some (.int .i64 (a : Int)) ∧ w'.cell? ⟨bg, bo + i * 2 + 1, none⟩ = some (.int .i64 (m : Int))) (by kernel_rfl) (⟨hB.drew, q1, q2⟩) (fun hS => ?_)
      refine take_at (i := 0) 13 (u5) rfl rfl (by kernel_rfl) (by kernel_rfl) (by kernel_rfl) (fun _ _ _ h => h) (Or.inl ⟨by rfl, fun W hW => by go_simp⟩) hS ?_
      try simp only [List.setIfInBounds_toArray, List.set_cons_zero, List.set_cons_succ]
      refine take_at (i := 1) 14 (.slice (some ⟨g, o, none⟩) n cap) rfl rfl (by kernel_rfl) (by kernel_rfl) (by kernel_rfl) (fun _ _ _ h => h) (Or.inl ⟨by rfl, fun W hW => by go_simp⟩) hS ?_
      try simp only [List.setIfInBounds_toArray, List.set_cons_zero, List.set_cons_succ]
      refine take_at (i := 2) 15 (.slice (some ⟨bg, bo, none⟩) l.length bc) rfl rfl (by kernel_rfl) (by kernel_rfl) (by kernel_rfl) (fun _ _ _ h => h) (Or.inl ⟨by rfl, fun W hW => by go_simp⟩) hS ?_
      try simp only [List.setIfInBounds_toArray, List.set_cons_zero, List.set_cons_succ]
      refine take_at (i := 3) 16 (.int .i64 (i : Int)) rfl rfl (by kernel_rfl) (by kernel_rfl) (by kernel_rfl) (fun _ _ _ h => h) (Or.inl ⟨by rfl, fun W hW => by go_simp⟩) hS ?_
      try simp only [List.setIfInBounds_toArray, List.set_cons_zero, List.set_cons_succ]
      refine take_at (i := 4) 17 (.pointer (some ⟨bg, bo + i * 2, none⟩)) rfl rfl (by kernel_rfl) (by kernel_rfl) (by kernel_rfl) (fun _ _ _ h => h) (Or.inl ⟨by rfl, fun W hW => by go_simp⟩) hS ?_
      try simp only [List.setIfInBounds_toArray, List.set_cons_zero, List.set_cons_succ]
      refine take_at (i := 5) 18 (.pointer (some ⟨bg, bo + i * 2, none⟩)) rfl rfl (by kernel_rfl) (by kernel_rfl) (by kernel_rfl) (fun _ _ _ h => h) (Or.inl ⟨by rfl, fun W hW => by go_simp⟩) hS ?_
      try simp only [List.setIfInBounds_toArray, List.set_cons_zero, List.set_cons_succ]
      refine take_at (i := 6) 19 (.int .i64 (a : Int)) rfl rfl (by kernel_rfl) (by kernel_rfl) (by kernel_rfl) (fun _ _ _ h => h) (Or.inl ⟨by rfl, fun W hW => by have hc := hW.2.1; go_simp⟩) hS ?_
      try simp only [List.setIfInBounds_toArray, List.set_cons_zero, List.set_cons_succ]
      refine take_at (i := 7) 20 (.slice (some ⟨bg, bo, none⟩) l.length bc) rfl rfl (by kernel_rfl) (by kernel_rfl) (by kernel_rfl) (fun _ _ _ h => h) (Or.inl ⟨by rfl, fun W hW => by go_simp⟩) hS ?_
      try simp only [List.setIfInBounds_toArray, List.set_cons_zero, List.set_cons_succ]
      refine take_at (i := 8) 21 (.int .i64 (i : Int)) rfl rfl (by kernel_rfl) (by kernel_rfl) (by kernel_rfl) (fun _ _ _ h => h) (Or.inl ⟨by rfl, fun W hW => by go_simp⟩) hS ?_
      try simp only [List.setIfInBounds_toArray, List.set_cons_zero, List.set_cons_succ]
      refine take_at (i := 9) 22 (.pointer (some ⟨bg, bo + i * 2, none⟩)) rfl rfl (by kernel_rfl) (by kernel_rfl) (by kernel_rfl) (fun _ _ _ h => h) (Or.inl ⟨by rfl, fun W hW => by go_simp⟩) hS ?_
      try simp only [List.setIfInBounds_toArray, List.set_cons_zero, List.set_cons_succ]
      refine take_at (i := 10) 23 (.pointer (some ⟨bg, bo + i * 2, none⟩)) rfl rfl (by kernel_rfl) (by kernel_rfl) (by kernel_rfl) (fun _ _ _ h => h) (Or.inl ⟨by rfl, fun W hW => by go_simp⟩) hS ?_
      try simp only [List.setIfInBounds_toArray, List.set_cons_zero, List.set_cons_succ]
      refine take_at (i := 11) 24 (.int .i64 (a : Int)) rfl rfl (by kernel_rfl) (by kernel_rfl) (by kernel_rfl) (fun _ _ _ h => h) (Or.inl ⟨by rfl, fun W hW => by have hc := hW.2.1; go_simp⟩) hS ?_
      try simp only [List.setIfInBounds_toArray, List.set_cons_zero, List.set_cons_succ]
      refine take_at (i := 12) 25 (.slice (some ⟨bg, bo, none⟩) l.length bc) rfl rfl (by kernel_rfl) (by kernel_rfl) (by kernel_rfl) (fun _ _ _ h => h) (Or.inl ⟨by rfl, fun W hW => by go_simp⟩) hS ?_
      try simp only [List.setIfInBounds_toArray, List.set_cons_zero, List.set_cons_succ]
      refine take_at (i := 13) 26 (.int .i64 (i : Int)) rfl rfl (by kernel_rfl) (by kernel_rfl) (by kernel_rfl) (fun _ _ _ h => h) (Or.inl ⟨by rfl, fun W hW => by go_simp⟩) hS ?_
      try simp only [List.setIfInBounds_toArray, List.set_cons_zero, List.set_cons_succ]
      refine take_at (i := 14) 27 (.pointer (some ⟨bg, bo + i * 2, none⟩)) rfl rfl (by kernel_rfl) (by kernel_rfl) (by kernel_rfl) (fun _ _ _ h => h) (Or.inl ⟨by rfl, fun W hW => by go_simp⟩) hS ?_
      try simp only [List.setIfInBounds_toArray, List.set_cons_zero, List.set_cons_succ]
      refine take_at (i := 15) 28 (.pointer (some ⟨bg, bo + i * 2 + 1, none⟩)) rfl rfl (by kernel_rfl) (by kernel_rfl) (by kernel_rfl) (fun _ _ _ h => h) (Or.inl ⟨by rfl, fun W hW => by go_simp⟩) hS ?_
      try simp only [List.setIfInBounds_toArray, List.set_cons_zero, List.set_cons_succ]
      refine take_at (i := 16) 29 (.int .i64 (m : Int)) rfl rfl (by kernel_rfl) (by kernel_rfl) (by kernel_rfl) (fun _ _ _ h => h) (Or.inl ⟨by rfl, fun W hW => by have hc := hW.2.2; go_simp⟩) hS ?_
      try simp only [List.setIfInBounds_toArray, List.set_cons_zero, List.set_cons_succ]
      refine take_at (i := 17) 30 (.int .i64 ((a : Int) + (m : Int))) rfl rfl (by kernel_rfl) (by kernel_rfl) (by kernel_rfl) (fun _ _ _ h => h) (Or.inl ⟨by rfl, fun W hW => by go_simp⟩) hS ?_
      try simp only [List.setIfInBounds_toArray, List.set_cons_zero, List.set_cons_succ]
      refine take_at (i := 18) 31 (.slice (some ⟨g, o + a * 16, none⟩) m (cap - a)) rfl rfl (by kernel_rfl) (by kernel_rfl) (by kernel_rfl) (fun _ _ _ h => h) (Or.inl ⟨by rfl, fun W hW => by go_simp⟩) hS ?_
      try simp only [List.setIfInBounds_toArray, List.set_cons_zero, List.set_cons_succ]
      refine wpAnyH_ready (rs := [19]) (by kernel_rfl) (by simp) ?_
      refine AllReadyH.cons rfl (fun K hK => ?_) AllReadyH.nil
      go_simp
      refine (CT.out _ hS.1).mono ?_
      rintro e X1 ⟨rfl, hb⟩
      refine hK.out _ _ (⟨hS.1.trans (hb.mono hS.1.size), cell_below hS.2.1 hb, cell_below hS.2.2 hb⟩) (fun hS => ?_)
      clear hK K
      have hrow2 := ownsRow_below hrow.drew hb
      have hsz2 := hS.1.size
      try simp only [Act.put, List.setIfInBounds_toArray, List.set_cons_zero, List.set_cons_succ]
      refine wpAnyH_ready (rs := [20]) (by kernel_rfl) (by simp) ?_
      refine AllReadyH.cons rfl (fun K hK => ?_) AllReadyH.nil
      refine step_build80 rfl (.tmp 32) rfl (T := T) rfl ?_
      refine hK.out _ _ (⟨hS.1.alloc hS.1.size _, cell_below hS.2.1 ((Below.refl _ _).alloc (Nat.le_refl _) _), cell_below hS.2.2 ((Below.refl _ _).alloc (Nat.le_refl _) _)⟩) (fun hS => ?_)
      clear hK K
      obtain ⟨WA, hWA⟩ : ∃ WA, X1 = WA := ⟨_, rfl⟩
      try simp only [Act.put, List.setIfInBounds_toArray, List.set_cons_zero, List.set_cons_succ]
      refine wpAnyH_ready (rs := [21]) (by kernel_rfl) (by simp) ?_
      refine AllReadyH.cons rfl (fun K hK => ?_) AllReadyH.nil
      refine step_append_lies _ (by rfl) _ _ _ (by rfl) w.heap.size 23 i0 _ 16 16 Tryd.underlying80 hi0 hz0 hz1 hz2 rfl (by omega) _ i (digCells (topT l D) i) (by rfl) (hrow2.alloc _) ⟨X1.heap.size, 0, none⟩ 1 1 (A8 16 T).toList (by rfl) (by rw [Array.length_toList, A8.size]) (World.news_of_block (cs := A8 16 T) (t := 23) (fr := (0, 0)) (heap_alloc_new X1 _)) (by intro u hu; obtain ⟨j, hj⟩ := List.getElem?_of_mem hu; rw [Array.getElem?_toList] at hj; have := A8.one (n := 16) T; exact Array.all_eq_true_iff_forall_mem.1 this u (Array.mem_of_getElem? hj)) (by omega) (by unfold maxLen; omega) (by omega) (by simp; omega) (X1.heap.size + 1) (by simp) ?_
      intro gg capp w1 hown1 hgrow hat hlt2
      refine hK.out _ _ (⟨hS.1.grown hgrow (by simp; omega) (fun q e => (hrow2.lt q e).1), hgrow.cell hS.2.1 (fun e => by have := (hrow2.lt bg e.symm).1; omega), hgrow.cell hS.2.2 (fun e => by have := (hrow2.lt bg e.symm).1; omega)⟩) (fun hS => ?_)
      clear hK K
      try simp only [Act.put, List.setIfInBounds_toArray, List.set_cons_zero, List.set_cons_succ]
      refine take_at (i := 22) 5 (.slice (some ⟨gg, 0, none⟩) (i + 1) capp) rfl rfl (by kernel_rfl) (by kernel_rfl) (by kernel_rfl) (fun _ _ _ h => h) (Or.inl ⟨by rfl, fun W hW => by go_simp⟩) hS ?_
      try simp only [List.setIfInBounds_toArray, List.set_cons_zero, List.set_cons_succ]
      refine wpAnyH_done (by kernel_rfl) ?_ _
      rw [← HTT.out] at hown1
      clear hrow2 hgrow hat
      go_wp2_with fail
      exact ⟨⟨i + 1, by omega, by go_num, hown1, hS.1⟩, by simp [intOf]; omega⟩
    · have hlt1 : ¬ (i : Int) < (l.length : Int) := by omega
      have hi' : i = l.length := by omega
      subst hi'
      go_wp2_with fail
      go_ret
      exact ⟨u5, rfl, hrow, hB⟩
end Go.Proofs.YtdpgebifeaakjaaDoor

/- A row of digests appended to another: one law, whether either is nil or not. -/
namespace Go.Proofs.YtdpgebifeaakjaaDoor
set_option linter.unusedSimpArgs false
set_option linter.unusedVariables false
open Go.RowKit

theorem digCells_one (T : Nat → Nat → BitVec 8) : ∀ k, ∀ u ∈ digCells T k, u.oneCell' = true
  | 0, u, hu => by rw [digCells] at hu; cases hu
  | k + 1, u, hu => by
    rw [digCells, List.mem_append] at hu
    rcases hu with hu | hu
    · exact digCells_one T k u hu
    · obtain ⟨j, hj⟩ := List.getElem?_of_mem hu
      rw [Array.getElem?_toList] at hj
      have := A8.one (n := 16) (T k)
      exact Array.all_eq_true_iff_forall_mem.1 this u (Array.mem_of_getElem? hj)
theorem wp_append_digs {ops : Array Oper} {rest : List Oper} {o : Oper} {a : Act} {w : World} {Q : Exit → Act → World → Prop} (hgd : o.guard = none)
    (s x : Operand) (hop : o.op = Op.call { callee := Callee.builtin Builtin.append, args := #[s, x], argTypes := #[80, 80] })
    {base base2 k m : Nat} {v u : Value} {T U : Nat → Nat → BitVec 8} (hs : a.eval s = v) (hv : w.ownsRow base 23 16 v k (digCells T k)) (hx : a.eval x = u) (hu : w.ownsRow base2 23 16 u m (digCells U m))
    (hkm : k + m ≤ 1000000) (hbase : base ≤ w.heap.size)
    (h : ∀ v' w', w'.ownsRow base 23 16 v' (k + m) (digCells T k ++ digCells U m) → Below base w w' → wpList Tryd.prog ops Q rest (a.put o.dst v') w') : wpList Tryd.prog ops Q (o :: rest) a w := by
  obtain ⟨i0, hi0, hz0, hz1, hz2⟩ := info_parts info23
  have huc := fun (g : Nat) (e : u.ownBlock = some g) => World.ownsRow.cells hu e
  obtain ⟨_, ⟨rfl, rfl⟩ | ⟨g, cap, cur, rfl, _⟩⟩ := hu
  · refine wpList_append_own_none hgd s x 80 hop base 23 i0 16 Tryd.underlying80 hi0 v k _ hs hv hx (h v w ?_ (Below.refl _ _))
    rw [digCells, List.append_nil, Nat.add_zero]
    exact hv
  · refine wpList_append_own w hgd s x 80 hop base 23 i0 _ 16 16 Tryd.underlying80 hi0 hz0 hz1 hz2 rfl (by omega) v k _ hs hv ⟨g, 0, none⟩ m cap (digCells U m) hx (digCells_length U m) (fun j u hj => huc g rfl j u hj) (digCells_one U m)
      (by unfold maxLen; omega) (by omega) hbase fun v' w' h2 h3 _ => h v' w' h2 ((Below.refl base w).grown h3 hbase fun q e => (hv.lt q e).1)
end Go.Proofs.YtdpgebifeaakjaaDoor

/- The specification's Path, where it answers. -/
namespace Go.Proofs.YtdpgebifeaakjaaDoor
set_option linter.unusedSimpArgs false
set_option linter.unusedVariables false
open Go.RowKit

theorem ownsRow_base {W : World} {base base' e size n : Nat} {v : Value} {xs : List Value} (h : W.ownsRow base e size v n xs) (hb : base' ≤ base) : W.ownsRow base' e size v n xs := by
  obtain ⟨h0, h1 | ⟨g, cap, cur, rfl, h2, h3⟩⟩ := h
  · exact ⟨h0, .inl h1⟩
  · exact ⟨h0, .inr ⟨g, cap, cur, rfl, by omega, h3⟩⟩
set_option maxRecDepth 20000 in
set_option maxHeartbeats 1000000 in
theorem rpath_ok (n a b : Nat) (D : Nat → Nat → BitVec 8) (v : Value) (w : World) (hab : a ≤ b) (hbn : b ≤ n) (hn : n ≤ 1000) (hv : Digs w v n D) (hKK : KAt w) :
    Calls Tryd.prog 46 #[v, .int .i64 (a : Int), .int .i64 (b : Int)] w fun e w' => ∃ r, e = .returned (.agg #[r, .int .i64 0]) ∧
      w'.ownsRow w.heap.size 23 16 r ((coverL 0 a).length + (coverL b n).length) (digCells (topT (coverL 0 a) D) (coverL 0 a).length ++ digCells (topT (coverL b n) D) (coverL b n).length) ∧ Below w.heap.size w w' := by
  have hvv := hv
  obtain ⟨p, cap, rfl, hcap, hv⟩ := hv
  have h1 : ¬ (a : Int) < 0 := by omega
  have h2 : ¬ (b : Int) < (a : Int) := by omega
  have h3 : ¬ (n : Int) < (b : Int) := by omega
  have hB : Below w.heap.size w (w.alloc (.cells #[.slice none 0 0, .int .i64 0] 85)) := (Below.refl _ _).alloc (Nat.le_refl _) _
  have k6 := Blk.new w #[.slice none 0 0, .int .i64 0] 85
  have l1 := coverL_length 0 a
  have l2 := coverL_length b n
  have c1 : ∀ w, Calls Tryd.prog 63 #[.int .i64 0, .int .i64 (a : Int)] w fun e w' => ∃ v, e = .returned v ∧ w'.ownsRow w.heap.size 106 2 v (coverL 0 a).length (cellsOf (coverL 0 a)) ∧ Below w.heap.size w w' := fun w => rcover_any 0 a (by omega) (by omega) w
  have c2 := fun w => rcover_any b n hbn (by omega) w
  have m1 := coverL_mem 0 a (by omega)
  have m2 := coverL_mem b n (by omega)
  generalize coverL 0 a = L1 at c1 l1 m1 ⊢
  generalize coverL b n = L2 at c2 l2 m2 ⊢
  go_enter Tryd.func46, Tryd.ntmps46
  go_wp2_with fail
  refine (c1 _).mono ?_
  rintro e W1 ⟨v1, rfl, o1, hb⟩
  replace hB := hB.trans (hb.mono hB.size)
  replace k6 := k6.below hb k6.lt
  have s1 : w.heap.size + 1 ≤ W1.heap.size := k6.lt
  go_wp2_with fail
  refine (rtops_any n D L1 v1 _ W1 (by omega) (by omega) (fun x hx => ⟨(m1 x hx).2.1, by have := (m1 x hx).2.2; omega⟩) (hvv.below hB) (SlB.of_owns o1) (hKK.below hKK.pos hB)).mono ?_
  rintro e W2 ⟨r1, rfl, q1, hb⟩
  replace q1 := ownsRow_base q1 s1
  replace hB := hB.trans (hb.mono hB.size)
  replace k6 := k6.below hb k6.lt
  clear o1 c1
  go_wp2_with fail
  refine (c2 _).mono ?_
  rintro e W3 ⟨v2, rfl, o2, hb⟩
  replace q1 := ownsRow_below q1 hb
  replace hB := hB.trans (hb.mono hB.size)
  replace k6 := k6.below hb k6.lt
  go_wp2_with fail
  refine (rtops_any n D L2 v2 _ W3 (by omega) (by omega) (fun x hx => ⟨(m2 x hx).2.1, (m2 x hx).2.2⟩) (hvv.below hB) (SlB.of_owns o2) (hKK.below hKK.pos hB)).mono ?_
  rintro e W4 ⟨r2, rfl, q2, hb⟩
  have s2 := hB.size
  replace q1 := ownsRow_below q1 hb
  replace hB := hB.trans (hb.mono hB.size)
  replace k6 := k6.below hb k6.lt
  clear o2 c2
  go_wp2_with (at_builtin; go_loud (refine wp_append_digs rfl _ _ rfl rfl q1 rfl q2 (by omega) k6.lt ?_); intro r W5 q3 hb5; obtain ⟨rp, rk, rc, rfl⟩ := ownsRow_slice' q3; have k8 := k6.below hb5 (by omega); have hc0 := k8.cell 0; have hc1 := k8.cell 1; have hf0 := k8.free 0; have hf1 := k8.free 1; replace hc0 : W5.cell? ⟨w.heap.size, 0, none⟩ = some (.slice none 0 0) := hc0; replace hc1 : W5.cell? ⟨w.heap.size, 1, none⟩ = some (.int .i64 0) := hc1)
  have k9 := (k8.set 0 (.slice rp rk rc)).set 1 (.int .i64 0)
  have e9 : ((#[Value.slice none 0 0, Value.int .i64 0] : Array Value).setIfInBounds 0 (.slice rp rk rc)).setIfInBounds 1 (.int .i64 0) = #[.slice rp rk rc, .int .i64 0] := rfl
  rw [e9] at k9
  have q4 := ownsRow_base (ownsRow_setCell_below (a := ⟨w.heap.size, 1, none⟩) (ownsRow_setCell_below (a := ⟨w.heap.size, 0, none⟩) q3 (Nat.lt_succ_self _) (.slice rp rk rc)) (Nat.lt_succ_self _) (.int .i64 0)) (Nat.le_succ w.heap.size)
  refine ret_row rfl w.heap.size rfl k9 Tryd.underlying85 rfl (n := 2) (by kernel_rfl) rfl rfl ⟨_, rfl, q4, ?_⟩
  exact ((hB.trans (hb5.mono (Nat.le_succ _))).setCell (p := ⟨w.heap.size, 0, none⟩) (Nat.le_refl _) _).setCell (p := ⟨w.heap.size, 1, none⟩) (Nat.le_refl _) _
end Go.Proofs.YtdpgebifeaakjaaDoor

/- The specification's Growth, where it answers; Path refused. -/
namespace Go.Proofs.YtdpgebifeaakjaaDoor
set_option linter.unusedSimpArgs false
set_option linter.unusedVariables false
open Go.RowKit

set_option maxRecDepth 20000 in
set_option maxHeartbeats 1000000 in
theorem rgrowth_ok (n a : Nat) (D : Nat → Nat → BitVec 8) (v : Value) (w : World) (hbn : a ≤ n) (hn : n ≤ 1000) (hv : Digs w v n D) (hKK : KAt w) :
    Calls Tryd.prog 47 #[v, .int .i64 (a : Int)] w fun e w' => ∃ r, e = .returned (.agg #[r, .int .i64 0]) ∧
      w'.ownsRow w.heap.size 23 16 r ((coverL 0 a).length + (coverL a n).length) (digCells (topT (coverL 0 a) D) (coverL 0 a).length ++ digCells (topT (coverL a n) D) (coverL a n).length) ∧ Below w.heap.size w w' := by
  have hvv := hv
  obtain ⟨p, cap, rfl, hcap, hv⟩ := hv
  have h1 : ¬ (a : Int) < 0 := by omega
  have h3 : ¬ (n : Int) < (a : Int) := by omega
  have hB : Below w.heap.size w (w.alloc (.cells #[.slice none 0 0, .int .i64 0] 85)) := (Below.refl _ _).alloc (Nat.le_refl _) _
  have k6 := Blk.new w #[.slice none 0 0, .int .i64 0] 85
  have l1 := coverL_length 0 a
  have l2 := coverL_length a n
  have c1 : ∀ w, Calls Tryd.prog 63 #[.int .i64 0, .int .i64 (a : Int)] w fun e w' => ∃ v, e = .returned v ∧ w'.ownsRow w.heap.size 106 2 v (coverL 0 a).length (cellsOf (coverL 0 a)) ∧ Below w.heap.size w w' := fun w => rcover_any 0 a (by omega) (by omega) w
  have c2 := fun w => rcover_any a n hbn (by omega) w
  have m1 := coverL_mem 0 a (by omega)
  have m2 := coverL_mem a n (by omega)
  generalize coverL 0 a = L1 at c1 l1 m1 ⊢
  generalize coverL a n = L2 at c2 l2 m2 ⊢
  go_enter Tryd.func47, Tryd.ntmps47
  go_wp2_with fail
  refine (c1 _).mono ?_
  rintro e W1 ⟨v1, rfl, o1, hb⟩
  replace hB := hB.trans (hb.mono hB.size)
  replace k6 := k6.below hb k6.lt
  have s1 : w.heap.size + 1 ≤ W1.heap.size := k6.lt
  go_wp2_with fail
  refine (rtops_any n D L1 v1 _ W1 (by omega) (by omega) (fun x hx => ⟨(m1 x hx).2.1, by have := (m1 x hx).2.2; omega⟩) (hvv.below hB) (SlB.of_owns o1) (hKK.below hKK.pos hB)).mono ?_
  rintro e W2 ⟨r1, rfl, q1, hb⟩
  replace q1 := ownsRow_base q1 s1
  replace hB := hB.trans (hb.mono hB.size)
  replace k6 := k6.below hb k6.lt
  clear o1 c1
  go_wp2_with fail
  refine (c2 _).mono ?_
  rintro e W3 ⟨v2, rfl, o2, hb⟩
  replace q1 := ownsRow_below q1 hb
  replace hB := hB.trans (hb.mono hB.size)
  replace k6 := k6.below hb k6.lt
  go_wp2_with fail
  refine (rtops_any n D L2 v2 _ W3 (by omega) (by omega) (fun x hx => ⟨(m2 x hx).2.1, (m2 x hx).2.2⟩) (hvv.below hB) (SlB.of_owns o2) (hKK.below hKK.pos hB)).mono ?_
  rintro e W4 ⟨r2, rfl, q2, hb⟩
  have s2 := hB.size
  replace q1 := ownsRow_below q1 hb
  replace hB := hB.trans (hb.mono hB.size)
  replace k6 := k6.below hb k6.lt
  clear o2 c2
  go_wp2_with (at_builtin; go_loud (refine wp_append_digs rfl _ _ rfl rfl q1 rfl q2 (by omega) k6.lt ?_); intro r W5 q3 hb5; obtain ⟨rp, rk, rc, rfl⟩ := ownsRow_slice' q3; have k8 := k6.below hb5 (by omega); have hc0 := k8.cell 0; have hc1 := k8.cell 1; have hf0 := k8.free 0; have hf1 := k8.free 1; replace hc0 : W5.cell? ⟨w.heap.size, 0, none⟩ = some (.slice none 0 0) := hc0; replace hc1 : W5.cell? ⟨w.heap.size, 1, none⟩ = some (.int .i64 0) := hc1)
  have k9 := (k8.set 0 (.slice rp rk rc)).set 1 (.int .i64 0)
  have e9 : ((#[Value.slice none 0 0, Value.int .i64 0] : Array Value).setIfInBounds 0 (.slice rp rk rc)).setIfInBounds 1 (.int .i64 0) = #[.slice rp rk rc, .int .i64 0] := rfl
  rw [e9] at k9
  have q4 := ownsRow_base (ownsRow_setCell_below (a := ⟨w.heap.size, 1, none⟩) (ownsRow_setCell_below (a := ⟨w.heap.size, 0, none⟩) q3 (Nat.lt_succ_self _) (.slice rp rk rc)) (Nat.lt_succ_self _) (.int .i64 0)) (Nat.le_succ w.heap.size)
  refine ret_row rfl w.heap.size rfl k9 Tryd.underlying85 rfl (n := 2) (by kernel_rfl) rfl rfl ⟨_, rfl, q4, ?_⟩
  exact ((hB.trans (hb5.mono (Nat.le_succ _))).setCell (p := ⟨w.heap.size, 0, none⟩) (Nat.le_refl _) _).setCell (p := ⟨w.heap.size, 1, none⟩) (Nat.le_refl _) _
end Go.Proofs.YtdpgebifeaakjaaDoor

/- The specification's Path and Growth, refused. -/
namespace Go.Proofs.YtdpgebifeaakjaaDoor
set_option linter.unusedSimpArgs false
set_option linter.unusedVariables false
open Go.RowKit

set_option maxRecDepth 20000 in
set_option maxHeartbeats 1000000 in
theorem rpath_bad (n : Nat) (a b : Int) (D : Nat → Nat → BitVec 8) (v : Value) (w : World) (hbad : a < 0 ∨ ¬ a < 0 ∧ b < a ∨ ¬ a < 0 ∧ ¬ b < a ∧ (n : Int) < b) (hv : Digs w v n D) :
    Calls Tryd.prog 46 #[v, .int .i64 a, .int .i64 b] w fun e w' => e = .returned (.agg #[.slice none 0 0, .int .i64 1]) ∧ Below w.heap.size w w' := by
  obtain ⟨p, cap, rfl, hcap, hv⟩ := hv
  have hB : Below w.heap.size w (w.alloc (.cells #[.slice none 0 0, .int .i64 0] 85)) := (Below.refl _ _).alloc (Nat.le_refl _) _
  have k8 := Blk.new w #[.slice none 0 0, .int .i64 0] 85
  have hc0 := k8.cell 0; have hc1 := k8.cell 1; have hf0 := k8.free 0; have hf1 := k8.free 1
  have k9 := (k8.set 0 (.slice none 0 0)).set 1 (.int .i64 1)
  have e9 : ((#[Value.slice none 0 0, Value.int .i64 0] : Array Value).setIfInBounds 0 (.slice none 0 0)).setIfInBounds 1 (.int .i64 1) = #[.slice none 0 0, .int .i64 1] := rfl
  rw [e9] at k9
  replace hc0 : (w.alloc (.cells #[.slice none 0 0, .int .i64 0] 85)).cell? ⟨w.heap.size, 0, none⟩ = some (.slice none 0 0) := hc0
  replace hc1 : (w.alloc (.cells #[.slice none 0 0, .int .i64 0] 85)).cell? ⟨w.heap.size, 1, none⟩ = some (.int .i64 0) := hc1
  rcases hbad with h | ⟨h, h'⟩ | ⟨h, h', h''⟩
  all_goals
    go_enter Tryd.func46, Tryd.ntmps46
    go_wp2_with fail
    exact ret_row rfl w.heap.size rfl (Blk.new w #[.slice none 0 0, .int .i64 1] 85) Tryd.underlying85 rfl (n := 2) (by kernel_rfl) rfl rfl ⟨rfl, (Below.refl _ _).alloc (Nat.le_refl _) _⟩
set_option maxRecDepth 20000 in
set_option maxHeartbeats 1000000 in
theorem rgrowth_bad (n : Nat) (a : Int) (D : Nat → Nat → BitVec 8) (v : Value) (w : World) (hbad : a < 0 ∨ ¬ a < 0 ∧ (n : Int) < a) (hv : Digs w v n D) :
    Calls Tryd.prog 47 #[v, .int .i64 a] w fun e w' => e = .returned (.agg #[.slice none 0 0, .int .i64 1]) ∧ Below w.heap.size w w' := by
  obtain ⟨p, cap, rfl, hcap, hv⟩ := hv
  have hB : Below w.heap.size w (w.alloc (.cells #[.slice none 0 0, .int .i64 0] 85)) := (Below.refl _ _).alloc (Nat.le_refl _) _
  have k8 := Blk.new w #[.slice none 0 0, .int .i64 0] 85
  have hc0 := k8.cell 0; have hc1 := k8.cell 1; have hf0 := k8.free 0; have hf1 := k8.free 1
  have k9 := (k8.set 0 (.slice none 0 0)).set 1 (.int .i64 1)
  have e9 : ((#[Value.slice none 0 0, Value.int .i64 0] : Array Value).setIfInBounds 0 (.slice none 0 0)).setIfInBounds 1 (.int .i64 1) = #[.slice none 0 0, .int .i64 1] := rfl
  rw [e9] at k9
  replace hc0 : (w.alloc (.cells #[.slice none 0 0, .int .i64 0] 85)).cell? ⟨w.heap.size, 0, none⟩ = some (.slice none 0 0) := hc0
  replace hc1 : (w.alloc (.cells #[.slice none 0 0, .int .i64 0] 85)).cell? ⟨w.heap.size, 1, none⟩ = some (.int .i64 0) := hc1
  rcases hbad with h | ⟨h, h'⟩
  all_goals
    go_enter Tryd.func47, Tryd.ntmps47
    go_wp2_with fail
    exact ret_row rfl w.heap.size rfl (Blk.new w #[.slice none 0 0, .int .i64 1] 85) Tryd.underlying85 rfl (n := 2) (by kernel_rfl) rfl rfl ⟨rfl, (Below.refl _ _).alloc (Nat.le_refl _) _⟩
end Go.Proofs.YtdpgebifeaakjaaDoor
