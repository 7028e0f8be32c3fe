/- The program's Path and Growth; the body of DigestTrees. -/
import Derived.Test.YtdpgebifeaakjaaDoorME
import Derived.Test.YtdpgebifeaakjaaDoorMK
import Derived.Test.YtdpgebifeaakjaaDoorTR1
import Derived.Test.YtdpgebifeaakjaaDoorMJ

/- The walk of blocksOf. -/
namespace Go.Proofs.YtdpgebifeaakjaaDoor
set_option linter.unusedSimpArgs false
set_option linter.unusedVariables false
open Go.RowKit
attribute [local go_sem] Oper.semAt_some

/-- Digests appended to a row, and the row stored in its own cell: what stays. -/
theorem append_store {X w1 : World} {tmp : Obj} {nb k m : Nat} {v v' : Value} {xs ys : List Value} (k7 : Boxed X nb 80 v) (hrow : X.ownsRow nb 23 16 v k xs) (hown : w1.ownsRow nb 23 16 v' m ys) (hgrow : (X.alloc tmp).grownBy w1 v.ownBlock) :
    Boxed w1 nb 80 v ∧ Boxed (w1.setCell ⟨nb, 0, none⟩ v') nb 80 v' ∧ (w1.setCell ⟨nb, 0, none⟩ v').ownsRow nb 23 16 v' m ys ∧ KeepsOthers X (w1.setCell ⟨nb, 0, none⟩ v') ∧ Below nb X (w1.setCell ⟨nb, 0, none⟩ v') ∧
      ∀ (g : Nat) (C : Array Value) (t : TypeId), Blk X g C t → t ≠ 23 → w1.heap[g]? = X.heap[g]? ∧ (g ≠ nb → (w1.setCell ⟨nb, 0, none⟩ v').heap[g]? = X.heap[g]?) := by
  obtain ⟨h1, h2, h3, h4, h5⟩ := k7.appended (by decide) hrow (Nat.le_of_lt k7.lt) (Nat.le_refl _) hown hgrow
  refine ⟨h1, h2, h3, h4, h5, fun g C t hg ht => ?_⟩
  have e1 : w1.heap[g]? = X.heap[g]? := by
    rw [hgrow.block g (by have := Blk.lt hg; simp; omega) (by
      rcases ownsRow_other hrow hg ht with h | h
      · rw [h]; simp
      · exact fun e => h e.symm)]
    exact Below.heap_alloc _ _ _ (Blk.lt hg)
  exact ⟨e1, fun hne => (Below.heap_setCell _ _ _ _ hne).trans e1⟩
/-- Between two rounds. -/
def TopI (w : World) (lv : Value) (U : Nat → Nat → BitVec 8) (pre : List (Nat × Nat)) (W : World) : Prop :=
  (∃ v, Boxed W (w.heap.size + 1) 80 v ∧ W.ownsRow (w.heap.size + 1) 23 16 v pre.length (digCells U pre.length)) ∧ Boxed W w.heap.size 80 lv ∧ (∃ x, Boxed W (w.heap.size + 1 + 1) 3 x) ∧ (∃ x, Boxed W (w.heap.size + 1 + 1 + 1) 3 x) ∧ Below w.heap.size w W
theorem topI_own1 (w : World) (U : Nat → Nat → BitVec 8) : Own (fun (pre : List (Nat × Nat)) W => ∃ v, Boxed W (w.heap.size + 1) 80 v ∧ W.ownsRow (w.heap.size + 1) 23 16 v pre.length (digCells U pre.length)) := by
  intro s W W' row hs hg hr
  obtain ⟨v, h1, h2⟩ := hs
  obtain ⟨v', h1', h2', _⟩ := holdsRow_own (w.heap.size + 1) (w.heap.size + 1) 80 23 16 (fun pre : List (Nat × Nat) => pre.length) (fun pre => digCells U pre.length) (fun _ _ => True) s W W' row ⟨v, h1, h2, trivial⟩ hg hr
  exact ⟨v', h1', h2'⟩
theorem topI_own3 (w : World) (lv : Value) : Own (fun (_ : List (Nat × Nat)) W => Boxed W w.heap.size 80 lv) := by
  intro s W W' row hs hg hr
  exact Boxed.kept hs hg (fun e' => by obtain ⟨o, ho, hc⟩ := hr _ e'.symm; rw [show W.heap[w.heap.size]? = _ from hs] at ho; cases ho; cases hc)
theorem topI_own (w : World) (lv : Value) (U : Nat → Nat → BitVec 8) (B : Nat) (hB : w.heap.size ≤ B) : OwnC B (w.heap.size + 1 + 1) (TopI w lv U) := by
  refine ⟨OwnFrom.and (Own.from (topI_own1 w U) _) (OwnFrom.and (Own.from (topI_own3 w lv) _) (OwnFrom.and (Own.from (coverI_own2 (w.heap.size + 1 + 1)) _) (OwnFrom.and (Own.from (coverI_own2 (w.heap.size + 1 + 1 + 1)) _) (ownFrom_below (Nat.le_refl _) hB)))), ?_⟩
  rintro s W v ⟨⟨u, h1, h2⟩, hl, ⟨x, hx⟩, ⟨y, hy⟩, hb⟩
  have hg := grownBy_setCell W ⟨w.heap.size + 1 + 1, 0, none⟩ v
  exact ⟨⟨u, h1.kept hg (by simp), h2.kept hg (ownsRow_other h2 hx (by decide))⟩, hl.kept hg (by simp; omega), ⟨v, hx.set v⟩, ⟨y, hy.kept hg (by simp)⟩, hb.setCell (p := ⟨w.heap.size + 1 + 1, 0, none⟩) (by simp; omega) v⟩
/-- The loop's own variable: a cell of two, new in each round. -/
def TopA (w : World) (lv f : Value) (a b : Nat) (x : Nat × Nat) (a' : Act) (W : World) : Prop :=
  ∃ B, w.heap.size + 3 < B ∧ Blk W B #[.int .i64 x.1, .int .i64 x.2] 106 ∧
    a' = { tmps := #[lv, .int .i64 (a : Int), .int .i64 (b : Int), .pointer (some ⟨w.heap.size, 0, none⟩), undef, undef, .slice none 0 0, .pointer (some ⟨w.heap.size + 1, 0, none⟩), .pointer (some ⟨B, 0, none⟩), .int .i64 (a : Int), .int .i64 (b : Int), f, .agg #[.int .i64 x.1, .int .i64 x.2], undef, undef, undef, undef, undef, undef, undef, undef, undef, undef, undef, undef, undef, undef], defers := [] }
theorem topA_own (w : World) (lv f : Value) (B0 : Nat) (a b : Nat) (x : Nat × Nat) (a' : Act) : OwnC B0 (w.heap.size + 1 + 1) (fun (_ : Unit) W => TopA w lv f a b x a' W) := by
  refine ⟨fun s W W' row hs hg hr => ?_, fun s W v hs => ?_⟩
  · obtain ⟨B, h1, h2, h3⟩ := hs
    refine ⟨B, h1, (hg.block B (Array.getElem?_eq_some_iff.1 h2).1 fun e => ?_).trans h2, h3⟩
    obtain ⟨_, o, ho, hc⟩ := hr _ e.symm
    rw [show W.heap[B]? = _ from h2] at ho
    cases ho
    cases hc
  · obtain ⟨B, h1, h2, h3⟩ := hs
    exact ⟨B, h1, h2.other (by simp; omega) _, h3⟩
theorem blocks_end {W0 w W X w1 : World} {lv v v' : Value} {D : Nat → Nat → BitVec 8} {T : Nat → BitVec 8} {L pre : List (Nat × Nat)} {x : Nat × Nat} {y y2 : Value}
    (hy : Boxed W (w.heap.size + 1 + 1) 3 y) (hy2 : Boxed W (w.heap.size + 1 + 1 + 1) 3 y2) (kf : KeepsFrom W0.heap.size W X) (kB : ∀ k, k < W.heap.size → X.heap[k]? = W.heap[k]?) (kl : Blk X w.heap.size #[lv] 80)
    (AS : Boxed w1 (w.heap.size + 1) 80 v ∧ Boxed (w1.setCell ⟨w.heap.size + 1, 0, none⟩ v') (w.heap.size + 1) 80 v' ∧ (w1.setCell ⟨w.heap.size + 1, 0, none⟩ v').ownsRow (w.heap.size + 1) 23 16 v' (pre.length + 1) (digCells (topT L D) pre.length ++ (A8 16 T).toList) ∧ KeepsOthers X (w1.setCell ⟨w.heap.size + 1, 0, none⟩ v') ∧ Below (w.heap.size + 1) X (w1.setCell ⟨w.heap.size + 1, 0, none⟩ v') ∧
      ∀ (g : Nat) (C : Array Value) (t : TypeId), Blk X g C t → t ≠ 23 → w1.heap[g]? = X.heap[g]? ∧ (g ≠ w.heap.size + 1 → (w1.setCell ⟨w.heap.size + 1, 0, none⟩ v').heap[g]? = X.heap[g]?))
    (hB : Below w.heap.size w (w1.setCell ⟨w.heap.size + 1, 0, none⟩ v')) (h3l : 3 < w.heap.size) (hT : topT L D pre.length = T) :
    KeepsFrom W0.heap.size W (w1.setCell ⟨w.heap.size + 1, 0, none⟩ v') ∧ KeepsB (fun k => k = w.heap.size + 1 + 1 ∨ k = w.heap.size + 1 + 1 + 1 ∨ k = 3) W (w1.setCell ⟨w.heap.size + 1, 0, none⟩ v') ∧ TopI w lv (topT L D) (pre ++ [x]) (w1.setCell ⟨w.heap.size + 1, 0, none⟩ v') := by
  obtain ⟨a1, a2, a3, a4, a5, a6⟩ := AS
  have ky : Blk X (w.heap.size + 1 + 1) #[y] 3 := (kB _ hy.lt).trans hy
  have ky2 : Blk X (w.heap.size + 1 + 1 + 1) #[y2] 3 := (kB _ hy2.lt).trans hy2
  have e1 := (a6 _ _ _ ky (by decide)).2 (by omega)
  have e2 := (a6 _ _ _ ky2 (by decide)).2 (by omega)
  have e3 := (a6 _ _ _ kl (by decide)).2 (by omega)
  refine ⟨kf.trans (a4.from _), ?_, ⟨v', a2, ?_⟩, e3.trans kl, ⟨y, e1.trans ky⟩, ⟨y2, e2.trans ky2⟩, hB⟩
  · rintro k (rfl | rfl | rfl)
    · exact e1.trans (kB _ hy.lt)
    · exact e2.trans (kB _ hy2.lt)
    · exact (a5.block 3 (by omega)).trans (kB _ (by have := hy.lt; omega))
  · rw [List.length_append, List.length_singleton, digCells, hT]
    exact a3

set_option maxRecDepth 100000 in
set_option maxHeartbeats 4000000 in
theorem bsof_any (n a b : Nat) (D : Nat → Nat → BitVec 8) (lv : Value) (w : World) (hab : a ≤ b) (hbn : b ≤ n) (hn : n ≤ 1000) (hv : Digs w lv n D) (hT : TabAt 3 Lib.deBruijn64tab w) (h3l : 3 < w.heap.size) :
    Calls Tryd.prog 75 #[lv, .int .i64 (a : Int), .int .i64 (b : Int)] w fun e w' => ∃ r, e = .returned r ∧ w'.ownsRow w.heap.size 23 16 r (coverL a b).length (digCells (topT (coverL a b) D) (coverL a b).length) ∧ Below w.heap.size w w' := by
  obtain ⟨i0, hi0, hz0, hz1, hz2⟩ := info_parts info23
  have hvv := hv
  obtain ⟨p, cap, rfl, hcap, hv⟩ := hv
  refine (callsIn_wide (n := 3)).1 ?_
  refine callsIn_of_wp_marks Tryd.func75 rfl trivial ?_ rfl
  simp only [Tryd.ntmps75, List.size_toArray, List.length_cons, List.length_nil, Nat.reduceAdd, Nat.reduceSub, Array.replicate_succ, Array.replicate_zero, List.push_toArray, List.append_toArray, List.nil_append, List.cons_append]
  gi_wp2
  refine ⟨trivial, callsIn_wide.2 ((cover_fn _ _ _).mono ?_)⟩
  rintro e w' ⟨rfl, rfl⟩
  rw [World.size_alloc, World.size_alloc]
  gi_wp2
  obtain ⟨W0, hW0⟩ : ∃ W0, (((w.alloc (.cells #[.slice p n cap] 80)).alloc (.cells #[.slice none 0 0] 80)).alloc (.cells #[.int .i64 (a : Int)] 3)).alloc (.cells #[.int .i64 (b : Int)] 3) = W0 := ⟨_, rfl⟩
  have hs0 : W0.heap.size = w.heap.size + 4 := by rw [← hW0]; simp
  have hB0 : Below w.heap.size w W0 := by rw [← hW0]; exact ((((Below.refl _ w).alloc (Nat.le_refl _) _).alloc (by simp) _).alloc (by simp; omega) _).alloc (by simp; omega) _
  have hL0 : Boxed W0 w.heap.size 80 (.slice p n cap) := by rw [← hW0]; exact (((Blk.new w #[.slice p n cap] 80).alloc _).alloc _).alloc _
  have hR0 : Boxed W0 (w.heap.size + 1) 80 (.slice none 0 0) := by
    rw [← hW0]
    have := Blk.new (w.alloc (.cells #[.slice p n cap] 80)) #[.slice none 0 0] 80
    rw [World.size_alloc] at this
    exact (this.alloc _).alloc _
  have hA0 : Blk W0 (w.heap.size + 1 + 1) #[.int .i64 (a : Int)] 3 := by
    rw [← hW0]
    have := Blk.new ((w.alloc (.cells #[.slice p n cap] 80)).alloc (.cells #[.slice none 0 0] 80)) #[.int .i64 (a : Int)] 3
    rw [World.size_alloc, World.size_alloc] at this
    exact this.alloc _
  have hb0 : Blk W0 (w.heap.size + 1 + 1 + 1) #[.int .i64 (b : Int)] 3 := by
    rw [← hW0]
    have := Blk.new (((w.alloc (.cells #[.slice p n cap] 80)).alloc (.cells #[.slice none 0 0] 80)).alloc (.cells #[.int .i64 (a : Int)] 3)) #[.int .i64 (b : Int)] 3
    rw [World.size_alloc, World.size_alloc, World.size_alloc] at this
    exact this
  have hT0 : TabAt 3 Lib.deBruijn64tab W0 := fun j hj => (hB0.cell (p := ⟨3, j, none⟩) h3l).trans (hT j hj)
  rw [hW0]
  clear hW0
  have hseq := cover_stops (3 - 1) (by decide) (w.heap.size + 1 + 1) (w.heap.size + 1 + 1 + 1) a b hab (by omega) W0 (by omega) hA0 hb0 hT0 (by omega) (by omega)
  refine wpIn_rangeC (gf := 97) (lb := #[.pointer (some ⟨w.heap.size + 1 + 1, 0, none⟩), .pointer (some ⟨w.heap.size + 1 + 1 + 1, 0, none⟩)]) rfl (by decide) rfl trivial (enters_of Tryd.func97 (by kernel_rfl) rfl)
    hseq (by omega) (by rintro k (rfl | rfl | rfl) <;> omega) (fun _ => rfl)
    (TopI w (.slice p n cap) (topT (coverL a b) D)) (topI_own _ _ _ _ (by omega)) ⟨⟨_, hR0, World.ownsRow_nil _ _ _ _⟩, hL0, ⟨_, hA0⟩, ⟨_, hb0⟩, hB0⟩
    (TopA w (.slice p n cap) (.func (.func 97) #[] #[.pointer (some ⟨w.heap.size + 1 + 1, 0, none⟩), .pointer (some ⟨w.heap.size + 1 + 1 + 1, 0, none⟩)]) a b) (fun _ _ => topA_own _ _ _ _ _ _ _ _) ?assign ?body ?done
  case assign =>
    rintro l pre x W C hI hx hC
    have hN := Blk.new W #[.int .i64 0, .int .i64 0] 106
    have hn0 := hN.cell 0
    have hn1 := hN.cell 1
    have hnf0 := hN.free 0
    have hnf1 := hN.free 1
    simp at hn0 hn1
    dsimp only [blockV]
    gi_wp2
    obtain ⟨y2, hy2⟩ := hI.2.2.2.1
    exact hC _ _ ((KeepsOthers.alloc _ _).from _) (fun k hk => Below.heap_alloc _ _ _ (by rcases hk with rfl | rfl | rfl <;> have := hy2.lt <;> omega)) ((topI_own w _ _ W0.heap.size (by omega)).alloc _ hI) ⟨W.heap.size, by have := hy2.lt; omega, Blk.new _ _ _, rfl⟩
  case body =>
    rintro l pre ⟨x, m⟩ a' W ⟨⟨v, k7, hrow⟩, kl, ⟨y, hy⟩, ⟨y2, hy2⟩, hB⟩ ⟨B, hBl, kX, rfl⟩ ⟨post, hx⟩
    dsimp only at kX
    have hmem := coverL_mem a b (by omega) (x, m) (by rw [hx]; simp)
    dsimp only at hmem
    have hlen : pre.length + 1 ≤ 1000 := by
      have h1 := coverL_length a b
      rw [hx] at h1
      simp at h1
      omega
    have hTT : topT (coverL a b) D pre.length = treeF m m fun j => D (x + j) := by
      rw [hx]; simp [topT]
    obtain ⟨g, o, rfl, _⟩ := hv 0 (by omega)
    have d1 := (Digs.right hvv x (by omega)).left m (by omega)
    have ct := fun (W : World) (hB : Below w.heap.size w W) => tree_any m m (fun j => D (x + j)) _ W (Nat.le_refl _) (by omega) (d1.below hB)
    generalize (treeF m m fun j => D (x + j)) = T at ct hTT
    have HTT := hide hTT; have CT := hide ct
    clear hTT ct d1 hx
    obtain ⟨vp, vn, vc, rfl⟩ := ownsRow_slice' hrow
    have hp0 : (0 : Int) ≤ (x : Int) := by omega
    have hp1 : (0 : Int) ≤ (x : Int) + (m : Int) := by omega
    have hp2 : (x : Int) + (m : Int) ≤ (cap : Int) := by omega
    have hp3 : ¬ ((x : Int) + (m : Int) < (x : Int)) := by omega
    have hq1 : ((x : Int) + (m : Int)).toNat = x + m := by omega
    have hq2 : x + m - x = m := by omega
    have hq3 : ¬ cap = x := by omega
    have hwm : IntKind.i64.wrap ((x : Int) + (m : Int)) = (x : Int) + (m : Int) := IntWalk.i64_in _ (by omega)
    replace k7 : Blk W.drew (w.heap.size + 1) #[.slice vp vn vc] 80 := k7
    replace kl : Blk W.drew w.heap.size #[.slice (some ⟨g, o, none⟩) n cap] 80 := kl
    replace kX : Blk W.drew B #[.int .i64 (x : Int), .int .i64 (m : Int)] 106 := kX
    gi_wp2_with fail
    refine wpIn_region_held_drew (S := fun w' => Below w.heap.size w w' ∧ w'.cell? ⟨w.heap.size, 0, none⟩ = some (.slice (some ⟨g, o, none⟩) n cap) ∧ w'.cell? ⟨B, 0, none⟩ = some (.int .i64 (x : Int)) ∧ w'.cell? ⟨B, 1, none⟩ = some (.int .i64 (m : Int))) (by kernel_rfl) (by kernel_rfl) ?hl (⟨hB.drew, kl.cell 0, kX.cell 0, kX.cell 1⟩) (fun hS => ?_)
    case hl => rintro ⟨_, _, h⟩; exact h
    refine take_at (i := 1) 14 (.slice (some ⟨g, o, none⟩) n cap) rfl rfl (by kernel_rfl) (by kernel_rfl) (by kernel_rfl) (fun _ _ _ h => h) (Or.inl ⟨by rfl, fun W hW => by have hc := hW.2.1; go_simp⟩) hS ?_
    try simp only [List.setIfInBounds_toArray, List.set_cons_zero, List.set_cons_succ]
    refine take_at (i := 2) 15 (.pointer (some ⟨B, 0, none⟩)) rfl rfl (by kernel_rfl) (by kernel_rfl) (by kernel_rfl) (fun _ _ _ h => h) (Or.inl ⟨by rfl, fun W hW => by go_simp⟩) hS ?_
    try simp only [List.setIfInBounds_toArray, List.set_cons_zero, List.set_cons_succ]
    refine take_at (i := 3) 16 (.int .i64 (x : Int)) rfl rfl (by kernel_rfl) (by kernel_rfl) (by kernel_rfl) (fun _ _ _ h => h) (Or.inl ⟨by rfl, fun W hW => by have hc := hW.2.2.1; go_simp⟩) hS ?_
    try simp only [List.setIfInBounds_toArray, List.set_cons_zero, List.set_cons_succ]
    refine take_at (i := 4) 17 (.pointer (some ⟨B, 0, none⟩)) rfl rfl (by kernel_rfl) (by kernel_rfl) (by kernel_rfl) (fun _ _ _ h => h) (Or.inl ⟨by rfl, fun W hW => by go_simp⟩) hS ?_
    try simp only [List.setIfInBounds_toArray, List.set_cons_zero, List.set_cons_succ]
    refine take_at (i := 5) 18 (.int .i64 (x : Int)) rfl rfl (by kernel_rfl) (by kernel_rfl) (by kernel_rfl) (fun _ _ _ h => h) (Or.inl ⟨by rfl, fun W hW => by have hc := hW.2.2.1; go_simp⟩) hS ?_
    try simp only [List.setIfInBounds_toArray, List.set_cons_zero, List.set_cons_succ]
    refine take_at (i := 6) 19 (.pointer (some ⟨B, 1, none⟩)) rfl rfl (by kernel_rfl) (by kernel_rfl) (by kernel_rfl) (fun _ _ _ h => h) (Or.inl ⟨by rfl, fun W hW => by go_simp⟩) hS ?_
    try simp only [List.setIfInBounds_toArray, List.set_cons_zero, List.set_cons_succ]
    refine take_at (i := 7) 20 (.int .i64 (m : Int)) rfl rfl (by kernel_rfl) (by kernel_rfl) (by kernel_rfl) (fun _ _ _ h => h) (Or.inl ⟨by rfl, fun W hW => by have hc := hW.2.2.2; go_simp⟩) hS ?_
    try simp only [List.setIfInBounds_toArray, List.set_cons_zero, List.set_cons_succ]
    refine take_at (i := 8) 21 (.int .i64 ((x : Int) + (m : Int))) rfl rfl (by kernel_rfl) (by kernel_rfl) (by kernel_rfl) (fun _ _ _ h => h) (Or.inl ⟨by rfl, fun W hW => by go_simp⟩) hS ?_
    try simp only [List.setIfInBounds_toArray, List.set_cons_zero, List.set_cons_succ]
    refine take_at (i := 9) 22 (.slice (some ⟨g, o + x * 16, none⟩) m (cap - x)) rfl rfl (by kernel_rfl) (by kernel_rfl) (by kernel_rfl) (fun _ _ _ h => h) (Or.inl ⟨by rfl, fun W hW => by go_simp⟩) hS ?_
    try simp only [List.setIfInBounds_toArray, List.set_cons_zero, List.set_cons_succ]
    refine wpAnyH_ready (rs := [0, 10]) (by kernel_rfl) (by simp) ?_
    refine AllReadyH.cons rfl (fun K hK => ?_) ?_
    · skip
      have hc7 := k7.cell 0
      replace hc7 : W.drew.cell? ⟨w.heap.size + 1, 0, none⟩ = some (.slice vp vn vc) := hc7
      go_simp
      refine hK.out _ _ (hS) (fun hS => ?_)
      clear hK K
      try simp only [Act.put, List.setIfInBounds_toArray, List.set_cons_zero, List.set_cons_succ]
      refine wpAnyH_ready (rs := [10]) (by kernel_rfl) (by simp) ?_
      refine AllReadyH.cons rfl (fun K hK => ?_) AllReadyH.nil
      go_simp
      refine (CT.out _ hS.1).mono ?_
      rintro e X2 ⟨rfl, hb⟩
      refine hK.out _ _ (⟨hS.1.trans (hb.mono hS.1.size), cell_below hS.2.1 hb, cell_below hS.2.2.1 hb, cell_below hS.2.2.2 hb⟩) (fun hS => ?_)
      clear hK K
      replace k7 := k7.below hb k7.lt
      replace kl := kl.below hb kl.lt
      replace kX := kX.below hb kX.lt
      have hrow2 := ownsRow_below hrow.drew hb
      have hBX := hS.1
      have kf : KeepsFrom W0.heap.size W X2 := ⟨hb.size, fun k o _ hk _ => (hb.block k (Array.getElem?_eq_some_iff.1 hk).1).trans hk⟩
      have kB : ∀ k, k < W.heap.size → X2.heap[k]? = W.heap[k]? := fun k hk => hb.block k hk
      try simp only [Act.put, List.setIfInBounds_toArray, List.set_cons_zero, List.set_cons_succ]
      refine wpAnyH_ready (rs := [11]) (by kernel_rfl) (by simp) ?_
      refine AllReadyH.cons rfl (fun K hK => ?_) AllReadyH.nil
      refine step_build80 rfl (.tmp 23) rfl (T := T) rfl ?_
      refine hK.out _ _ (⟨hS.1.alloc hS.1.size _, cell_below hS.2.1 ((Below.refl _ _).alloc (Nat.le_refl _) _), cell_below hS.2.2.1 ((Below.refl _ _).alloc (Nat.le_refl _) _), cell_below hS.2.2.2 ((Below.refl _ _).alloc (Nat.le_refl _) _)⟩) (fun hS => ?_)
      clear hK K
      try simp only [Act.put, List.setIfInBounds_toArray, List.set_cons_zero, List.set_cons_succ]
      refine wpAnyH_ready (rs := [12]) (by kernel_rfl) (by simp) ?_
      refine AllReadyH.cons rfl (fun K hK => ?_) AllReadyH.nil
      have s7 := k7.lt
      refine step_append_lies _ (by rfl) _ _ _ (by rfl) (w.heap.size + 1) 23 i0 _ 16 16 Tryd.underlying80 hi0 hz0 hz1 hz2 rfl (by omega) _ pre.length (digCells (topT (coverL a b) D) pre.length) (by rfl) (hrow2.alloc _) ⟨X2.heap.size, 0, none⟩ 1 1 (A8 16 T).toList (by rfl) (by rw [Array.length_toList, A8.size]) (World.news_of_block (cs := A8 16 T) (t := 23) (fr := (0, 0)) (heap_alloc_new X2 _)) (by intro u hu; obtain ⟨j, hj⟩ := List.getElem?_of_mem hu; rw [Array.getElem?_toList] at hj; have := A8.one (n := 16) T; exact Array.all_eq_true_iff_forall_mem.1 this u (Array.mem_of_getElem? hj)) (by omega) (by unfold maxLen; omega) (by omega) (by simp; omega) (X2.heap.size + 1) (by simp) ?_
      intro gg capp w1 hown1 hgrow hat hlt2
      have AS := append_store k7 hrow2 hown1 hgrow
      refine hK.out _ _ (⟨hS.1.grown hgrow (by simp; omega) (fun q e => by have := (hrow2.lt q e).1; omega), (World.cell?_of_block (AS.2.2.2.2.2 _ _ _ kl (by decide)).1).trans (kl.cell 0), (World.cell?_of_block (AS.2.2.2.2.2 _ _ _ kX (by decide)).1).trans (kX.cell 0), (World.cell?_of_block (AS.2.2.2.2.2 _ _ _ kX (by decide)).1).trans (kX.cell 1)⟩) (fun hS => ?_)
      clear hK K
      have hc1 := AS.1.cell
      have hf1 := AS.1.frozen
      try simp only [Act.put, List.setIfInBounds_toArray, List.set_cons_zero, List.set_cons_succ]
      refine wpAnyH_ready (rs := [13]) (by kernel_rfl) (by simp) ?_
      refine AllReadyH.cons rfl (fun K hK => ?_) AllReadyH.nil
      go_simp
      refine hK.out _ _ (⟨hBX.trans (AS.2.2.2.2.1.mono (Nat.le_succ _)), (World.cell?_of_block ((AS.2.2.2.2.2 _ _ _ kl (by decide)).2 (by omega))).trans (kl.cell 0), (World.cell?_of_block ((AS.2.2.2.2.2 _ _ _ kX (by decide)).2 (by omega))).trans (kX.cell 0), (World.cell?_of_block ((AS.2.2.2.2.2 _ _ _ kX (by decide)).2 (by omega))).trans (kX.cell 1)⟩) (fun hS => ?_)
      clear hK K
      try simp only [Act.put, List.setIfInBounds_toArray, List.set_cons_zero, List.set_cons_succ]
      refine wpAnyH_done (by kernel_rfl) ?_ _
      gi_wp2_with fail
      exact blocks_end hy hy2 kf kB kl AS hS.1 h3l HTT.out
    refine AllReadyH.cons rfl (fun K hK => ?_) AllReadyH.nil
    go_simp
    refine (CT.out _ hS.1).mono ?_
    rintro e X6 ⟨rfl, hb⟩
    refine hK.out _ _ (⟨hS.1.trans (hb.mono hS.1.size), cell_below hS.2.1 hb, cell_below hS.2.2.1 hb, cell_below hS.2.2.2 hb⟩) (fun hS => ?_)
    clear hK K
    replace k7 := k7.below hb k7.lt
    replace kl := kl.below hb kl.lt
    replace kX := kX.below hb kX.lt
    have hrow2 := ownsRow_below hrow.drew hb
    have hBX := hS.1
    have kf : KeepsFrom W0.heap.size W X6 := ⟨hb.size, fun k o _ hk _ => (hb.block k (Array.getElem?_eq_some_iff.1 hk).1).trans hk⟩
    have kB : ∀ k, k < W.heap.size → X6.heap[k]? = W.heap[k]? := fun k hk => hb.block k hk
    try simp only [Act.put, List.setIfInBounds_toArray, List.set_cons_zero, List.set_cons_succ]
    refine wpAnyH_ready (rs := [0, 11]) (by kernel_rfl) (by simp) ?_
    refine AllReadyH.cons rfl (fun K hK => ?_) ?_
    · skip
      have hc7 := k7.cell 0
      replace hc7 : X6.cell? ⟨w.heap.size + 1, 0, none⟩ = some (.slice vp vn vc) := hc7
      go_simp
      refine hK.out _ _ (hS) (fun hS => ?_)
      clear hK K
      try simp only [Act.put, List.setIfInBounds_toArray, List.set_cons_zero, List.set_cons_succ]
      refine wpAnyH_ready (rs := [11]) (by kernel_rfl) (by simp) ?_
      refine AllReadyH.cons rfl (fun K hK => ?_) AllReadyH.nil
      refine step_build80 rfl (.tmp 23) rfl (T := T) rfl ?_
      refine hK.out _ _ (⟨hS.1.alloc hS.1.size _, cell_below hS.2.1 ((Below.refl _ _).alloc (Nat.le_refl _) _), cell_below hS.2.2.1 ((Below.refl _ _).alloc (Nat.le_refl _) _), cell_below hS.2.2.2 ((Below.refl _ _).alloc (Nat.le_refl _) _)⟩) (fun hS => ?_)
      clear hK K
      try simp only [Act.put, List.setIfInBounds_toArray, List.set_cons_zero, List.set_cons_succ]
      refine wpAnyH_ready (rs := [12]) (by kernel_rfl) (by simp) ?_
      refine AllReadyH.cons rfl (fun K hK => ?_) AllReadyH.nil
      have s7 := k7.lt
      refine step_append_lies _ (by rfl) _ _ _ (by rfl) (w.heap.size + 1) 23 i0 _ 16 16 Tryd.underlying80 hi0 hz0 hz1 hz2 rfl (by omega) _ pre.length (digCells (topT (coverL a b) D) pre.length) (by rfl) (hrow2.alloc _) ⟨X6.heap.size, 0, none⟩ 1 1 (A8 16 T).toList (by rfl) (by rw [Array.length_toList, A8.size]) (World.news_of_block (cs := A8 16 T) (t := 23) (fr := (0, 0)) (heap_alloc_new X6 _)) (by intro u hu; obtain ⟨j, hj⟩ := List.getElem?_of_mem hu; rw [Array.getElem?_toList] at hj; have := A8.one (n := 16) T; exact Array.all_eq_true_iff_forall_mem.1 this u (Array.mem_of_getElem? hj)) (by omega) (by unfold maxLen; omega) (by omega) (by simp; omega) (X6.heap.size + 1) (by simp) ?_
      intro gg capp w1 hown1 hgrow hat hlt2
      have AS := append_store k7 hrow2 hown1 hgrow
      refine hK.out _ _ (⟨hS.1.grown hgrow (by simp; omega) (fun q e => by have := (hrow2.lt q e).1; omega), (World.cell?_of_block (AS.2.2.2.2.2 _ _ _ kl (by decide)).1).trans (kl.cell 0), (World.cell?_of_block (AS.2.2.2.2.2 _ _ _ kX (by decide)).1).trans (kX.cell 0), (World.cell?_of_block (AS.2.2.2.2.2 _ _ _ kX (by decide)).1).trans (kX.cell 1)⟩) (fun hS => ?_)
      clear hK K
      have hc1 := AS.1.cell
      have hf1 := AS.1.frozen
      try simp only [Act.put, List.setIfInBounds_toArray, List.set_cons_zero, List.set_cons_succ]
      refine wpAnyH_ready (rs := [13]) (by kernel_rfl) (by simp) ?_
      refine AllReadyH.cons rfl (fun K hK => ?_) AllReadyH.nil
      go_simp
      refine hK.out _ _ (⟨hBX.trans (AS.2.2.2.2.1.mono (Nat.le_succ _)), (World.cell?_of_block ((AS.2.2.2.2.2 _ _ _ kl (by decide)).2 (by omega))).trans (kl.cell 0), (World.cell?_of_block ((AS.2.2.2.2.2 _ _ _ kX (by decide)).2 (by omega))).trans (kX.cell 0), (World.cell?_of_block ((AS.2.2.2.2.2 _ _ _ kX (by decide)).2 (by omega))).trans (kX.cell 1)⟩) (fun hS => ?_)
      clear hK K
      try simp only [Act.put, List.setIfInBounds_toArray, List.set_cons_zero, List.set_cons_succ]
      refine wpAnyH_done (by kernel_rfl) ?_ _
      gi_wp2_with fail
      exact blocks_end hy hy2 kf kB kl AS hS.1 h3l HTT.out
    refine AllReadyH.cons rfl (fun K hK => ?_) AllReadyH.nil
    refine step_build80 rfl (.tmp 23) rfl (T := T) rfl ?_
    refine hK.out _ _ (⟨hS.1.alloc hS.1.size _, cell_below hS.2.1 ((Below.refl _ _).alloc (Nat.le_refl _) _), cell_below hS.2.2.1 ((Below.refl _ _).alloc (Nat.le_refl _) _), cell_below hS.2.2.2 ((Below.refl _ _).alloc (Nat.le_refl _) _)⟩) (fun hS => ?_)
    clear hK K
    try simp only [Act.put, List.setIfInBounds_toArray, List.set_cons_zero, List.set_cons_succ]
    refine wpAnyH_ready (rs := [0]) (by kernel_rfl) (by simp) ?_
    refine AllReadyH.cons rfl (fun K hK => ?_) AllReadyH.nil
    have hc7 := k7.cell 0
    replace hc7 : (X6.alloc (.cells (A8 16 T) 23)).cell? ⟨w.heap.size + 1, 0, none⟩ = some (.slice vp vn vc) := ((Below.refl _ _).alloc (Nat.le_refl _) _ |>.cell k7.lt).trans hc7
    go_simp
    refine hK.out _ _ (hS) (fun hS => ?_)
    clear hK K
    try simp only [Act.put, List.setIfInBounds_toArray, List.set_cons_zero, List.set_cons_succ]
    refine wpAnyH_ready (rs := [12]) (by kernel_rfl) (by simp) ?_
    refine AllReadyH.cons rfl (fun K hK => ?_) AllReadyH.nil
    have s7 := k7.lt
    refine step_append_lies _ (by rfl) _ _ _ (by rfl) (w.heap.size + 1) 23 i0 _ 16 16 Tryd.underlying80 hi0 hz0 hz1 hz2 rfl (by omega) _ pre.length (digCells (topT (coverL a b) D) pre.length) (by rfl) (hrow2.alloc _) ⟨X6.heap.size, 0, none⟩ 1 1 (A8 16 T).toList (by rfl) (by rw [Array.length_toList, A8.size]) (World.news_of_block (cs := A8 16 T) (t := 23) (fr := (0, 0)) (heap_alloc_new X6 _)) (by intro u hu; obtain ⟨j, hj⟩ := List.getElem?_of_mem hu; rw [Array.getElem?_toList] at hj; have := A8.one (n := 16) T; exact Array.all_eq_true_iff_forall_mem.1 this u (Array.mem_of_getElem? hj)) (by omega) (by unfold maxLen; omega) (by omega) (by simp; omega) (X6.heap.size + 1) (by simp) ?_
    intro gg capp w1 hown1 hgrow hat hlt2
    have AS := append_store k7 hrow2 hown1 hgrow
    refine hK.out _ _ (⟨hS.1.grown hgrow (by simp; omega) (fun q e => by have := (hrow2.lt q e).1; omega), (World.cell?_of_block (AS.2.2.2.2.2 _ _ _ kl (by decide)).1).trans (kl.cell 0), (World.cell?_of_block (AS.2.2.2.2.2 _ _ _ kX (by decide)).1).trans (kX.cell 0), (World.cell?_of_block (AS.2.2.2.2.2 _ _ _ kX (by decide)).1).trans (kX.cell 1)⟩) (fun hS => ?_)
    clear hK K
    have hc1 := AS.1.cell
    have hf1 := AS.1.frozen
    try simp only [Act.put, List.setIfInBounds_toArray, List.set_cons_zero, List.set_cons_succ]
    refine wpAnyH_ready (rs := [13]) (by kernel_rfl) (by simp) ?_
    refine AllReadyH.cons rfl (fun K hK => ?_) AllReadyH.nil
    go_simp
    refine hK.out _ _ (⟨hBX.trans (AS.2.2.2.2.1.mono (Nat.le_succ _)), (World.cell?_of_block ((AS.2.2.2.2.2 _ _ _ kl (by decide)).2 (by omega))).trans (kl.cell 0), (World.cell?_of_block ((AS.2.2.2.2.2 _ _ _ kX (by decide)).2 (by omega))).trans (kX.cell 0), (World.cell?_of_block ((AS.2.2.2.2.2 _ _ _ kX (by decide)).2 (by omega))).trans (kX.cell 1)⟩) (fun hS => ?_)
    clear hK K
    try simp only [Act.put, List.setIfInBounds_toArray, List.set_cons_zero, List.set_cons_succ]
    refine wpAnyH_done (by kernel_rfl) ?_ _
    gi_wp2_with fail
    exact blocks_end hy hy2 kf kB kl AS hS.1 h3l HTT.out
  case done =>
    rintro Dd W hD ⟨⟨v, k7, hrow⟩, kl, ⟨y, hy⟩, ⟨y2, hy2⟩, hB⟩ hK
    have hc := Boxed.cell k7
    obtain ⟨vp, vn, vc, rfl⟩ := ownsRow_slice' hrow
    gi_wp2
    refine ⟨by simp, .inl ⟨_, _, rfl, run_takeDeferred hK, ?_⟩⟩
    refine ⟨.slice vp vn vc, ?_, .slice vp vn vc, rfl, ownsRow_base (ownsRow_putObj hrow _ hK rfl) (Nat.le_succ _), hB.trans ⟨rfl, rfl, rfl, by simp, fun k hk => World.putObj_heap_other (by omega)⟩⟩
    rw [results_tmp (t := 6) rfl]
    rfl
end Go.Proofs.YtdpgebifeaakjaaDoor

/- Path and Growth of the program. -/
namespace Go.Proofs.YtdpgebifeaakjaaDoor
set_option linter.unusedSimpArgs false
set_option linter.unusedVariables false
open Go.RowKit

set_option maxRecDepth 20000 in
set_option maxHeartbeats 1000000 in
theorem path_ok (n a b : Nat) (D : Nat → Nat → BitVec 8) (v : Value) (w : World) (hab : a ≤ b) (hbn : b ≤ n) (hn : n ≤ 1000) (hv : Digs w v n D) (hT : TabAt 3 Lib.deBruijn64tab w) (h3l : 3 < w.heap.size) :
    Calls Tryd.prog 44 #[v, .int .i64 (a : Int), .int .i64 (b : Int)] w fun e w' => ∃ r, e = .returned (.tuple #[r, .int .i64 0]) ∧
      w'.ownsRow w.heap.size 23 16 r ((coverL 0 a).length + (coverL b n).length) (digCells (topT (coverL 0 a) D) (coverL 0 a).length ++ digCells (topT (coverL b n) D) (coverL b n).length) ∧ Below w.heap.size w w' := by
  have hvv := hv
  obtain ⟨p, cap, rfl, hcap, hv⟩ := hv
  have h1 : ¬ (a : Int) < 0 := by omega
  have h2 : ¬ (b : Int) < (a : Int) := by omega
  have h3 : ¬ (n : Int) < (b : Int) := by omega
  have l1 := coverL_length 0 a
  have l2 := coverL_length b n
  have c1 : Calls Tryd.prog 75 #[.slice p n cap, .int .i64 0, .int .i64 (a : Int)] w _ := bsof_any n 0 a D _ w (by omega) (by omega) hn hvv hT h3l
  have c2 := fun (W : World) (hB : Below w.heap.size w W) => bsof_any n b n D _ W hbn (Nat.le_refl _) hn (hvv.below hB) (fun j hj => (hB.cell (p := ⟨3, j, none⟩) h3l).trans (hT j hj)) (Nat.lt_of_lt_of_le h3l hB.size)
  generalize coverL 0 a = L1 at c1 l1 ⊢
  generalize coverL b n = L2 at c2 l2 ⊢
  have C2 := hide c2
  clear c2
  go_enter Tryd.func44, Tryd.ntmps44
  go_wp2_with fail
  refine c1.mono ?_
  rintro e W1 ⟨r1, rfl, q1, hb1⟩
  clear c1
  go_wp2_with fail
  refine (C2.out _ hb1).mono ?_
  rintro e W2 ⟨r2, rfl, q2, hb2⟩
  have s1 := hb1.size
  have s2 := hb2.size
  replace q1 := ownsRow_below q1 hb2
  clear C2
  go_wp2_with (at_builtin; go_loud (refine wp_append_digs rfl _ _ rfl rfl q1 rfl q2 (by omega) (by omega) ?_); intro r W5 q3 hb5)
  go_ret2
  exact ⟨r, rfl, q3, (hb1.trans (hb2.mono s1)).trans hb5⟩
set_option maxRecDepth 20000 in
set_option maxHeartbeats 1000000 in
theorem path_bad (n : Nat) (a b : Int) (D : Nat → Nat → BitVec 8) (v : Value) (w : World) (hbad : a < 0 ∨ ¬ a < 0 ∧ b < a ∨ ¬ a < 0 ∧ ¬ b < a ∧ (n : Int) < b) (hv : Digs w v n D) :
    Calls Tryd.prog 44 #[v, .int .i64 a, .int .i64 b] w fun e w' => e = .returned (.tuple #[.slice none 0 0, .int .i64 1]) ∧ Below w.heap.size w w' := by
  obtain ⟨p, cap, rfl, hcap, hv⟩ := hv
  have hB := Below.refl w.heap.size w
  rcases hbad with h | ⟨h, h'⟩ | ⟨h, h', h''⟩
  all_goals
    go_enter Tryd.func44, Tryd.ntmps44
    go_wp2_with fail
    go_ret2
    exact ⟨rfl, hB⟩
set_option maxRecDepth 20000 in
set_option maxHeartbeats 1000000 in
theorem growth_ok (n a : Nat) (D : Nat → Nat → BitVec 8) (v : Value) (w : World) (hbn : a ≤ n) (hn : n ≤ 1000) (hv : Digs w v n D) (hT : TabAt 3 Lib.deBruijn64tab w) (h3l : 3 < w.heap.size) :
    Calls Tryd.prog 45 #[v, .int .i64 (a : Int)] w fun e w' => ∃ r, e = .returned (.tuple #[r, .int .i64 0]) ∧
      w'.ownsRow w.heap.size 23 16 r ((coverL 0 a).length + (coverL a n).length) (digCells (topT (coverL 0 a) D) (coverL 0 a).length ++ digCells (topT (coverL a n) D) (coverL a n).length) ∧ Below w.heap.size w w' := by
  have c := path_ok n a a D v w (Nat.le_refl _) hbn hn hv hT h3l
  obtain ⟨p, cap, rfl, hcap, hv⟩ := hv
  go_enter Tryd.func45, Tryd.ntmps45
  go_wp2_with fail
  refine c.mono ?_
  rintro e W1 ⟨r1, rfl, q1, hb1⟩
  go_wp2_with fail
  go_ret2
  exact ⟨r1, rfl, q1, hb1⟩
set_option maxRecDepth 20000 in
set_option maxHeartbeats 1000000 in
theorem growth_bad (n : Nat) (a : Int) (D : Nat → Nat → BitVec 8) (v : Value) (w : World) (hbad : a < 0 ∨ ¬ a < 0 ∧ (n : Int) < a) (hv : Digs w v n D) :
    Calls Tryd.prog 45 #[v, .int .i64 a] w fun e w' => e = .returned (.tuple #[.slice none 0 0, .int .i64 1]) ∧ Below w.heap.size w w' := by
  have c := path_bad n a a D v w (by omega) hv
  obtain ⟨p, cap, rfl, hcap, hv⟩ := hv
  go_enter Tryd.func45, Tryd.ntmps45
  go_wp2_with fail
  refine c.mono ?_
  rintro e W1 ⟨rfl, hb1⟩
  go_wp2_with fail
  go_ret2
  exact ⟨rfl, hb1⟩
end Go.Proofs.YtdpgebifeaakjaaDoor

/- The body of DigestTrees. -/
namespace Go.Proofs.YtdpgebifeaakjaaDoor
set_option linter.unusedSimpArgs false
set_option linter.unusedVariables false
open Go.RowKit

theorem digs_nil (W : World) (D : Nat → Nat → BitVec 8) : Digs W (.slice none 0 0) 0 D := ⟨none, 0, rfl, Nat.le_refl _, fun j hj => by omega⟩
/-- A list that the program makes, and the specification's, with their errors: alike. -/
def Both (w : World) (f g : Nat) (args : Array Value) (k : Nat) (U : Nat → Nat → BitVec 8) (ee : Int) : Prop :=
  (∀ W, Below w.heap.size w W → Calls Tryd.prog f args W fun e w' => ∃ r, e = .returned (.tuple #[r, .int .i64 ee]) ∧ Digs w' r k U ∧ Below W.heap.size W w') ∧
  (∀ W, Below w.heap.size w W → Calls Tryd.prog g args W fun e w' => ∃ r, e = .returned (.agg #[r, .int .i64 ee]) ∧ Digs w' r k U ∧ Below W.heap.size W w')
theorem path_both (n : Nat) (i j : Int) (D : Nat → Nat → BitVec 8) (v : Value) (w : World) (hn : n ≤ 1000) (hv : Digs w v n D) (hT : TabAt 3 Lib.deBruijn64tab w) (hKK : KAt w) (h3l : 3 < w.heap.size) :
    ∃ k U ee, k ≤ 1000 ∧ Both w 44 46 #[v, .int .i64 i, .int .i64 j] k U ee := by
  by_cases hbad : i < 0 ∨ ¬ i < 0 ∧ j < i ∨ ¬ i < 0 ∧ ¬ j < i ∧ (n : Int) < j
  · exact ⟨0, D, 1, by omega, fun W hB => (path_bad n i j D v W hbad (hv.below hB)).mono fun e w' ⟨h1, h2⟩ => ⟨_, h1, digs_nil _ _, h2⟩, fun W hB => (rpath_bad n i j D v W hbad (hv.below hB)).mono fun e w' ⟨h1, h2⟩ => ⟨_, h1, digs_nil _ _, h2⟩⟩
  · obtain ⟨a, rfl⟩ := Int.eq_ofNat_of_zero_le (show 0 ≤ i by omega)
    obtain ⟨b, rfl⟩ := Int.eq_ofNat_of_zero_le (show 0 ≤ j by omega)
    have l1 := coverL_length 0 a
    have l2 := coverL_length b n
    refine ⟨(coverL 0 a).length + (coverL b n).length, joinT (coverL 0 a).length (topT (coverL 0 a) D) (topT (coverL b n) D), 0, by omega, fun W hB => (path_ok n a b D v W (by omega) (by omega) hn (hv.below hB) (fun j hj => (hB.cell (p := ⟨3, j, none⟩) h3l).trans (hT j hj)) (Nat.lt_of_lt_of_le h3l hB.size)).mono ?_, fun W hB => (rpath_ok n a b D v W (by omega) (by omega) hn (hv.below hB) (hKK.below hKK.pos hB)).mono ?_⟩
    · rintro e w' ⟨r, h1, h2, h3⟩
      rw [digCells_join] at h2
      exact ⟨r, h1, Digs.of_owns h2, h3⟩
    · rintro e w' ⟨r, h1, h2, h3⟩
      rw [digCells_join] at h2
      exact ⟨r, h1, Digs.of_owns h2, h3⟩
theorem growth_both (n : Nat) (i : Int) (D : Nat → Nat → BitVec 8) (v : Value) (w : World) (hn : n ≤ 1000) (hv : Digs w v n D) (hT : TabAt 3 Lib.deBruijn64tab w) (hKK : KAt w) (h3l : 3 < w.heap.size) :
    ∃ k U ee, k ≤ 1000 ∧ Both w 45 47 #[v, .int .i64 i] k U ee := by
  by_cases hbad : i < 0 ∨ ¬ i < 0 ∧ (n : Int) < i
  · exact ⟨0, D, 1, by omega, fun W hB => (growth_bad n i D v W hbad (hv.below hB)).mono fun e w' ⟨h1, h2⟩ => ⟨_, h1, digs_nil _ _, h2⟩, fun W hB => (rgrowth_bad n i D v W hbad (hv.below hB)).mono fun e w' ⟨h1, h2⟩ => ⟨_, h1, digs_nil _ _, h2⟩⟩
  · obtain ⟨a, rfl⟩ := Int.eq_ofNat_of_zero_le (show 0 ≤ i by omega)
    have l1 := coverL_length 0 a
    have l2 := coverL_length a n
    refine ⟨(coverL 0 a).length + (coverL a n).length, joinT (coverL 0 a).length (topT (coverL 0 a) D) (topT (coverL a n) D), 0, by omega, fun W hB => (growth_ok n a D v W (by omega) hn (hv.below hB) (fun j hj => (hB.cell (p := ⟨3, j, none⟩) h3l).trans (hT j hj)) (Nat.lt_of_lt_of_le h3l hB.size)).mono ?_, fun W hB => (rgrowth_ok n a D v W (by omega) hn (hv.below hB) (hKK.below hKK.pos hB)).mono ?_⟩
    · rintro e w' ⟨r, h1, h2, h3⟩
      rw [digCells_join] at h2
      exact ⟨r, h1, Digs.of_owns h2, h3⟩
    · rintro e w' ⟨r, h1, h2, h3⟩
      rw [digCells_join] at h2
      exact ⟨r, h1, Digs.of_owns h2, h3⟩
theorem size85 : (Tryd.prog.info? 85).map (·.size) = some 2 := by kernel_rfl
set_option maxRecDepth 20000 in
set_option maxHeartbeats 1000000 in
theorem trees_any (n : Nat) (i j : Int) (D : Nat → Nat → BitVec 8) (v : Value) (w : World) (hv : Digs w v n D) (hm : n ≤ maxLen) (hT : TabAt 3 Lib.deBruijn64tab w) (hKK : KAt w) (h3 : 3 < w.heap.size) :
    Calls Tryd.prog 10 #[v, .int .i64 i, .int .i64 j] w fun e w' => e = .returned (.bool true) ∧ Below w.heap.size w w' := by
  have hvv := hv
  have hB := Below.refl w.heap.size w
  by_cases hn : 100 < n
  · obtain ⟨p, cap, rfl, hcap, hv⟩ := hv
    have hh : (100 : Int) < (n : Int) := by omega
    go_enter Tryd.func10, Tryd.ntmps10
    go_wp2_with fail
    refine (sane_any _ (tabC hT h3 hB) (Nat.lt_of_lt_of_le h3 hB.size)).mono ?_
    rintro e W1 ⟨rfl, hb⟩
    go_wp2_with fail
    go_ret
    exact ⟨rfl, hB.trans (hb.mono hB.size)⟩
  · obtain ⟨k, U, ee, hk, b1, b2⟩ := path_both n i j D v w (by omega) hv hT hKK h3
    obtain ⟨k', U', ee', hk', b3, b4⟩ := growth_both n i D v w (by omega) hv hT hKK h3
    have t1 := fun (W : World) (hB : Below w.heap.size w W) => tree_any n n D v W (Nat.le_refl _) (by omega) (hv.below hB)
    have t2 := fun (W : World) (hB : Below w.heap.size w W) => rtree_any n n D v W (Nat.le_refl _) (by omega) (hv.below hB) (hKK.below hKK.pos hB)
    obtain ⟨p, cap, rfl, hcap, hv⟩ := hv
    have hh : ¬ (100 : Int) < (n : Int) := by omega
    have sn := fun (W : World) (hB : Below w.heap.size w W) => sane_any W (tabC hT h3 hB) (Nat.lt_of_lt_of_le h3 hB.size)
    generalize treeF n n D = T at t1 t2
    have heq := eql_same (P := Tryd.prog) Tryd.underlying23 size5 Tryd.isAgg5 Tryd.underlying5 T
    have s0 : w.heap.size ≤ w.heap.size := Nat.le_refl _
    clear hv hvv hm hcap
    go_enter Tryd.func10, Tryd.ntmps10
    go_wp2_with fail
    refine (b1 _ hB).mono ?_
    rintro e W1 ⟨r1, rfl, d1, hb⟩
    replace hB := hB.trans (hb.mono hB.size)
    clear hb b1
    go_wp2_with fail
    refine (b3 _ hB).mono ?_
    rintro e W2 ⟨r2, rfl, d2, hb⟩
    replace d1 := d1.below hb
    replace hB := hB.trans (hb.mono hB.size)
    clear hb b3
    go_wp2_with fail
    refine (b2 _ hB).mono ?_
    rintro e W3 ⟨r3, rfl, d3, hb⟩
    replace d1 := d1.below hb
    replace d2 := d2.below hb
    replace hB := hB.trans (hb.mono hB.size)
    clear hb b2
    obtain ⟨p3, c3, rfl, hc3, d3'⟩ := id d3
    go_wp2_with fail
    have k5 := Blk.new W3 #[.slice p3 k c3, .int .i64 ee] 85
    have hb3 : Below W3.heap.size W3 (W3.alloc (.cells #[.slice p3 k c3, .int .i64 ee] 85)) := (Below.refl _ _).alloc (Nat.le_refl _) _
    generalize W3.alloc (.cells #[.slice p3 k c3, .int .i64 ee] 85) = W4 at k5 hb3 ⊢
    have l5 := k5.lt
    replace d1 := d1.below hb3
    replace d2 := d2.below hb3
    replace d3 := d3.below hb3
    replace hB := hB.trans (hb3.mono hB.size)
    clear hb3
    refine (b4 _ hB).mono ?_
    rintro e W5 ⟨r4, rfl, d4, hb⟩
    replace d1 := d1.below hb
    replace d2 := d2.below hb
    replace d3 := d3.below hb
    replace k5 := k5.below hb k5.lt
    replace hB := hB.trans (hb.mono hB.size)
    clear hb b4
    obtain ⟨p4, c4, rfl, hc4, d4'⟩ := id d4
    go_wp2_with fail
    have k6 := Blk.new W5 #[.slice p4 k' c4, .int .i64 ee'] 85
    have hb3 : Below W5.heap.size W5 (W5.alloc (.cells #[.slice p4 k' c4, .int .i64 ee'] 85)) := (Below.refl _ _).alloc (Nat.le_refl _) _
    generalize W5.alloc (.cells #[.slice p4 k' c4, .int .i64 ee'] 85) = W6 at k6 hb3 ⊢
    replace d1 := d1.below hb3
    replace d2 := d2.below hb3
    replace d3 := d3.below hb3
    replace d4 := d4.below hb3
    replace k5 := k5.below hb3 k5.lt
    replace hB := hB.trans (hb3.mono hB.size)
    clear hb3 d3' d4'
    refine (sn _ hB).mono ?_
    rintro e W7 ⟨rfl, hb⟩
    replace d1 := d1.below hb
    replace d2 := d2.below hb
    replace d3 := d3.below hb
    replace d4 := d4.below hb
    replace k5 := k5.below hb k5.lt
    replace k6 := k6.below hb k6.lt
    replace hB := hB.trans (hb.mono hB.size)
    clear hb sn
    go_wp2_with fail
    refine (t1 _ hB).mono ?_
    rintro e W8 ⟨rfl, hb⟩
    replace d1 := d1.below hb
    replace d2 := d2.below hb
    replace d3 := d3.below hb
    replace d4 := d4.below hb
    replace k5 := k5.below hb k5.lt
    replace k6 := k6.below hb k6.lt
    replace hB := hB.trans (hb.mono hB.size)
    clear hb t1
    go_wp2_with fail
    refine (t2 _ hB).mono ?_
    rintro e W9 ⟨rfl, hb⟩
    replace d1 := d1.below hb
    replace d2 := d2.below hb
    replace d3 := d3.below hb
    replace d4 := d4.below hb
    replace k5 := k5.below hb k5.lt
    replace k6 := k6.below hb k6.lt
    replace hB := hB.trans (hb.mono hB.size)
    clear hb t2
    have q5 := k5.cell 0; have q6 := k6.cell 0; have q7 := k5.cell 1; have q8 := k6.cell 1
    go_wp2_with fail
    refine (same_any k U r1 _ _ (by omega) d1 d3).mono ?_
    rintro e W10 ⟨rfl, hb⟩
    replace d2 := d2.below hb
    replace d4 := d4.below hb
    replace k5 := k5.below hb k5.lt
    replace k6 := k6.below hb k6.lt
    replace hB := hB.trans (hb.mono hB.size)
    clear hb q5 q6 q7 q8 d1 d3
    have q5 := k5.cell 0; have q6 := k6.cell 0; have q7 := k5.cell 1; have q8 := k6.cell 1
    go_wp2_with fail
    refine (same_any k' U' r2 _ _ (by omega) d2 d4).mono ?_
    rintro e W11 ⟨rfl, hb⟩
    replace k5 := k5.below hb k5.lt
    replace k6 := k6.below hb k6.lt
    replace hB := hB.trans (hb.mono hB.size)
    clear hb q5 q6 q7 q8 d2 d4
    have q5 := k5.cell 0; have q6 := k6.cell 0; have q7 := k5.cell 1; have q8 := k6.cell 1
    go_wp2_with fail
    go_ret
    exact ⟨rfl, hB⟩
end Go.Proofs.YtdpgebifeaakjaaDoor
