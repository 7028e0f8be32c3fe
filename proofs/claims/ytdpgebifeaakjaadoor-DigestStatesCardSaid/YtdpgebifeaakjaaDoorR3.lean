/- The walks of cover and of Cover. -/
import Derived.Test.YtdpgebifeaakjaaDoorR2
import Derived.RangeFuncBox
import Derived.Maps.AppendAt
import Derived.Laws.OwnMore
namespace Go.Proofs.YtdpgebifeaakjaaDoor
set_option linter.unusedSimpArgs false
set_option linter.unusedVariables false
open Go.RowKit
attribute [local go_sem] Oper.semAt_some

theorem info106 : (Tryd.prog.info? 106).map (fun i => (i.zero, i.size, i.bytes)) = some (some (.agg #[.int .i64 0, .int .i64 0]), 2, 16) := by kernel_rfl

set_option maxHeartbeats 1000000 in
theorem cover_fn (a b : Int) (w : World) :
    Calls Tryd.prog 62 #[.int .i64 a, .int .i64 b] w fun e w' => e = .returned (.func (.func 97) #[] #[.pointer (some ⟨w.heap.size, 0, none⟩), .pointer (some ⟨w.heap.size + 1, 0, none⟩)]) ∧ w' = (w.alloc (.cells #[.int .i64 a] 3)).alloc (.cells #[.int .i64 b] 3) := by
  have hmf : ∀ w x y, (Instr.makeFunc (.func 97) #[] #[x, y]).run Tryd.prog w = .ok (.func (.func 97) #[] #[x, y]) w := fun _ _ _ => by kernel_rfl
  go_enter Tryd.func62, Tryd.ntmps62
  go_wp2_with fail
  go_ret
  exact ⟨rfl, rfl⟩

def cellsOf : List (Nat × Nat) → List Value
  | [] => []
  | x :: l => .int .i64 x.1 :: .int .i64 x.2 :: cellsOf l
theorem cellsOf_snoc : ∀ (l : List (Nat × Nat)) (x : Nat × Nat), cellsOf (l ++ [x]) = cellsOf l ++ [.int .i64 x.1, .int .i64 x.2]
  | [], _ => rfl
  | y :: l, x => by simp [cellsOf, cellsOf_snoc l x]
theorem coverF_length : ∀ (f a b : Nat), (coverF f a b).length ≤ f
  | 0, _, _ => Nat.le_refl _
  | f + 1, a, b => by
    rw [coverF]
    split
    · have := coverF_length f (a + stepN a b) b
      simp; omega
    · simp
theorem coverL_length (a b : Nat) : (coverL a b).length ≤ b - a := coverF_length _ _ _

theorem cells_two_new (W : World) (u v : Value) (t : Nat) : ∀ j c, [u, v][j]? = some c → (W.alloc (.cells #[u, v] t)).cell? ((⟨W.heap.size, 0, none⟩ : Addr).add j) = some c := by
  intro j c hj
  rw [Addr.add_lit, (Blk.new W #[u, v] t).cell, Nat.zero_add]
  simpa using hj

/-- Between two rounds: the result's cell holds a slice that owns the blocks that have come; the counter's cell is a cell still. -/
def CoverI (n₀ : Nat) (w : World) (pre : List (Nat × Nat)) (W : World) : Prop :=
  (∃ v, Boxed W n₀ 33 v ∧ W.ownsRow n₀ 106 2 v pre.length (cellsOf pre)) ∧ (∃ x, Boxed W (n₀ + 1) 3 x) ∧ (∃ x, Boxed W (n₀ + 1 + 1) 3 x) ∧ Below n₀ w W
theorem ownsRow_other {W : World} {base e size n g : Nat} {v : Value} {xs : List Value} {cs : Array Value} {t : Nat} (h : W.ownsRow base e size v n xs) (hg : W.heap[g]? = some (.cells cs t (0, 0))) (hne : t ≠ e) : v.ownBlock = none ∨ v.ownBlock ≠ some g := by
  rcases h.2 with ⟨rfl, _⟩ | ⟨g', cap, cur, rfl, _, hgb, _⟩
  · exact .inl rfl
  · refine .inr fun e' => ?_
    obtain rfl : g' = g := by simpa [Value.ownBlock] using e'
    rw [hgb] at hg
    cases hg
    exact hne rfl
theorem coverI_own1 (n₀ : Nat) : Own (fun (pre : List (Nat × Nat)) W => ∃ v, Boxed W n₀ 33 v ∧ W.ownsRow n₀ 106 2 v pre.length (cellsOf pre)) := by
  intro s W W' row hs hg hr
  obtain ⟨v, h1, h2⟩ := hs
  obtain ⟨v', h1', h2', _⟩ := holdsRow_own n₀ n₀ 33 106 2 (fun pre : List (Nat × Nat) => pre.length) cellsOf (fun _ _ => True) s W W' row ⟨v, h1, h2, trivial⟩ hg hr
  exact ⟨v', h1', h2'⟩
theorem coverI_own2 (k : Nat) : Own (fun (_ : List (Nat × Nat)) W => ∃ x, Boxed W k 3 x) := by
  intro s W W' row hs hg hr
  obtain ⟨x, hx⟩ := hs
  exact ⟨x, hx.kept hg (fun e' => by obtain ⟨o, ho, hc⟩ := hr _ e'.symm; rw [show W.heap[k]? = _ from hx] at ho; cases ho; cases hc)⟩
theorem coverI_own (n₀ B : Nat) (w : World) (hw : n₀ ≤ w.heap.size) (hB : n₀ ≤ B) : OwnC B (n₀ + 1) (CoverI n₀ w) := by
  refine ⟨OwnFrom.and (Own.from (coverI_own1 n₀) _) (OwnFrom.and (Own.from (coverI_own2 (n₀ + 1)) _) (OwnFrom.and (Own.from (coverI_own2 (n₀ + 1 + 1)) _) (ownFrom_below hw hB))), ?_⟩
  rintro s W v ⟨⟨u, h1, h2⟩, ⟨x, hx⟩, ⟨y, hy⟩, hb⟩
  have hg := grownBy_setCell W ⟨n₀ + 1, 0, none⟩ v
  exact ⟨⟨u, h1.kept hg (by simp), h2.kept hg (ownsRow_other h2 hx (by decide))⟩, ⟨v, hx.set v⟩, ⟨y, hy.kept hg (by simp)⟩, hb.setCell (p := ⟨n₀ + 1, 0, none⟩) (by simp) v⟩

/-- The loop's own variable: a cell of two, new in each round. -/
def CoverA (n₀ : Nat) (a b : Value) (f p q : Value) (x : Nat × Nat) (a' : Act) (W : World) : Prop :=
  ∃ B, n₀ + 1 < B ∧ Blk W B #[.int .i64 x.1, .int .i64 x.2] 106 ∧
    a' = { tmps := #[a, b, p, q, .pointer (some ⟨n₀, 0, none⟩), .int .i64 0, .pointer (some ⟨B, 0, none⟩), a, .bool false, .bool false, a, b, .bool false, .bool false, .bool false, b, .bool false, .bool false, a, b, f, .agg #[.int .i64 x.1, .int .i64 x.2], undef, undef, undef, undef, undef], defers := [] }

theorem coverA_own (n₀ B0 : Nat) (a b f p q : Value) (x : Nat × Nat) (a' : Act) : OwnC B0 (n₀ + 1) (fun (_ : Unit) W => CoverA n₀ a b f p q x a' W) := by
  refine ⟨fun s W W' row hs hg hr => ?_, fun s W v hs => ?_⟩
  · obtain ⟨B, h1, h2, h3⟩ := hs
    refine ⟨B, h1, (hg.block B (Array.getElem?_eq_some_iff.1 h2).1 fun e => ?_).trans h2, h3⟩
    obtain ⟨_, o, ho, hc⟩ := hr _ e.symm
    rw [show W.heap[B]? = _ from h2] at ho
    cases ho
    cases hc
  · obtain ⟨B, h1, h2, h3⟩ := hs
    exact ⟨B, h1, h2.other (by simp; omega) _, h3⟩

theorem ownsRow_slice {W : World} {base e size n : Nat} {v : Value} {xs : List Value} (h : W.ownsRow base e size v n xs) : ∃ p k c, v = .slice p k c := by
  rcases h.2 with ⟨rfl, _⟩ | ⟨g, cap, cur, rfl, _⟩
  · exact ⟨_, _, _, rfl⟩
  · exact ⟨_, _, _, rfl⟩
/-- A block of another type lies as it lay behind an append. -/
theorem grown_same {W w1 : World} {tmp : Obj} {base g n k : Nat} {v x u : Value} {xs : List Value} (hrow : W.ownsRow base 106 2 v n xs) (hg : Boxed W g 3 x) (hgrow : (W.alloc tmp).grownBy w1 v.ownBlock) (hk : g ≠ k) :
    (w1.setCell ⟨k, 0, none⟩ u).heap[g]? = W.heap[g]? := by
  have h0 : Boxed (W.alloc tmp) g 3 x := Blk.alloc hg tmp
  rw [Below.heap_setCell _ _ _ _ hk]
  have h1 := hgrow.block g h0.lt (by
    rcases ownsRow_other hrow hg (by decide) with h | h
    · rw [h]; simp
    · exact fun e => h e.symm)
  rw [h1]
  exact (show (W.alloc tmp).heap[g]? = _ from h0).trans (show W.heap[g]? = _ from hg).symm

set_option maxRecDepth 100000 in
set_option maxHeartbeats 2000000 in
theorem cover_ok (a b : Nat) (hab : a ≤ b) (hb : b ≤ 1099511627776) (w : World) (hT : TabAt 3 Lib.deBruijn64tab w) (h3l : 3 < w.heap.size) :
    Calls Tryd.prog 22 #[.int .i64 a, .int .i64 b] w fun e w' => ∃ v, e = .returned (.tuple #[v, .int .i64 0]) ∧ w'.ownsRow w.heap.size 106 2 v (coverL a b).length (cellsOf (coverL a b)) ∧ Below w.heap.size w w' := by
  have h0 : ¬ (a : Int) < 0 := by omega
  have h1 : ¬ (b : Int) < (a : Int) := by omega
  have h2 : ¬ (1099511627776 : Int) < (b : Int) := by omega
  have hz : (0 : Int) ≤ (a : Int) := by omega
  obtain ⟨i0, hi, hz0, hz1, hz2⟩ := info_parts info106
  refine (callsIn_wide (n := 3)).1 ?_
  refine callsIn_of_wp_marks Tryd.func22 rfl trivial ?_ rfl
  simp only [Tryd.ntmps22, List.size_toArray, List.length_cons, List.length_nil, Nat.reduceAdd, Nat.reduceSub, Array.replicate_succ, Array.replicate_zero, List.push_toArray, List.append_toArray, List.nil_append, List.cons_append]
  gi_wp2
  refine ⟨trivial, callsIn_wide.2 ((cover_fn _ _ _).mono ?_)⟩
  rintro e w' ⟨rfl, rfl⟩
  rw [World.size_alloc]
  gi_wp2
  obtain ⟨W0, hW0⟩ : ∃ W0, ((w.alloc (.cells #[.slice none 0 0] 33)).alloc (.cells #[.int .i64 a] 3)).alloc (.cells #[.int .i64 b] 3) = W0 := ⟨_, rfl⟩
  have hs0 : W0.heap.size = w.heap.size + 3 := by rw [← hW0]; simp
  have hB0 : Below w.heap.size w W0 := by rw [← hW0]; exact (((Below.refl _ w).alloc (Nat.le_refl _) _).alloc (by simp) _).alloc (by simp; omega) _
  have hR0 : Boxed W0 w.heap.size 33 (.slice none 0 0) := by rw [← hW0]; exact ((Blk.new w #[.slice none 0 0] 33).alloc _).alloc _
  have hA0 : Blk W0 (w.heap.size + 1) #[.int .i64 a] 3 := by
    rw [← hW0]
    have := Blk.new (w.alloc (.cells #[.slice none 0 0] 33)) #[.int .i64 a] 3
    rw [World.size_alloc] at this
    exact this.alloc _
  have hb0 : Blk W0 (w.heap.size + 1 + 1) #[.int .i64 b] 3 := by
    rw [← hW0]
    have := Blk.new ((w.alloc (.cells #[.slice none 0 0] 33)).alloc (.cells #[.int .i64 a] 3)) #[.int .i64 b] 3
    rw [World.size_alloc, World.size_alloc] at this
    exact this
  have hT0 : TabAt 3 Lib.deBruijn64tab W0 := fun j hj => (hB0.cell (p := ⟨3, j, none⟩) h3l).trans (hT j hj)
  rw [hW0]
  clear hW0
  have hseq := cover_stops (3 - 1) (by decide) (w.heap.size + 1) (w.heap.size + 1 + 1) a b hab hb W0 (by omega) hA0 hb0 hT0 (by omega) (by omega)
  refine wpIn_rangeC (gf := 97) (lb := #[.pointer (some ⟨w.heap.size + 1, 0, none⟩), .pointer (some ⟨w.heap.size + 1 + 1, 0, none⟩)]) rfl (by decide) rfl trivial (enters_of Tryd.func97 (by kernel_rfl) rfl)
    hseq (by omega) (by rintro k (rfl | rfl | rfl) <;> omega) (fun _ => rfl)
    (CoverI w.heap.size w) (coverI_own _ _ _ (Nat.le_refl _) (by omega)) ⟨⟨_, hR0, World.ownsRow_nil _ _ _ _⟩, ⟨_, hA0⟩, ⟨_, hb0⟩, hB0⟩
    (CoverA w.heap.size (.int .i64 a) (.int .i64 b) (.func (.func 97) #[] #[.pointer (some ⟨w.heap.size + 1, 0, none⟩), .pointer (some ⟨w.heap.size + 1 + 1, 0, none⟩)]) undef undef) (fun _ _ => coverA_own _ _ _ _ _ _ _ _ _) ?assign ?body ?done
  case assign =>
    rintro l pre x W C hI hx hC
    have hN := Blk.new W #[.int .i64 0, .int .i64 0] 106
    have hn0 := hN.cell 0
    have hn1 := hN.cell 1
    have hnf0 := hN.free 0
    have hnf1 := hN.free 1
    simp at hn0 hn1
    dsimp only [blockV]
    gi_wp2
    have hsz := hI.2.2.1
    obtain ⟨y2, hy2⟩ := hsz
    exact hC _ _ ((KeepsOthers.alloc _ _).from _) (fun k hk => Below.heap_alloc _ _ _ (by rcases hk with rfl | rfl | rfl <;> have := hy2.lt <;> omega)) ((coverI_own _ W0.heap.size _ (Nat.le_refl _) (by omega)).alloc _ hI) ⟨W.heap.size, by have := hy2.lt; omega, Blk.new _ _ _, rfl⟩
  case body =>
    rintro l pre x a' W ⟨⟨v, hv, hrow⟩, ⟨y, hy⟩, ⟨y2, hy2⟩, hB⟩ ⟨B, hBl, hX, rfl⟩ ⟨post, hx⟩
    have hc := hv.cell
    have hx0 := hX.cell 0
    have hx1 := hX.cell 1
    simp at hx0 hx1
    have hlen : pre.length + 1 ≤ 1099511627776 := by
      have h1 := coverL_length a b
      rw [hx] at h1
      simp at h1
      omega
    have hml : pre.length + 1 ≤ maxLen := by unfold maxLen; omega
    gi_wp2_with (gi_at_builtin; refine wpListIn_append_own _ rfl _ _ 33 rfl w.heap.size 106 i0 (.agg #[.int .i64 0, .int .i64 0]) 2 16 Tryd.underlying33 hi hz0 hz1 hz2 rfl (by decide) _ _ _ rfl (hrow.alloc _) ⟨W.heap.size, 0, none⟩ 1 1 [.int .i64 x.1, .int .i64 x.2] rfl rfl (cells_two_new _ _ _ _) (by simp [Value.oneCell']) hml (by omega) (by have := hB.size; simp; omega) ?_; intro v' w1 hown' hgrow _; obtain ⟨g', cap', rfl⟩ := ownsRow_succ hown'; obtain ⟨hv1, hv2, hr2, hk2, hb2⟩ := hv.appended (by decide) hrow hB.size (Nat.le_refl _) hown' hgrow; have hc1 := hv1.cell; have hf1 := hv1.frozen)
    have k1 := grown_same (u := .slice (some ⟨g', 0, none⟩) (pre.length + 1) cap') hrow hy hgrow (k := w.heap.size) (by omega)
    have k2 := grown_same (u := .slice (some ⟨g', 0, none⟩) (pre.length + 1) cap') hrow hy2 hgrow (k := w.heap.size) (by omega)
    refine ⟨hk2.from _, ?_, ⟨_, hv2, ?_⟩, ⟨y, k1.trans hy⟩, ⟨y2, k2.trans hy2⟩, hB.trans hb2⟩
    · rintro k (rfl | rfl | rfl)
      · exact k1
      · exact k2
      · exact hb2.block 3 h3l
    · rw [cellsOf_snoc, List.length_append]
      exact hr2
  case done =>
    rintro D W hD ⟨⟨v, hv, hrow⟩, ⟨y, hy⟩, ⟨y2, hy2⟩, hB⟩ hK
    have hc := hv.cell
    have hf := hv.frozen
    obtain ⟨vp, vn, vc, rfl⟩ := ownsRow_slice hrow
    gi_wp2
    have hDn : D ≠ w.heap.size := by omega
    have hK' : (W.setCell ⟨w.heap.size, 0, none⟩ (.slice vp vn vc)).heap[D]? = some (.deferred (some [])) := (Below.heap_setCell _ _ _ _ hDn).trans hK
    have hrow' := hrow.kept (grownBy_setCell W ⟨w.heap.size, 0, none⟩ (.slice vp vn vc)) (ownsRow_other hrow hv (by decide))
    have hv' := hv.set (.slice vp vn vc)
    have hB' := hB.setCell (p := ⟨w.heap.size, 0, none⟩) (Nat.le_refl _) (.slice vp vn vc)
    have hv2 : Boxed ((W.setCell ⟨w.heap.size, 0, none⟩ (.slice vp vn vc)).putObj D (.deferred none)) w.heap.size 33 (.slice vp vn vc) := (World.putObj_heap_other (Ne.symm hDn)).trans hv'
    have hc2 := hv2.cell
    refine ⟨by simp, .inl ⟨_, _, rfl, run_takeDeferred hK', ?_⟩⟩
    refine ⟨.tuple #[.slice vp vn vc, .int .i64 0], ?_, .slice vp vn vc, rfl, ownsRow_putObj hrow' _ hK' rfl, hB'.trans ⟨rfl, rfl, rfl, by simp, fun k hk => World.putObj_heap_other (by omega)⟩⟩
    rw [results_cell_tmp rfl]
    generalize (W.setCell ⟨w.heap.size, 0, none⟩ (.slice vp vn vc)).putObj D (.deferred none) = W' at hc2 ⊢
    have hld : (loadVar 33 ⟨w.heap.size, 0, none⟩).run Tryd.prog W' = .ok (.slice vp vn vc) W' := by go_simp
    have hau : (asAddr (.pointer (some ⟨w.heap.size, 0, none⟩))).run Tryd.prog W' = .ok ⟨w.heap.size, 0, none⟩ W' := rfl
    show ((Sem.run Tryd.prog (asAddr (.pointer (some ⟨w.heap.size, 0, none⟩))) W').andThen _) = _
    rw [hau]
    show ((Sem.run Tryd.prog (loadVar 33 ⟨w.heap.size, 0, none⟩) W').andThen _) = _
    rw [hld]
    rfl
end Go.Proofs.YtdpgebifeaakjaaDoor
