/- The walk of read. -/
import Derived.Test.YtdpgebifeaakjaaDoorG2
import Derived.Test.YtdpgebifeaakjaaDoorPM
import Derived.Test.YtdpgebifeaakjaaDoorPN
namespace Go.Proofs.YtdpgebifeaakjaaDoor
set_option linter.unusedSimpArgs false
set_option linter.unusedVariables false
open Go.RowKit
attribute [local go_sem] Oper.semAt_some

theorem wpIn_region_keptK {l n : Nat} {P : Program} {ops : Array Oper} {Q : Exit → Act → World → Prop} {S : World → Prop} {id : Nat} {a : Act} {w : World} (k : Nat) (hm : P.follows .mixedOrders = true) (hd : ops.all noDefer = true) (hl : ¬ LetsOut Q) (hS : S w.drew)
    (h : S w.drew → wpAnyK P .any ops Q S k ops.size (Array.replicate ops.size false) a w.drew) : (Code.region id ops true).wpIn (Fence.wide.inRound l) n P Q a w := by
  refine wpIn_region_draw fun t => ?_
  refine wpOpsIn_of_wp hl (fun i o ho c => noDefer_spec (Array.all_eq_true_iff_forall_mem.1 hd o (Array.mem_of_getElem? ho)) c) _ _ _ ?_
  simp only [Region.schedule, hm, Bool.true_or, if_true]
  exact wpAny_sound ops.size t _ a _ (wpAny_of_K _ _ _ _ (h hS))
/-- The digests read so in every world that has the same blocks below β. -/
structure DigsB (β : Nat) (W : World) (v : Value) (k : Nat) (T : Nat → Nat → BitVec 8) : Prop where
  all : ∀ W', Below β W W' → Digs W' v k T
theorem DigsB.now {β : Nat} {W : World} {v : Value} {k : Nat} {T : Nat → Nat → BitVec 8} (h : DigsB β W v k T) : Digs W v k T := h.all W (Below.refl _ _)
theorem DigsB.trans {β : Nat} {W W' : World} {v : Value} {k : Nat} {T : Nat → Nat → BitVec 8} (h : DigsB β W v k T) (hb : Below β W W') : DigsB β W' v k T := ⟨fun X hX => h.all X (hb.trans hX)⟩
theorem DigsB.of {W : World} {v : Value} {k : Nat} {T : Nat → Nat → BitVec 8} (h : Digs W v k T) : DigsB W.heap.size W v k T := ⟨fun X hX => h.below hX⟩
theorem DigsB.congr {β : Nat} {W : World} {v : Value} {k : Nat} {T U : Nat → Nat → BitVec 8} (h : DigsB β W v k T) (e : T = U) : DigsB β W v k U := e ▸ h
theorem DigsB.tail {β : Nat} {W : World} {g o c k : Nat} {T : Nat → Nat → BitVec 8} (h : DigsB β W (.slice (some ⟨g, o, none⟩) (k + 1) c) (k + 1) T) : DigsB β W (.slice (tailP c g o) k (c - 1)) k fun j => T (j + 1) := ⟨fun X hX => digs_tailP (h.all X hX)⟩
/-- A forest. -/
structure Forest (β b : Nat) (W : World) (p : Option Addr) (L c : Nat) (D : Nat → Nat → BitVec 8) (kb kt : Nat) (xs : List Value) (T : Nat → Nat → BitVec 8) (bp : Option Addr) (bn bc : Nat) (tp : Option Addr) (tn tc : Nat) : Prop where
  blk : Blk W b #[.slice p L c, .slice bp bn bc, .slice tp tn tc] 142
  r33 : W.ownsRow β 106 2 (.slice bp bn bc) kb xs
  r80 : W.ownsRow β 23 16 (.slice tp tn tc) kt (digCells T kt)
  digs : DigsB β W (.slice p L c) L D
/-- Between two rounds. -/
structure RdI (w : World) (β b L kb kt : Nat) (D : Nat → Nat → BitVec 8) (xs : List Value) (T : Nat → Nat → BitVec 8) (pre : List (Nat × Nat)) (W : World) : Prop where
  le : pre.length ≤ L
  below : Below β w W
  h33 : Heads 106 (kb * 2) w W
  h80 : Heads 23 (kt * 16) w W
  keep : ∀ (g : Nat) (C : Array Value) (t : TypeId), Blk w g C t → t ≠ 106 → t ≠ 23 → g ≠ b → W.heap[g]? = w.heap[g]?
  own : Blk W w.heap.size #[.pointer (some ⟨b, 0, none⟩)] 138
  ca : ∃ x, Boxed W (w.heap.size + 1) 3 x
  cb : ∃ x, Boxed W (w.heap.size + 1 + 1) 3 x
  rest : ∃ p c bp bn bc tp tn tc, Forest β b W p (L - pre.length) c (fun j => D (pre.length + j)) (kb + pre.length) (kt + pre.length) (xs ++ cellsOf pre) (joinT kt T D) bp bn bc tp tn tc
theorem Forest.grown {β b : Nat} {W W' : World} {p : Option Addr} {L c : Nat} {D : Nat → Nat → BitVec 8} {kb kt : Nat} {xs : List Value} {T : Nat → Nat → BitVec 8} {bp : Option Addr} {bn bc : Nat} {tp : Option Addr} {tn tc : Nat} (h : Forest β b W p L c D kb kt xs T bp bn bc tp tn tc) {row : Option Nat} (hg : W.grownBy W' row) (hb : Below β W W')
    (hr : ∀ (g : Nat) (C : Array Value) (t : TypeId), Blk W g C t → t ≠ 3 → some g ≠ row) : Forest β b W' p L c D kb kt xs T bp bn bc tp tn tc := by
  have keep : ∀ {base e size k : Nat} {v : Value} {ys : List Value}, W.ownsRow base e size v k ys → e ≠ 3 → W'.ownsRow base e size v k ys := by
    intro base e size k v ys ho he
    refine ho.kept hg ?_
    obtain ⟨_, ⟨rfl, _⟩ | ⟨g, cap, cur, rfl, _, hh, _⟩⟩ := ho
    · exact .inl rfl
    · exact .inr (hr g cur e hh he)
  exact ⟨grown_ne hg h.blk (hr _ _ _ h.blk (by decide)), keep h.r33 (by decide), keep h.r80 (by decide), h.digs.trans hb⟩
theorem rdI_grown {w W W' : World} {β b L kb kt : Nat} {D : Nat → Nat → BitVec 8} {xs : List Value} {T : Nat → Nat → BitVec 8} {pre : List (Nat × Nat)} (h : RdI w β b L kb kt D xs T pre W) {row : Option Nat} (hg : W.grownBy W' row) (hβ : β ≤ w.heap.size) (hrow : ∀ r, row = some r → β ≤ r)
    (hr : ∀ (g : Nat) (C : Array Value) (t : TypeId), Blk W g C t → t ≠ 3 → some g ≠ row) (hrw : ∀ (g : Nat) (C : Array Value) (t : TypeId), Blk W g C t → g < w.heap.size → some g ≠ row) (hca : ∃ x, Boxed W' (w.heap.size + 1) 3 x) (hcb : ∃ x, Boxed W' (w.heap.size + 1 + 1) 3 x) : RdI w β b L kb kt D xs T pre W' := by
  have hb : Below β W W' := (Below.refl _ _).grown hg (Nat.le_trans hβ h.below.size) hrow
  obtain ⟨p, c, bp, bn, bc, tp, tn, tc, hf⟩ := h.rest
  have hkeep : ∀ (g : Nat) (C : Array Value) (t : TypeId), Blk w g C t → t ≠ 106 → t ≠ 23 → g ≠ b → W'.heap[g]? = w.heap[g]? := fun g C t hk h1 h2 h3 => by
    have e := h.keep g C t hk h1 h2 h3
    have hW : Blk W g C t := e.trans hk
    exact (hg.block g hW.lt (hrw g C t hW hk.lt)).trans e
  exact ⟨h.le, h.below.trans hb, h.h33.of_same fun g C hl hk => hg.block g hk.lt (hr _ _ _ hk (by decide)), h.h80.of_same fun g C hl hk => hg.block g hk.lt (hr _ _ _ hk (by decide)), fun g C t hk h1 h2 h3 => hkeep g C t hk h1 h2 h3, grown_ne hg h.own (hr _ _ _ h.own (by decide)), hca, hcb, p, c, bp, bn, bc, tp, tn, tc, hf.grown hg hb hr⟩
theorem rdI_own {w : World} {β b L kb kt : Nat} {D : Nat → Nat → BitVec 8} {xs : List Value} {T : Nat → Nat → BitVec 8} (hβ : β ≤ w.heap.size) (B : Nat) (hB : w.heap.size ≤ B) : OwnC B (w.heap.size + 1) (RdI w β b L kb kt D xs T) := by
  refine ⟨fun s W W' row hs hg hr => ?_, fun s W v hs => ?_⟩
  · have hne : ∀ (g : Nat) (C : Array Value) (t : TypeId), Blk W g C t → some g ≠ row := fun g C t hk e => by
      obtain ⟨_, o, ho, hc⟩ := hr _ e.symm
      rw [show W.heap[g]? = _ from hk] at ho
      cases ho
      cases hc
    obtain ⟨x, hx⟩ := hs.ca
    obtain ⟨y, hy⟩ := hs.cb
    exact rdI_grown hs hg hβ (fun r e => by have := (hr r e).1; omega) (fun g C t hk _ => hne g C t hk) (fun g C t hk _ => hne g C t hk) ⟨x, grown_ne hg hx (hne _ _ _ hx)⟩ ⟨y, grown_ne hg hy (hne _ _ _ hy)⟩
  · obtain ⟨x, hx⟩ := hs.ca
    obtain ⟨y, hy⟩ := hs.cb
    have hg := grownBy_setCell W ⟨w.heap.size + 1, 0, none⟩ v
    refine rdI_grown hs hg hβ (fun r e => by cases e; show β ≤ w.heap.size + 1; omega) (fun g C t hk ht e => ?_) (fun g C t hk hl e => ?_) ⟨v, hx.set v⟩ ⟨y, grown_ne hg hy (by simp)⟩
    · injection e with e
      subst e
      exact ht (hk.ty hx)
    · injection e with e
      subst e
      exact absurd hl (by simp)
theorem read_end {w W X1 X2 : World} {β b L kb kt k g o lc B0 : Nat} {D : Nat → Nat → BitVec 8} {xs : List Value} {T : Nat → Nat → BitVec 8} {pre : List (Nat × Nat)} {x : Nat × Nat} {bp tp vb1 vt1 : Option Addr} {bn bc tn tc vb2 vb3 vt2 vt3 : Nat}
    (hx0 : b < w.heap.size ∧ β ≤ b ∧ 3 < β) (hI : RdI w β b L kb kt D xs T pre W) (hf : Forest β b W (some ⟨g, o, none⟩) (k + 1) lc (fun j => D (pre.length + j)) (kb + pre.length) (kt + pre.length) (xs ++ cellsOf pre) (joinT kt T D) bp bn bc tp tn tc)
    (hk : L - pre.length = k + 1) (hm : Mods b W.drew X1) (kb1 : Blk X1 b #[.slice (tailP lc g o) k (lc - 1), .slice bp bn bc, .slice tp tn tc] 142)
    (pt : Put β b (kb + pre.length) (kt + pre.length) X1 X2) (kb2 : Blk X2 b #[.slice (tailP lc g o) k (lc - 1), .slice vb1 vb2 vb3, .slice vt1 vt2 vt3] 142)
    (q1 : X2.ownsRow β 106 2 (.slice vb1 vb2 vb3) (kb + pre.length + 1) (xs ++ cellsOf pre ++ [.int .i64 (x.1 : Int), .int .i64 (x.2 : Int)]))
    (q2 : X2.ownsRow β 23 16 (.slice vt1 vt2 vt3) (kt + pre.length + 1) (digCells (snocT (kt + pre.length) (joinT kt T D) (D pre.length)) (kt + pre.length + 1))) :
    KeepsFrom B0 W X2 ∧ KeepsB (fun k => k = w.heap.size + 1 ∨ k = w.heap.size + 1 + 1 ∨ k = 3) W X2 ∧ RdI w β b L kb kt D xs T (pre ++ [x]) X2 := by
  obtain ⟨hbw, hβ, h3⟩ := hx0
  have hm' : Mods b W X1 := ⟨hm.os, hm.tape, hm.output, hm.size, hm.block⟩
  have hWX : Below β W X1 := hm'.below hβ (Nat.le_trans (by omega) hI.below.size)
  have move : ∀ (q : Nat) (C : Array Value) (t : TypeId), Blk W q C t → t ≠ 106 → t ≠ 23 → q ≠ b → X2.heap[q]? = W.heap[q]? := fun q C t hq h1 h2 h3 => by
    have hq1 := hq.mods hm' h3
    exact (pt.blk q C t hq1 h1 h2 h3).trans (hm'.block q hq.lt h3)
  obtain ⟨y, hy⟩ := hI.ca
  obtain ⟨z, hz⟩ := hI.cb
  have ey := move _ _ _ hy (by decide) (by decide) (by omega)
  have ez := move _ _ _ hz (by decide) (by decide) (by omega)
  have eo := move _ _ _ hI.own (by decide) (by decide) (by omega)
  refine ⟨⟨Nat.le_trans hm'.size pt.below.size, fun q o _ hq ho => ?_⟩, ?_, ?_⟩
  · refine pt.others.same q o ?_ ho
    rw [hm'.block q (Array.getElem?_eq_some_iff.1 hq).1 ?_]
    · exact hq
    · rintro rfl
      have e := hq.symm.trans hf.blk
      injection e with e
      rw [e] at ho
      cases ho
  · rintro q (rfl | rfl | rfl)
    · exact ey
    · exact ez
    · exact (pt.below.block 3 h3).trans (hWX.block 3 h3)
  · have hlen : (pre ++ [x]).length = pre.length + 1 := by simp
    have hle := hI.le
    refine ⟨by rw [hlen]; omega, (hI.below.trans hWX).trans pt.below, (hI.h33.mods hm' hf.blk (by decide)).trans pt.head33 (Nat.mul_le_mul_right _ (Nat.le_add_right _ _)), (hI.h80.mods hm' hf.blk (by decide)).trans pt.head80 (Nat.mul_le_mul_right _ (Nat.le_add_right _ _)), fun q C t hq h1 h2 h3 => (move q C t ((hI.keep q C t hq h1 h2 h3).trans hq) h1 h2 h3).trans (hI.keep q C t hq h1 h2 h3), eo.trans hI.own, ⟨y, ey.trans hy⟩, ⟨z, ez.trans hz⟩, tailP lc g o, lc - 1, vb1, vb2, vb3, vt1, vt2, vt3, ?_⟩
    have e1 : L - (pre ++ [x]).length = k := by rw [hlen]; omega
    rw [e1, hlen]
    refine ⟨kb2, ?_, ?_, ?_⟩
    · have e2 : cellsOf (pre ++ [x]) = cellsOf pre ++ [.int .i64 (x.1 : Int), .int .i64 (x.2 : Int)] := cellsOf_snoc _ _
      rw [e2, ← List.append_assoc]
      exact q1
    · have e3 : digCells (snocT (kt + pre.length) (joinT kt T D) (D pre.length)) (kt + pre.length + 1) = digCells (joinT kt T D) (kt + (pre.length + 1)) := by
        rw [← Nat.add_assoc]
        refine digCells_congr _ fun i hi => ?_
        rw [snocT]
        split
        · rfl
        · rw [joinT, if_neg (by omega), show i - kt = pre.length by omega]
      rw [← e3]
      exact q2
    · refine ((hf.digs.tail.trans hWX).trans pt.below).congr ?_
      funext j
      rw [show pre.length + 1 + j = pre.length + (j + 1) by omega]
/-- The loop's own variable: a cell of two, new in each round. -/
def RdA (w : World) (b : Nat) (f : Value) (a c : Nat) (x : Nat × Nat) (a' : Act) (W : World) : Prop :=
  ∃ B, w.heap.size + 2 < B ∧ Blk W B #[.int .i64 x.1, .int .i64 x.2] 106 ∧
    a' = { tmps := #[.pointer (some ⟨b, 0, none⟩), .int .i64 (a : Int), .int .i64 (c : Int), .pointer (some ⟨w.heap.size, 0, none⟩), undef, undef, .pointer (some ⟨B, 0, none⟩), .int .i64 (a : Int), .int .i64 (c : Int), f, .agg #[.int .i64 x.1, .int .i64 x.2], undef, undef, undef, undef, undef, undef, undef], defers := [] }
theorem rdA_own (w : World) (b : Nat) (f : Value) (B0 : Nat) (a c : Nat) (x : Nat × Nat) (a' : Act) : OwnC B0 (w.heap.size + 1) (fun (_ : Unit) W => RdA w b f a c x a' W) := by
  refine ⟨fun s W W' row hs hg hr => ?_, fun s W v hs => ?_⟩
  · obtain ⟨B, h1, h2, h3⟩ := hs
    refine ⟨B, h1, (hg.block B (Array.getElem?_eq_some_iff.1 h2).1 fun e => ?_).trans h2, h3⟩
    obtain ⟨_, o, ho, hc⟩ := hr _ e.symm
    rw [show W.heap[B]? = _ from h2] at ho
    cases ho
    cases hc
  · obtain ⟨B, h1, h2, h3⟩ := hs
    exact ⟨B, h1, h2.other (by simp; omega) _, h3⟩
set_option maxRecDepth 100000 in
set_option maxHeartbeats 1000000 in
theorem read_any (β b a c L kb0 kt0 lc0 : Nat) (lp0 : Option Addr) (D : Nat → Nat → BitVec 8) (xs : List Value) (T : Nat → Nat → BitVec 8) (bp tp : Option Addr) (bn bc tn tc : Nat) (w : World) (hac : a ≤ c) (hc : c ≤ 1099511627776) (hL : L ≤ 1000) (hkb : kb0 ≤ 1000) (hkt : kt0 ≤ 1000) (hβ : β ≤ b) (h3β : 3 < β) (hT : TabAt 3 Lib.deBruijn64tab w)
    (hf : Forest β b w lp0 L lc0 D kb0 kt0 xs T bp bn bc tp tn tc) :
    Calls Tryd.prog 86 #[.pointer (some ⟨b, 0, none⟩), .int .i64 (a : Int), .int .i64 (c : Int)] w fun e w' => (L < (coverL a c).length ∧ e = .panicked refusedP ∧ Below β w w') ∨
      ((coverL a c).length ≤ L ∧ (∃ v, e = .returned v) ∧ Below β w w' ∧ Heads 106 (kb0 * 2) w w' ∧ Heads 23 (kt0 * 16) w w' ∧ (∀ (g : Nat) (C : Array Value) (t : TypeId), Blk w g C t → t ≠ 106 → t ≠ 23 → g ≠ b → w'.heap[g]? = w.heap[g]?) ∧ ∃ p q bp bn bc tp tn tc, Forest β b w' p (L - (coverL a c).length) q (fun j => D ((coverL a c).length + j)) (kb0 + (coverL a c).length) (kt0 + (coverL a c).length) (xs ++ cellsOf (coverL a c)) (joinT kt0 T D) bp bn bc tp tn tc) := by
  have hbw := hf.blk.lt
  refine calls_of_wpAt (n := 3) Tryd.func86 rfl ?_
  simp only [Tryd.ntmps86, List.size_toArray, List.length_cons, List.length_nil, Nat.reduceAdd, Nat.reduceSub, Array.replicate_succ, Array.replicate_zero, List.push_toArray, List.append_toArray, List.nil_append, List.cons_append]
  refine wpAt_seq (n := 3) ?_
  gi_wp2
  refine wpAt_seq (n := 3) ?_
  gi_wp2
  refine ⟨trivial, callsIn_wide.2 ((cover_fn _ _ _).mono ?_)⟩
  rintro e w' ⟨rfl, rfl⟩
  rw [World.size_alloc]
  gi_wp2
  refine wpAt_block ?_
  obtain ⟨W0, hW0⟩ : ∃ W0, ((w.alloc (.cells #[.pointer (some ⟨b, 0, none⟩)] 138)).alloc (.cells #[.int .i64 (a : Int)] 3)).alloc (.cells #[.int .i64 (c : Int)] 3) = W0 := ⟨_, rfl⟩
  have hs0 : W0.heap.size = w.heap.size + 3 := by rw [← hW0]; simp
  have hB0 : Below w.heap.size w W0 := by rw [← hW0]; exact (((Below.refl _ w).alloc (Nat.le_refl _) _).alloc (by simp) _).alloc (by simp; omega) _
  have hO0 : Blk W0 w.heap.size #[.pointer (some ⟨b, 0, none⟩)] 138 := by rw [← hW0]; exact ((Blk.new w _ 138).alloc _).alloc _
  have hA0 : Blk W0 (w.heap.size + 1) #[.int .i64 (a : Int)] 3 := by
    rw [← hW0]
    have := Blk.new (w.alloc (.cells #[.pointer (some ⟨b, 0, none⟩)] 138)) #[.int .i64 (a : Int)] 3
    rw [World.size_alloc] at this
    exact this.alloc _
  have hb0 : Blk W0 (w.heap.size + 1 + 1) #[.int .i64 (c : Int)] 3 := by
    rw [← hW0]
    have := Blk.new ((w.alloc (.cells #[.pointer (some ⟨b, 0, none⟩)] 138)).alloc (.cells #[.int .i64 (a : Int)] 3)) #[.int .i64 (c : Int)] 3
    rw [World.size_alloc, World.size_alloc] at this
    exact this
  have hT0 : TabAt 3 Lib.deBruijn64tab W0 := fun j hj => (hB0.cell (p := ⟨3, j, none⟩) (by simp; omega)).trans (hT j hj)
  have hf0 : Forest β b W0 lp0 L lc0 D kb0 kt0 xs T bp bn bc tp tn tc := ⟨hf.blk.below hB0 hbw, ownsRow_below hf.r33 hB0, ownsRow_below hf.r80 hB0, hf.digs.trans (hB0.mono (by omega))⟩
  have hI0 : RdI w β b L kb0 kt0 D xs T [] W0 := ⟨Nat.zero_le _, hB0.mono (by omega), (Heads.refl _ _ _).below hB0, (Heads.refl _ _ _).below hB0, fun g C t hk _ _ _ => hB0.block g hk.lt, hO0, ⟨_, hA0⟩, ⟨_, hb0⟩, lp0, lc0, bp, bn, bc, tp, tn, tc, by
    have hj : digCells (joinT kt0 T D) kt0 = digCells T kt0 := digCells_congr _ fun i hi => by rw [joinT, if_pos hi]
    refine ⟨hf0.blk, ?_, ?_, hf0.digs.congr ?_⟩
    · simpa [cellsOf] using hf0.r33
    · rw [List.length_nil, Nat.add_zero, hj]; exact hf0.r80
    · funext j; rw [List.length_nil, Nat.zero_add]⟩
  rw [hW0]
  clear hW0
  have hseq := cover_stopsP (3 - 1) (by decide) (w.heap.size + 1) (w.heap.size + 1 + 1) a c hac hc W0 (by omega) hA0 hb0 hT0 (by omega) (by omega) refusedP
  refine wpAt_rangeCP (n := 3) (gf := 97) (lb := #[.pointer (some ⟨w.heap.size + 1, 0, none⟩), .pointer (some ⟨w.heap.size + 1 + 1, 0, none⟩)]) (by decide) rfl (enters_of Tryd.func97 (by kernel_rfl) rfl)
    hseq (by omega) (by rintro k (rfl | rfl | rfl) <;> omega) (fun _ => rfl) ⟨_, Tryd.func86⟩
    (RdI w β b L kb0 kt0 D xs T) (rdI_own (by omega) _ (by omega)) hI0 (fun W => L < (coverL a c).length ∧ Below β w W)
    (RdA w b (.func (.func 97) #[] #[.pointer (some ⟨w.heap.size + 1, 0, none⟩), .pointer (some ⟨w.heap.size + 1 + 1, 0, none⟩)]) a c) (fun _ _ => rdA_own _ _ _ _ _ _ _ _) ?assign ?body ?done ?panic
  case assign =>
    rintro l pre x W C hI hx hC
    have hN := Blk.new W #[.int .i64 0, .int .i64 0] 106
    have hn0 := hN.cell 0
    have hn1 := hN.cell 1
    have hnf0 := hN.free 0
    have hnf1 := hN.free 1
    simp at hn0 hn1
    dsimp only [blockV]
    gi_wp2
    obtain ⟨y2, hy2⟩ := hI.cb
    exact hC _ _ ((KeepsOthers.alloc _ _).from _) (fun k hk => Below.heap_alloc _ _ _ (by rcases hk with rfl | rfl | rfl <;> have := hy2.lt <;> omega)) ((rdI_own (by omega) W0.heap.size (by omega)).alloc _ hI) ⟨W.heap.size, by have := hy2.lt; omega, Blk.new _ _ _, rfl⟩
  case body =>
    rintro l pre ⟨x, m⟩ a' W hI ⟨B, hBl, kX, rfl⟩ ⟨post, hx⟩
    dsimp only at kX
    have hlen : pre.length < (coverL a c).length := by rw [hx]; simp
    clear hx hseq hT0 hT hA0 hb0 hO0 hB0 hI0 hf0 hf
    obtain ⟨lp, lc, vp, vn, vc, tp, tn, tc, hff⟩ := hI.rest
    have hx0 : b < w.heap.size ∧ β ≤ b ∧ 3 < β := ⟨hbw, hβ, h3β⟩
    have kp := hI.own
    have hle := hI.le
    have hB := hI.below
    have hβW : β ≤ W.heap.size := Nat.le_trans (by omega) hB.size
    have hBne : B ≠ b := by omega
    by_cases hp : pre.length < L
    · obtain ⟨k, hk⟩ : ∃ k, L - pre.length = k + 1 := ⟨L - pre.length - 1, by omega⟩
      rw [hk] at hff
      have kb := hff.blk
      have r33 := hff.r33
      have r80 := hff.r80
      have dd := hff.digs
      obtain ⟨_, _, e0, _, hd0⟩ := dd.now
      obtain ⟨g, o, e1, _⟩ := hd0 0 (by omega)
      injection e0 with e2
      subst e2
      subst e1
      clear hd0
      gi_wp2_with fail
      refine wpIn_region_keptK (S := fun w' => Blk w' w.heap.size #[.pointer (some ⟨b, 0, none⟩)] 138 ∧ Blk w' B #[.int .i64 (x : Int), .int .i64 (m : Int)] 106) 6 (by kernel_rfl) (by kernel_rfl) ?hl (⟨kp.drew, kX.drew⟩) (fun hS => ?_)
      case hl => rintro ⟨_, _, h⟩; exact h
      simp only [List.size_toArray, List.length_cons, List.length_nil, Nat.reduceAdd, Array.replicate_succ, Array.replicate_zero, List.push_toArray, List.nil_append, List.cons_append]
      refine take_atK (i := 0) 11 (.pointer (some ⟨b, 0, none⟩)) [6] rfl rfl (by kernel_rfl) (by decide) (by decide) (by kernel_rfl) (by kernel_rfl) (by kernel_rfl) (by kernel_rfl) (fun _ _ _ h => h) (Or.inl ⟨by rfl, fun W hW => by have hc := hW.1.cell 0; go_simp⟩) hS ?_
      try simp only [List.setIfInBounds_toArray, List.set_cons_zero, List.set_cons_succ]
      refine take_atK (i := 1) 12 (.agg #[.int .i64 (x : Int), .int .i64 (m : Int)]) [6] rfl rfl (by kernel_rfl) (by decide) (by decide) (by kernel_rfl) (by kernel_rfl) (by kernel_rfl) (by kernel_rfl) (fun _ _ _ h => h) (Or.inl ⟨by rfl, fun W hW => by have hc := hW.2.cell 0; have hc2 := hW.2.cell 1; go_simp⟩) hS ?_
      try simp only [List.setIfInBounds_toArray, List.set_cons_zero, List.set_cons_succ]
      refine take_atK (i := 2) 13 (.pointer (some ⟨b, 0, none⟩)) [3, 4, 5, 6] rfl rfl (by kernel_rfl) (by decide) (by decide) (by kernel_rfl) (by kernel_rfl) (by kernel_rfl) (by kernel_rfl) (fun _ _ _ h => h) (Or.inl ⟨by rfl, fun W hW => by have hc := hW.1.cell 0; go_simp⟩) hS ?_
      try simp only [List.setIfInBounds_toArray, List.set_cons_zero, List.set_cons_succ]
      refine take_atK (i := 3) 14 (.pointer (some ⟨b, 0, none⟩)) [4, 5, 6] rfl rfl (by kernel_rfl) (by decide) (by decide) (by kernel_rfl) (by kernel_rfl) (by kernel_rfl) (by kernel_rfl) (fun _ _ _ h => h) (Or.inl ⟨by rfl, fun W hW => by go_simp⟩) hS ?_
      try simp only [List.setIfInBounds_toArray, List.set_cons_zero, List.set_cons_succ]
      refine take_atK (i := 4) 15 (.pointer (some ⟨b, 0, none⟩)) [5, 6] rfl rfl (by kernel_rfl) (by decide) (by decide) (by kernel_rfl) (by kernel_rfl) (by kernel_rfl) (by kernel_rfl) (fun _ _ _ h => h) (Or.inl ⟨by rfl, fun W hW => by go_simp⟩) hS ?_
      try simp only [List.setIfInBounds_toArray, List.set_cons_zero, List.set_cons_succ]
      refine wpAnyK_ready (rs := [5]) (by kernel_rfl) (by simp) ?_
      refine AllReadyK.cons rfl (fun K hK => ?_) AllReadyK.nil
      go_simp
      refine (take_some b g o k lc (fun j => D (pre.length + j)) vp tp vn vc tn tc _ kb.drew (dd.all _ (Below.refl _ _).drew)).mono ?_
      rintro e X1 ⟨rfl, kb1, hm1⟩
      refine hK.out _ _ (⟨hS.1.mods hm1 (by omega), hS.2.mods hm1 (by omega)⟩) (fun hS => ?_)
      clear hK K
      have r1 := ownsRow_mods r33.drew hm1 kb.drew (by decide)
      have r2 := ownsRow_mods r80.drew hm1 kb.drew (by decide)
      try simp only [Act.put, List.getElem_toArray, List.getElem_cons_succ, List.getElem_cons_zero, List.setIfInBounds_toArray, List.set_cons_zero, List.set_cons_succ]
      refine storeK (by kernel_rfl) (by decide) rfl rfl (fun K hK => ?_)
      go_simp
      refine (put_any β b (kb0 + pre.length) (kt0 + pre.length) _ vp tp vn vc tn tc _ _ _ _ _ X1 hβ (by omega) (by omega) kb1 r1 r2).mono ?_
      rintro e X2 ⟨⟨v, rfl⟩, vb1, vb2, vb3, vt1, vt2, vt3, kb2, q1, q2, pt⟩
      refine hK.out _ _ ?_
      clear hK K
      have hS : True := trivial
      try simp only [Act.put, List.getElem_toArray, List.getElem_cons_succ, List.getElem_cons_zero, List.setIfInBounds_toArray, List.set_cons_zero, List.set_cons_succ]
      refine wpAnyH_done (by kernel_rfl) ?_ _
      gi_wp2_with fail
      exact read_end hx0 hI hff hk hm1 kb1 pt kb2 q1 q2
    · have hk : L - pre.length = 0 := by omega
      rw [hk] at hff
      have kb := hff.blk
      gi_wp2_with fail
      refine wpIn_region_keptK (S := fun w' => Blk w' w.heap.size #[.pointer (some ⟨b, 0, none⟩)] 138 ∧ Blk w' B #[.int .i64 (x : Int), .int .i64 (m : Int)] 106) 6 (by kernel_rfl) (by kernel_rfl) ?hl (⟨kp.drew, kX.drew⟩) (fun hS => ?_)
      case hl => rintro ⟨_, _, h⟩; exact h
      simp only [List.size_toArray, List.length_cons, List.length_nil, Nat.reduceAdd, Array.replicate_succ, Array.replicate_zero, List.push_toArray, List.nil_append, List.cons_append]
      refine take_atK (i := 0) 11 (.pointer (some ⟨b, 0, none⟩)) [6] rfl rfl (by kernel_rfl) (by decide) (by decide) (by kernel_rfl) (by kernel_rfl) (by kernel_rfl) (by kernel_rfl) (fun _ _ _ h => h) (Or.inl ⟨by rfl, fun W hW => by have hc := hW.1.cell 0; go_simp⟩) hS ?_
      try simp only [List.setIfInBounds_toArray, List.set_cons_zero, List.set_cons_succ]
      refine take_atK (i := 1) 12 (.agg #[.int .i64 (x : Int), .int .i64 (m : Int)]) [6] rfl rfl (by kernel_rfl) (by decide) (by decide) (by kernel_rfl) (by kernel_rfl) (by kernel_rfl) (by kernel_rfl) (fun _ _ _ h => h) (Or.inl ⟨by rfl, fun W hW => by have hc := hW.2.cell 0; have hc2 := hW.2.cell 1; go_simp⟩) hS ?_
      try simp only [List.setIfInBounds_toArray, List.set_cons_zero, List.set_cons_succ]
      refine take_atK (i := 2) 13 (.pointer (some ⟨b, 0, none⟩)) [3, 4, 5, 6] rfl rfl (by kernel_rfl) (by decide) (by decide) (by kernel_rfl) (by kernel_rfl) (by kernel_rfl) (by kernel_rfl) (fun _ _ _ h => h) (Or.inl ⟨by rfl, fun W hW => by have hc := hW.1.cell 0; go_simp⟩) hS ?_
      try simp only [List.setIfInBounds_toArray, List.set_cons_zero, List.set_cons_succ]
      refine take_atK (i := 3) 14 (.pointer (some ⟨b, 0, none⟩)) [4, 5, 6] rfl rfl (by kernel_rfl) (by decide) (by decide) (by kernel_rfl) (by kernel_rfl) (by kernel_rfl) (by kernel_rfl) (fun _ _ _ h => h) (Or.inl ⟨by rfl, fun W hW => by go_simp⟩) hS ?_
      try simp only [List.setIfInBounds_toArray, List.set_cons_zero, List.set_cons_succ]
      refine take_atK (i := 4) 15 (.pointer (some ⟨b, 0, none⟩)) [5, 6] rfl rfl (by kernel_rfl) (by decide) (by decide) (by kernel_rfl) (by kernel_rfl) (by kernel_rfl) (by kernel_rfl) (fun _ _ _ h => h) (Or.inl ⟨by rfl, fun W hW => by go_simp⟩) hS ?_
      try simp only [List.setIfInBounds_toArray, List.set_cons_zero, List.set_cons_succ]
      refine wpAnyK_ready (rs := [5]) (by kernel_rfl) (by simp) ?_
      refine AllReadyK.cons rfl (fun K hK => ?_) AllReadyK.nil
      go_simp
      refine (take_none b lp lc _ (kb.drew.cell 0)).mono ?_
      rintro e X1 ⟨rfl, hb⟩
      exact ⟨rfl, rfl, ⟨hb.size, fun q o _ hq _ => (hb.block q (Array.getElem?_eq_some_iff.1 hq).1).trans hq⟩, by omega, hB.drew.trans (hb.mono hβW)⟩
  case done =>
    rintro Dd W hD hI hK
    gi_wp2
    have hI2 := (rdI_own (by omega) w.heap.size (Nat.le_refl _)).putObj (.deferred none) hI (by omega) hK rfl
    refine ⟨by simp, .inl ⟨_, _, rfl, run_takeDeferred hK, ?_⟩⟩
    exact ⟨_, results_none (fn := Tryd.f86) rfl _ _ _, .inr ⟨hI2.le, ⟨_, rfl⟩, hI2.below, hI2.h33, hI2.h80, hI2.keep, hI2.rest⟩⟩
  case panic =>
    rintro Dd W hD ⟨hI1, hI2⟩ hK
    refine ⟨by simp, .inl ⟨_, _, rfl, run_takeDeferred hK, ?_⟩⟩
    exact .inl ⟨hI1, rfl, hI2.trans ⟨rfl, rfl, rfl, by simp, fun k hk => World.putObj_heap_other (by omega)⟩⟩
end Go.Proofs.YtdpgebifeaakjaaDoor
