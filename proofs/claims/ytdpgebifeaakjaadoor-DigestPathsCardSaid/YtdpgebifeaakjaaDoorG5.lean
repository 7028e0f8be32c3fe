/- The walks of done and is. -/
import Derived.Test.YtdpgebifeaakjaaDoorG4
namespace Go.Proofs.YtdpgebifeaakjaaDoor
set_option linter.unusedSimpArgs false
set_option linter.unusedVariables false
open Go.RowKit
theorem ftop_any {T : Nat → Nat → BitVec 8} {o a m : Nat} {L : List (Nat × Nat)} {d : Nat → BitVec 8} (ht : Tl T o a m L d) : ∀ (b q n e bc tc : Nat) (bp tp : Option Addr) (A M N : List (Nat × Nat)) (lv : Value) (w : World), A = M ++ L ++ N → M.length = o → o + L.length ≤ n → e = a + m → e ≤ 1099511627776 → A.length ≤ 1000 →
    FtR b q A n T lv bp bc tp tc w → Blk w q #[.int .i64 (o : Int)] 3 →
    Calls Tryd.prog 116 #[.pointer (some ⟨b, 0, none⟩), .int .i64 (a : Int), .int .i64 (e : Int), .pointer (some ⟨q, 0, none⟩)] w fun e' w' => e' = .returned (.agg (A8 16 d)) ∧ Blk w' q #[.int .i64 ((o + L.length : Nat) : Int)] 3 ∧ Mods q w w' := by
  induction ht with
  | one o a m h =>
    intro b q n e bc tc bp tp A M N lv w hA hM hn he hb hl hf hq
    exact ftop_base b q o a m e n bc tc bp tp A T lv w h he hb hl (by rw [hA, ← hM]; simp) (by rw [List.length_singleton] at hn; omega) hf hq
  | two o a m L1 L2 d1 d2 hm hb1 h1 h2 ih1 ih2 =>
    intro b q n e bc tc bp tp A M N lv w hA hM hn he hb hl hf hq
    obtain ⟨s, R, hL1, hs0, hs1⟩ := h1.head
    have hfa := halfN_facts m hm (by omega)
    have hp2 := h2.pos
    rw [List.length_append] at hn ⊢
    have q1 : ∀ W, FtR b q A n T lv bp bc tp tc W → Blk W q #[.int .i64 (o : Int)] 3 → Calls Tryd.prog 116 #[.pointer (some ⟨b, 0, none⟩), .int .i64 (a : Int), .int .i64 ((a : Int) + (halfN m : Int)), .pointer (some ⟨q, 0, none⟩)] W fun e' w' => e' = .returned (.agg (A8 16 d1)) ∧ Blk w' q #[.int .i64 ((o + L1.length : Nat) : Int)] 3 ∧ Mods q W w' := by
      intro W h3 h4
      have := ih1 b q n (a + halfN m) bc tc bp tp A M (L2 ++ N) lv W (by rw [hA]; simp) hM (by omega) rfl (by omega) hl h3 h4
      rw [Int.natCast_add] at this
      exact this
    have q2 : ∀ W, FtR b q A n T lv bp bc tp tc W → Blk W q #[.int .i64 ((o + L1.length : Nat) : Int)] 3 → Calls Tryd.prog 116 #[.pointer (some ⟨b, 0, none⟩), .int .i64 ((a : Int) + (halfN m : Int)), .int .i64 (e : Int), .pointer (some ⟨q, 0, none⟩)] W fun e' w' => e' = .returned (.agg (A8 16 d2)) ∧ Blk w' q #[.int .i64 ((o + (L1.length + L2.length) : Nat) : Int)] 3 ∧ Mods q W w' := by
      intro W h3 h4
      have := ih2 b q n e bc tc bp tp A (M ++ L1) N lv W (by rw [hA]; simp) (by rw [List.length_append, hM]) (by omega) (by omega) hb hl h3 h4
      rw [Int.natCast_add a, Nat.add_assoc] at this
      exact this
    exact ftop_step b q o (o + L1.length) (o + (L1.length + L2.length)) a m e (halfN m) s n bc tc bp tp A T d1 d2 lv w hm he hb hl rfl (by rw [hA, hL1, ← hM]; simp) (by omega) (by rw [hL1] at hn; rw [List.length_cons] at hn; omega) q1 q2 hf hq
/-- What blocks give to all n leaves. -/
def Gives (T : Nat → Nat → BitVec 8) (n : Nat) (L : List (Nat × Nat)) (d : Nat → BitVec 8) : Prop := n = 0 ∧ L = [] ∧ d = sha [] ∨ 0 < n ∧ Tl T 0 0 n L d
theorem gives_all (T : Nat → Nat → BitVec 8) (n : Nat) (L : List (Nat × Nat)) (hn : n ≤ 1099511627776) (h : Al L 0 n) : ∃ d, Gives T n L d := by
  by_cases h0 : n = 0
  · subst h0
    exact ⟨_, .inl ⟨rfl, h.nil, rfl⟩⟩
  · obtain ⟨d, hd⟩ := tiles_all T n L (by omega) hn h
    exact ⟨d, .inr ⟨by omega, hd⟩⟩
theorem neq23 (f g : Nat → BitVec 8) (w : World) : (binOp .neq 23 (.agg (A8 16 f)) (.agg (A8 16 g))).run Tryd.prog w = .ok (.bool (!eqRow 16 f g)) w := by
  have hE1 : Tryd.prog.cellsOf 5 = 1 := by kernel_rfl
  obtain ⟨i, hi, _⟩ := Option.map_eq_some_iff.1 size5
  rw [run_neq_struct, run_equalIn_array w _ _ _ Tryd.underlying23 hi]
  have := run_eqItems_Row (P := Tryd.prog) (n := 16) (d := 9999) hE1 Tryd.isAgg5 (fun i => U8 (f i)) (fun i => U8 (g i)) (fun i => f i == g i) (fun i w _ => by
    refine (run_equalIn_int w 9998 5 .u8 .u8 _ _ Tryd.underlying5).trans ?_
    rw [eq_n8]) w (List.range 16) (by simp)
  unfold A8
  rw [this]
  rfl
theorem exec_neq23 {o : Oper} {w : World} (ρ : Operand → Value) (x y : Operand) (ho : o.op = .binOp .neq 23 x y 23) {f g : Nat → BitVec 8} (hx : ρ x = .agg (A8 16 f)) (hy : ρ y = .agg (A8 16 g)) :
    (execOp ρ o).run Tryd.prog w = .ok (.value (.bool (!eqRow 16 f g))) w := by
  have hg : (eqGuard .neq 23 x y (.agg (A8 16 f)) (.agg (A8 16 g))).run Tryd.prog w = .ok () w := run_eqGuard_agg w _ _ _ _ _ _ (by kernel_rfl)
  unfold execOp
  simp only [ho, hx, hy, Sem.run_bind, hg, neq23, Result.andThen_ok, Sem.run_pure]
/-- A forest as it is called. -/
structure FtI (b : Nat) (A : List (Nat × Nat)) (T : Nat → Nat → BitVec 8) (lv : Value) (bp : Option Addr) (bc : Nat) (tp : Option Addr) (tc : Nat) (W : World) : Prop where
  blk : Blk W b #[lv, .slice bp A.length bc, .slice tp A.length tc] 142
  bl : SlC W (.slice bp A.length bc) A
  tl : Digs W (.slice tp A.length tc) A.length T
theorem FtI.below {b : Nat} {A : List (Nat × Nat)} {T : Nat → Nat → BitVec 8} {lv : Value} {bp : Option Addr} {bc : Nat} {tp : Option Addr} {tc : Nat} {W W' : World} (h : FtI b A T lv bp bc tp tc W) (hb : Below W.heap.size W W') : FtI b A T lv bp bc tp tc W' := ⟨h.blk.below hb h.blk.lt, h.bl.below hb, h.tl.below hb⟩
theorem FtI.read {b q : Nat} {A : List (Nat × Nat)} {T : Nat → Nat → BitVec 8} {lv : Value} {bp : Option Addr} {bc : Nat} {tp : Option Addr} {tc : Nat} {W W' : World} (h : FtI b A T lv bp bc tp tc W) (hq : W.heap.size ≤ q) (hA : A ≠ []) (hb : Below W.heap.size W W') : FtR b q A A.length T lv bp bc tp tc W' := by
  have hl := h.blk.lt
  have h0 : 0 < A.length := List.length_pos_iff.2 hA
  refine ⟨h.blk.below hb hl, h.bl.below hb, h.tl.below hb, by omega, fun g o e => ?_, fun g o e => ?_⟩
  · obtain ⟨p, c, e1, h1, h2⟩ := h.bl
    obtain ⟨g', o', hp, c0, _⟩ := h2 0 A[0] (List.getElem?_eq_getElem h0)
    injection e1 with e1
    rw [← e1, e] at hp
    injection hp with hp
    injection hp with hp
    subst hp
    have : g < W.heap.size := World.block_lt_of_cell? W _ c0
    omega
  · obtain ⟨p, c, e1, h1, h2⟩ := h.tl
    obtain ⟨g', o', hp, hr⟩ := h2 0 h0
    injection e1 with e1
    rw [← e1, e] at hp
    injection hp with hp
    injection hp with hp
    subst hp
    have : g < W.heap.size := World.block_lt_of_cell? W _ (hr 0 _ (by rw [Array.getElem?_toList, A8.get _ (by omega)]))
    omega
theorem gives_call (b q n bc tc : Nat) (bp tp : Option Addr) (A : List (Nat × Nat)) (T : Nat → Nat → BitVec 8) (d : Nat → BitVec 8) (lv : Value) (w W : World) (hn : n ≤ 1099511627776) (hA : A.length ≤ 1000) (hg : Gives T n A d) (hf : FtI b A T lv bp bc tp tc w) (hqw : w.heap.size ≤ q) (hB : Below w.heap.size w W) (hq : Blk W q #[.int .i64 0] 3) :
    Calls Tryd.prog 116 #[.pointer (some ⟨b, 0, none⟩), .int .i64 0, .int .i64 (n : Int), .pointer (some ⟨q, 0, none⟩)] W fun e' w' => e' = .returned (.agg (A8 16 d)) ∧ Mods q W w' := by
  rcases hg with ⟨rfl, rfl, rfl⟩ | ⟨h0, ht⟩
  · exact (ftop_zero b q 0 W).mono fun e w' ⟨h1, h2⟩ => ⟨h1, Mods.of_below h2⟩
  · obtain ⟨s, R, hL, _, _⟩ := ht.head
    exact (ftop_any ht b q A.length n bc tc bp tp A [] [] lv W (by simp) rfl (by omega) (by omega) hn hA (hf.read hqw (by rw [hL]; simp) hB) hq).mono fun e w' ⟨h1, _, h3⟩ => ⟨h1, h3⟩
set_option maxRecDepth 20000 in
set_option maxHeartbeats 1000000 in
theorem is_any (b n bc tc : Nat) (bp tp : Option Addr) (A : List (Nat × Nat)) (T : Nat → Nat → BitVec 8) (d f : Nat → BitVec 8) (lv : Value) (w : World) (hn : n ≤ 1099511627776) (hA : A.length ≤ 1000) (hg : Gives T n A d) (hf : FtI b A T lv bp bc tp tc w) :
    Calls Tryd.prog 88 #[.pointer (some ⟨b, 0, none⟩), .int .i64 (n : Int), .agg (A8 16 f)] w fun e w' => (eqRow 16 d f = true ∧ (∃ v, e = .returned v) ∨ eqRow 16 d f = false ∧ e = .panicked refusedP) ∧ Below w.heap.size w w' := by
  have hbx := box23 f
  have k0 := (Blk.new w (A8 16 f) 23).alloc (.cells #[.int .i64 0] 3)
  have k1 := Blk.new (w.alloc (.cells (A8 16 f) 23)) #[.int .i64 0] 3
  rw [World.size_alloc] at k1
  have hB : Below w.heap.size w ((w.alloc (.cells (A8 16 f) 23)).alloc (.cells #[.int .i64 0] 3)) := ((Below.refl _ _).alloc (Nat.le_refl _) _).alloc (by simp) _
  have ct := fun W hB hq => gives_call b (w.heap.size + 1) n bc tc bp tp A T d lv w W hn hA hg hf (Nat.le_succ _) hB hq
  obtain ⟨W1, hW1⟩ : ∃ W1, (w.alloc (.cells (A8 16 f) 23)).alloc (.cells #[.int .i64 0] 3) = W1 := ⟨_, rfl⟩
  rw [hW1] at k0 k1 hB
  have l1 := k1.lt
  have c1 := k1.cell 0
  have f1 := k1.free 0
  replace k0 := k0.other (a := ⟨w.heap.size + 1, 0, none⟩) (by simp) (.int .i64 0)
  have k2 := k1.set 0 (.int .i64 0)
  replace hB := hB.setCell (p := ⟨w.heap.size + 1, 0, none⟩) (by simp) (.int .i64 0)
  have CT := hide ct
  clear ct hg hf
  go_enter Tryd.func88, Tryd.ntmps88
  go_upto_region 2 with (fail)
  try rw [hW1]
  replace k1 : Blk (W1.setCell ⟨w.heap.size + 1, 0, none⟩ (.int .i64 0)) (w.heap.size + 1) #[.int .i64 0] 3 := k2
  generalize hW2 : W1.setCell ⟨w.heap.size + 1, 0, none⟩ (.int .i64 0) = W2 at k0 k1 hB ⊢
  clear hW1 hbx k2 c1 f1 hW2 l1
  have l1 := k1.lt
  cases heq : eqRow 16 d f with
  | true =>
    refine wp_region_held_drew (S := fun w' => Blk w' w.heap.size (A8 16 f) 23) (by kernel_rfl) (k0.drew) (fun hS => ?_)
    simp only [List.size_toArray, List.length_cons, List.length_nil, Nat.reduceAdd, Array.replicate_succ, Array.replicate_zero, List.push_toArray, List.nil_append, List.cons_append]
    refine take_at (i := 0) 7 (.pointer (some ⟨b, 0, none⟩)) rfl rfl (by kernel_rfl) (by kernel_rfl) (by kernel_rfl) (fun _ _ _ h => h) (Or.inl ⟨by rfl, fun W hW => by go_simp⟩) hS ?_
    try simp only [List.setIfInBounds_toArray, List.set_cons_zero, List.set_cons_succ]
    refine take_at (i := 1) 8 (.int .i64 (n : Int)) rfl rfl (by kernel_rfl) (by kernel_rfl) (by kernel_rfl) (fun _ _ _ h => h) (Or.inl ⟨by rfl, fun W hW => by go_simp⟩) hS ?_
    try simp only [List.setIfInBounds_toArray, List.set_cons_zero, List.set_cons_succ]
    refine take_at (i := 3) 10 (.agg (A8 16 f)) rfl rfl (by kernel_rfl) (by kernel_rfl) (by kernel_rfl) (fun _ _ _ h => h) (Or.inl ⟨by rfl, fun W hW => exec_load_blk hW⟩) hS ?_
    try simp only [List.setIfInBounds_toArray, List.set_cons_zero, List.set_cons_succ]
    refine wpAnyH_ready (rs := [2]) (by kernel_rfl) (by simp) ?_
    refine AllReadyH.cons rfl (fun K hK => ?_) AllReadyH.nil
    go_simp
    refine (CT.out _ (hB.mono (Nat.le_refl _)).drew k1.drew).mono ?_
    rintro e X1 ⟨rfl, hm1⟩
    refine hK.out _ _ (hS.mods hm1 (by omega)) (fun hS => ?_)
    clear hK K
    have hB := hB.drew.trans (hm1.below (B := w.heap.size) (by omega) (by have := hB.size; simp; omega))
    try simp only [Act.put, List.getElem_toArray, List.getElem_cons_succ, List.getElem_cons_zero, List.setIfInBounds_toArray, List.set_cons_zero, List.set_cons_succ]
    refine take_at (i := 4) 11 (.bool false) rfl rfl (by kernel_rfl) (by kernel_rfl) (by kernel_rfl) (fun _ _ _ h => h) (Or.inl ⟨by rfl, fun W hW => (exec_neq23 _ _ _ rfl rfl rfl).trans (by rw [heq]; rfl)⟩) hS ?_
    try simp only [List.setIfInBounds_toArray, List.set_cons_zero, List.set_cons_succ]
    refine wpAnyH_done (by kernel_rfl) ?_ _
    go_wp2_with fail
    go_end0
    exact ⟨.inl ⟨heq, _, rfl⟩, hB⟩
  | false =>
    refine wp_region_held_drew (S := fun w' => Blk w' w.heap.size (A8 16 f) 23) (by kernel_rfl) (k0.drew) (fun hS => ?_)
    simp only [List.size_toArray, List.length_cons, List.length_nil, Nat.reduceAdd, Array.replicate_succ, Array.replicate_zero, List.push_toArray, List.nil_append, List.cons_append]
    refine take_at (i := 0) 7 (.pointer (some ⟨b, 0, none⟩)) rfl rfl (by kernel_rfl) (by kernel_rfl) (by kernel_rfl) (fun _ _ _ h => h) (Or.inl ⟨by rfl, fun W hW => by go_simp⟩) hS ?_
    try simp only [List.setIfInBounds_toArray, List.set_cons_zero, List.set_cons_succ]
    refine take_at (i := 1) 8 (.int .i64 (n : Int)) rfl rfl (by kernel_rfl) (by kernel_rfl) (by kernel_rfl) (fun _ _ _ h => h) (Or.inl ⟨by rfl, fun W hW => by go_simp⟩) hS ?_
    try simp only [List.setIfInBounds_toArray, List.set_cons_zero, List.set_cons_succ]
    refine take_at (i := 3) 10 (.agg (A8 16 f)) rfl rfl (by kernel_rfl) (by kernel_rfl) (by kernel_rfl) (fun _ _ _ h => h) (Or.inl ⟨by rfl, fun W hW => exec_load_blk hW⟩) hS ?_
    try simp only [List.setIfInBounds_toArray, List.set_cons_zero, List.set_cons_succ]
    refine wpAnyH_ready (rs := [2]) (by kernel_rfl) (by simp) ?_
    refine AllReadyH.cons rfl (fun K hK => ?_) AllReadyH.nil
    go_simp
    refine (CT.out _ (hB.mono (Nat.le_refl _)).drew k1.drew).mono ?_
    rintro e X1 ⟨rfl, hm1⟩
    refine hK.out _ _ (hS.mods hm1 (by omega)) (fun hS => ?_)
    clear hK K
    have hB := hB.drew.trans (hm1.below (B := w.heap.size) (by omega) (by have := hB.size; simp; omega))
    try simp only [Act.put, List.getElem_toArray, List.getElem_cons_succ, List.getElem_cons_zero, List.setIfInBounds_toArray, List.set_cons_zero, List.set_cons_succ]
    refine take_at (i := 4) 11 (.bool true) rfl rfl (by kernel_rfl) (by kernel_rfl) (by kernel_rfl) (fun _ _ _ h => h) (Or.inl ⟨by rfl, fun W hW => (exec_neq23 _ _ _ rfl rfl rfl).trans (by rw [heq]; rfl)⟩) hS ?_
    try simp only [List.setIfInBounds_toArray, List.set_cons_zero, List.set_cons_succ]
    refine wpAnyH_done (by kernel_rfl) ?_ _
    go_wp2_with fail
    exact ⟨rfl, .inr ⟨heq, rfl⟩, hB⟩
set_option maxRecDepth 20000 in
set_option maxHeartbeats 1000000 in
theorem done_any (b L c : Nat) (p : Option Addr) (w : World) (hq : w.cell? ⟨b, 0, none⟩ = some (.slice p L c)) :
    Calls Tryd.prog 87 #[.pointer (some ⟨b, 0, none⟩)] w fun e w' => (L = 0 ∧ (∃ v, e = .returned v) ∨ 0 < L ∧ e = .panicked refusedP) ∧ Below w.heap.size w w' := by
  by_cases h0 : L = 0
  · subst h0
    go_enter Tryd.func87, Tryd.ntmps87
    go_wp2_with fail
    go_end0
    exact ⟨.inl ⟨trivial, _, rfl⟩, Below.refl _ _⟩
  · have h1 : (0 : Int) < (L : Int) := by omega
    have h2 : ¬ (L : Int) ≤ 0 := by omega
    go_enter Tryd.func87, Tryd.ntmps87
    go_wp2_with fail
    exact ⟨rfl, rfl, Below.refl _ _⟩
end Go.Proofs.YtdpgebifeaakjaaDoor
