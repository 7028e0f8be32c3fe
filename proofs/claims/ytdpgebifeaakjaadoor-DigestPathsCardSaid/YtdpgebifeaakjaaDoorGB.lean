/- The body of DigestGrowing. -/
import Derived.Test.YtdpgebifeaakjaaDoorFB
import Derived.Test.YtdpgebifeaakjaaDoorFD
import Derived.Test.YtdpgebifeaakjaaDoorML
namespace Go.Proofs.YtdpgebifeaakjaaDoor
set_option linter.unusedSimpArgs false
set_option linter.unusedVariables false
open Go.RowKit

/-- Digests do not lie where a frontier lies. -/
theorem digs_ne {W : World} {g o k c b : Nat} {T : Nat → Nat → BitVec 8} {x : Int} {s : Option Addr} {sn sc : Nat} (h : Digs W (.slice (some ⟨g, o, none⟩) k c) k T) (hk : 0 < k) (hb : Blk W b #[.int .i64 x, .slice s sn sc] 94) : g ≠ b := by
  rintro rfl
  obtain ⟨p, c', e, _, hd⟩ := h
  injection e with e1 e2 e3
  subst e1
  obtain ⟨g', o', e, r⟩ := hd 0 hk
  injection e with e
  injection e with e4 e5
  subst e4 e5
  have hc := r 0 _ (by rw [Array.getElem?_toList, A8.get _ (by omega)])
  rw [hb.cell] at hc
  generalize o + 0 * 16 + 0 = q at hc
  match q, hc with
  | 0, hc => injection hc with hc; injection hc with hc; cases hc
  | 1, hc => injection hc with hc; cases hc
  | q + 2, hc => cases hc
theorem digs_upd {W W' : World} {p : Option Addr} {k c b : Nat} {T : Nat → Nat → BitVec 8} {x : Int} {s : Option Addr} {sn sc : Nat} (h : Digs W (.slice p k c) k T) (hu : Upd b W W') (hb : Blk W b #[.int .i64 x, .slice s sn sc] 94) : Digs W' (.slice p k c) k T := by
  have hh := h
  obtain ⟨p', c', e, hc, hd⟩ := h
  injection e with e1 e2 e3
  subst e1 e3
  refine ⟨p, c, rfl, hc, fun j hj => ?_⟩
  obtain ⟨g, o, rfl, r⟩ := hd j hj
  exact ⟨g, o, rfl, rangeAt_upd r hu (digs_ne hh (by omega) hb)⟩
theorem upd_setCell (W : World) (b j : Nat) (v : Value) : Upd b W (W.setCell ⟨b, j, none⟩ v) := ⟨rfl, rfl, rfl, by simp [World.setCell], fun k hk => Below.heap_setCell _ _ _ _ hk⟩
theorem top_of (D : Nat → Nat → BitVec 8) (n k : Nat) (T : Nat → Nat → BitVec 8) (h0 : 0 < n) (hn : n ≤ 1099511627776) (hk : k = (coverL 0 n).length) (hT : ∀ j, j < k → T j = topT (coverL 0 n) D j) : 0 < k ∧ topF (k - 1) (T (k - 1)) T = treeF n n D := by
  obtain ⟨t1, t2⟩ := top_plain D n 0 h0 (by omega) (.inl rfl)
  rw [Nat.zero_add, ← hk] at t1 t2
  refine ⟨t1, ?_⟩
  rw [hT (k - 1) (by omega), topF_congr (k - 1) _ fun j hj => hT j (by omega), t2, tr]
  congr 1
  funext j
  rw [Nat.zero_add]
theorem exec_load_blk {W : World} {b : Nat} {Z : Nat → BitVec 8} {a : Act} {o : Oper} {x : Operand} (h : Blk W b (A8 16 Z) 23) (ho : o.op = .load 23 x := by rfl) (hx : a.eval x = .pointer (some ⟨b, 0, none⟩) := by rfl) : (execOp a.eval o).run Tryd.prog W = .ok (.value (.agg (A8 16 Z))) W := by
  have hrun := run_loadVar_Blk (P := Tryd.prog) h Tryd.underlying23 rfl size23 (A8.size _ _)
  unfold execOp
  simp only [ho, hx, Instr.loadAt, Instr.sureAddr, Sem.run_bind, Sem.run_pure, Result.andThen_ok, hrun]
set_option maxRecDepth 20000 in
set_option maxHeartbeats 4000000 in
theorem growing_any (n : Nat) (D : Nat → Nat → BitVec 8) (v : Value) (w : World) (hv : Digs w v n D) (hm : n ≤ maxLen) (hT : TabAt 3 Lib.deBruijn64tab w) (h3 : 3 < w.heap.size) :
    Calls Tryd.prog 14 #[v] w fun e w' => e = .returned (.bool true) ∧ Below w.heap.size w w' := by
  by_cases hn : 100 < n
  · have hB := Below.refl w.heap.size w
    obtain ⟨p, cap, rfl, hcap, hv⟩ := hv
    have hh : (100 : Int) < (n : Int) := by omega
    go_enter Tryd.func14, Tryd.ntmps14
    go_wp2_with fail
    refine (sane_any _ (tabC hT h3 hB) (Nat.lt_of_lt_of_le h3 hB.size)).mono ?_
    rintro e W1 ⟨rfl, hb⟩
    go_wp2_with fail
    go_ret
    exact ⟨rfl, hB.trans (hb.mono hB.size)⟩
  · have hvv := hv
    obtain ⟨lp, cap, rfl, hcap, hv⟩ := hv
    have hh : ¬ (100 : Int) < (n : Int) := by omega
    have hB : Below w.heap.size w (w.alloc (.cells #[.int .i64 0, .slice none 0 0] 94)) := (Below.refl _ w).alloc (Nat.le_refl _) _
    have kf := Blk.new w #[.int .i64 0, .slice none 0 0] 94
    have dz := digs_nil (w.alloc (.cells #[.int .i64 0, .slice none 0 0] 94)) D
    obtain ⟨W0, hW0⟩ : ∃ W0, w.alloc (.cells #[.int .i64 0, .slice none 0 0] 94) = W0 := ⟨_, rfl⟩
    rw [hW0] at hB kf dz
    have HV := hide hv
    clear hv
    go_enter Tryd.func14, Tryd.ntmps14
    go_wp2_with fail
    go_loopw [4] (fun s4 W => ∃ (i k c : Nat) (p : Option Addr) (T : Nat → Nat → BitVec 8), i ≤ n ∧ s4 = .int .i64 (i : Int) ∧ k = pcN 64 i ∧ Blk W w.heap.size #[.int .i64 (i : Int), .slice p k c] 94 ∧ Digs W (.slice p k c) k T ∧ (∀ j, j < k → T j = topT (coverL 0 i) D j) ∧ Below w.heap.size w W) (fun s4 _ => n - (intOf s4).toNat)
    case atStart => exact ⟨0, 0, 0, none, D, by omega, rfl, rfl, kf, dz, fun j hj => by omega, hB⟩
    case round =>
      clear kf hB dz
      obtain ⟨i, k, c, p, T, hi, rfl, hk, kf, dT, hTop, hB⟩ := hrel
      by_cases hlt : i < n
      · have hlt1 : (i : Int) < (n : Int) := by omega
        obtain ⟨g, o, rfl, r0⟩ := HV.out i hlt
        replace r0 := rangeAt_below r0 hB
        obtain ⟨k2, T2, hk2, hT2, hk2', G⟩ : ∃ (k2 : Nat) (T2 : Nat → Nat → BitVec 8), k2 = (coverL 0 (i + 1)).length ∧ (∀ j, j < k2 → T2 j = topT (coverL 0 (i + 1)) D j) ∧ k2 = pcN 64 (i + 1) ∧
            ∀ W, Below wr.heap.size wr W → Calls Tryd.prog 53 #[.agg #[.int .i64 (i : Int), .slice p k c], .agg (A8 16 (D i))] W fun e w' => ∃ r, e = .returned (.tuple #[.agg #[.int .i64 ((i : Int) + 1), r], .int .i64 0]) ∧ Digs w' r k2 T2 ∧ Below W.heap.size W w' := by
          have hg := grow_next D i (by omega) T (by rw [← hk]; exact hTop)
          rw [← hk] at hg
          have hpc := coverL_pc (i + 1) 0 (by omega) (.inl rfl)
          rw [Nat.zero_add] at hpc
          exact ⟨_, _, hg.1, hg.2, hg.1.trans hpc, fun W hW => grow_ok i k c p T (D i) W (by omega) hk (dT.below hW)⟩
        have hk40 : k2 ≤ 40 := by
          have : ∀ x : Fin 101, pcN 64 x.1 ≤ 40 := by decide +kernel
          rw [hk2']; exact this ⟨i + 1, by omega⟩
        have GC := hide G
        have HK := hide (And.intro hk2 (And.intro hT2 hk2'))
        clear G hk2 hT2 hk2' hTop hk
        have h40 : ¬ (40 : Int) < (k2 : Int) := by omega
        have q0 := kf.cell 0
        have q1 := kf.cell 1
        have hp0 : (0 : Int) ≤ (i : Int) := by omega
        have hwr : IntKind.i64.wrap ((i : Int) + 1) = (i : Int) + 1 := IntWalk.i64_in _ (by omega)
        go_wp2_with fail
        refine wp_region_held_drew (S := fun w' => Below wr.heap.size wr w') (by kernel_rfl) ((Below.refl _ _).drew) (fun hS => ?_)
        simp only [List.size_toArray, List.length_cons, List.length_nil, Nat.reduceAdd, Array.replicate_succ, Array.replicate_zero, List.push_toArray, List.nil_append, List.cons_append]
        refine take_at (i := 0) 22 (.agg #[.int .i64 (i : Int), .slice p k c]) rfl rfl (by kernel_rfl) (by kernel_rfl) (by kernel_rfl) (fun _ _ _ h => h) (Or.inl ⟨by rfl, fun W hW => by have hc := cell_below q0 hW; have hc2 := cell_below q1 hW; go_simp⟩) hS ?_
        try simp only [List.setIfInBounds_toArray, List.set_cons_zero, List.set_cons_succ]
        refine take_at (i := 1) 23 (.slice (some ⟨g, o, none⟩) n cap) rfl rfl (by kernel_rfl) (by kernel_rfl) (by kernel_rfl) (fun _ _ _ h => h) (Or.inl ⟨by rfl, fun W hW => by go_simp⟩) hS ?_
        try simp only [List.setIfInBounds_toArray, List.set_cons_zero, List.set_cons_succ]
        refine take_at (i := 2) 24 (.int .i64 (i : Int)) rfl rfl (by kernel_rfl) (by kernel_rfl) (by kernel_rfl) (fun _ _ _ h => h) (Or.inl ⟨by rfl, fun W hW => by go_simp⟩) hS ?_
        try simp only [List.setIfInBounds_toArray, List.set_cons_zero, List.set_cons_succ]
        refine take_at (i := 3) 25 (.pointer (some ⟨g, o + i * 16, none⟩)) rfl rfl (by kernel_rfl) (by kernel_rfl) (by kernel_rfl) (fun _ _ _ h => h) (Or.inl ⟨by rfl, fun W hW => by go_simp⟩) hS ?_
        try simp only [List.setIfInBounds_toArray, List.set_cons_zero, List.set_cons_succ]
        refine take_at (i := 4) 26 (.agg (A8 16 (D i))) rfl rfl (by kernel_rfl) (by kernel_rfl) (by kernel_rfl) (fun _ _ _ h => h) (Or.inl ⟨by rfl, fun W hW => exec_load_range _ 23 _ rfl g (o + i * 16) rfl (rangeAt_below r0 hW) Tryd.underlying23 rfl size23 (A8.size _ _)⟩) hS ?_
        try simp only [List.setIfInBounds_toArray, List.set_cons_zero, List.set_cons_succ]
        refine wpAnyH_ready (rs := [5, 9]) (by kernel_rfl) (by simp) ?_
        refine AllReadyH.cons rfl (fun K hK => ?_) ?_
        · skip
          go_simp
          refine (GC.out _ hS).mono ?_
          rintro e X1 ⟨r2, rfl, d2, hb⟩
          obtain ⟨p2, c2, rfl, hd2⟩ := id d2
          have hS0 := hS
          refine hK.out _ _ (hS.trans (hb.mono hS.size)) (fun hS => ?_)
          clear hK K
          clear hd2 hb
          try simp only [Act.put, List.setIfInBounds_toArray, List.set_cons_zero, List.set_cons_succ]
          refine take_at (i := 6) 21 (.tuple #[.agg #[.int .i64 ((i : Int) + 1), .slice p2 k2 c2], .int .i64 0]) rfl rfl (by kernel_rfl) (by kernel_rfl) (by kernel_rfl) (fun _ _ _ h => h) (Or.inl ⟨by rfl, fun W hW => by go_simp⟩) hS ?_
          try simp only [List.setIfInBounds_toArray, List.set_cons_zero, List.set_cons_succ]
          refine take_at (i := 7) 28 (.agg #[.int .i64 ((i : Int) + 1), .slice p2 k2 c2]) rfl rfl (by kernel_rfl) (by kernel_rfl) (by kernel_rfl) (fun _ _ _ h => h) (Or.inl ⟨by rfl, fun W hW => by go_simp⟩) hS ?_
          try simp only [List.setIfInBounds_toArray, List.set_cons_zero, List.set_cons_succ]
          refine take_at (i := 8) 29 (.int .i64 0) rfl rfl (by kernel_rfl) (by kernel_rfl) (by kernel_rfl) (fun _ _ _ h => h) (Or.inl ⟨by rfl, fun W hW => by go_simp⟩) hS ?_
          try simp only [List.setIfInBounds_toArray, List.set_cons_zero, List.set_cons_succ]
          refine wpAnyH_ready (rs := [9]) (by kernel_rfl) (by simp) ?_
          refine AllReadyH.cons rfl (fun K hK => ?_) AllReadyH.nil
          have k6 : Blk (X1.alloc (.cells #[.int .i64 0, .slice none 0 0] 94)) X1.heap.size #[.int .i64 0, .slice none 0 0] 94 := Blk.new X1 #[.int .i64 0, .slice none 0 0] 94
          go_simp
          have hS0 := hS
          refine hK.out _ _ (hS.alloc hS.size _) (fun hS => ?_)
          clear hK K
          have hle : wr.heap.size ≤ X1.heap.size := hS0.size
          replace d2 := d2.below ((Below.refl _ _).alloc (Nat.le_refl _) (.cells #[.int .i64 0, .slice none 0 0] 94))
          try simp only [Act.put, List.setIfInBounds_toArray, List.set_cons_zero, List.set_cons_succ]
          refine wpAnyH_ready (rs := [10]) (by kernel_rfl) (by simp) ?_
          refine AllReadyH.cons rfl (fun K hK => ?_) AllReadyH.nil
          rw [if_pos (by rfl)]
          refine wpo_storeRow (C' := #[.int .i64 ((i : Int) + 1), .slice p2 k2 c2]) 94 (.tmp 5) (.tmp 28) rfl _ rfl rfl k6 size94 rfl rfl (by simp [Value.oneCell']) rfl ?_
          intro W5 hu k5
          have hS0 := hS
          refine hK.out _ _ (hu.below hS hle) (fun hS => ?_)
          clear hK K
          replace d2 := digs_upd d2 hu k6
          try simp only [Act.put, List.setIfInBounds_toArray, List.set_cons_zero, List.set_cons_succ]
          refine take_at (i := 11) 6 (.int .i64 0) rfl rfl (by kernel_rfl) (by kernel_rfl) (by kernel_rfl) (fun _ _ _ h => h) (Or.inl ⟨by rfl, fun W hW => by go_simp⟩) hS ?_
          try simp only [List.setIfInBounds_toArray, List.set_cons_zero, List.set_cons_succ]
          refine wpAnyH_done (by kernel_rfl) ?_ _
          have hS2 : Below wr.heap.size wr W5 := hS
          clear hS k6 hu hS0
          have l3 := kf.lt
          replace kf := kf.below hS2 kf.lt
          replace hB := hB.trans (hS2.mono hB.size)
          have l35 : w.heap.size < X1.heap.size := by omega
          clear q0 q1 hS2 hle l3 r0
          generalize X1.heap.size = b5 at *
          have q50 := k5.cell 0
          have q51 := k5.cell 1
          have q30 := kf.cell 0
          have q31 := kf.cell 1
          have f30 := kf.free 0
          have f31 := kf.free 1
          go_wp2_with fail
          have kf6 : Blk ((W5.setCell ⟨w.heap.size, 0, none⟩ (.int .i64 ((i : Int) + 1))).setCell ⟨w.heap.size, 1, none⟩ (.slice p2 k2 c2)) w.heap.size #[.int .i64 ((i : Int) + 1), .slice p2 k2 c2] 94 := (kf.set 0 (.int .i64 ((i : Int) + 1))).set 1 (.slice p2 k2 c2)
          have d6 := digs_upd (digs_upd d2 (upd_setCell W5 w.heap.size 0 (.int .i64 ((i : Int) + 1))) kf) (upd_setCell _ w.heap.size 1 (.slice p2 k2 c2)) (kf.set 0 (.int .i64 ((i : Int) + 1)))
          have hB6 := (hB.setCell (p := ⟨w.heap.size, 0, none⟩) (Nat.le_refl _) (.int .i64 ((i : Int) + 1))).setCell (p := ⟨w.heap.size, 1, none⟩) (Nat.le_refl _) (.slice p2 k2 c2)
          clear q50 q51 q30 q31 f30 f31 kf k5 d2 hB
          generalize (W5.setCell ⟨w.heap.size, 0, none⟩ (.int .i64 ((i : Int) + 1))).setCell ⟨w.heap.size, 1, none⟩ (.slice p2 k2 c2) = W6 at kf6 d6 hB6 ⊢
          obtain ⟨hk2, hT2, hk2'⟩ := HK.out
          obtain ⟨hpos, htop⟩ := top_of D (i + 1) k2 T2 (by omega) (by omega) hk2 hT2
          have tp : Calls Tryd.prog 55 #[.agg #[.int .i64 ((i : Int) + 1), .slice p2 k2 c2]] W6 _ := top_ok (i + 1) k2 c2 p2 T2 W6 (by omega) (by omega) hk2' hpos d6
          rw [htop] at tp
          have TC := fun (W : World) (h : Below w.heap.size w W) => tree_any (i + 1) (i + 1) D (.slice (some ⟨g, o, none⟩) (i + 1) cap) W (Nat.le_refl _) (by omega) ((Digs.left hvv (i + 1) (by omega)).below h)
          clear hk2 hT2 hk2' htop
          generalize treeF (i + 1) (i + 1) D = Z at tp TC
          refine tp.mono ?_
          clear tp
          rintro e W7 ⟨rfl, hb⟩
          replace TC := hide TC
          have hne := neql23 Z
          replace kf6 := kf6.below hb kf6.lt
          replace d6 := d6.below hb
          replace hB6 := hB6.trans (hb.mono hB6.size)
          clear hb
          have n7 := Blk.new W7 (A8 16 fun _ => 0#8) 23
          have hp5 : (0 : Int) ≤ (i : Int) + 1 := by omega
          have hp6 : (i : Int) + 1 ≤ (cap : Int) := by omega
          have hq1 : ((i : Int) + 1).toNat = i + 1 := by omega
          go_wp2_with (refine wp_storeRow (C' := A8 16 Z) rfl 23 _ _ rfl _ rfl rfl n7 size23 (A8.size _ _) (A8.size _ _) (A8.one _) rfl ?_; intro W8 hu k7)
          have hb7 : Below W7.heap.size W7 W8 := hu.below ((Below.refl _ _).alloc (Nat.le_refl _) _) (Nat.le_refl _)
          replace kf6 := kf6.below hb7 kf6.lt
          replace d6 := d6.below hb7
          have hB := hB6.trans (hb7.mono hB6.size)
          clear hb7 hu n7 hB6
          generalize W7.heap.size = b7 at k7 ⊢
          refine wp_region_held_drew (S := fun w' => Below W8.heap.size W8 w') (by kernel_rfl) ((Below.refl _ _).drew) (fun hS => ?_)
          simp only [List.size_toArray, List.length_cons, List.length_nil, Nat.reduceAdd, Array.replicate_succ, Array.replicate_zero, List.push_toArray, List.nil_append, List.cons_append]
          refine take_at (i := 0) 51 (.int .i64 0) rfl rfl (by kernel_rfl) (by kernel_rfl) (by kernel_rfl) (fun _ _ _ h => h) (Or.inl ⟨by rfl, fun W hW => by go_simp⟩) hS ?_
          try simp only [List.setIfInBounds_toArray, List.set_cons_zero, List.set_cons_succ]
          refine take_at (i := 1) 52 (.bool false) rfl rfl (by kernel_rfl) (by kernel_rfl) (by kernel_rfl) (fun _ _ _ h => h) (Or.inl ⟨by rfl, fun W hW => by go_simp⟩) hS ?_
          try simp only [List.setIfInBounds_toArray, List.set_cons_zero, List.set_cons_succ]
          refine take_at (i := 2) 53 (.bool false) rfl rfl (by kernel_rfl) (by kernel_rfl) (by kernel_rfl) (fun _ _ _ h => h) (Or.inl ⟨by rfl, fun W hW => by go_simp⟩) hS ?_
          try simp only [List.setIfInBounds_toArray, List.set_cons_zero, List.set_cons_succ]
          refine take_at (i := 3) 54 (.agg (A8 16 Z)) rfl rfl (by kernel_rfl) (by kernel_rfl) (by kernel_rfl) (fun _ _ _ h => h) (Or.inl ⟨by rfl, fun W hW => exec_load_blk (k7.below hW k7.lt)⟩) hS ?_
          try simp only [List.setIfInBounds_toArray, List.set_cons_zero, List.set_cons_succ]
          refine take_at (i := 4) 55 (.slice (some ⟨g, o, none⟩) n cap) rfl rfl (by kernel_rfl) (by kernel_rfl) (by kernel_rfl) (fun _ _ _ h => h) (Or.inl ⟨by rfl, fun W hW => by go_simp⟩) hS ?_
          try simp only [List.setIfInBounds_toArray, List.set_cons_zero, List.set_cons_succ]
          refine take_at (i := 5) 56 (.int .i64 (i : Int)) rfl rfl (by kernel_rfl) (by kernel_rfl) (by kernel_rfl) (fun _ _ _ h => h) (Or.inl ⟨by rfl, fun W hW => by go_simp⟩) hS ?_
          try simp only [List.setIfInBounds_toArray, List.set_cons_zero, List.set_cons_succ]
          refine take_at (i := 6) 57 (.int .i64 ((i : Int) + 1)) rfl rfl (by kernel_rfl) (by kernel_rfl) (by kernel_rfl) (fun _ _ _ h => h) (Or.inl ⟨by rfl, fun W hW => by go_simp⟩) hS ?_
          try simp only [List.setIfInBounds_toArray, List.set_cons_zero, List.set_cons_succ]
          refine take_at (i := 7) 58 (.slice (some ⟨g, o, none⟩) (i + 1) cap) rfl rfl (by kernel_rfl) (by kernel_rfl) (by kernel_rfl) (fun _ _ _ h => h) (Or.inl ⟨by rfl, fun W hW => by go_simp⟩) hS ?_
          try simp only [List.setIfInBounds_toArray, List.set_cons_zero, List.set_cons_succ]
          refine wpAnyH_ready (rs := [8]) (by kernel_rfl) (by simp) ?_
          refine AllReadyH.cons rfl (fun K hK => ?_) AllReadyH.nil
          go_simp
          refine (TC.out _ (hB.trans (hS.mono hB.size))).mono ?_
          rintro e X9 ⟨rfl, hb⟩
          have hS0 := hS
          refine hK.out _ _ (hS.trans (hb.mono hS.size)) (fun hS => ?_)
          clear hK K
          try simp only [Act.put, List.setIfInBounds_toArray, List.set_cons_zero, List.set_cons_succ]
          refine take_at (i := 9) 60 (.bool false) rfl rfl (by kernel_rfl) (by kernel_rfl) (by kernel_rfl) (fun _ _ _ h => h) (Or.inl ⟨by rfl, fun W hW => by go_simp⟩) hS ?_
          try simp only [List.setIfInBounds_toArray, List.set_cons_zero, List.set_cons_succ]
          refine take_at (i := 10) 61 (.bool false) rfl rfl (by kernel_rfl) (by kernel_rfl) (by kernel_rfl) (fun _ _ _ h => h) (Or.inl ⟨by rfl, fun W hW => by go_simp⟩) hS ?_
          try simp only [List.setIfInBounds_toArray, List.set_cons_zero, List.set_cons_succ]
          refine wpAnyH_done (by kernel_rfl) ?_ _
          have kf9 := kf6.below hS kf6.lt
          have d9 := d6.below hS
          have hB9 := hB.trans (hS.mono hB.size)
          clear kf6 d6 hB hS k7
          go_wp2_with fail
          exact ⟨⟨i + 1, k2, c2, p2, T2, by omega, by first | go_num | exact congrArg (Value.int IntKind.i64) (by omega), HK.out.2.2, kf9, d9, HK.out.2.1, hB9⟩, by simp [intOf]; omega⟩
        refine AllReadyH.cons rfl (fun K hK => ?_) AllReadyH.nil
        have k6 : Blk (wr.drew.alloc (.cells #[.int .i64 0, .slice none 0 0] 94)) wr.heap.size #[.int .i64 0, .slice none 0 0] 94 := Blk.new wr.drew #[.int .i64 0, .slice none 0 0] 94
        go_simp
        have hS0 := hS
        refine hK.out _ _ (hS.alloc hS.size _) (fun hS => ?_)
        clear hK K
        have hle : wr.heap.size ≤ wr.heap.size := hS0.size
        try simp only [Act.put, List.setIfInBounds_toArray, List.set_cons_zero, List.set_cons_succ]
        refine wpAnyH_ready (rs := [5]) (by kernel_rfl) (by simp) ?_
        refine AllReadyH.cons rfl (fun K hK => ?_) AllReadyH.nil
        go_simp
        refine (GC.out _ hS).mono ?_
        rintro e X5 ⟨r2, rfl, d2, hb⟩
        obtain ⟨p2, c2, rfl, hd2⟩ := id d2
        replace k6 := k6.below hb k6.lt
        have hS0 := hS
        refine hK.out _ _ (hS.trans (hb.mono hS.size)) (fun hS => ?_)
        clear hK K
        clear hd2 hb
        try simp only [Act.put, List.setIfInBounds_toArray, List.set_cons_zero, List.set_cons_succ]
        refine take_at (i := 6) 21 (.tuple #[.agg #[.int .i64 ((i : Int) + 1), .slice p2 k2 c2], .int .i64 0]) rfl rfl (by kernel_rfl) (by kernel_rfl) (by kernel_rfl) (fun _ _ _ h => h) (Or.inl ⟨by rfl, fun W hW => by go_simp⟩) hS ?_
        try simp only [List.setIfInBounds_toArray, List.set_cons_zero, List.set_cons_succ]
        refine take_at (i := 7) 28 (.agg #[.int .i64 ((i : Int) + 1), .slice p2 k2 c2]) rfl rfl (by kernel_rfl) (by kernel_rfl) (by kernel_rfl) (fun _ _ _ h => h) (Or.inl ⟨by rfl, fun W hW => by go_simp⟩) hS ?_
        try simp only [List.setIfInBounds_toArray, List.set_cons_zero, List.set_cons_succ]
        refine take_at (i := 8) 29 (.int .i64 0) rfl rfl (by kernel_rfl) (by kernel_rfl) (by kernel_rfl) (fun _ _ _ h => h) (Or.inl ⟨by rfl, fun W hW => by go_simp⟩) hS ?_
        try simp only [List.setIfInBounds_toArray, List.set_cons_zero, List.set_cons_succ]
        refine wpAnyH_ready (rs := [10]) (by kernel_rfl) (by simp) ?_
        refine AllReadyH.cons rfl (fun K hK => ?_) AllReadyH.nil
        rw [if_pos (by rfl)]
        refine wpo_storeRow (C' := #[.int .i64 ((i : Int) + 1), .slice p2 k2 c2]) 94 (.tmp 5) (.tmp 28) rfl _ rfl rfl k6 size94 rfl rfl (by simp [Value.oneCell']) rfl ?_
        intro W5 hu k5
        have hS0 := hS
        refine hK.out _ _ (hu.below hS hle) (fun hS => ?_)
        clear hK K
        replace d2 := digs_upd d2 hu k6
        try simp only [Act.put, List.setIfInBounds_toArray, List.set_cons_zero, List.set_cons_succ]
        refine take_at (i := 11) 6 (.int .i64 0) rfl rfl (by kernel_rfl) (by kernel_rfl) (by kernel_rfl) (fun _ _ _ h => h) (Or.inl ⟨by rfl, fun W hW => by go_simp⟩) hS ?_
        try simp only [List.setIfInBounds_toArray, List.set_cons_zero, List.set_cons_succ]
        refine wpAnyH_done (by kernel_rfl) ?_ _
        have hS2 : Below wr.heap.size wr W5 := hS
        clear hS k6 hu hS0
        have l3 := kf.lt
        replace kf := kf.below hS2 kf.lt
        replace hB := hB.trans (hS2.mono hB.size)
        have l35 : w.heap.size < wr.heap.size := by omega
        clear q0 q1 hS2 hle l3 r0
        generalize wr.heap.size = b5 at *
        have q50 := k5.cell 0
        have q51 := k5.cell 1
        have q30 := kf.cell 0
        have q31 := kf.cell 1
        have f30 := kf.free 0
        have f31 := kf.free 1
        go_wp2_with fail
        have kf6 : Blk ((W5.setCell ⟨w.heap.size, 0, none⟩ (.int .i64 ((i : Int) + 1))).setCell ⟨w.heap.size, 1, none⟩ (.slice p2 k2 c2)) w.heap.size #[.int .i64 ((i : Int) + 1), .slice p2 k2 c2] 94 := (kf.set 0 (.int .i64 ((i : Int) + 1))).set 1 (.slice p2 k2 c2)
        have d6 := digs_upd (digs_upd d2 (upd_setCell W5 w.heap.size 0 (.int .i64 ((i : Int) + 1))) kf) (upd_setCell _ w.heap.size 1 (.slice p2 k2 c2)) (kf.set 0 (.int .i64 ((i : Int) + 1)))
        have hB6 := (hB.setCell (p := ⟨w.heap.size, 0, none⟩) (Nat.le_refl _) (.int .i64 ((i : Int) + 1))).setCell (p := ⟨w.heap.size, 1, none⟩) (Nat.le_refl _) (.slice p2 k2 c2)
        clear q50 q51 q30 q31 f30 f31 kf k5 d2 hB
        generalize (W5.setCell ⟨w.heap.size, 0, none⟩ (.int .i64 ((i : Int) + 1))).setCell ⟨w.heap.size, 1, none⟩ (.slice p2 k2 c2) = W6 at kf6 d6 hB6 ⊢
        obtain ⟨hk2, hT2, hk2'⟩ := HK.out
        obtain ⟨hpos, htop⟩ := top_of D (i + 1) k2 T2 (by omega) (by omega) hk2 hT2
        have tp : Calls Tryd.prog 55 #[.agg #[.int .i64 ((i : Int) + 1), .slice p2 k2 c2]] W6 _ := top_ok (i + 1) k2 c2 p2 T2 W6 (by omega) (by omega) hk2' hpos d6
        rw [htop] at tp
        have TC := fun (W : World) (h : Below w.heap.size w W) => tree_any (i + 1) (i + 1) D (.slice (some ⟨g, o, none⟩) (i + 1) cap) W (Nat.le_refl _) (by omega) ((Digs.left hvv (i + 1) (by omega)).below h)
        clear hk2 hT2 hk2' htop
        generalize treeF (i + 1) (i + 1) D = Z at tp TC
        refine tp.mono ?_
        clear tp
        rintro e W7 ⟨rfl, hb⟩
        replace TC := hide TC
        have hne := neql23 Z
        replace kf6 := kf6.below hb kf6.lt
        replace d6 := d6.below hb
        replace hB6 := hB6.trans (hb.mono hB6.size)
        clear hb
        have n7 := Blk.new W7 (A8 16 fun _ => 0#8) 23
        have hp5 : (0 : Int) ≤ (i : Int) + 1 := by omega
        have hp6 : (i : Int) + 1 ≤ (cap : Int) := by omega
        have hq1 : ((i : Int) + 1).toNat = i + 1 := by omega
        go_wp2_with (refine wp_storeRow (C' := A8 16 Z) rfl 23 _ _ rfl _ rfl rfl n7 size23 (A8.size _ _) (A8.size _ _) (A8.one _) rfl ?_; intro W8 hu k7)
        have hb7 : Below W7.heap.size W7 W8 := hu.below ((Below.refl _ _).alloc (Nat.le_refl _) _) (Nat.le_refl _)
        replace kf6 := kf6.below hb7 kf6.lt
        replace d6 := d6.below hb7
        have hB := hB6.trans (hb7.mono hB6.size)
        clear hb7 hu n7 hB6
        generalize W7.heap.size = b7 at k7 ⊢
        refine wp_region_held_drew (S := fun w' => Below W8.heap.size W8 w') (by kernel_rfl) ((Below.refl _ _).drew) (fun hS => ?_)
        simp only [List.size_toArray, List.length_cons, List.length_nil, Nat.reduceAdd, Array.replicate_succ, Array.replicate_zero, List.push_toArray, List.nil_append, List.cons_append]
        refine take_at (i := 0) 51 (.int .i64 0) rfl rfl (by kernel_rfl) (by kernel_rfl) (by kernel_rfl) (fun _ _ _ h => h) (Or.inl ⟨by rfl, fun W hW => by go_simp⟩) hS ?_
        try simp only [List.setIfInBounds_toArray, List.set_cons_zero, List.set_cons_succ]
        refine take_at (i := 1) 52 (.bool false) rfl rfl (by kernel_rfl) (by kernel_rfl) (by kernel_rfl) (fun _ _ _ h => h) (Or.inl ⟨by rfl, fun W hW => by go_simp⟩) hS ?_
        try simp only [List.setIfInBounds_toArray, List.set_cons_zero, List.set_cons_succ]
        refine take_at (i := 2) 53 (.bool false) rfl rfl (by kernel_rfl) (by kernel_rfl) (by kernel_rfl) (fun _ _ _ h => h) (Or.inl ⟨by rfl, fun W hW => by go_simp⟩) hS ?_
        try simp only [List.setIfInBounds_toArray, List.set_cons_zero, List.set_cons_succ]
        refine take_at (i := 3) 54 (.agg (A8 16 Z)) rfl rfl (by kernel_rfl) (by kernel_rfl) (by kernel_rfl) (fun _ _ _ h => h) (Or.inl ⟨by rfl, fun W hW => exec_load_blk (k7.below hW k7.lt)⟩) hS ?_
        try simp only [List.setIfInBounds_toArray, List.set_cons_zero, List.set_cons_succ]
        refine take_at (i := 4) 55 (.slice (some ⟨g, o, none⟩) n cap) rfl rfl (by kernel_rfl) (by kernel_rfl) (by kernel_rfl) (fun _ _ _ h => h) (Or.inl ⟨by rfl, fun W hW => by go_simp⟩) hS ?_
        try simp only [List.setIfInBounds_toArray, List.set_cons_zero, List.set_cons_succ]
        refine take_at (i := 5) 56 (.int .i64 (i : Int)) rfl rfl (by kernel_rfl) (by kernel_rfl) (by kernel_rfl) (fun _ _ _ h => h) (Or.inl ⟨by rfl, fun W hW => by go_simp⟩) hS ?_
        try simp only [List.setIfInBounds_toArray, List.set_cons_zero, List.set_cons_succ]
        refine take_at (i := 6) 57 (.int .i64 ((i : Int) + 1)) rfl rfl (by kernel_rfl) (by kernel_rfl) (by kernel_rfl) (fun _ _ _ h => h) (Or.inl ⟨by rfl, fun W hW => by go_simp⟩) hS ?_
        try simp only [List.setIfInBounds_toArray, List.set_cons_zero, List.set_cons_succ]
        refine take_at (i := 7) 58 (.slice (some ⟨g, o, none⟩) (i + 1) cap) rfl rfl (by kernel_rfl) (by kernel_rfl) (by kernel_rfl) (fun _ _ _ h => h) (Or.inl ⟨by rfl, fun W hW => by go_simp⟩) hS ?_
        try simp only [List.setIfInBounds_toArray, List.set_cons_zero, List.set_cons_succ]
        refine wpAnyH_ready (rs := [8]) (by kernel_rfl) (by simp) ?_
        refine AllReadyH.cons rfl (fun K hK => ?_) AllReadyH.nil
        go_simp
        refine (TC.out _ (hB.trans (hS.mono hB.size))).mono ?_
        rintro e X9 ⟨rfl, hb⟩
        have hS0 := hS
        refine hK.out _ _ (hS.trans (hb.mono hS.size)) (fun hS => ?_)
        clear hK K
        try simp only [Act.put, List.setIfInBounds_toArray, List.set_cons_zero, List.set_cons_succ]
        refine take_at (i := 9) 60 (.bool false) rfl rfl (by kernel_rfl) (by kernel_rfl) (by kernel_rfl) (fun _ _ _ h => h) (Or.inl ⟨by rfl, fun W hW => by go_simp⟩) hS ?_
        try simp only [List.setIfInBounds_toArray, List.set_cons_zero, List.set_cons_succ]
        refine take_at (i := 10) 61 (.bool false) rfl rfl (by kernel_rfl) (by kernel_rfl) (by kernel_rfl) (fun _ _ _ h => h) (Or.inl ⟨by rfl, fun W hW => by go_simp⟩) hS ?_
        try simp only [List.setIfInBounds_toArray, List.set_cons_zero, List.set_cons_succ]
        refine wpAnyH_done (by kernel_rfl) ?_ _
        have kf9 := kf6.below hS kf6.lt
        have d9 := d6.below hS
        have hB9 := hB.trans (hS.mono hB.size)
        clear kf6 d6 hB hS k7
        go_wp2_with fail
        exact ⟨⟨i + 1, k2, c2, p2, T2, by omega, by first | go_num | exact congrArg (Value.int IntKind.i64) (by omega), HK.out.2.2, kf9, d9, HK.out.2.1, hB9⟩, by simp [intOf]; omega⟩
      · have hlt1 : ¬ (i : Int) < (n : Int) := by omega
        obtain rfl : n = i := by omega
        have hk64 : k ≤ 64 := by rw [hk]; exact pcN_le 64 n
        have q1 := kf.cell 1
        have hpc := coverL_pc n 0 (by omega) (.inl rfl)
        rw [Nat.zero_add, ← hk] at hpc
        have m1 := coverL_mem 0 n (by omega)
        have cv : Calls Tryd.prog 22 #[.int .i64 0, .int .i64 (n : Int)] wr _ := cover_ok 0 n (by omega) (by omega) wr (fun j hj => (hB.cell (p := ⟨3, j, none⟩) h3).trans (hT j hj)) (Nat.lt_of_lt_of_le h3 hB.size)
        generalize coverL 0 n = LL at hpc m1 cv hTop
        have CV := hide cv
        clear cv hk
        go_wp2_with fail
        refine CV.out.mono ?_
        rintro e W1 ⟨u, rfl, ho, hb⟩
        obtain ⟨cp, cc, rfl, hcb⟩ := SlB.of_owns ho
        rw [hpc]
        replace kf := kf.below hb kf.lt
        replace dT := dT.below hb
        replace hB := hB.trans (hb.mono hB.size)
        have HC := hide hcb
        have HM := hide (And.intro hpc (And.intro m1 hTop))
        clear hb ho hcb hpc m1 hTop q1 CV
        have q1 := kf.cell 1
        go_wp2_with fail
        go_loopw [10] (fun s10 W => ∃ i : Nat, i ≤ k ∧ s10 = .int .i64 (i : Int) ∧ Below W1.heap.size W1 W) (fun s10 _ => k - (intOf s10).toNat)
        case atStart => exact ⟨0, by omega, rfl, Below.refl _ _⟩
        case round =>
          obtain ⟨i, hi2, rfl, hS1⟩ := hrel
          replace kf := kf.below hS1 kf.lt
          replace dT := dT.below hS1
          replace hB := hB.trans (hS1.mono hB.size)
          by_cases hik : i < k
          · have hik1 : (i : Int) < (k : Int) := by omega
            obtain ⟨hpc, m1, hTop⟩ := HM.out
            obtain ⟨a, m, hx⟩ : ∃ a m, LL[i]? = some (a, m) := ⟨_, _, List.getElem?_eq_getElem (by omega)⟩
            obtain ⟨bg, bo, rfl, qa, qm⟩ := HC.out i (a, m) hx
            have hbm := m1 _ (List.mem_of_getElem? hx)
            dsimp only at hbm qa qm
            obtain ⟨g, o, rfl, _⟩ := HV.out 0 (by omega)
            replace qa := cell_below qa hS1
            replace qm := cell_below qm hS1
            have hTi : T i = treeF m m fun j => D (a + j) := by rw [hTop i hik]; simp [topT, List.getD, hx]
            obtain ⟨p', c', e0, _, hd⟩ := dT
            injection e0 with e1 e2 e3
            subst e1 e3
            obtain ⟨tg, to, rfl, r0⟩ := hd i hik
            have d1 := (Digs.right hvv a (by omega)).left m (by omega)
            have TC := fun (W : World) (hB : Below w.heap.size w W) => tree_any m m (fun j => D (a + j)) _ W (Nat.le_refl _) (by omega) (d1.below hB)
            rw [hTi] at r0
            clear hTi hd e2 hx hpc m1 hTop d1
            generalize (treeF m m fun j => D (a + j)) = Z at TC r0
            replace TC := hide TC
            have hne := neql23 Z
            have q1 := kf.cell 1
            have hi0 : (0 : Int) ≤ (i : Int) := by omega
            have hkm : k ≤ 64 := hk64
            have hi1 : ¬ ((k : Int) ≤ (i : Int)) := by omega
            have g1 : ¬ ((a : Int) < 0) := by omega
            have g2 : ¬ ((m : Int) < 1) := by omega
            have g3 : ¬ ((n : Int) < (a : Int) + (m : Int)) := by omega
            have hp0 : (0 : Int) ≤ (a : Int) := by omega
            have hp1 : (0 : Int) ≤ (a : Int) + (m : Int) := by omega
            have hp2 : (a : Int) + (m : Int) ≤ (cap : Int) := by omega
            have hp3 : ¬ ((a : Int) + (m : Int) < (a : Int)) := by omega
            have hq1 : ((a : Int) + (m : Int)).toNat = a + m := by omega
            have hq2 : a + m - a = m := by omega
            have hq3 : ¬ cap = a := by omega
            have hwm : IntKind.i64.wrap ((a : Int) + (m : Int)) = (a : Int) + (m : Int) := IntWalk.i64_in _ (by omega)
            go_wp2_with fail
            refine wp_region_held_drew (S := fun w' => Below wr.heap.size wr w') (by kernel_rfl) ((Below.refl _ _).drew) (fun hS => ?_)
            simp only [List.size_toArray, List.length_cons, List.length_nil, Nat.reduceAdd, Array.replicate_succ, Array.replicate_zero, List.push_toArray, List.nil_append, List.cons_append]
            refine take_at (i := 0) 84 (.slice (some ⟨bg, bo, none⟩) k cc) rfl rfl (by kernel_rfl) (by kernel_rfl) (by kernel_rfl) (fun _ _ _ h => h) (Or.inl ⟨by rfl, fun W hW => by go_simp⟩) hS ?_
            try simp only [List.setIfInBounds_toArray, List.set_cons_zero, List.set_cons_succ]
            refine take_at (i := 1) 85 (.int .i64 (i : Int)) rfl rfl (by kernel_rfl) (by kernel_rfl) (by kernel_rfl) (fun _ _ _ h => h) (Or.inl ⟨by rfl, fun W hW => by go_simp⟩) hS ?_
            try simp only [List.setIfInBounds_toArray, List.set_cons_zero, List.set_cons_succ]
            refine take_at (i := 2) 86 (.pointer (some ⟨bg, bo + i * 2, none⟩)) rfl rfl (by kernel_rfl) (by kernel_rfl) (by kernel_rfl) (fun _ _ _ h => h) (Or.inl ⟨by rfl, fun W hW => by go_simp⟩) hS ?_
            try simp only [List.setIfInBounds_toArray, List.set_cons_zero, List.set_cons_succ]
            refine take_at (i := 3) 87 (.pointer (some ⟨bg, bo + i * 2, none⟩)) rfl rfl (by kernel_rfl) (by kernel_rfl) (by kernel_rfl) (fun _ _ _ h => h) (Or.inl ⟨by rfl, fun W hW => by go_simp⟩) hS ?_
            try simp only [List.setIfInBounds_toArray, List.set_cons_zero, List.set_cons_succ]
            refine take_at (i := 4) 88 (.int .i64 (a : Int)) rfl rfl (by kernel_rfl) (by kernel_rfl) (by kernel_rfl) (fun _ _ _ h => h) (Or.inl ⟨by rfl, fun W hW => by have hc := cell_below qa hW; go_simp⟩) hS ?_
            try simp only [List.setIfInBounds_toArray, List.set_cons_zero, List.set_cons_succ]
            refine take_at (i := 5) 89 (.bool false) rfl rfl (by kernel_rfl) (by kernel_rfl) (by kernel_rfl) (fun _ _ _ h => h) (Or.inl ⟨by rfl, fun W hW => by go_simp⟩) hS ?_
            try simp only [List.setIfInBounds_toArray, List.set_cons_zero, List.set_cons_succ]
            refine take_at (i := 6) 90 (.bool false) rfl rfl (by kernel_rfl) (by kernel_rfl) (by kernel_rfl) (fun _ _ _ h => h) (Or.inl ⟨by rfl, fun W hW => by go_simp⟩) hS ?_
            try simp only [List.setIfInBounds_toArray, List.set_cons_zero, List.set_cons_succ]
            refine take_at (i := 7) 91 (.slice (some ⟨bg, bo, none⟩) k cc) rfl rfl (by kernel_rfl) (by kernel_rfl) (by kernel_rfl) (fun _ _ _ h => h) (Or.inl ⟨by rfl, fun W hW => by go_simp⟩) hS ?_
            try simp only [List.setIfInBounds_toArray, List.set_cons_zero, List.set_cons_succ]
            refine take_at (i := 8) 92 (.int .i64 (i : Int)) rfl rfl (by kernel_rfl) (by kernel_rfl) (by kernel_rfl) (fun _ _ _ h => h) (Or.inl ⟨by rfl, fun W hW => by go_simp⟩) hS ?_
            try simp only [List.setIfInBounds_toArray, List.set_cons_zero, List.set_cons_succ]
            refine take_at (i := 9) 93 (.pointer (some ⟨bg, bo + i * 2, none⟩)) rfl rfl (by kernel_rfl) (by kernel_rfl) (by kernel_rfl) (fun _ _ _ h => h) (Or.inl ⟨by rfl, fun W hW => by go_simp⟩) hS ?_
            try simp only [List.setIfInBounds_toArray, List.set_cons_zero, List.set_cons_succ]
            refine take_at (i := 10) 94 (.pointer (some ⟨bg, bo + i * 2 + 1, none⟩)) rfl rfl (by kernel_rfl) (by kernel_rfl) (by kernel_rfl) (fun _ _ _ h => h) (Or.inl ⟨by rfl, fun W hW => by go_simp⟩) hS ?_
            try simp only [List.setIfInBounds_toArray, List.set_cons_zero, List.set_cons_succ]
            refine take_at (i := 11) 95 (.int .i64 (m : Int)) rfl rfl (by kernel_rfl) (by kernel_rfl) (by kernel_rfl) (fun _ _ _ h => h) (Or.inl ⟨by rfl, fun W hW => by have hc := cell_below qm hW; go_simp⟩) hS ?_
            try simp only [List.setIfInBounds_toArray, List.set_cons_zero, List.set_cons_succ]
            refine take_at (i := 12) 96 (.bool false) rfl rfl (by kernel_rfl) (by kernel_rfl) (by kernel_rfl) (fun _ _ _ h => h) (Or.inl ⟨by rfl, fun W hW => by go_simp⟩) hS ?_
            try simp only [List.setIfInBounds_toArray, List.set_cons_zero, List.set_cons_succ]
            refine take_at (i := 13) 97 (.bool false) rfl rfl (by kernel_rfl) (by kernel_rfl) (by kernel_rfl) (fun _ _ _ h => h) (Or.inl ⟨by rfl, fun W hW => by go_simp⟩) hS ?_
            try simp only [List.setIfInBounds_toArray, List.set_cons_zero, List.set_cons_succ]
            refine take_at (i := 14) 98 (.bool false) rfl rfl (by kernel_rfl) (by kernel_rfl) (by kernel_rfl) (fun _ _ _ h => h) (Or.inl ⟨by rfl, fun W hW => by go_simp⟩) hS ?_
            try simp only [List.setIfInBounds_toArray, List.set_cons_zero, List.set_cons_succ]
            refine take_at (i := 15) 99 (.slice (some ⟨bg, bo, none⟩) k cc) rfl rfl (by kernel_rfl) (by kernel_rfl) (by kernel_rfl) (fun _ _ _ h => h) (Or.inl ⟨by rfl, fun W hW => by go_simp⟩) hS ?_
            try simp only [List.setIfInBounds_toArray, List.set_cons_zero, List.set_cons_succ]
            refine take_at (i := 16) 100 (.int .i64 (i : Int)) rfl rfl (by kernel_rfl) (by kernel_rfl) (by kernel_rfl) (fun _ _ _ h => h) (Or.inl ⟨by rfl, fun W hW => by go_simp⟩) hS ?_
            try simp only [List.setIfInBounds_toArray, List.set_cons_zero, List.set_cons_succ]
            refine take_at (i := 17) 101 (.pointer (some ⟨bg, bo + i * 2, none⟩)) rfl rfl (by kernel_rfl) (by kernel_rfl) (by kernel_rfl) (fun _ _ _ h => h) (Or.inl ⟨by rfl, fun W hW => by go_simp⟩) hS ?_
            try simp only [List.setIfInBounds_toArray, List.set_cons_zero, List.set_cons_succ]
            refine take_at (i := 18) 102 (.pointer (some ⟨bg, bo + i * 2, none⟩)) rfl rfl (by kernel_rfl) (by kernel_rfl) (by kernel_rfl) (fun _ _ _ h => h) (Or.inl ⟨by rfl, fun W hW => by go_simp⟩) hS ?_
            try simp only [List.setIfInBounds_toArray, List.set_cons_zero, List.set_cons_succ]
            refine take_at (i := 19) 103 (.int .i64 (a : Int)) rfl rfl (by kernel_rfl) (by kernel_rfl) (by kernel_rfl) (fun _ _ _ h => h) (Or.inl ⟨by rfl, fun W hW => by have hc := cell_below qa hW; go_simp⟩) hS ?_
            try simp only [List.setIfInBounds_toArray, List.set_cons_zero, List.set_cons_succ]
            refine take_at (i := 20) 104 (.slice (some ⟨bg, bo, none⟩) k cc) rfl rfl (by kernel_rfl) (by kernel_rfl) (by kernel_rfl) (fun _ _ _ h => h) (Or.inl ⟨by rfl, fun W hW => by go_simp⟩) hS ?_
            try simp only [List.setIfInBounds_toArray, List.set_cons_zero, List.set_cons_succ]
            refine take_at (i := 21) 105 (.int .i64 (i : Int)) rfl rfl (by kernel_rfl) (by kernel_rfl) (by kernel_rfl) (fun _ _ _ h => h) (Or.inl ⟨by rfl, fun W hW => by go_simp⟩) hS ?_
            try simp only [List.setIfInBounds_toArray, List.set_cons_zero, List.set_cons_succ]
            refine take_at (i := 22) 106 (.pointer (some ⟨bg, bo + i * 2, none⟩)) rfl rfl (by kernel_rfl) (by kernel_rfl) (by kernel_rfl) (fun _ _ _ h => h) (Or.inl ⟨by rfl, fun W hW => by go_simp⟩) hS ?_
            try simp only [List.setIfInBounds_toArray, List.set_cons_zero, List.set_cons_succ]
            refine take_at (i := 23) 107 (.pointer (some ⟨bg, bo + i * 2 + 1, none⟩)) rfl rfl (by kernel_rfl) (by kernel_rfl) (by kernel_rfl) (fun _ _ _ h => h) (Or.inl ⟨by rfl, fun W hW => by go_simp⟩) hS ?_
            try simp only [List.setIfInBounds_toArray, List.set_cons_zero, List.set_cons_succ]
            refine take_at (i := 24) 108 (.int .i64 (m : Int)) rfl rfl (by kernel_rfl) (by kernel_rfl) (by kernel_rfl) (fun _ _ _ h => h) (Or.inl ⟨by rfl, fun W hW => by have hc := cell_below qm hW; go_simp⟩) hS ?_
            try simp only [List.setIfInBounds_toArray, List.set_cons_zero, List.set_cons_succ]
            refine take_at (i := 25) 109 (.int .i64 ((a : Int) + (m : Int))) rfl rfl (by kernel_rfl) (by kernel_rfl) (by kernel_rfl) (fun _ _ _ h => h) (Or.inl ⟨by rfl, fun W hW => by go_simp⟩) hS ?_
            try simp only [List.setIfInBounds_toArray, List.set_cons_zero, List.set_cons_succ]
            refine take_at (i := 26) 110 (.slice (some ⟨g, o, none⟩) n cap) rfl rfl (by kernel_rfl) (by kernel_rfl) (by kernel_rfl) (fun _ _ _ h => h) (Or.inl ⟨by rfl, fun W hW => by go_simp⟩) hS ?_
            try simp only [List.setIfInBounds_toArray, List.set_cons_zero, List.set_cons_succ]
            refine take_at (i := 27) 111 (.int .i64 (n : Int)) rfl rfl (by kernel_rfl) (by kernel_rfl) (by kernel_rfl) (fun _ _ _ h => h) (Or.inl ⟨by rfl, fun W hW => by go_simp⟩) hS ?_
            try simp only [List.setIfInBounds_toArray, List.set_cons_zero, List.set_cons_succ]
            refine take_at (i := 28) 112 (.bool false) rfl rfl (by kernel_rfl) (by kernel_rfl) (by kernel_rfl) (fun _ _ _ h => h) (Or.inl ⟨by rfl, fun W hW => by go_simp⟩) hS ?_
            try simp only [List.setIfInBounds_toArray, List.set_cons_zero, List.set_cons_succ]
            refine take_at (i := 29) 113 (.bool false) rfl rfl (by kernel_rfl) (by kernel_rfl) (by kernel_rfl) (fun _ _ _ h => h) (Or.inl ⟨by rfl, fun W hW => by go_simp⟩) hS ?_
            try simp only [List.setIfInBounds_toArray, List.set_cons_zero, List.set_cons_succ]
            refine take_at (i := 30) 114 (.bool false) rfl rfl (by kernel_rfl) (by kernel_rfl) (by kernel_rfl) (fun _ _ _ h => h) (Or.inl ⟨by rfl, fun W hW => by go_simp⟩) hS ?_
            try simp only [List.setIfInBounds_toArray, List.set_cons_zero, List.set_cons_succ]
            refine take_at (i := 31) 115 (.slice (some ⟨g, o, none⟩) n cap) rfl rfl (by kernel_rfl) (by kernel_rfl) (by kernel_rfl) (fun _ _ _ h => h) (Or.inl ⟨by rfl, fun W hW => by go_simp⟩) hS ?_
            try simp only [List.setIfInBounds_toArray, List.set_cons_zero, List.set_cons_succ]
            refine take_at (i := 32) 116 (.slice (some ⟨bg, bo, none⟩) k cc) rfl rfl (by kernel_rfl) (by kernel_rfl) (by kernel_rfl) (fun _ _ _ h => h) (Or.inl ⟨by rfl, fun W hW => by go_simp⟩) hS ?_
            try simp only [List.setIfInBounds_toArray, List.set_cons_zero, List.set_cons_succ]
            refine take_at (i := 33) 117 (.int .i64 (i : Int)) rfl rfl (by kernel_rfl) (by kernel_rfl) (by kernel_rfl) (fun _ _ _ h => h) (Or.inl ⟨by rfl, fun W hW => by go_simp⟩) hS ?_
            try simp only [List.setIfInBounds_toArray, List.set_cons_zero, List.set_cons_succ]
            refine take_at (i := 34) 118 (.pointer (some ⟨bg, bo + i * 2, none⟩)) rfl rfl (by kernel_rfl) (by kernel_rfl) (by kernel_rfl) (fun _ _ _ h => h) (Or.inl ⟨by rfl, fun W hW => by go_simp⟩) hS ?_
            try simp only [List.setIfInBounds_toArray, List.set_cons_zero, List.set_cons_succ]
            refine take_at (i := 35) 119 (.pointer (some ⟨bg, bo + i * 2, none⟩)) rfl rfl (by kernel_rfl) (by kernel_rfl) (by kernel_rfl) (fun _ _ _ h => h) (Or.inl ⟨by rfl, fun W hW => by go_simp⟩) hS ?_
            try simp only [List.setIfInBounds_toArray, List.set_cons_zero, List.set_cons_succ]
            refine take_at (i := 36) 120 (.int .i64 (a : Int)) rfl rfl (by kernel_rfl) (by kernel_rfl) (by kernel_rfl) (fun _ _ _ h => h) (Or.inl ⟨by rfl, fun W hW => by have hc := cell_below qa hW; go_simp⟩) hS ?_
            try simp only [List.setIfInBounds_toArray, List.set_cons_zero, List.set_cons_succ]
            refine take_at (i := 37) 121 (.slice (some ⟨bg, bo, none⟩) k cc) rfl rfl (by kernel_rfl) (by kernel_rfl) (by kernel_rfl) (fun _ _ _ h => h) (Or.inl ⟨by rfl, fun W hW => by go_simp⟩) hS ?_
            try simp only [List.setIfInBounds_toArray, List.set_cons_zero, List.set_cons_succ]
            refine take_at (i := 38) 122 (.int .i64 (i : Int)) rfl rfl (by kernel_rfl) (by kernel_rfl) (by kernel_rfl) (fun _ _ _ h => h) (Or.inl ⟨by rfl, fun W hW => by go_simp⟩) hS ?_
            try simp only [List.setIfInBounds_toArray, List.set_cons_zero, List.set_cons_succ]
            refine take_at (i := 39) 123 (.pointer (some ⟨bg, bo + i * 2, none⟩)) rfl rfl (by kernel_rfl) (by kernel_rfl) (by kernel_rfl) (fun _ _ _ h => h) (Or.inl ⟨by rfl, fun W hW => by go_simp⟩) hS ?_
            try simp only [List.setIfInBounds_toArray, List.set_cons_zero, List.set_cons_succ]
            refine take_at (i := 40) 124 (.pointer (some ⟨bg, bo + i * 2, none⟩)) rfl rfl (by kernel_rfl) (by kernel_rfl) (by kernel_rfl) (fun _ _ _ h => h) (Or.inl ⟨by rfl, fun W hW => by go_simp⟩) hS ?_
            try simp only [List.setIfInBounds_toArray, List.set_cons_zero, List.set_cons_succ]
            refine take_at (i := 41) 125 (.int .i64 (a : Int)) rfl rfl (by kernel_rfl) (by kernel_rfl) (by kernel_rfl) (fun _ _ _ h => h) (Or.inl ⟨by rfl, fun W hW => by have hc := cell_below qa hW; go_simp⟩) hS ?_
            try simp only [List.setIfInBounds_toArray, List.set_cons_zero, List.set_cons_succ]
            refine take_at (i := 42) 126 (.slice (some ⟨bg, bo, none⟩) k cc) rfl rfl (by kernel_rfl) (by kernel_rfl) (by kernel_rfl) (fun _ _ _ h => h) (Or.inl ⟨by rfl, fun W hW => by go_simp⟩) hS ?_
            try simp only [List.setIfInBounds_toArray, List.set_cons_zero, List.set_cons_succ]
            refine take_at (i := 43) 127 (.int .i64 (i : Int)) rfl rfl (by kernel_rfl) (by kernel_rfl) (by kernel_rfl) (fun _ _ _ h => h) (Or.inl ⟨by rfl, fun W hW => by go_simp⟩) hS ?_
            try simp only [List.setIfInBounds_toArray, List.set_cons_zero, List.set_cons_succ]
            refine take_at (i := 44) 128 (.pointer (some ⟨bg, bo + i * 2, none⟩)) rfl rfl (by kernel_rfl) (by kernel_rfl) (by kernel_rfl) (fun _ _ _ h => h) (Or.inl ⟨by rfl, fun W hW => by go_simp⟩) hS ?_
            try simp only [List.setIfInBounds_toArray, List.set_cons_zero, List.set_cons_succ]
            refine take_at (i := 45) 129 (.pointer (some ⟨bg, bo + i * 2 + 1, none⟩)) rfl rfl (by kernel_rfl) (by kernel_rfl) (by kernel_rfl) (fun _ _ _ h => h) (Or.inl ⟨by rfl, fun W hW => by go_simp⟩) hS ?_
            try simp only [List.setIfInBounds_toArray, List.set_cons_zero, List.set_cons_succ]
            refine take_at (i := 46) 130 (.int .i64 (m : Int)) rfl rfl (by kernel_rfl) (by kernel_rfl) (by kernel_rfl) (fun _ _ _ h => h) (Or.inl ⟨by rfl, fun W hW => by have hc := cell_below qm hW; go_simp⟩) hS ?_
            try simp only [List.setIfInBounds_toArray, List.set_cons_zero, List.set_cons_succ]
            refine take_at (i := 47) 131 (.int .i64 ((a : Int) + (m : Int))) rfl rfl (by kernel_rfl) (by kernel_rfl) (by kernel_rfl) (fun _ _ _ h => h) (Or.inl ⟨by rfl, fun W hW => by go_simp⟩) hS ?_
            try simp only [List.setIfInBounds_toArray, List.set_cons_zero, List.set_cons_succ]
            refine take_at (i := 48) 132 (.slice (some ⟨g, o + a * 16, none⟩) m (cap - a)) rfl rfl (by kernel_rfl) (by kernel_rfl) (by kernel_rfl) (fun _ _ _ h => h) (Or.inl ⟨by rfl, fun W hW => by go_simp⟩) hS ?_
            try simp only [List.setIfInBounds_toArray, List.set_cons_zero, List.set_cons_succ]
            refine take_at (i := 50) 134 (.pointer (some ⟨w.heap.size, 1, none⟩)) rfl rfl (by kernel_rfl) (by kernel_rfl) (by kernel_rfl) (fun _ _ _ h => h) (Or.inl ⟨by rfl, fun W hW => by go_simp⟩) hS ?_
            try simp only [List.setIfInBounds_toArray, List.set_cons_zero, List.set_cons_succ]
            refine take_at (i := 51) 135 (.slice (some ⟨tg, to, none⟩) k c) rfl rfl (by kernel_rfl) (by kernel_rfl) (by kernel_rfl) (fun _ _ _ h => h) (Or.inl ⟨by rfl, fun W hW => by have hc := cell_below q1 hW; go_simp⟩) hS ?_
            try simp only [List.setIfInBounds_toArray, List.set_cons_zero, List.set_cons_succ]
            refine take_at (i := 52) 136 (.int .i64 (i : Int)) rfl rfl (by kernel_rfl) (by kernel_rfl) (by kernel_rfl) (fun _ _ _ h => h) (Or.inl ⟨by rfl, fun W hW => by go_simp⟩) hS ?_
            try simp only [List.setIfInBounds_toArray, List.set_cons_zero, List.set_cons_succ]
            refine take_at (i := 53) 137 (.pointer (some ⟨tg, to + i * 16, none⟩)) rfl rfl (by kernel_rfl) (by kernel_rfl) (by kernel_rfl) (fun _ _ _ h => h) (Or.inl ⟨by rfl, fun W hW => by go_simp⟩) hS ?_
            try simp only [List.setIfInBounds_toArray, List.set_cons_zero, List.set_cons_succ]
            refine take_at (i := 54) 138 (.agg (A8 16 Z)) rfl rfl (by kernel_rfl) (by kernel_rfl) (by kernel_rfl) (fun _ _ _ h => h) (Or.inl ⟨by rfl, fun W hW => exec_load_range _ 23 _ rfl tg (to + i * 16) rfl (rangeAt_below r0 hW) Tryd.underlying23 rfl size23 (A8.size _ _)⟩) hS ?_
            try simp only [List.setIfInBounds_toArray, List.set_cons_zero, List.set_cons_succ]
            refine wpAnyH_ready (rs := [49]) (by kernel_rfl) (by simp) ?_
            refine AllReadyH.cons rfl (fun K hK => ?_) AllReadyH.nil
            go_simp
            refine (TC.out _ (hB.trans (hS.mono hB.size))).mono ?_
            rintro e X9 ⟨rfl, hb⟩
            refine hK.out _ _ (hS.trans (hb.mono hS.size)) (fun hS => ?_)
            clear hK K
            try simp only [Act.put, List.setIfInBounds_toArray, List.set_cons_zero, List.set_cons_succ]
            refine take_at (i := 55) 139 (.bool false) rfl rfl (by kernel_rfl) (by kernel_rfl) (by kernel_rfl) (fun _ _ _ h => h) (Or.inl ⟨by rfl, fun W hW => by go_simp⟩) hS ?_
            try simp only [List.setIfInBounds_toArray, List.set_cons_zero, List.set_cons_succ]
            refine take_at (i := 56) 140 (.bool false) rfl rfl (by kernel_rfl) (by kernel_rfl) (by kernel_rfl) (fun _ _ _ h => h) (Or.inl ⟨by rfl, fun W hW => by go_simp⟩) hS ?_
            try simp only [List.setIfInBounds_toArray, List.set_cons_zero, List.set_cons_succ]
            refine wpAnyH_done (by kernel_rfl) ?_ _
            have hS2 := hS1.trans (hS.mono hS1.size)
            clear hS qa qm r0 q1 kf
            go_wp2_with fail
            exact ⟨⟨i + 1, by omega, by go_num, hS2⟩, by simp [intOf]; omega⟩
          · have hik1 : ¬ (i : Int) < (k : Int) := by omega
            go_wp2_with fail
            refine (sane_any _ (tabC hT h3 hB) (Nat.lt_of_lt_of_le h3 hB.size)).mono ?_
            rintro e W9 ⟨rfl, hb⟩
            go_wp2_with fail
            go_ret
            exact ⟨rfl, hB.trans (hb.mono hB.size)⟩
end Go.Proofs.YtdpgebifeaakjaaDoor
