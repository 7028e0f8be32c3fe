/- The walk of the specification's CheckPath. -/
import Derived.Test.YtdpgebifeaakjaaDoorGI
namespace Go.Proofs.YtdpgebifeaakjaaDoor
set_option linter.unusedSimpArgs false
set_option linter.unusedVariables false
open Go.RowKit
theorem slC_drew {W : World} {u : Value} {l : List (Nat × Nat)} (h : SlC W u l) : SlC W.drew u l := h
theorem digs_drew {W : World} {u : Value} {k : Nat} {T : Nat → Nat → BitVec 8} (h : Digs W u k T) : Digs W.drew u k T := h
theorem wp_sliceFromQ {ops : Array Oper} {rest : List Oper} {o : Oper} {a : Act} {w : World} {Q : Exit → Act → World → Prop} (hgd : o.guard = none) (ty e : TypeId) (s : Nat) (x y : Operand) (ho : o.op = .slice ty x (some y) none none) {p q : Option Addr} {k c lo : Nat} (hx : a.eval x = .slice p k c) (hy : a.eval y = .int .i64 (lo : Int))
    (hu : Tryd.prog.underlying ty = some (.slice e)) (hs : (Tryd.prog.info? e).map (·.size) = some s) (hk : lo ≤ k) (hq : (if c = lo then p else p.map (·.add (lo * s))) = q) (h : wpList Tryd.prog ops Q rest (a.put o.dst (.slice q (k - lo) (c - lo))) w) : wpList Tryd.prog ops Q (o :: rest) a w :=
  wp_sliceFrom hgd ty e s x y ho hx hy hu hs hk (by rw [hq]; exact h)
set_option maxRecDepth 20000 in
set_option maxHeartbeats 1000000 in
theorem rcpath_bad (root : Nat → BitVec 8) (n i : Int) (K ic L c : Nat) (ip p : Option Addr) (w : World) (hK : K ≤ 500) (hbad : i < 0 ∨ n < 0 ∨ 1099511627776 < n ∨ n < i ∨ n - i < (K : Int)) :
    Calls Tryd.prog 58 #[.agg (A8 16 root), .int .i64 n, .int .i64 i, .slice ip K ic, .slice p L c] w fun e w' => e = .returned (.int .i64 1) ∧ Below w.heap.size w w' := by
  have hx1 := box23 root
  have hB : Below w.heap.size w (w.alloc (.cells (A8 16 root) 23)) := (Below.refl _ _).alloc (Nat.le_refl _) _
  by_cases h1 : i < 0
  · clear hbad
    go_enter Tryd.func58, Tryd.ntmps58
    go_wp2_with fail
    go_ret
    exact ⟨rfl, hB⟩
  · by_cases h2 : n < 0
    · clear hbad
      go_enter Tryd.func58, Tryd.ntmps58
      go_wp2_with fail
      go_ret
      exact ⟨rfl, hB⟩
    · by_cases h3 : 1099511627776 < n
      · clear hbad
        go_enter Tryd.func58, Tryd.ntmps58
        go_wp2_with fail
        go_ret
        exact ⟨rfl, hB⟩
      · by_cases h4 : n < i
        · clear hbad
          go_enter Tryd.func58, Tryd.ntmps58
          go_wp2_with fail
          go_ret
          exact ⟨rfl, hB⟩
        · have h5 : n - i < (K : Int) := by omega
          have hw1 : wrap64 (n - i) = n - i := by unfold wrap64; omega
          clear hbad
          go_enter Tryd.func58, Tryd.ntmps58
          go_wp2_with fail
          go_ret
          exact ⟨rfl, hB⟩
set_option maxRecDepth 20000 in
set_option maxHeartbeats 2000000 in
theorem rcpath_ok (root d : Nat → BitVec 8) (i K n L c ic : Nat) (ip p : Option Addr) (D I : Nat → Nat → BitVec 8) (w : World) (hiK : i + K ≤ n) (hn : n ≤ 1099511627776) (hL : L ≤ 1000) (hK : K ≤ 500)
    (hD : Digs w (.slice p L c) L D) (hI : Digs w (.slice ip K ic) K I) (hKK : KAt w) (hg : Gives (mixT (coverL 0 i).length K D I) n (coverL 0 i ++ singles i K ++ coverL (i + K) n) d) :
    Calls Tryd.prog 58 #[.agg (A8 16 root), .int .i64 (n : Int), .int .i64 (i : Int), .slice ip K ic, .slice p L c] w fun e w' =>
      ((L = (coverL 0 i).length + (coverL (i + K) n).length ∧ eqRow 16 d root = true) ∧ e = .returned (.int .i64 0) ∨ (¬ (L = (coverL 0 i).length + (coverL (i + K) n).length ∧ eqRow 16 d root = true)) ∧ e = .returned (.int .i64 9)) ∧ Below w.heap.size w w' := by
  have hx1 := box23 root
  have h1 : ¬ (i : Int) < 0 := by omega
  have h2 : ¬ (n : Int) < 0 := by omega
  have h3 : ¬ 1099511627776 < (n : Int) := by omega
  have h4 : ¬ (n : Int) < (i : Int) := by omega
  have h5 : ¬ (n : Int) - (i : Int) < (K : Int) := by omega
  have l1 := cover_len (Nat.zero_le i) (by omega : i ≤ 1099511627776)
  have l2 := cover_len hiK hn
  have c1 : ∀ w, Calls Tryd.prog 63 #[.int .i64 0, .int .i64 (i : Int)] w fun e w' => ∃ v, e = .returned v ∧ w'.ownsRow w.heap.size 106 2 v (coverL 0 i).length (cellsOf (coverL 0 i)) ∧ Below w.heap.size w w' := fun w => rcover_any 0 i (by omega) (by omega) w
  have c2 : ∀ w, Calls Tryd.prog 63 #[.int .i64 ((i : Int) + (K : Int)), .int .i64 (n : Int)] w fun e w' => ∃ v, e = .returned v ∧ w'.ownsRow w.heap.size 106 2 v (coverL (i + K) n).length (cellsOf (coverL (i + K) n)) ∧ Below w.heap.size w w' := fun w => by have := rcover_any (i + K) n hiK (by omega) w; rwa [Int.natCast_add] at this
  generalize coverL 0 i = F at c1 l1 hg ⊢
  generalize coverL (i + K) n = G at c2 l2 hg ⊢
  have C1 := hide c1
  have C2 := hide c2
  have HG := hide hg
  have HD := hide hD
  have HI := hide hI
  have hLc := hD.cap
  clear c1 c2 hg hD hI
  have k0 := Blk.new (w) (A8 16 root) 23
  have hB : Below w.heap.size w ((w).alloc (.cells (A8 16 root) 23)) := ((Below.refl _ w).alloc (Nat.le_refl _) _)
  obtain ⟨W0, hW0⟩ : ∃ W0, (w).alloc (.cells (A8 16 root) 23) = W0 := ⟨_, rfl⟩
  rw [hW0] at k0 hB
  go_enter Tryd.func58, Tryd.ntmps58
  go_upto_region 1 with (fail)
  try rw [hW0]
  clear hW0
  clear hx1
  go_wp2_with fail
  refine (C1.out _).mono ?_
  rintro e W1 ⟨v1, rfl, o1, hb⟩
  replace k0 := k0.below hb k0.lt
  replace hB := hB.trans (hb.mono hB.size)
  clear hb C1
  obtain ⟨fp, fk, fc, rfl⟩ := ownsRow_slice' o1
  obtain rfl := ownsRow_len o1
  have f1 := Sees.of_owns o1
  clear o1
  go_wp2_with fail
  refine (C2.out _).mono ?_
  rintro e W3 ⟨v2, rfl, o2, hb⟩
  replace k0 := k0.below hb k0.lt
  replace f1 := f1.below hb
  replace hB := hB.trans (hb.mono hB.size)
  clear hb C2
  obtain ⟨gp, gk, gc, rfl⟩ := ownsRow_slice' o2
  obtain rfl := ownsRow_len o2
  have f2 := Sees.of_owns o2
  have lw := k0.lt
  clear o2
  by_cases hne : ¬ L = F.length + G.length
  · have hne2 : ¬ (L : Int) = (F.length : Int) + (G.length : Int) := by omega
    clear f1 f2 k0
    go_wp2_with fail
    go_ret
    exact ⟨.inr ⟨fun h => hne h.1, rfl⟩, hB⟩
  have heq : L = F.length + G.length := Classical.not_not.1 hne
  subst heq
  have heq2 : ((F.length + G.length : Nat) : Int) = (F.length : Int) + (G.length : Int) := by omega
  clear hne
  go_upto_region 7 with (fail)
  apply wp_region_lit
  refine wp_buildz rfl rfl (build33z _) ?_
  have oz := owns_z W3 W3.heap.size 106 2 (Nat.le_refl _)
  have hB3 : Below W3.heap.size W3 (W3.alloc (.cells #[] 106)) := (Below.refl _ _).alloc (Nat.le_refl _) _
  generalize W3.alloc (.cells #[] 106) = Wz at oz hB3 ⊢
  obtain ⟨β, hβ⟩ : ∃ β, W3.heap.size = β := ⟨_, rfl⟩
  rw [hβ] at oz hB3 lw ⊢
  generalize (some (⟨β, 0, none⟩ : Addr)) = zp at oz ⊢
  have hK3 : ∀ X, Below β W3 X → KAt X := fun X hX => (hKK.below hKK.pos hB).below (Nat.lt_of_lt_of_le hKK.pos hB.size) (hβ ▸ hX)
  have f1b := f1.below (hβ.symm ▸ hB3)
  have f2b := f2
  clear f1
  have hfc : F.length ≤ c := by omega
  have hbt : β ≤ Wz.heap.size := by have := hB3.size; omega
  go_upto_region 8 with (at_builtin; refine wp_append (v := .slice zp 0 0) elem33 rfl _ _ rfl rfl oz rfl f1b (cellsOf_one _) (by omega) hbt ?_; intro v13 W5 o13 hb; rw [List.nil_append, Nat.zero_add] at o13; replace hB3 := hB3.trans hb; clear oz hb f1b hbt)
  apply wp_region_lit
  refine wp_buildz rfl rfl (build80z _) ?_
  have hz := (Below.refl W5.heap.size W5).alloc (Nat.le_refl _) (.cells #[] 23)
  have ox := owns_z W5 β 23 16 (by have := hB3.size; omega)
  replace o13 := ownsRow_below o13 hz
  replace hB3 := hB3.trans (hz.mono (by have := hB3.size; omega))
  generalize W5.alloc (.cells #[] 23) = Wy at ox o13 hB3 ⊢
  generalize (some (⟨W5.heap.size, 0, none⟩ : Addr)) = yp at ox ⊢
  have d14 : Digs Wy (.slice p F.length c) F.length D := ((HD.out.below hB).below (hβ.symm ▸ hB3)).upto F.length (by omega)
  have hby : β ≤ Wy.heap.size := by have := hB3.size; omega
  clear hz
  go_wp2_with (first | (refine wp_sliceTo rfl 80 23 16 _ _ rfl rfl rfl Tryd.underlying80 size23 hfc ?_) | (at_builtin; go_loud (refine wp_appendG (v := .slice yp 0 0) elem80 rfl _ _ rfl rfl ox rfl d14.sees (digCells_one _ _) (by omega) hby ?_); intro v14 W6 o14 hg; rw [List.nil_append, Nat.zero_add] at o14))
  replace o13 := owns_keep o13 ox (by decide) hg
  replace hB3 := hB3.trans (grown_below ox hg hby)
  rw [digCells_congr F.length (U := mixT F.length K D I) (fun j hj => by rw [mixT, if_pos hj])] at o14
  clear ox hg d14 hby
  go_wp2_with fail
  go_loopw [13, 14, 15] (fun s13 s14 s15 X => ∃ k : Nat, k ≤ K ∧ s15 = .int .i64 (k : Int) ∧ X.ownsRow β 106 2 s13 (F.length + k) (cellsOf (F ++ singles i k)) ∧ X.ownsRow β 23 16 s14 (F.length + k) (digCells (mixT F.length K D I) (F.length + k)) ∧ Below β W3 X) (fun _ _ s15 _ => K - (intOf s15).toNat)
  case atStart => exact ⟨0, Nat.zero_le _, rfl, (by rw [show singles i 0 = [] from rfl, List.append_nil]; exact o13), o14, hB3⟩
  case round =>
    clear o13 o14 hB3
    obtain ⟨k, hk, rfl, o13, o14, hB3⟩ := hrel
    have hβr : β ≤ wr.heap.size := by have := hB3.size; omega
    by_cases hlt : k < K
    · have hlt1 : (k : Int) < (K : Int) := by omega
      have hk0 : (0 : Int) ≤ (k : Int) := by omega
      have hk1 : ¬ ((K : Int) ≤ (k : Int)) := by omega
      have hwr : IntKind.i64.wrap ((i : Int) + (k : Int)) = (i : Int) + (k : Int) := IntWalk.i64_in _ (by omega)
      obtain ⟨ip', ic', e0, _, hd⟩ := HI.out.below hB
      injection e0 with e1 e2 e3
      subst e1 e3
      obtain ⟨g, o, rfl, r0⟩ := hd k hlt
      have hzr := (Below.refl wr.heap.size wr).alloc (Nat.le_refl _) (.cells #[.int .i64 ((i : Int) + (k : Int)), .int .i64 1] 106)
      have o13z := ownsRow_below o13 hzr
      have o14z := ownsRow_below o14 hzr
      have hB3z := hB3.trans (hzr.mono hβr)
      have hsn := sees_one wr 106 2 #[.int .i64 ((i : Int) + (k : Int)), .int .i64 1] rfl
      have hβz := Nat.le_trans hβr hzr.size
      clear hd o13 o14 hB3 hzr
      go_wp2_with (first | (at_builtin; go_loud (refine wp_appendG elem33 rfl _ _ rfl rfl o13z rfl hsn (by simp [Value.oneCell']) (by omega) hβz ?_); intro u13 Wa oa hga; have o14a := owns_keep o14z o13z (by decide) hga; have hB3a := hB3z.trans (grown_below o13z hga hβz); have r1a := run_loadVar_mid Wa g (o + k * 16) 23 (A8 16 (I k)).toList _ (rangeAt_below r0 (hβ.symm ▸ hB3a)) Tryd.underlying23 rfl (by rw [Array.length_toList, A8.size]; exact size23); rw [Array.toArray_toList] at r1a; clear o13z o14z hB3z hga hsn) | (refine wp_loadRun (by rfl) 23 _ rfl g (o + k * 16) rfl r1a ?_))
      refine (rleaf_any (I k) _ (hK3 _ hB3a)).mono ?_
      rintro e Wb ⟨rfl, hb⟩
      replace oa := ownsRow_below oa hb
      replace o14a := ownsRow_below o14a hb
      have hβb : β ≤ Wa.heap.size := by have := hB3a.size; omega
      replace hB3a := hB3a.trans (hb.mono hβb)
      replace hβb := Nat.le_trans hβb hb.size
      clear hb r1a hβr hβz
      have hzr := (Below.refl Wb.heap.size Wb).alloc (Nat.le_refl _) (.cells (A8 16 (leafD (I k))) 23)
      have o13z := ownsRow_below oa hzr
      have o14z := ownsRow_below o14a hzr
      have hB3z := hB3a.trans (hzr.mono hβb)
      have hsn := sees_one Wb 23 16 (A8 16 (leafD (I k))) (A8.size _ _)
      have hβz := Nat.le_trans hβb hzr.size
      clear oa o14a hB3a hzr
      go_wp2_with (first | (refine wp_build80 rfl _ rfl rfl ?_) | (at_builtin; go_loud (refine wp_appendG elem80 rfl _ _ rfl rfl o14z rfl hsn (by intro y hy; exact digCells_one (fun _ => leafD (I k)) 1 y (by rw [digCells, digCells, List.nil_append]; exact hy)) (by omega) hβz ?_); intro u14 Wc oc hgc; have o13c := owns_keep o13z o14z (by decide) hgc; have hB3c := hB3z.trans (grown_below o14z hgc hβz)))
      exact ⟨⟨k + 1, by omega, by go_num, (by rw [singles_succ, ← List.append_assoc, cellsOf_append, cellsOf_single, Int.natCast_add]; exact o13c), (by rw [← Nat.add_assoc, digCells, show mixT F.length K D I (F.length + k) = leafD (I k) by rw [mixT, if_neg (by omega), if_pos (by omega), Nat.add_sub_cancel_left]]; exact oc), hB3c⟩, by simp [intOf]; omega⟩
    · obtain rfl : k = K := by omega
      have hlt1 : ¬ (k : Int) < (k : Int) := by omega
      have f2r := f2.below (hβ.symm ▸ hB3)
      have hfl : F.length ≤ F.length + G.length := by omega
      obtain ⟨sp, hsp⟩ : ∃ sp, (if c = F.length then p else p.map (·.add (F.length * 16))) = sp := ⟨_, rfl⟩
      have HSP := hide hsp
      clear hsp
      go_wp2_with (first | (at_builtin; refine wp_appendG elem33 rfl _ _ rfl rfl o13 rfl f2r (cellsOf_one _) (by omega) hβr ?_; intro u13 Wa oa hga; have o14a := owns_keep o14 o13 (by decide) hga; have hB3a := hB3.trans (grown_below o13 hga hβr); have d14 := ((HD.out.below hB).below (hβ.symm ▸ hB3a)).behind F.length hfl; rw [HSP.out] at d14; have hβa : β ≤ Wa.heap.size := Nat.le_trans hβr hga.size; obtain ⟨lp, lk, lc, rfl⟩ := ownsRow_slice' oa; clear o13 o14 hB3 hga f2r hβr) | (refine wp_sliceFromQ rfl 80 23 16 _ _ rfl rfl rfl Tryd.underlying80 size23 hfl HSP.out ?_) | (at_builtin; go_loud (refine wp_appendG elem80 rfl _ _ rfl rfl o14a rfl d14.sees (digCells_one _ _) (by omega) hβa ?_); intro u14 W9 oc hgc; have ob := owns_keep oa o14a (by decide) hgc; have hB9 := hB3a.trans (grown_below o14a hgc hβa); obtain ⟨tp, tk, tc, rfl⟩ := ownsRow_slice' oc; clear oa o14a hB3a hgc d14 hβa))
      have kr := k0.below (hβ.symm ▸ hB9) (by omega)
      have hBw : Below w.heap.size w W9 := hB.trans (hB9.mono (by omega))
      obtain ⟨A, hA⟩ : ∃ A, F ++ singles i k ++ G = A := ⟨_, rfl⟩
      have hAl : A.length = F.length + k + G.length := by rw [← hA, List.length_append, List.length_append, singles_length]
      rw [← cellsOf_append, hA] at ob
      rw [hA] at HG
      have s13 : SlC W9 (.slice lp lk lc) A := SlC.of_owns (hAl ▸ ob)
      rw [digCells_join] at oc
      have s14 : Digs W9 (.slice tp tk tc) A.length (mixT F.length k D I) := (by
        have h9 := Digs.of_owns oc
        rw [show F.length + k + (F.length + G.length - F.length) = A.length by omega] at h9
        refine h9.congr fun j hj => ?_
        rw [joinT]
        split
        · rfl
        · rw [mixT, if_neg (by omega), if_neg (by omega), show F.length + (j - (F.length + k)) = j - k by omega])
      have GV := hide fun (W : World) (hW : Below w.heap.size w W) (s : SlC W (.slice lp lk lc) A) (t : Digs W (.slice tp tk tc) A.length (mixT F.length k D I)) => given_gv n A (mixT F.length k D I) d _ _ W hn HG.out s t (hKK.below hKK.pos hW)
      generalize mixT F.length k D I = T at s14 GV
      clear ob oc hB9 k0 f2 hB hlt1 hlt
      by_cases e1 : eqRow 16 d root = true
      · have E1 : (!eqRow 16 d root) = false := by rw [e1]; rfl
        have HC := hide e1
        clear e1
        refine wp_region_held_drew (S := fun w' => Below w.heap.size w w' ∧ Blk w' w.heap.size (A8 16 root) 23 ∧ SlC w' (.slice lp lk lc) A ∧ Digs w' (.slice tp tk tc) A.length T) (by kernel_rfl) (⟨hBw.drew, kr.drew, slC_drew s13, digs_drew s14⟩) (fun hS => ?_)
        simp only [List.size_toArray, List.length_cons, List.length_nil, Nat.reduceAdd, Array.replicate_succ, Array.replicate_zero, List.push_toArray, List.nil_append, List.cons_append]
        refine take_at (i := 0) 94 (.slice lp lk lc) rfl rfl (by kernel_rfl) (by kernel_rfl) (by kernel_rfl) (fun _ _ _ h => h) (Or.inl ⟨by rfl, fun W hW => by go_simp⟩) hS ?_
        try simp only [List.setIfInBounds_toArray, List.set_cons_zero, List.set_cons_succ]
        refine take_at (i := 1) 95 (.slice tp tk tc) rfl rfl (by kernel_rfl) (by kernel_rfl) (by kernel_rfl) (fun _ _ _ h => h) (Or.inl ⟨by rfl, fun W hW => by go_simp⟩) hS ?_
        try simp only [List.setIfInBounds_toArray, List.set_cons_zero, List.set_cons_succ]
        refine take_at (i := 2) 96 (.int .i64 (n : Int)) rfl rfl (by kernel_rfl) (by kernel_rfl) (by kernel_rfl) (fun _ _ _ h => h) (Or.inl ⟨by rfl, fun W hW => by go_simp⟩) hS ?_
        try simp only [List.setIfInBounds_toArray, List.set_cons_zero, List.set_cons_succ]
        refine take_at (i := 4) 98 (.agg (A8 16 root)) rfl rfl (by kernel_rfl) (by kernel_rfl) (by kernel_rfl) (fun _ _ _ h => h) (Or.inl ⟨by rfl, fun W hW => exec_load_blk hW.2.1⟩) hS ?_
        try simp only [List.setIfInBounds_toArray, List.set_cons_zero, List.set_cons_succ]
        refine wpAnyH_ready (rs := [3]) (by kernel_rfl) (by simp) ?_
        refine AllReadyH.cons rfl (fun K hK => ?_) AllReadyH.nil
        go_simp
        refine (GV.out _ hS.1 hS.2.2.1 hS.2.2.2).mono ?_
        rintro e X1 ⟨rfl, hb⟩
        refine hK.out _ _ (⟨hS.1.trans (hb.mono hS.1.size), hS.2.1.below hb hS.2.1.lt, hS.2.2.1.below hb, hS.2.2.2.below hb⟩) (fun hS => ?_)
        clear hK K
        clear hb
        try simp only [Act.put, List.getElem_toArray, List.getElem_cons_succ, List.getElem_cons_zero, List.setIfInBounds_toArray, List.set_cons_zero, List.set_cons_succ]
        refine take_at (i := 5) 99 (.bool false) rfl rfl (by kernel_rfl) (by kernel_rfl) (by kernel_rfl) (fun _ _ _ h => h) (Or.inl ⟨by rfl, fun W hW => exec_neq23b _ _ _ rfl E1 rfl rfl⟩) hS ?_
        try simp only [List.setIfInBounds_toArray, List.set_cons_zero, List.set_cons_succ]
        refine wpAnyH_done (by kernel_rfl) ?_ _
        go_wp2_with fail
        go_ret
        exact ⟨.inl ⟨HC.out, rfl⟩, hS.1⟩
      · have E1 : (!eqRow 16 d root) = true := by rw [Bool.eq_false_iff.2 e1]; rfl
        have HC := hide (Bool.eq_false_iff.2 e1)
        clear e1
        refine wp_region_held_drew (S := fun w' => Below w.heap.size w w' ∧ Blk w' w.heap.size (A8 16 root) 23 ∧ SlC w' (.slice lp lk lc) A ∧ Digs w' (.slice tp tk tc) A.length T) (by kernel_rfl) (⟨hBw.drew, kr.drew, slC_drew s13, digs_drew s14⟩) (fun hS => ?_)
        simp only [List.size_toArray, List.length_cons, List.length_nil, Nat.reduceAdd, Array.replicate_succ, Array.replicate_zero, List.push_toArray, List.nil_append, List.cons_append]
        refine take_at (i := 0) 94 (.slice lp lk lc) rfl rfl (by kernel_rfl) (by kernel_rfl) (by kernel_rfl) (fun _ _ _ h => h) (Or.inl ⟨by rfl, fun W hW => by go_simp⟩) hS ?_
        try simp only [List.setIfInBounds_toArray, List.set_cons_zero, List.set_cons_succ]
        refine take_at (i := 1) 95 (.slice tp tk tc) rfl rfl (by kernel_rfl) (by kernel_rfl) (by kernel_rfl) (fun _ _ _ h => h) (Or.inl ⟨by rfl, fun W hW => by go_simp⟩) hS ?_
        try simp only [List.setIfInBounds_toArray, List.set_cons_zero, List.set_cons_succ]
        refine take_at (i := 2) 96 (.int .i64 (n : Int)) rfl rfl (by kernel_rfl) (by kernel_rfl) (by kernel_rfl) (fun _ _ _ h => h) (Or.inl ⟨by rfl, fun W hW => by go_simp⟩) hS ?_
        try simp only [List.setIfInBounds_toArray, List.set_cons_zero, List.set_cons_succ]
        refine take_at (i := 4) 98 (.agg (A8 16 root)) rfl rfl (by kernel_rfl) (by kernel_rfl) (by kernel_rfl) (fun _ _ _ h => h) (Or.inl ⟨by rfl, fun W hW => exec_load_blk hW.2.1⟩) hS ?_
        try simp only [List.setIfInBounds_toArray, List.set_cons_zero, List.set_cons_succ]
        refine wpAnyH_ready (rs := [3]) (by kernel_rfl) (by simp) ?_
        refine AllReadyH.cons rfl (fun K hK => ?_) AllReadyH.nil
        go_simp
        refine (GV.out _ hS.1 hS.2.2.1 hS.2.2.2).mono ?_
        rintro e X1 ⟨rfl, hb⟩
        refine hK.out _ _ (⟨hS.1.trans (hb.mono hS.1.size), hS.2.1.below hb hS.2.1.lt, hS.2.2.1.below hb, hS.2.2.2.below hb⟩) (fun hS => ?_)
        clear hK K
        clear hb
        try simp only [Act.put, List.getElem_toArray, List.getElem_cons_succ, List.getElem_cons_zero, List.setIfInBounds_toArray, List.set_cons_zero, List.set_cons_succ]
        refine take_at (i := 5) 99 (.bool true) rfl rfl (by kernel_rfl) (by kernel_rfl) (by kernel_rfl) (fun _ _ _ h => h) (Or.inl ⟨by rfl, fun W hW => exec_neq23b _ _ _ rfl E1 rfl rfl⟩) hS ?_
        try simp only [List.setIfInBounds_toArray, List.set_cons_zero, List.set_cons_succ]
        refine wpAnyH_done (by kernel_rfl) ?_ _
        go_wp2_with fail
        go_ret
        exact ⟨.inr ⟨HC.out, rfl⟩, hS.1⟩
end Go.Proofs.YtdpgebifeaakjaaDoor
