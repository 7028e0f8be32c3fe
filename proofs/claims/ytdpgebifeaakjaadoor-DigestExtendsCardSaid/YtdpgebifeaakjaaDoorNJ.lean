/- The body of DigestExtends. -/
import Derived.Test.YtdpgebifeaakjaaDoorX11
namespace Go.Proofs.YtdpgebifeaakjaaDoor
set_option linter.unusedSimpArgs false
set_option linter.unusedVariables false
open Go.RowKit
theorem blk_other {w w' : World} {g b : Nat} {C : Array Value} {t : TypeId} (hb : Blk w b C t) (hg : w.grownBy w' (some g)) (h : b < g) : Blk w' b C t :=
  (hg.block b hb.lt (fun e => by injection e with e; omega)).trans hb
theorem tmod_nat (x n : Nat) : (x : Int).tmod (n : Int) = ((x % n : Nat) : Int) := by
  rw [Int.tmod_eq_emod_of_nonneg (by omega)]
  exact (Int.natCast_emod x n).symm
theorem wp_appendN {ops : Array Oper} {rest : List Oper} {o : Oper} {a : Act} {w : World} {Q : Exit → Act → World → Prop} {t e size bytes : Nat} (E : ElemF t e size bytes) (hgd : o.guard = none)
    (s x : Operand) (hop : o.op = Op.call { callee := Callee.builtin Builtin.append, args := #[s, x], argTypes := #[t, t] })
    {base k m g cap : Nat} {u : Value} {xs ys : List Value} (hs : a.eval s = .slice (some ⟨g, 0, none⟩) k cap) (hv : w.ownsRow base e size (.slice (some ⟨g, 0, none⟩) k cap) k xs) (hx : a.eval x = u) (hu : Sees w size u m ys)
    (one : ∀ y ∈ ys, y.oneCell' = true) (hkm : k + m ≤ 1000000) (hbase : base ≤ w.heap.size)
    (h : ∀ g' c' w', w'.ownsRow base e size (.slice (some ⟨g', 0, none⟩) (k + m) c') (k + m) (xs ++ ys) → w.grownBy w' (Value.slice (some ⟨g, 0, none⟩) k cap).ownBlock → (g' = g ∨ w.heap.size ≤ g') → wpList Tryd.prog ops Q rest (a.put o.dst (.slice (some ⟨g', 0, none⟩) (k + m) c')) w') : wpList Tryd.prog ops Q (o :: rest) a w :=
  wpList_plain hgd fun _ hK => oper_appendN E s x hop hs hv hx hu one hkm hbase fun g' c' w' h1 h2 h3 => hK _ _ (h g' c' w' h1 h2 h3)
theorem wp_sliceToW {ops : Array Oper} {rest : List Oper} {o : Oper} {a : Act} {w : World} {Q : Exit → Act → World → Prop} (hw : Region.wanted o (yielded ops a.tmps) = true) (ty e : TypeId) (s : Nat) (x y : Operand) (ho : o.op = .slice ty x none (some y) none) {p : Option Addr} {k c hi : Nat} (hx : a.eval x = .slice p k c) (hy : a.eval y = .int .i64 (hi : Int))
    (hu : Tryd.prog.underlying ty = some (.slice e)) (hs : (Tryd.prog.info? e).map (·.size) = some s) (hk : hi ≤ c) (h : wpList Tryd.prog ops Q rest (a.put o.dst (.slice p hi c)) w) : wpList Tryd.prog ops Q (o :: rest) a w := by
  refine wpList_step fun K hK => ?_
  rw [if_pos hw]
  unfold Oper.wp
  rw [exec_sliceTo a.eval ty e s x y ho p k c hi hx hy hu hs hk]
  exact hK _ _ h
set_option maxRecDepth 20000 in
set_option maxHeartbeats 1000000 in
theorem extends_any (n no L x y cl ce cp : Nat) (pl pe pp : Option Addr) (D E P : Nat → Nat → BitVec 8) (bd : Nat → BitVec 8) (w : World) (hx : x < 256) (hy : y < 256)
    (hl : Digs w (.slice pl n cl) n D) (he : Digs w (.slice pe no ce) no E) (hp : Digs w (.slice pp L cp) L P) (hT : TabAt 3 Lib.deBruijn64tab w) (hKK : KAt w) (h3 : 3 < w.heap.size) :
    Calls Tryd.prog 16 #[.slice pl n cl, .int .u8 (x : Int), .slice pe no ce, .slice pp L cp, .int .u8 (y : Int), .agg (A8 16 bd)] w fun e w' => e = .returned (.bool true) ∧ Below w.heap.size w w' := by
  have hbx := box23 bd
  have SN := hide fun (W : World) (hB : Below w.heap.size w W) => sane_any W (tabC hT h3 hB) (Nat.lt_of_lt_of_le h3 hB.size)
  by_cases hn : 60 < n
  · have hh1 : (60 : Int) < (n : Int) := by omega
    clear hl he hp hT
    have k0 := Blk.new (w) (A8 16 bd) 23
    have hB : Below w.heap.size w ((w).alloc (.cells (A8 16 bd) 23)) := ((Below.refl _ w).alloc (Nat.le_refl _) _)
    obtain ⟨W0, hW0⟩ : ∃ W0, (w).alloc (.cells (A8 16 bd) 23) = W0 := ⟨_, rfl⟩
    rw [hW0] at k0 hB
    go_enter Tryd.func16, Tryd.ntmps16
    go_upto_region 1 with (fail)
    try rw [hW0]
    clear hW0
    go_wp2_with fail
    refine (SN.out _ hB).mono ?_
    rintro e W1 ⟨rfl, hb⟩
    go_wp2_with fail
    go_ret
    exact ⟨rfl, hB.trans (hb.mono hB.size)⟩
  by_cases hno : 60 < no
  · have hh1 : ¬ (60 : Int) < (n : Int) := by omega
    have hh2 : (60 : Int) < (no : Int) := by omega
    clear hl he hp hT
    have k0 := Blk.new (w) (A8 16 bd) 23
    have hB : Below w.heap.size w ((w).alloc (.cells (A8 16 bd) 23)) := ((Below.refl _ w).alloc (Nat.le_refl _) _)
    obtain ⟨W0, hW0⟩ : ∃ W0, (w).alloc (.cells (A8 16 bd) 23) = W0 := ⟨_, rfl⟩
    rw [hW0] at k0 hB
    go_enter Tryd.func16, Tryd.ntmps16
    go_upto_region 1 with (fail)
    try rw [hW0]
    clear hW0
    go_wp2_with fail
    refine (SN.out _ hB).mono ?_
    rintro e W1 ⟨rfl, hb⟩
    go_wp2_with fail
    go_ret
    exact ⟨rfl, hB.trans (hb.mono hB.size)⟩
  by_cases hL : 60 < L
  · have hh1 : ¬ (60 : Int) < (n : Int) := by omega
    have hh2 : ¬ (60 : Int) < (no : Int) := by omega
    have hh3 : (60 : Int) < (L : Int) := by omega
    clear hl he hp hT
    have k0 := Blk.new (w) (A8 16 bd) 23
    have hB : Below w.heap.size w ((w).alloc (.cells (A8 16 bd) 23)) := ((Below.refl _ w).alloc (Nat.le_refl _) _)
    obtain ⟨W0, hW0⟩ : ∃ W0, (w).alloc (.cells (A8 16 bd) 23) = W0 := ⟨_, rfl⟩
    rw [hW0] at k0 hB
    go_enter Tryd.func16, Tryd.ntmps16
    go_upto_region 1 with (fail)
    try rw [hW0]
    clear hW0
    go_wp2_with fail
    refine (SN.out _ hB).mono ?_
    rintro e W1 ⟨rfl, hb⟩
    go_wp2_with fail
    go_ret
    exact ⟨rfl, hB.trans (hb.mono hB.size)⟩
  have hh1 : ¬ (60 : Int) < (n : Int) := by omega
  have hh2 : ¬ (60 : Int) < (no : Int) := by omega
  have hh3 : ¬ (60 : Int) < (L : Int) := by omega
  obtain ⟨m, hme⟩ : ∃ m, x % (n + 1) = m := ⟨_, rfl⟩
  have hmn : m ≤ n := by rw [← hme]; exact Nat.le_of_lt_succ (Nat.mod_lt _ (Nat.succ_pos n))
  have hrem : (x : Int).tmod ((n : Int) + 1) = (m : Int) := by
    rw [← hme]
    exact tmod_nat x (n + 1)
  have hrem2 : (x : Int) % ((n : Int) + 1) = (m : Int) := by
    rw [← hme]
    exact (Int.natCast_emod x (n + 1)).symm
  have hn1 : ¬ (n : Int) + 1 = 0 := by omega
  have hn2 : ¬ (n : Int) + 1 = -1 := by omega
  clear hme
  have HL := hide hl; have HE := hide he; have HP := hide hp
  have TB := hide fun (W : World) (hW : Below w.heap.size w W) => tab_below hT h3 hW
  have hlc := hl.cap
  clear hl he hp hT
  have k0 := Blk.new (w) (A8 16 bd) 23
  have hB : Below w.heap.size w ((w).alloc (.cells (A8 16 bd) 23)) := ((Below.refl _ w).alloc (Nat.le_refl _) _)
  obtain ⟨W0, hW0⟩ : ∃ W0, (w).alloc (.cells (A8 16 bd) 23) = W0 := ⟨_, rfl⟩
  rw [hW0] at k0 hB
  go_enter Tryd.func16, Tryd.ntmps16
  go_upto_region 1 with (fail)
  try rw [hW0]
  clear hW0
  clear hbx
  have hLq : ∃ Lq, (coverL 0 m).length + (coverL m n).length = Lq := ⟨_, rfl⟩
  obtain ⟨Lq, hLq⟩ := hLq
  have lF := coverL_length 0 m
  have lG := coverL_length m n
  have hLq2 : Lq ≤ 60 := by omega
  have gr : ∀ W, Below w.heap.size w W → Calls Tryd.prog 45 #[.slice pl n cl, .int .i64 (m : Int)] W fun e w' => ∃ r, e = .returned (.tuple #[r, .int .i64 0]) ∧ Digs w' r Lq (pathT D n m m) ∧ Below W.heap.size W w' := fun W hW => (growth_ok n m D _ W hmn (by omega) (HL.out.below hW) (TB.out W hW) (Nat.lt_of_lt_of_le h3 hW.size)).mono fun e w' ⟨r, h1, h2, h3⟩ => ⟨r, h1, by rw [digCells_join] at h2; rw [← hLq]; exact Digs.of_owns h2, h3⟩
  have tm := fun (W : World) (hW : Below w.heap.size w W) => tree_any m m D _ W (Nat.le_refl _) (by omega) ((HL.out.below hW).upto m hmn)
  have tn := fun (W : World) (hW : Below w.heap.size w W) => tree_any n n D _ W (Nat.le_refl _) (by omega) (HL.out.below hW)
  have cg := fun (W : World) (hW : Below w.heap.size w W) (pr : Option Addr) (cr : Nat) (hd : Digs W (.slice pr Lq cr) Lq (pathT D n m m)) => cgrow_own D n m Lq cr pr W hmn (by omega) hLq.symm hd (TB.out W hW) (Nat.lt_of_lt_of_le h3 hW.size)
  have GR := hide fun (W : World) (hW : Below w.heap.size w W) (m' L' ce' cp' : Nat) (pe' pp' : Option Addr) (E' P' : Nat → Nat → BitVec 8) (hm : m' ≤ 60) (hL : L' ≤ 200) (h1 : Digs W (.slice pe' m' ce') m' E') (h2 : Digs W (.slice pp' L' cp') L' P') => grows_any n m' L' cl ce' cp' pl pe' pp' D E' P' W (by omega) hm hL (HL.out.below hW) h1 h2 (TB.out W hW) (hKK.below hKK.pos hW) (Nat.lt_of_lt_of_le h3 hW.size)
  generalize pathT D n m m = PT at gr cg
  generalize treeF m m D = X1 at tm cg
  generalize treeF n n D = X2 at tn cg
  have GT := hide gr; have TM := hide tm; have TN := hide tn; have CG := hide cg
  clear gr tm tn cg hLq lF lG
  have hwy : IntKind.i64.wrap (y : Int) = (y : Int) := IntWalk.i64_in _ (by omega)
  have hmc : m ≤ cl := by omega
  have hgt : ¬ (n : Int) < (m : Int) := by omega
  go_wp2_with fail
  refine (GT.out _ hB).mono ?_
  rintro e W1 ⟨r, rfl, dp, hb⟩
  replace k0 := k0.below hb k0.lt
  replace hB := hB.trans (hb.mono hB.size)
  obtain ⟨pr, cr, rfl, _⟩ := id dp
  clear hb GT hrem hrem2 hn1 hn2
  go_wp2_with (refine wp_sliceToW (by rfl) 80 23 16 _ _ rfl rfl rfl Tryd.underlying80 size23 hmc ?_)
  refine (TM.out _ hB).mono ?_
  rintro e W2 ⟨rfl, hb⟩
  replace k0 := k0.below hb k0.lt
  replace hB := hB.trans (hb.mono hB.size)
  replace dp := dp.below hb
  clear hb TM
  go_wp2_with fail
  refine (TN.out _ hB).mono ?_
  rintro e W3 ⟨rfl, hb⟩
  replace k0 := k0.below hb k0.lt
  replace hB := hB.trans (hb.mono hB.size)
  replace dp := dp.below hb
  clear hb TN
  go_wp2_with fail
  refine (CG.out _ hB _ _ dp).mono ?_
  rintro e W4 ⟨rfl, hb⟩
  replace k0 := k0.below hb k0.lt
  replace hB := hB.trans (hb.mono hB.size)
  replace dp := dp.below hb
  clear hb CG
  go_upto_region 7 with (fail)
  apply wp_region_lit
  refine wp_buildz rfl rfl (build80z _) ?_
  have ox := owns_z W4 W4.heap.size 23 16 (Nat.le_refl _)
  have hB4 : Below W4.heap.size W4 (W4.alloc (.cells #[] 23)) := (Below.refl _ _).alloc (Nat.le_refl _) _
  generalize W4.alloc (.cells #[] 23) = Wy at ox hB4 ⊢
  have dl4 : Digs Wy (.slice pl m cl) m D := ((HL.out.below hB).below hB4).upto m hmn
  have l0 := k0.lt
  obtain ⟨zb, hzb⟩ : ∃ z, W4.heap.size = z := ⟨_, rfl⟩
  have hy4 : W4.heap.size ≤ Wy.heap.size := hB4.size
  rw [show (some (⟨W4.heap.size, 0, none⟩ : Addr)) = some ⟨zb, 0, none⟩ by rw [hzb]] at ox ⊢
  go_upto_region 8 with (first | (refine wp_sliceTo rfl 80 23 16 _ _ rfl rfl rfl Tryd.underlying80 size23 hmc ?_) | (at_builtin; go_loud (refine wp_appendN elem80 rfl _ _ rfl rfl ox rfl dl4.sees (digCells_one _ _) (by omega) hy4 ?_); intro gk ck W5 ok hg hgc; simp only [Nat.zero_add, List.nil_append] at ok ⊢; have hB5 := hB4.trans (grown_below ox hg hy4); clear ox dl4 hg hgc hy4))
  clear hzb hB4
  have dpW := dp
  replace dp := dp.below hB5
  replace k0 := k0.below hB5 k0.lt
  have hgk : w.heap.size < gk := Nat.lt_of_lt_of_le l0 (ok.lt gk rfl).1
  have hB5w := hB.trans (hB5.mono hB.size)
  by_cases hm0 : m = 0
  · have hz0 : ¬ (0 : Int) < (m : Int) := by omega
    have hBk := hB5w
    have dk := Digs.of_owns ok
    clear hB5 hB5w ok hB hm0
    go_upto_region 10 with (fail)
    apply wp_region_lit
    refine wp_buildz rfl rfl (build80z _) ?_
    have ox := owns_z W5 W5.heap.size 23 16 (Nat.le_refl _)
    have hB4 : Below W5.heap.size W5 (W5.alloc (.cells #[] 23)) := (Below.refl _ _).alloc (Nat.le_refl _) _
    generalize W5.alloc (.cells #[] 23) = Wz at ox hB4 ⊢
    have dpz := dp.below hB4
    have l0 := k0.lt
    have hy4 : W5.heap.size ≤ Wz.heap.size := hB4.size
    obtain ⟨zq, hzq⟩ : ∃ z, W5.heap.size = z := ⟨_, rfl⟩
    rw [show (some (⟨W5.heap.size, 0, none⟩ : Addr)) = some ⟨zq, 0, none⟩ by rw [hzq]] at ox ⊢
    go_upto_region 11 with (at_builtin; go_loud (refine wp_appendN elem80 rfl _ _ rfl rfl ox rfl dpz.sees (digCells_one _ _) (by omega) hy4 ?_); intro gq cq W9 oq hg hgc; simp only [Nat.zero_add, List.nil_append] at oq ⊢; have hB9 := hB4.trans (grown_below ox hg hy4); clear ox dpz hg hgc hy4)
    clear hzq hB4
    have dp0 := dp
    replace dp := dp.below hB9
    have dk0 := dk
    replace dk := dk.below hB9
    replace k0 := k0.below hB9 k0.lt
    have hggq : w.heap.size < gq := Nat.lt_of_lt_of_le l0 (oq.lt gq rfl).1
    have hB9w := hBk.trans (hB9.mono hBk.size)
    by_cases hq0 : Lq = 0
    · have hBq := hB9w
      have dq := Digs.of_owns oq
      have hz1 : ¬ (0 : Int) < (Lq : Int) := by omega
      clear hB9 hB9w oq k0 hq0
      go_wp2_with fail
      refine (SN.out _ hBq).mono ?_
      rintro e V ⟨rfl, hb⟩
      replace dk := dk.below hb
      replace dp := dp.below hb
      replace dq := dq.below hb
      replace hBq := hBq.trans (hb.mono hBq.size)
      clear hb
      go_wp2_with fail
      refine (GR.out _ hBq no L ce cp pe pp E P (by omega) (by omega) (HE.out.below hBq) (HP.out.below hBq)).mono ?_
      rintro e V ⟨rfl, hb⟩
      replace dk := dk.below hb
      replace dp := dp.below hb
      replace dq := dq.below hb
      replace hBq := hBq.trans (hb.mono hBq.size)
      clear hb
      go_wp2_with fail
      refine (GR.out _ hBq m Lq ck cr _ pr D PT (by omega) (by omega) dk dp).mono ?_
      rintro e V ⟨rfl, hb⟩
      replace dk := dk.below hb
      replace dp := dp.below hb
      replace dq := dq.below hb
      replace hBq := hBq.trans (hb.mono hBq.size)
      clear hb
      go_wp2_with (refine wp_sliceToW (by rfl) 80 23 16 _ _ rfl rfl rfl Tryd.underlying80 size23 hmc ?_)
      refine (GR.out _ hBq m Lq cl cq pl _ D PT (by omega) (by omega) ((HL.out.below hBq).upto m hmn) dq).mono ?_
      rintro e V ⟨rfl, hb⟩
      replace dk := dk.below hb
      replace dp := dp.below hb
      replace dq := dq.below hb
      replace hBq := hBq.trans (hb.mono hBq.size)
      clear hb
      go_wp2_with fail
      refine (GR.out _ hBq m Lq ck cq _ _ D PT (by omega) (by omega) dk dq).mono ?_
      rintro e V ⟨rfl, hb⟩
      replace dk := dk.below hb
      replace dp := dp.below hb
      replace dq := dq.below hb
      replace hBq := hBq.trans (hb.mono hBq.size)
      clear hb
      go_wp2_with fail
      refine (GR.out _ hBq no Lq ce cr pe pr E PT (by omega) (by omega) (HE.out.below hBq) dp).mono ?_
      rintro e V ⟨rfl, hb⟩
      replace dk := dk.below hb
      replace dp := dp.below hb
      replace dq := dq.below hb
      replace hBq := hBq.trans (hb.mono hBq.size)
      clear hb
      go_wp2_with fail
      go_ret
      exact ⟨rfl, hBq⟩
    · have hz1 : (0 : Int) < (Lq : Int) := by omega
      obtain ⟨j2, hj2⟩ : ∃ j, y % Lq = j := ⟨_, rfl⟩
      have hjl : j2 < Lq := by rw [← hj2]; exact Nat.mod_lt _ (by omega)
      have hr1 : (y : Int).tmod (Lq : Int) = (j2 : Int) := by rw [← hj2]; exact tmod_nat y Lq
      have hr2 : (y : Int) % (Lq : Int) = (j2 : Int) := by rw [← hj2]; exact (Int.natCast_emod y Lq).symm
      have hnz : ¬ (Lq : Int) = 0 := by omega
      have hj0 : (0 : Int) ≤ (j2 : Int) := by omega
      have hj1 : (j2 : Int) < (Lq : Int) := by omega
      have hj3 : ¬ (Lq : Int) ≤ (j2 : Int) := by omega
      clear hj2
      go_wp2_with fail
      refine wp_region_held_drew (S := fun w' => Blk w' w.heap.size (A8 16 bd) 23) (by kernel_rfl) (k0.drew) (fun hS => ?_)
      simp only [List.size_toArray, List.length_cons, List.length_nil, Nat.reduceAdd, Array.replicate_succ, Array.replicate_zero, List.push_toArray, List.nil_append, List.cons_append]
      refine take_at (i := 0) 80 (.slice (some ⟨gq, 0, none⟩) Lq cq) rfl rfl (by kernel_rfl) (by kernel_rfl) (by kernel_rfl) (fun _ _ _ h => h) (Or.inl ⟨by rfl, fun W hW => by go_simp⟩) hS ?_
      try simp only [List.setIfInBounds_toArray, List.set_cons_zero, List.set_cons_succ]
      refine take_at (i := 1) 81 (.int .u8 (y : Int)) rfl rfl (by kernel_rfl) (by kernel_rfl) (by kernel_rfl) (fun _ _ _ h => h) (Or.inl ⟨by rfl, fun W hW => by go_simp⟩) hS ?_
      try simp only [List.setIfInBounds_toArray, List.set_cons_zero, List.set_cons_succ]
      refine take_at (i := 2) 82 (.int .i64 (y : Int)) rfl rfl (by kernel_rfl) (by kernel_rfl) (by kernel_rfl) (fun _ _ _ h => h) (Or.inl ⟨by rfl, fun W hW => by go_simp⟩) hS ?_
      try simp only [List.setIfInBounds_toArray, List.set_cons_zero, List.set_cons_succ]
      refine take_at (i := 3) 83 (.slice (some ⟨gq, 0, none⟩) Lq cq) rfl rfl (by kernel_rfl) (by kernel_rfl) (by kernel_rfl) (fun _ _ _ h => h) (Or.inl ⟨by rfl, fun W hW => by go_simp⟩) hS ?_
      try simp only [List.setIfInBounds_toArray, List.set_cons_zero, List.set_cons_succ]
      refine take_at (i := 4) 84 (.int .i64 (Lq : Int)) rfl rfl (by kernel_rfl) (by kernel_rfl) (by kernel_rfl) (fun _ _ _ h => h) (Or.inl ⟨by rfl, fun W hW => by go_simp⟩) hS ?_
      try simp only [List.setIfInBounds_toArray, List.set_cons_zero, List.set_cons_succ]
      refine take_at (i := 5) 85 (.int .i64 (j2 : Int)) rfl rfl (by kernel_rfl) (by kernel_rfl) (by kernel_rfl) (fun _ _ _ h => h) (Or.inl ⟨by rfl, fun W hW => by go_simp⟩) hS ?_
      try simp only [List.setIfInBounds_toArray, List.set_cons_zero, List.set_cons_succ]
      refine take_at (i := 6) 86 (.agg (A8 16 bd)) rfl rfl (by kernel_rfl) (by kernel_rfl) (by kernel_rfl) (fun _ _ _ h => h) (Or.inl ⟨by rfl, fun W hW => exec_load_blk hW⟩) hS ?_
      try simp only [List.setIfInBounds_toArray, List.set_cons_zero, List.set_cons_succ]
      refine take_at (i := 7) 87 (.pointer (some ⟨gq, 0 + j2 * 16, none⟩)) rfl rfl (by kernel_rfl) (by kernel_rfl) (by kernel_rfl) (fun _ _ _ h => h) (Or.inl ⟨by rfl, fun W hW => by go_simp⟩) hS ?_
      try simp only [List.setIfInBounds_toArray, List.set_cons_zero, List.set_cons_succ]
      refine wpAnyH_ready (rs := [8]) (by kernel_rfl) (by simp) ?_
      refine allReadyH_storeD rfl rfl (.tmp 87) (.tmp 86) rfl gq (0 + j2 * 16) rfl rfl (i := j2) oq.drew (by omega) (by omega) rfl (fun W10 okn hg => ?_)
      refine ⟨blk_other hS hg hggq, fun hS => ?_⟩
      try simp only [Act.put, List.getElem_toArray, List.getElem_cons_succ, List.getElem_cons_zero, List.setIfInBounds_toArray, List.set_cons_zero, List.set_cons_succ]
      refine wpAnyH_done (by kernel_rfl) ?_ _
      have hBs := hB9.drew.trans (grown_below oq.drew hg hB9.size)
      have hBq := hBk.trans (hBs.mono hBk.size)
      replace dk := dk0.below hBs
      replace dp := dp0.below hBs
      have dq := Digs.of_owns okn
      clear hB9 hB9w oq k0 hg okn hBs hS hr1 hr2 hnz hj0 hj1 hj3 hjl
      generalize setT PT j2 bd = QT at dq
      go_wp2_with fail
      refine (SN.out _ hBq).mono ?_
      rintro e V ⟨rfl, hb⟩
      replace dk := dk.below hb
      replace dp := dp.below hb
      replace dq := dq.below hb
      replace hBq := hBq.trans (hb.mono hBq.size)
      clear hb
      go_wp2_with fail
      refine (GR.out _ hBq no L ce cp pe pp E P (by omega) (by omega) (HE.out.below hBq) (HP.out.below hBq)).mono ?_
      rintro e V ⟨rfl, hb⟩
      replace dk := dk.below hb
      replace dp := dp.below hb
      replace dq := dq.below hb
      replace hBq := hBq.trans (hb.mono hBq.size)
      clear hb
      go_wp2_with fail
      refine (GR.out _ hBq m Lq ck cr _ pr D PT (by omega) (by omega) dk dp).mono ?_
      rintro e V ⟨rfl, hb⟩
      replace dk := dk.below hb
      replace dp := dp.below hb
      replace dq := dq.below hb
      replace hBq := hBq.trans (hb.mono hBq.size)
      clear hb
      go_wp2_with (refine wp_sliceToW (by rfl) 80 23 16 _ _ rfl rfl rfl Tryd.underlying80 size23 hmc ?_)
      refine (GR.out _ hBq m Lq cl cq pl _ D QT (by omega) (by omega) ((HL.out.below hBq).upto m hmn) dq).mono ?_
      rintro e V ⟨rfl, hb⟩
      replace dk := dk.below hb
      replace dp := dp.below hb
      replace dq := dq.below hb
      replace hBq := hBq.trans (hb.mono hBq.size)
      clear hb
      go_wp2_with fail
      refine (GR.out _ hBq m Lq ck cq _ _ D QT (by omega) (by omega) dk dq).mono ?_
      rintro e V ⟨rfl, hb⟩
      replace dk := dk.below hb
      replace dp := dp.below hb
      replace dq := dq.below hb
      replace hBq := hBq.trans (hb.mono hBq.size)
      clear hb
      go_wp2_with fail
      refine (GR.out _ hBq no Lq ce cr pe pr E PT (by omega) (by omega) (HE.out.below hBq) dp).mono ?_
      rintro e V ⟨rfl, hb⟩
      replace dk := dk.below hb
      replace dp := dp.below hb
      replace dq := dq.below hb
      replace hBq := hBq.trans (hb.mono hBq.size)
      clear hb
      go_wp2_with fail
      go_ret
      exact ⟨rfl, hBq⟩
  · have hz0 : (0 : Int) < (m : Int) := by omega
    obtain ⟨j1, hj⟩ : ∃ j, y % m = j := ⟨_, rfl⟩
    have hjl : j1 < m := by rw [← hj]; exact Nat.mod_lt _ (by omega)
    have hr1 : (y : Int).tmod (m : Int) = (j1 : Int) := by rw [← hj]; exact tmod_nat y m
    have hr2 : (y : Int) % (m : Int) = (j1 : Int) := by rw [← hj]; exact (Int.natCast_emod y m).symm
    have hnz : ¬ (m : Int) = 0 := by omega
    have hj0 : (0 : Int) ≤ (j1 : Int) := by omega
    have hj1 : (j1 : Int) < (m : Int) := by omega
    have hj3 : ¬ (m : Int) ≤ (j1 : Int) := by omega
    have hggk := hgk
    clear hj
    go_wp2_with fail
    refine wp_region_held_drew (S := fun w' => Blk w' w.heap.size (A8 16 bd) 23) (by kernel_rfl) (k0.drew) (fun hS => ?_)
    simp only [List.size_toArray, List.length_cons, List.length_nil, Nat.reduceAdd, Array.replicate_succ, Array.replicate_zero, List.push_toArray, List.nil_append, List.cons_append]
    refine take_at (i := 0) 67 (.slice (some ⟨gk, 0, none⟩) m ck) rfl rfl (by kernel_rfl) (by kernel_rfl) (by kernel_rfl) (fun _ _ _ h => h) (Or.inl ⟨by rfl, fun W hW => by go_simp⟩) hS ?_
    try simp only [List.setIfInBounds_toArray, List.set_cons_zero, List.set_cons_succ]
    refine take_at (i := 1) 68 (.int .u8 (y : Int)) rfl rfl (by kernel_rfl) (by kernel_rfl) (by kernel_rfl) (fun _ _ _ h => h) (Or.inl ⟨by rfl, fun W hW => by go_simp⟩) hS ?_
    try simp only [List.setIfInBounds_toArray, List.set_cons_zero, List.set_cons_succ]
    refine take_at (i := 2) 69 (.int .i64 (y : Int)) rfl rfl (by kernel_rfl) (by kernel_rfl) (by kernel_rfl) (fun _ _ _ h => h) (Or.inl ⟨by rfl, fun W hW => by go_simp⟩) hS ?_
    try simp only [List.setIfInBounds_toArray, List.set_cons_zero, List.set_cons_succ]
    refine take_at (i := 3) 70 (.int .i64 (m : Int)) rfl rfl (by kernel_rfl) (by kernel_rfl) (by kernel_rfl) (fun _ _ _ h => h) (Or.inl ⟨by rfl, fun W hW => by go_simp⟩) hS ?_
    try simp only [List.setIfInBounds_toArray, List.set_cons_zero, List.set_cons_succ]
    refine take_at (i := 4) 71 (.int .i64 (j1 : Int)) rfl rfl (by kernel_rfl) (by kernel_rfl) (by kernel_rfl) (fun _ _ _ h => h) (Or.inl ⟨by rfl, fun W hW => by go_simp⟩) hS ?_
    try simp only [List.setIfInBounds_toArray, List.set_cons_zero, List.set_cons_succ]
    refine take_at (i := 5) 72 (.agg (A8 16 bd)) rfl rfl (by kernel_rfl) (by kernel_rfl) (by kernel_rfl) (fun _ _ _ h => h) (Or.inl ⟨by rfl, fun W hW => exec_load_blk hW⟩) hS ?_
    try simp only [List.setIfInBounds_toArray, List.set_cons_zero, List.set_cons_succ]
    refine take_at (i := 6) 73 (.pointer (some ⟨gk, 0 + j1 * 16, none⟩)) rfl rfl (by kernel_rfl) (by kernel_rfl) (by kernel_rfl) (fun _ _ _ h => h) (Or.inl ⟨by rfl, fun W hW => by go_simp⟩) hS ?_
    try simp only [List.setIfInBounds_toArray, List.set_cons_zero, List.set_cons_succ]
    refine wpAnyH_ready (rs := [7]) (by kernel_rfl) (by simp) ?_
    refine allReadyH_storeD rfl rfl (.tmp 73) (.tmp 72) rfl gk (0 + j1 * 16) rfl rfl (i := j1) ok.drew (by omega) (by omega) rfl (fun W6 okn hg => ?_)
    refine ⟨blk_other hS hg hggk, fun hS => ?_⟩
    try simp only [Act.put, List.getElem_toArray, List.getElem_cons_succ, List.getElem_cons_zero, List.setIfInBounds_toArray, List.set_cons_zero, List.set_cons_succ]
    refine wpAnyH_done (by kernel_rfl) ?_ _
    have hBs := hB5.drew.trans (grown_below ok.drew hg hB5.size)
    have hBk := hB.trans (hBs.mono hB.size)
    replace dp := dpW.below hBs
    replace k0 := hS
    have dk := Digs.of_owns okn
    clear hB5 hB5w ok hg okn hBs hS hr1 hr2 hnz hj0 hj1 hj3 hjl hB
    generalize setT D j1 bd = KT at dk
    go_upto_region 10 with (fail)
    apply wp_region_lit
    refine wp_buildz rfl rfl (build80z _) ?_
    have ox := owns_z W6 W6.heap.size 23 16 (Nat.le_refl _)
    have hB4 : Below W6.heap.size W6 (W6.alloc (.cells #[] 23)) := (Below.refl _ _).alloc (Nat.le_refl _) _
    generalize W6.alloc (.cells #[] 23) = Wz at ox hB4 ⊢
    have dpz := dp.below hB4
    have l0 := k0.lt
    have hy4 : W6.heap.size ≤ Wz.heap.size := hB4.size
    obtain ⟨zq, hzq⟩ : ∃ z, W6.heap.size = z := ⟨_, rfl⟩
    rw [show (some (⟨W6.heap.size, 0, none⟩ : Addr)) = some ⟨zq, 0, none⟩ by rw [hzq]] at ox ⊢
    go_upto_region 11 with (at_builtin; go_loud (refine wp_appendN elem80 rfl _ _ rfl rfl ox rfl dpz.sees (digCells_one _ _) (by omega) hy4 ?_); intro gq cq W9 oq hg hgc; simp only [Nat.zero_add, List.nil_append] at oq ⊢; have hB9 := hB4.trans (grown_below ox hg hy4); clear ox dpz hg hgc hy4)
    clear hzq hB4
    have dp0 := dp
    replace dp := dp.below hB9
    have dk0 := dk
    replace dk := dk.below hB9
    replace k0 := k0.below hB9 k0.lt
    have hggq : w.heap.size < gq := Nat.lt_of_lt_of_le l0 (oq.lt gq rfl).1
    have hB9w := hBk.trans (hB9.mono hBk.size)
    by_cases hq0 : Lq = 0
    · have hBq := hB9w
      have dq := Digs.of_owns oq
      have hz1 : ¬ (0 : Int) < (Lq : Int) := by omega
      clear hB9 hB9w oq k0 hq0
      go_wp2_with fail
      refine (SN.out _ hBq).mono ?_
      rintro e V ⟨rfl, hb⟩
      replace dk := dk.below hb
      replace dp := dp.below hb
      replace dq := dq.below hb
      replace hBq := hBq.trans (hb.mono hBq.size)
      clear hb
      go_wp2_with fail
      refine (GR.out _ hBq no L ce cp pe pp E P (by omega) (by omega) (HE.out.below hBq) (HP.out.below hBq)).mono ?_
      rintro e V ⟨rfl, hb⟩
      replace dk := dk.below hb
      replace dp := dp.below hb
      replace dq := dq.below hb
      replace hBq := hBq.trans (hb.mono hBq.size)
      clear hb
      go_wp2_with fail
      refine (GR.out _ hBq m Lq ck cr _ pr KT PT (by omega) (by omega) dk dp).mono ?_
      rintro e V ⟨rfl, hb⟩
      replace dk := dk.below hb
      replace dp := dp.below hb
      replace dq := dq.below hb
      replace hBq := hBq.trans (hb.mono hBq.size)
      clear hb
      go_wp2_with (refine wp_sliceToW (by rfl) 80 23 16 _ _ rfl rfl rfl Tryd.underlying80 size23 hmc ?_)
      refine (GR.out _ hBq m Lq cl cq pl _ D PT (by omega) (by omega) ((HL.out.below hBq).upto m hmn) dq).mono ?_
      rintro e V ⟨rfl, hb⟩
      replace dk := dk.below hb
      replace dp := dp.below hb
      replace dq := dq.below hb
      replace hBq := hBq.trans (hb.mono hBq.size)
      clear hb
      go_wp2_with fail
      refine (GR.out _ hBq m Lq ck cq _ _ KT PT (by omega) (by omega) dk dq).mono ?_
      rintro e V ⟨rfl, hb⟩
      replace dk := dk.below hb
      replace dp := dp.below hb
      replace dq := dq.below hb
      replace hBq := hBq.trans (hb.mono hBq.size)
      clear hb
      go_wp2_with fail
      refine (GR.out _ hBq no Lq ce cr pe pr E PT (by omega) (by omega) (HE.out.below hBq) dp).mono ?_
      rintro e V ⟨rfl, hb⟩
      replace dk := dk.below hb
      replace dp := dp.below hb
      replace dq := dq.below hb
      replace hBq := hBq.trans (hb.mono hBq.size)
      clear hb
      go_wp2_with fail
      go_ret
      exact ⟨rfl, hBq⟩
    · have hz1 : (0 : Int) < (Lq : Int) := by omega
      obtain ⟨j2, hj2⟩ : ∃ j, y % Lq = j := ⟨_, rfl⟩
      have hjl : j2 < Lq := by rw [← hj2]; exact Nat.mod_lt _ (by omega)
      have hr1 : (y : Int).tmod (Lq : Int) = (j2 : Int) := by rw [← hj2]; exact tmod_nat y Lq
      have hr2 : (y : Int) % (Lq : Int) = (j2 : Int) := by rw [← hj2]; exact (Int.natCast_emod y Lq).symm
      have hnz : ¬ (Lq : Int) = 0 := by omega
      have hj0 : (0 : Int) ≤ (j2 : Int) := by omega
      have hj1 : (j2 : Int) < (Lq : Int) := by omega
      have hj3 : ¬ (Lq : Int) ≤ (j2 : Int) := by omega
      clear hj2
      go_wp2_with fail
      refine wp_region_held_drew (S := fun w' => Blk w' w.heap.size (A8 16 bd) 23) (by kernel_rfl) (k0.drew) (fun hS => ?_)
      simp only [List.size_toArray, List.length_cons, List.length_nil, Nat.reduceAdd, Array.replicate_succ, Array.replicate_zero, List.push_toArray, List.nil_append, List.cons_append]
      refine take_at (i := 0) 80 (.slice (some ⟨gq, 0, none⟩) Lq cq) rfl rfl (by kernel_rfl) (by kernel_rfl) (by kernel_rfl) (fun _ _ _ h => h) (Or.inl ⟨by rfl, fun W hW => by go_simp⟩) hS ?_
      try simp only [List.setIfInBounds_toArray, List.set_cons_zero, List.set_cons_succ]
      refine take_at (i := 1) 81 (.int .u8 (y : Int)) rfl rfl (by kernel_rfl) (by kernel_rfl) (by kernel_rfl) (fun _ _ _ h => h) (Or.inl ⟨by rfl, fun W hW => by go_simp⟩) hS ?_
      try simp only [List.setIfInBounds_toArray, List.set_cons_zero, List.set_cons_succ]
      refine take_at (i := 2) 82 (.int .i64 (y : Int)) rfl rfl (by kernel_rfl) (by kernel_rfl) (by kernel_rfl) (fun _ _ _ h => h) (Or.inl ⟨by rfl, fun W hW => by go_simp⟩) hS ?_
      try simp only [List.setIfInBounds_toArray, List.set_cons_zero, List.set_cons_succ]
      refine take_at (i := 3) 83 (.slice (some ⟨gq, 0, none⟩) Lq cq) rfl rfl (by kernel_rfl) (by kernel_rfl) (by kernel_rfl) (fun _ _ _ h => h) (Or.inl ⟨by rfl, fun W hW => by go_simp⟩) hS ?_
      try simp only [List.setIfInBounds_toArray, List.set_cons_zero, List.set_cons_succ]
      refine take_at (i := 4) 84 (.int .i64 (Lq : Int)) rfl rfl (by kernel_rfl) (by kernel_rfl) (by kernel_rfl) (fun _ _ _ h => h) (Or.inl ⟨by rfl, fun W hW => by go_simp⟩) hS ?_
      try simp only [List.setIfInBounds_toArray, List.set_cons_zero, List.set_cons_succ]
      refine take_at (i := 5) 85 (.int .i64 (j2 : Int)) rfl rfl (by kernel_rfl) (by kernel_rfl) (by kernel_rfl) (fun _ _ _ h => h) (Or.inl ⟨by rfl, fun W hW => by go_simp⟩) hS ?_
      try simp only [List.setIfInBounds_toArray, List.set_cons_zero, List.set_cons_succ]
      refine take_at (i := 6) 86 (.agg (A8 16 bd)) rfl rfl (by kernel_rfl) (by kernel_rfl) (by kernel_rfl) (fun _ _ _ h => h) (Or.inl ⟨by rfl, fun W hW => exec_load_blk hW⟩) hS ?_
      try simp only [List.setIfInBounds_toArray, List.set_cons_zero, List.set_cons_succ]
      refine take_at (i := 7) 87 (.pointer (some ⟨gq, 0 + j2 * 16, none⟩)) rfl rfl (by kernel_rfl) (by kernel_rfl) (by kernel_rfl) (fun _ _ _ h => h) (Or.inl ⟨by rfl, fun W hW => by go_simp⟩) hS ?_
      try simp only [List.setIfInBounds_toArray, List.set_cons_zero, List.set_cons_succ]
      refine wpAnyH_ready (rs := [8]) (by kernel_rfl) (by simp) ?_
      refine allReadyH_storeD rfl rfl (.tmp 87) (.tmp 86) rfl gq (0 + j2 * 16) rfl rfl (i := j2) oq.drew (by omega) (by omega) rfl (fun W10 okn hg => ?_)
      refine ⟨blk_other hS hg hggq, fun hS => ?_⟩
      try simp only [Act.put, List.getElem_toArray, List.getElem_cons_succ, List.getElem_cons_zero, List.setIfInBounds_toArray, List.set_cons_zero, List.set_cons_succ]
      refine wpAnyH_done (by kernel_rfl) ?_ _
      have hBs := hB9.drew.trans (grown_below oq.drew hg hB9.size)
      have hBq := hBk.trans (hBs.mono hBk.size)
      replace dk := dk0.below hBs
      replace dp := dp0.below hBs
      have dq := Digs.of_owns okn
      clear hB9 hB9w oq k0 hg okn hBs hS hr1 hr2 hnz hj0 hj1 hj3 hjl
      generalize setT PT j2 bd = QT at dq
      go_wp2_with fail
      refine (SN.out _ hBq).mono ?_
      rintro e V ⟨rfl, hb⟩
      replace dk := dk.below hb
      replace dp := dp.below hb
      replace dq := dq.below hb
      replace hBq := hBq.trans (hb.mono hBq.size)
      clear hb
      go_wp2_with fail
      refine (GR.out _ hBq no L ce cp pe pp E P (by omega) (by omega) (HE.out.below hBq) (HP.out.below hBq)).mono ?_
      rintro e V ⟨rfl, hb⟩
      replace dk := dk.below hb
      replace dp := dp.below hb
      replace dq := dq.below hb
      replace hBq := hBq.trans (hb.mono hBq.size)
      clear hb
      go_wp2_with fail
      refine (GR.out _ hBq m Lq ck cr _ pr KT PT (by omega) (by omega) dk dp).mono ?_
      rintro e V ⟨rfl, hb⟩
      replace dk := dk.below hb
      replace dp := dp.below hb
      replace dq := dq.below hb
      replace hBq := hBq.trans (hb.mono hBq.size)
      clear hb
      go_wp2_with (refine wp_sliceToW (by rfl) 80 23 16 _ _ rfl rfl rfl Tryd.underlying80 size23 hmc ?_)
      refine (GR.out _ hBq m Lq cl cq pl _ D QT (by omega) (by omega) ((HL.out.below hBq).upto m hmn) dq).mono ?_
      rintro e V ⟨rfl, hb⟩
      replace dk := dk.below hb
      replace dp := dp.below hb
      replace dq := dq.below hb
      replace hBq := hBq.trans (hb.mono hBq.size)
      clear hb
      go_wp2_with fail
      refine (GR.out _ hBq m Lq ck cq _ _ KT QT (by omega) (by omega) dk dq).mono ?_
      rintro e V ⟨rfl, hb⟩
      replace dk := dk.below hb
      replace dp := dp.below hb
      replace dq := dq.below hb
      replace hBq := hBq.trans (hb.mono hBq.size)
      clear hb
      go_wp2_with fail
      refine (GR.out _ hBq no Lq ce cr pe pr E PT (by omega) (by omega) (HE.out.below hBq) dp).mono ?_
      rintro e V ⟨rfl, hb⟩
      replace dk := dk.below hb
      replace dp := dp.below hb
      replace dq := dq.below hb
      replace hBq := hBq.trans (hb.mono hBq.size)
      clear hb
      go_wp2_with fail
      go_ret
      exact ⟨rfl, hBq⟩
end Go.Proofs.YtdpgebifeaakjaaDoor
