/- The body of DigestMembers. -/
import Derived.Test.YtdpgebifeaakjaaDoorX11
namespace Go.Proofs.YtdpgebifeaakjaaDoor
set_option linter.unusedSimpArgs false
set_option linter.unusedVariables false
open Go.RowKit
theorem digs_drew7 {W : World} {u : Value} {k : Nat} {T : Nat → Nat → BitVec 8} (h : Digs W u k T) : Digs W.drew u k T := h
theorem tmod_nat7 (x n : Nat) : (x : Int).tmod (n : Int) = ((x % n : Nat) : Int) := by
  rw [Int.tmod_eq_emod_of_nonneg (by omega)]
  exact (Int.natCast_emod x n).symm
theorem blk_other7 {w w' : World} {g b : Nat} {C : Array Value} {t : TypeId} (hb : Blk w b C t) (hg : w.grownBy w' (some g)) (h : b < g) : Blk w' b C t :=
  (hg.block b hb.lt (fun e => by injection e with e; omega)).trans hb
theorem exec_sliceBothQ {o : Oper} {W : World} (ρ : Operand → Value) (ty e : TypeId) (s : Nat) (x y z : Operand) (ho : o.op = .slice ty x (some y) (some z) none) (p q : Option Addr) (k c lo hi m : Nat) (hx : ρ x = .slice p k c) (hy : ρ y = .int .i64 (lo : Int)) (hz : ρ z = .int .i64 (hi : Int))
    (hu : Tryd.prog.underlying ty = some (.slice e)) (hs : (Tryd.prog.info? e).map (·.size) = some s) (hk : lo ≤ hi) (hc : hi ≤ c) (hm : hi - lo = m) (hq : (if c = lo then p else p.map (·.add (lo * s))) = q) :
    (execOp ρ o).run Tryd.prog W = .ok (.value (.slice q m (c - lo))) W := by
  subst hm hq
  exact exec_sliceBoth ρ ty e s x y z ho p k c lo hi hx hy hz hu hs hk hc
theorem wp_appendN7 {ops : Array Oper} {rest : List Oper} {o : Oper} {a : Act} {w : World} {Q : Exit → Act → World → Prop} {t e size bytes : Nat} (E : ElemF t e size bytes) (hgd : o.guard = none)
    (s x : Operand) (hop : o.op = Op.call { callee := Callee.builtin Builtin.append, args := #[s, x], argTypes := #[t, t] })
    {base k m g cap : Nat} {u : Value} {xs ys : List Value} (hs : a.eval s = .slice (some ⟨g, 0, none⟩) k cap) (hv : w.ownsRow base e size (.slice (some ⟨g, 0, none⟩) k cap) k xs) (hx : a.eval x = u) (hu : Sees w size u m ys)
    (one : ∀ y ∈ ys, y.oneCell' = true) (hkm : k + m ≤ 1000000) (hbase : base ≤ w.heap.size)
    (h : ∀ g' c' w', w'.ownsRow base e size (.slice (some ⟨g', 0, none⟩) (k + m) c') (k + m) (xs ++ ys) → w.grownBy w' (Value.slice (some ⟨g, 0, none⟩) k cap).ownBlock → (g' = g ∨ w.heap.size ≤ g') → wpList Tryd.prog ops Q rest (a.put o.dst (.slice (some ⟨g', 0, none⟩) (k + m) c')) w') : wpList Tryd.prog ops Q (o :: rest) a w :=
  wpList_plain hgd fun _ hK => oper_appendN E s x hop hs hv hx hu one hkm hbase fun g' c' w' h1 h2 h3 => hK _ _ (h g' c' w' h1 h2 h3)
set_option maxRecDepth 20000 in
set_option maxHeartbeats 3000000 in
theorem members_any (n K L x y z cl ck cp : Nat) (pl pk pp : Option Addr) (D I P : Nat → Nat → BitVec 8) (bd : Nat → BitVec 8) (w : World) (hx : x < 256) (hy : y < 256) (hz : z < 256)
    (hl : Digs w (.slice pl n cl) n D) (hi : Digs w (.slice pk K ck) K I) (hp : Digs w (.slice pp L cp) L P) (hT : TabAt 3 Lib.deBruijn64tab w) (hKK : KAt w) (h3 : 3 < w.heap.size) :
    Calls Tryd.prog 15 #[.slice pl n cl, .int .u8 (x : Int), .int .u8 (y : Int), .slice pk K ck, .slice pp L cp, .int .u8 (z : Int), .agg (A8 16 bd)] w fun e w' => e = .returned (.bool true) ∧ Below w.heap.size w w' := by
  have hbx := box23 bd
  have SN := hide fun (W : World) (hB : Below w.heap.size w W) => sane_any W (tabC hT h3 hB) (Nat.lt_of_lt_of_le h3 hB.size)
  by_cases hn : 60 < n
  · have hh1 : (60 : Int) < (n : Int) := by omega
    clear hl hi hp hT
    have k0 := Blk.new (w) (A8 16 bd) 23
    have hB : Below w.heap.size w ((w).alloc (.cells (A8 16 bd) 23)) := ((Below.refl _ w).alloc (Nat.le_refl _) _)
    obtain ⟨W0, hW0⟩ : ∃ W0, (w).alloc (.cells (A8 16 bd) 23) = W0 := ⟨_, rfl⟩
    rw [hW0] at k0 hB
    go_enter Tryd.func15, Tryd.ntmps15
    go_upto_region 1 with (fail)
    try rw [hW0]
    clear hW0
    go_wp2_with fail
    refine (SN.out _ hB).mono ?_
    rintro e W1 ⟨rfl, hb⟩
    go_wp2_with fail
    go_ret
    exact ⟨rfl, hB.trans (hb.mono hB.size)⟩
  by_cases hno : 60 < K
  · have hh1 : ¬ (60 : Int) < (n : Int) := by omega
    have hh2 : (60 : Int) < (K : Int) := by omega
    clear hl hi hp hT
    have k0 := Blk.new (w) (A8 16 bd) 23
    have hB : Below w.heap.size w ((w).alloc (.cells (A8 16 bd) 23)) := ((Below.refl _ w).alloc (Nat.le_refl _) _)
    obtain ⟨W0, hW0⟩ : ∃ W0, (w).alloc (.cells (A8 16 bd) 23) = W0 := ⟨_, rfl⟩
    rw [hW0] at k0 hB
    go_enter Tryd.func15, Tryd.ntmps15
    go_upto_region 1 with (fail)
    try rw [hW0]
    clear hW0
    go_wp2_with fail
    refine (SN.out _ hB).mono ?_
    rintro e W1 ⟨rfl, hb⟩
    go_wp2_with fail
    go_ret
    exact ⟨rfl, hB.trans (hb.mono hB.size)⟩
  by_cases hL : 60 < L
  · have hh1 : ¬ (60 : Int) < (n : Int) := by omega
    have hh2 : ¬ (60 : Int) < (K : Int) := by omega
    have hh3 : (60 : Int) < (L : Int) := by omega
    clear hl hi hp hT
    have k0 := Blk.new (w) (A8 16 bd) 23
    have hB : Below w.heap.size w ((w).alloc (.cells (A8 16 bd) 23)) := ((Below.refl _ w).alloc (Nat.le_refl _) _)
    obtain ⟨W0, hW0⟩ : ∃ W0, (w).alloc (.cells (A8 16 bd) 23) = W0 := ⟨_, rfl⟩
    rw [hW0] at k0 hB
    go_enter Tryd.func15, Tryd.ntmps15
    go_upto_region 1 with (fail)
    try rw [hW0]
    clear hW0
    go_wp2_with fail
    refine (SN.out _ hB).mono ?_
    rintro e W1 ⟨rfl, hb⟩
    go_wp2_with fail
    go_ret
    exact ⟨rfl, hB.trans (hb.mono hB.size)⟩
  have hh1 : ¬ (60 : Int) < (n : Int) := by omega
  have hh2 : ¬ (60 : Int) < (K : Int) := by omega
  have hh3 : ¬ (60 : Int) < (L : Int) := by omega
  obtain ⟨a, hae⟩ : ∃ a, x % (n + 1) = a := ⟨_, rfl⟩
  have ha : a ≤ n := by rw [← hae]; exact Nat.le_of_lt_succ (Nat.mod_lt _ (Nat.succ_pos n))
  have hrem : (x : Int).tmod ((n : Int) + 1) = (a : Int) := by
    rw [← hae]
    exact tmod_nat7 x (n + 1)
  have hrem2 : (x : Int) % ((n : Int) + 1) = (a : Int) := by
    rw [← hae]
    exact (Int.natCast_emod x (n + 1)).symm
  have hn1 : ¬ (n : Int) + 1 = 0 := by omega
  have hn2 : ¬ (n : Int) + 1 = -1 := by omega
  obtain ⟨q, hqe⟩ : ∃ q, y % (n - a + 1) = q := ⟨_, rfl⟩
  have hq : q ≤ n - a := by rw [← hqe]; exact Nat.le_of_lt_succ (Nat.mod_lt _ (Nat.succ_pos _))
  have hcast : (n : Int) - (a : Int) + 1 = ((n - a + 1 : Nat) : Int) := by omega
  have hrem3 : (y : Int).tmod ((n : Int) - (a : Int) + 1) = (q : Int) := by
    rw [hcast, ← hqe]
    exact tmod_nat7 y (n - a + 1)
  have hrem4 : (y : Int) % ((n : Int) - (a : Int) + 1) = (q : Int) := by
    rw [hcast, ← hqe]
    exact (Int.natCast_emod y (n - a + 1)).symm
  have hn3 : ¬ (n : Int) - (a : Int) + 1 = 0 := by omega
  have hn4 : ¬ (n : Int) - (a : Int) + 1 = -1 := by omega
  obtain ⟨B, hBe⟩ : ∃ B, a + q = B := ⟨_, rfl⟩
  have hsB : (a : Int) + (q : Int) = (B : Int) := by omega
  have hBn : B ≤ n := by omega
  have hab : a ≤ B := by omega
  have hBq : B - a = q := by omega
  clear hae hqe hcast
  have hLq : ∃ Lq, (coverL 0 a).length + (coverL B n).length = Lq := ⟨_, rfl⟩
  obtain ⟨Lq, hLq⟩ := hLq
  have lF := coverL_length 0 a
  have lG := coverL_length B n
  have hLq2 : Lq ≤ 60 := by omega
  have hlc := hl.cap
  obtain ⟨ps, hps⟩ : ∃ q, (if cl = a then pl else pl.map (·.add (a * 16))) = q := ⟨_, rfl⟩
  have hds : ∀ W, Digs W (.slice pl n cl) n D → Digs W (.slice ps q (cl - a)) q (fun j => D (a + j)) := fun W h => by
    have h1 := (h.behind a ha).upto q (by omega)
    rw [hps] at h1
    exact h1
  have HL := hide hl; have HI := hide hi; have HP := hide hp
  have TB := hide fun (W : World) (hW : Below w.heap.size w W) => tab_below hT h3 hW
  have pa : ∀ W, Below w.heap.size w W → Calls Tryd.prog 44 #[.slice pl n cl, .int .i64 (a : Int), .int .i64 (B : Int)] W fun e w' => ∃ r, e = .returned (.tuple #[r, .int .i64 0]) ∧ Digs w' r Lq (pathT D n a B) ∧ Below W.heap.size W w' := fun W hW => (path_ok n a B D _ W hab hBn (by omega) (HL.out.below hW) (TB.out W hW) (Nat.lt_of_lt_of_le h3 hW.size)).mono fun e w' ⟨r, h1, h2, h3⟩ => ⟨r, h1, by rw [digCells_join] at h2; rw [← hLq]; exact Digs.of_owns h2, h3⟩
  have tn := fun (W : World) (hW : Below w.heap.size w W) => tree_any n n D _ W (Nat.le_refl _) (by omega) (HL.out.below hW)
  have cp' : ∀ (W : World), Below w.heap.size w W → ∀ (pr : Option Addr) (cr : Nat), Digs W (.slice pr Lq cr) Lq (pathT D n a B) → Calls Tryd.prog 57 #[.agg (A8 16 (treeF n n D)), .int .i64 (n : Int), .int .i64 (a : Int), .slice ps q (cl - a), .slice pr Lq cr] W fun e w' => e = .returned (.int .i64 0) ∧ Below W.heap.size W w' := fun W hW pr cr hd => by
    subst hBe
    exact cpath_own D n a q Lq cr (cl - a) ps pr W hBn (by omega) hLq.symm hd (hds W (HL.out.below hW)) (TB.out W hW) (Nat.lt_of_lt_of_le h3 hW.size)
  have mb := fun (W : World) (hW : Below w.heap.size w W) (K' L' ck' cp' : Nat) (pk' pp' : Option Addr) (I' P' : Nat → Nat → BitVec 8) (hK : K' ≤ 60) (hL : L' ≤ 60) (h1 : Digs W (.slice pk' K' ck') K' I') (h2 : Digs W (.slice pp' L' cp') L' P') => member_any n a K' ck' L' cp' cl pl pk' pp' D I' P' W (by omega) ha hK (by omega) (HL.out.below hW) h1 h2 (TB.out W hW) (hKK.below hKK.pos hW) (Nat.lt_of_lt_of_le h3 hW.size)
  generalize pathT D n a B = PT at pa cp'
  generalize treeF n n D = X2 at tn cp' mb
  have PA := hide pa; have TN := hide tn; have CP := hide cp'; have MB := hide mb
  have HPS := hide hps; have HDS := hide hds
  have hBc : B ≤ cl := by omega
  have hwz : IntKind.i64.wrap (z : Int) = (z : Int) := IntWalk.i64_in _ (by omega)
  clear pa tn cp' mb hps hds hLq lF lG hBe hl hi hp hT
  have k0 := Blk.new (w) (A8 16 bd) 23
  have hB : Below w.heap.size w ((w).alloc (.cells (A8 16 bd) 23)) := ((Below.refl _ w).alloc (Nat.le_refl _) _)
  obtain ⟨W0, hW0⟩ : ∃ W0, (w).alloc (.cells (A8 16 bd) 23) = W0 := ⟨_, rfl⟩
  rw [hW0] at k0 hB
  go_enter Tryd.func15, Tryd.ntmps15
  go_upto_region 1 with (fail)
  try rw [hW0]
  clear hW0
  clear hbx
  go_wp2_with fail
  refine (TN.out _ hB).mono ?_
  rintro e W1 ⟨rfl, hb⟩
  replace k0 := k0.below hb k0.lt
  replace hB := hB.trans (hb.mono hB.size)
  clear hb TN hrem hrem2 hrem3 hrem4 hn1 hn2 hn3 hn4
  have n17 := Blk.new W1 (A8 16 fun _ => 0#8) 23
  go_wp2_with (refine wp_storeRow (C' := A8 16 X2) rfl 23 _ _ rfl _ rfl rfl n17 size23 (A8.size _ _) (A8.size _ _) (A8.one _) rfl ?_; intro W4 hu k17)
  have hb3 : Below W1.heap.size W1 W4 := hu.below ((Below.refl _ _).alloc (Nat.le_refl _) _) (Nat.le_refl _)
  have l17 := k0.lt
  replace k0 := k0.below hb3 k0.lt
  replace hB := hB.trans (hb3.mono hB.size)
  clear hb3 hu n17
  generalize W1.heap.size = b17 at k17 l17 ⊢
  refine (PA.out _ hB).mono ?_
  rintro e W6 ⟨r, rfl, dp, hb⟩
  replace k0 := k0.below hb k0.lt
  replace k17 := k17.below hb k17.lt
  replace hB := hB.trans (hb.mono hB.size)
  obtain ⟨pr, cr, rfl, _⟩ := id dp
  clear hb PA
  go_wp2_with fail
  refine wp_region_held_drew (S := fun w' => Below w.heap.size w w' ∧ Blk w' b17 (A8 16 X2) 23 ∧ Digs w' (.slice pr Lq cr) Lq PT) (by kernel_rfl) (⟨hB.drew, k17.drew, digs_drew7 dp⟩) (fun hS => ?_)
  simp only [List.size_toArray, List.length_cons, List.length_nil, Nat.reduceAdd, Array.replicate_succ, Array.replicate_zero, List.push_toArray, List.nil_append, List.cons_append]
  refine take_at (i := 0) 63 (.int .i64 0) rfl rfl (by kernel_rfl) (by kernel_rfl) (by kernel_rfl) (fun _ _ _ h => h) (Or.inl ⟨by rfl, fun W hW => by go_simp⟩) hS ?_
  try simp only [List.setIfInBounds_toArray, List.set_cons_zero, List.set_cons_succ]
  refine take_at (i := 1) 64 (.bool false) rfl rfl (by kernel_rfl) (by kernel_rfl) (by kernel_rfl) (fun _ _ _ h => h) (Or.inl ⟨by rfl, fun W hW => by go_simp⟩) hS ?_
  try simp only [List.setIfInBounds_toArray, List.set_cons_zero, List.set_cons_succ]
  refine take_at (i := 2) 65 (.bool false) rfl rfl (by kernel_rfl) (by kernel_rfl) (by kernel_rfl) (fun _ _ _ h => h) (Or.inl ⟨by rfl, fun W hW => by go_simp⟩) hS ?_
  try simp only [List.setIfInBounds_toArray, List.set_cons_zero, List.set_cons_succ]
  refine take_at (i := 3) 66 (.agg (A8 16 X2)) rfl rfl (by kernel_rfl) (by kernel_rfl) (by kernel_rfl) (fun _ _ _ h => h) (Or.inl ⟨by rfl, fun W hW => exec_load_blk hW.2.1⟩) hS ?_
  try simp only [List.setIfInBounds_toArray, List.set_cons_zero, List.set_cons_succ]
  refine take_at (i := 4) 67 (.slice pl n cl) rfl rfl (by kernel_rfl) (by kernel_rfl) (by kernel_rfl) (fun _ _ _ h => h) (Or.inl ⟨by rfl, fun W hW => by go_simp⟩) hS ?_
  try simp only [List.setIfInBounds_toArray, List.set_cons_zero, List.set_cons_succ]
  refine take_at (i := 5) 68 (.int .i64 (n : Int)) rfl rfl (by kernel_rfl) (by kernel_rfl) (by kernel_rfl) (fun _ _ _ h => h) (Or.inl ⟨by rfl, fun W hW => by go_simp⟩) hS ?_
  try simp only [List.setIfInBounds_toArray, List.set_cons_zero, List.set_cons_succ]
  refine take_at (i := 6) 69 (.int .i64 (a : Int)) rfl rfl (by kernel_rfl) (by kernel_rfl) (by kernel_rfl) (fun _ _ _ h => h) (Or.inl ⟨by rfl, fun W hW => by go_simp⟩) hS ?_
  try simp only [List.setIfInBounds_toArray, List.set_cons_zero, List.set_cons_succ]
  refine take_at (i := 7) 70 (.slice pl n cl) rfl rfl (by kernel_rfl) (by kernel_rfl) (by kernel_rfl) (fun _ _ _ h => h) (Or.inl ⟨by rfl, fun W hW => by go_simp⟩) hS ?_
  try simp only [List.setIfInBounds_toArray, List.set_cons_zero, List.set_cons_succ]
  refine take_at (i := 8) 71 (.int .i64 (a : Int)) rfl rfl (by kernel_rfl) (by kernel_rfl) (by kernel_rfl) (fun _ _ _ h => h) (Or.inl ⟨by rfl, fun W hW => by go_simp⟩) hS ?_
  try simp only [List.setIfInBounds_toArray, List.set_cons_zero, List.set_cons_succ]
  refine take_at (i := 9) 72 (.int .i64 (B : Int)) rfl rfl (by kernel_rfl) (by kernel_rfl) (by kernel_rfl) (fun _ _ _ h => h) (Or.inl ⟨by rfl, fun W hW => by go_simp⟩) hS ?_
  try simp only [List.setIfInBounds_toArray, List.set_cons_zero, List.set_cons_succ]
  refine take_at (i := 10) 73 (.slice ps q (cl - a)) rfl rfl (by kernel_rfl) (by kernel_rfl) (by kernel_rfl) (fun _ _ _ h => h) (Or.inl ⟨by rfl, fun W hW => exec_sliceBothQ _ 80 23 16 _ _ _ rfl _ _ n cl a B q rfl rfl rfl Tryd.underlying80 size23 hab hBc hBq HPS.out⟩) hS ?_
  try simp only [List.setIfInBounds_toArray, List.set_cons_zero, List.set_cons_succ]
  refine take_at (i := 11) 74 (.slice pr Lq cr) rfl rfl (by kernel_rfl) (by kernel_rfl) (by kernel_rfl) (fun _ _ _ h => h) (Or.inl ⟨by rfl, fun W hW => by go_simp⟩) hS ?_
  try simp only [List.setIfInBounds_toArray, List.set_cons_zero, List.set_cons_succ]
  refine wpAnyH_ready (rs := [12]) (by kernel_rfl) (by simp) ?_
  refine AllReadyH.cons rfl (fun K hK => ?_) AllReadyH.nil
  rw [if_pos (by rfl)]
  go_simp
  refine (CP.out _ hS.1 _ _ hS.2.2).mono ?_
  rintro e W7 ⟨rfl, hb⟩
  refine hK.out _ _ (⟨hS.1.trans (hb.mono hS.1.size), hS.2.1.below hb hS.2.1.lt, hS.2.2.below hb⟩) (fun hS => ?_)
  clear hK K
  replace k0 := k0.drew.below hb k0.lt
  clear hb
  try simp only [Act.put, List.getElem_toArray, List.getElem_cons_succ, List.getElem_cons_zero, List.setIfInBounds_toArray, List.set_cons_zero, List.set_cons_succ]
  refine take_at (i := 13) 76 (.bool false) rfl rfl (by kernel_rfl) (by kernel_rfl) (by kernel_rfl) (fun _ _ _ h => h) (Or.inl ⟨by rfl, fun W hW => by go_simp⟩) hS ?_
  try simp only [List.setIfInBounds_toArray, List.set_cons_zero, List.set_cons_succ]
  refine take_at (i := 14) 77 (.bool false) rfl rfl (by kernel_rfl) (by kernel_rfl) (by kernel_rfl) (fun _ _ _ h => h) (Or.inl ⟨by rfl, fun W hW => by go_simp⟩) hS ?_
  try simp only [List.setIfInBounds_toArray, List.set_cons_zero, List.set_cons_succ]
  refine wpAnyH_done (by kernel_rfl) ?_ _
  obtain ⟨hB, k17, dp⟩ := hS
  clear CP
  go_upto_region 9 with (fail)
  apply wp_region_lit
  refine wp_buildz rfl rfl (build80z _) ?_
  have ox := owns_z W7 W7.heap.size 23 16 (Nat.le_refl _)
  have hB8 : Below W7.heap.size W7 (W7.alloc (.cells #[] 23)) := (Below.refl _ _).alloc (Nat.le_refl _) _
  generalize W7.alloc (.cells #[] 23) = Wy at ox hB8 ⊢
  have ds := HDS.out _ ((HL.out.below hB).below hB8)
  have hw7 := hB.size
  have l0 := k0.lt
  have l7 := k17.lt
  obtain ⟨zb, hzb⟩ : ∃ z, W7.heap.size = z := ⟨_, rfl⟩
  have hy4 : W7.heap.size ≤ Wy.heap.size := hB8.size
  rw [show (some (⟨W7.heap.size, 0, none⟩ : Addr)) = some ⟨zb, 0, none⟩ by rw [hzb]] at ox ⊢
  go_upto_region 10 with (first | (refine wp_sliceBoth rfl 80 23 16 _ _ _ rfl rfl rfl rfl Tryd.underlying80 size23 hab hBc hBq HPS.out ?_) | (at_builtin; go_loud (refine wp_appendN7 elem80 rfl _ _ rfl rfl ox rfl ds.sees (digCells_one _ _) (by omega) hy4 ?_); intro gk c7 W8 ok hg hgc; simp only [Nat.zero_add, List.nil_append] at ok ⊢; have hB9 := hB8.trans (grown_below ox hg hy4); clear ox ds hg hgc hy4))
  clear hzb hB8
  replace dp := dp.below hB9
  replace k0 := k0.below hB9 l0
  replace k17 := k17.below hB9 l7
  have hgk0 : w.heap.size < gk := Nat.lt_of_lt_of_le l0 (ok.lt gk rfl).1
  have hgk7 : b17 < gk := Nat.lt_of_lt_of_le l7 (ok.lt gk rfl).1
  replace hB := hB.trans (hB9.mono hB.size)
  clear hB9 l0 l7
  apply wp_region_lit
  refine wp_buildz rfl rfl (build80z _) ?_
  have ox := owns_z W8 W8.heap.size 23 16 (Nat.le_refl _)
  have hB8 : Below W8.heap.size W8 (W8.alloc (.cells #[] 23)) := (Below.refl _ _).alloc (Nat.le_refl _) _
  generalize W8.alloc (.cells #[] 23) = Wz at ox hB8 ⊢
  have dpz := dp.below hB8
  have hw8 := hB.size
  have l0 := k0.lt
  have l7 := k17.lt
  have lk := (ok.lt gk rfl).2
  obtain ⟨zb, hzb⟩ : ∃ z, W8.heap.size = z := ⟨_, rfl⟩
  have hy4 : W8.heap.size ≤ Wz.heap.size := hB8.size
  rw [show (some (⟨W8.heap.size, 0, none⟩ : Addr)) = some ⟨zb, 0, none⟩ by rw [hzb]] at ox ⊢
  obtain ⟨N, hN⟩ : ∃ N, q + Lq = N := ⟨_, rfl⟩
  have hNs : (q : Int) + (Lq : Int) = (N : Int) := by omega
  go_upto_region 12 with (at_builtin; go_loud (refine wp_appendN7 elem80 rfl _ _ rfl rfl ox rfl dpz.sees (digCells_one _ _) (by omega) hy4 ?_); intro gq c8 W9 oq hg hgc; simp only [Nat.zero_add, List.nil_append] at oq ⊢; have hB9 := hB8.trans (grown_below ox hg hy4); clear ox dpz hg hgc hy4)
  clear hzb hB8 dp
  have hgq0 : w.heap.size < gq := Nat.lt_of_lt_of_le l0 (oq.lt gq rfl).1
  have hgq7 : b17 < gq := Nat.lt_of_lt_of_le l7 (oq.lt gq rfl).1
  have hgkq : gk < gq := Nat.lt_of_lt_of_le lk (oq.lt gq rfl).1
  replace k0 := k0.below hB9 l0
  replace k17 := k17.below hB9 l7
  replace ok := ownsRow_below ok hB9
  replace hB := hB.trans (hB9.mono hB.size)
  clear hB9 l0 l7 lk
  have r0 := run_loadVar_Blk (P := Tryd.prog) k0 Tryd.underlying23 rfl size23 (A8.size _ _)
  by_cases hN0 : N = 0
  · have hz0 : ¬ (0 : Int) < (N : Int) := by omega
    have hBf := hB
    have dk := Digs.of_owns ok
    have dq := Digs.of_owns oq
    clear hN0 hN ok oq r0 k0 hB
    go_wp2_with fail
    refine (SN.out _ hBf).mono ?_
    rintro e V1 ⟨rfl, hb⟩
    replace k17 := k17.below hb k17.lt
    replace dk := dk.below hb
    replace dq := dq.below hb
    replace hBf := hBf.trans (hb.mono hBf.size)
    have r17 := run_loadVar_Blk (P := Tryd.prog) k17 Tryd.underlying23 rfl size23 (A8.size _ _)
    clear hb
    go_wp2_with (refine wp_loadRun (by rfl) 23 _ rfl b17 0 rfl r17 ?_)
    refine (MB.out _ hBf K L ck cp pk pp I P (by omega) (by omega) (HI.out.below hBf) (HP.out.below hBf)).mono ?_
    rintro e V2 ⟨rfl, hb⟩
    replace k17 := k17.below hb k17.lt
    replace dk := dk.below hb
    replace dq := dq.below hb
    replace hBf := hBf.trans (hb.mono hBf.size)
    clear r17 hb
    have r17 := run_loadVar_Blk (P := Tryd.prog) k17 Tryd.underlying23 rfl size23 (A8.size _ _)
    go_wp2_with (refine wp_loadRun (by rfl) 23 _ rfl b17 0 rfl r17 ?_)
    refine (MB.out _ hBf q Lq _ _ _ _ (fun j => D (a + j)) (PT) (by omega) (by omega) dk dq).mono ?_
    rintro e V3 ⟨rfl, hb⟩
    replace hBf := hBf.trans (hb.mono hBf.size)
    clear r17 hb
    go_wp2_with fail
    go_ret
    exact ⟨rfl, hBf⟩
  have hz0 : (0 : Int) < (N : Int) := by omega
  obtain ⟨k, hk⟩ : ∃ k, z % N = k := ⟨_, rfl⟩
  have hkl : k < N := by rw [← hk]; exact Nat.mod_lt _ (by omega)
  have hr1 : (z : Int).tmod (N : Int) = (k : Int) := by rw [← hk]; exact tmod_nat7 z N
  have hr2 : (z : Int) % (N : Int) = (k : Int) := by rw [← hk]; exact (Int.natCast_emod z N).symm
  have hnz : ¬ (N : Int) = 0 := by omega
  have hnz2 : ¬ (N : Int) = -1 := by omega
  clear hk
  by_cases hkq : k < q
  · have hk1 : (k : Int) < (q : Int) := by omega
    have hk0 : (0 : Int) ≤ (k : Int) := by omega
    have hk2 : ¬ (q : Int) ≤ (k : Int) := by omega
    clear hN hN0
    go_upto_region 18 with (first | (refine wp_loadRun (by rfl) 23 _ rfl w.heap.size 0 rfl r0 ?_) | (refine wp_storeD rfl _ _ rfl gk _ rfl rfl ok hkq (by omega) rfl ?_; intro W10 okn hg))
    have hgq := oq.kept hg (.inr (fun e => by have e2 : some gq = some gk := e; injection e2 with e2; omega))
    replace k17 := blk_other7 k17 hg hgk7
    have hBf : Below w.heap.size w W10 := hB.trans ((grown_below ok hg (Nat.le_trans (ok.lt gk rfl).1 (Nat.le_of_lt (ok.lt gk rfl).2))).mono hw7)
    have dk := Digs.of_owns okn
    have dq := Digs.of_owns hgq
    clear ok oq okn hgq r0 k0 hB hg hr1 hr2 hnz hnz2 hk0 hk1 hk2
    generalize setT (fun j => D (a + j)) k bd = OT at dk
    go_wp2_with fail
    refine (SN.out _ hBf).mono ?_
    rintro e V1 ⟨rfl, hb⟩
    replace k17 := k17.below hb k17.lt
    replace dk := dk.below hb
    replace dq := dq.below hb
    replace hBf := hBf.trans (hb.mono hBf.size)
    have r17 := run_loadVar_Blk (P := Tryd.prog) k17 Tryd.underlying23 rfl size23 (A8.size _ _)
    clear hb
    go_wp2_with (refine wp_loadRun (by rfl) 23 _ rfl b17 0 rfl r17 ?_)
    refine (MB.out _ hBf K L ck cp pk pp I P (by omega) (by omega) (HI.out.below hBf) (HP.out.below hBf)).mono ?_
    rintro e V2 ⟨rfl, hb⟩
    replace k17 := k17.below hb k17.lt
    replace dk := dk.below hb
    replace dq := dq.below hb
    replace hBf := hBf.trans (hb.mono hBf.size)
    clear r17 hb
    have r17 := run_loadVar_Blk (P := Tryd.prog) k17 Tryd.underlying23 rfl size23 (A8.size _ _)
    go_wp2_with (refine wp_loadRun (by rfl) 23 _ rfl b17 0 rfl r17 ?_)
    refine (MB.out _ hBf q Lq _ _ _ _ (OT) (PT) (by omega) (by omega) dk dq).mono ?_
    rintro e V3 ⟨rfl, hb⟩
    replace hBf := hBf.trans (hb.mono hBf.size)
    clear r17 hb
    go_wp2_with fail
    go_ret
    exact ⟨rfl, hBf⟩
  · have hk1 : ¬ (k : Int) < (q : Int) := by omega
    obtain ⟨j, hj⟩ : ∃ j, k - q = j := ⟨_, rfl⟩
    have hjs : (k : Int) - (q : Int) = (j : Int) := by omega
    have hjl : j < Lq := by omega
    have hj0 : (0 : Int) ≤ (j : Int) := by omega
    have hj1 : (j : Int) < (Lq : Int) := by omega
    have hj2 : ¬ (Lq : Int) ≤ (j : Int) := by omega
    clear hN hN0 hj
    go_upto_region 18 with (first | (refine wp_loadRun (by rfl) 23 _ rfl w.heap.size 0 rfl r0 ?_) | (refine wp_storeD rfl _ _ rfl gq _ rfl rfl oq hjl (by omega) rfl ?_; intro W10 oqn hg))
    have hgk := ok.kept hg (.inr (fun e => by have e2 : some gk = some gq := e; injection e2 with e2; omega))
    replace k17 := blk_other7 k17 hg hgq7
    have hBf : Below w.heap.size w W10 := hB.trans ((grown_below oq hg (Nat.le_trans (oq.lt gq rfl).1 (Nat.le_of_lt (oq.lt gq rfl).2))).mono hw8)
    have dk := Digs.of_owns hgk
    have dq := Digs.of_owns oqn
    clear ok oq oqn hgk r0 k0 hB hg hr1 hr2 hnz hnz2 hk1 hj0 hj1 hj2 hjs
    generalize setT PT j bd = QT at dq
    go_wp2_with fail
    refine (SN.out _ hBf).mono ?_
    rintro e V1 ⟨rfl, hb⟩
    replace k17 := k17.below hb k17.lt
    replace dk := dk.below hb
    replace dq := dq.below hb
    replace hBf := hBf.trans (hb.mono hBf.size)
    have r17 := run_loadVar_Blk (P := Tryd.prog) k17 Tryd.underlying23 rfl size23 (A8.size _ _)
    clear hb
    go_wp2_with (refine wp_loadRun (by rfl) 23 _ rfl b17 0 rfl r17 ?_)
    refine (MB.out _ hBf K L ck cp pk pp I P (by omega) (by omega) (HI.out.below hBf) (HP.out.below hBf)).mono ?_
    rintro e V2 ⟨rfl, hb⟩
    replace k17 := k17.below hb k17.lt
    replace dk := dk.below hb
    replace dq := dq.below hb
    replace hBf := hBf.trans (hb.mono hBf.size)
    clear r17 hb
    have r17 := run_loadVar_Blk (P := Tryd.prog) k17 Tryd.underlying23 rfl size23 (A8.size _ _)
    go_wp2_with (refine wp_loadRun (by rfl) 23 _ rfl b17 0 rfl r17 ?_)
    refine (MB.out _ hBf q Lq _ _ _ _ (fun j => D (a + j)) (QT) (by omega) (by omega) dk dq).mono ?_
    rintro e V3 ⟨rfl, hb⟩
    replace hBf := hBf.trans (hb.mono hBf.size)
    clear r17 hb
    go_wp2_with fail
    go_ret
    exact ⟨rfl, hBf⟩
end Go.Proofs.YtdpgebifeaakjaaDoor
