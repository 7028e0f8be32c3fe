/- The walks of CheckPath's closure and of CheckPath. -/
import Derived.Test.YtdpgebifeaakjaaDoorG8
import Derived.Test.YtdpgebifeaakjaaDoorGA
import Derived.Test.YtdpgebifeaakjaaDoorCL
namespace Go.Proofs.YtdpgebifeaakjaaDoor
set_option linter.unusedSimpArgs false
set_option linter.unusedVariables false
open Go.RowKit
theorem build106 (x y : Int) (w : World) : (Instr.build 106 #[(0, .int .i64 x), (1, .int .i64 y)]).run Tryd.prog w = .ok (.agg #[.int .i64 x, .int .i64 y]) w := by kernel_rfl
/-- Blocks of one leaf. -/
def singles (i K : Nat) : List (Nat × Nat) := (List.range K).map fun k => (i + k, 1)
theorem singles_succ (i K : Nat) : singles i (K + 1) = singles i K ++ [(i + K, 1)] := by simp [singles, List.range_succ]
theorem singles_length (i K : Nat) : (singles i K).length = K := by simp [singles]
theorem singles_al (i : Nat) : ∀ K, Al (singles i K) i (i + K)
  | 0 => rfl
  | K + 1 => by
    rw [singles_succ]
    exact (singles_al i K).append ⟨rfl, ⟨0, rfl, Nat.one_dvd _⟩, (Nat.add_assoc i K 1).trans rfl⟩
theorem cellsOf_single (x y : Nat) : cellsOf [(x, y)] = [.int .i64 (x : Int), .int .i64 (y : Int)] := rfl
/-- The digests of a path, with those of the items between them. -/
def mixT (F K : Nat) (D I : Nat → Nat → BitVec 8) (j : Nat) : Nat → BitVec 8 := if j < F then D j else if j < F + K then leafD (I (j - F)) else D (j - K)
theorem Forest.drew {β b : Nat} {W : World} {p : Option Addr} {L c : Nat} {D : Nat → Nat → BitVec 8} {kb kt : Nat} {xs : List Value} {T : Nat → Nat → BitVec 8} {bp : Option Addr} {bn bc : Nat} {tp : Option Addr} {tn tc : Nat} (h : Forest β b W p L c D kb kt xs T bp bn bc tp tn tc) : Forest β b W.drew p L c D kb kt xs T bp bn bc tp tn tc := ⟨h.blk, h.r33, h.r80, h.digs.trans (Below.refl _ _).drew⟩
set_option maxRecDepth 20000 in
set_option maxHeartbeats 1000000 in
theorem cpath92 (g0 g1 g2 g3 g4 i K n L c ic : Nat) (p ip : Option Addr) (D I : Nat → Nat → BitVec 8) (root d : Nat → BitVec 8) (W : World) (hiK : i + K ≤ n) (hn : n ≤ 1099511627776) (hL : L ≤ 1000) (hK : K ≤ 500)
    (k0 : Blk W g0 #[.slice p L c] 80) (k1 : Blk W g1 #[.int .i64 (i : Int)] 3) (k2 : Blk W g2 #[.slice ip K ic] 80) (k3 : Blk W g3 #[.int .i64 (n : Int)] 3) (k4 : Blk W g4 (A8 16 root) 23)
    (hD : Digs W (.slice p L c) L D) (hI : Digs W (.slice ip K ic) K I) (hT : TabAt 3 Lib.deBruijn64tab W) (h3 : 3 < W.heap.size) (hg : Gives (mixT (coverL 0 i).length K D I) n (coverL 0 i ++ singles i K ++ coverL (i + K) n) d) :
    Calls Tryd.prog 92 #[.pointer (some ⟨g0, 0, none⟩), .pointer (some ⟨g1, 0, none⟩), .pointer (some ⟨g2, 0, none⟩), .pointer (some ⟨g3, 0, none⟩), .pointer (some ⟨g4, 0, none⟩)] W fun e w' =>
      ((L = (coverL 0 i).length + (coverL (i + K) n).length ∧ eqRow 16 d root = true) ∧ (∃ v, e = .returned v) ∨ (¬ (L = (coverL 0 i).length + (coverL (i + K) n).length ∧ eqRow 16 d root = true)) ∧ e = .panicked refusedP) ∧ Below W.heap.size W w' := by
  obtain ⟨β, hβ⟩ : ∃ β, W.heap.size = β := ⟨_, rfl⟩
  have kb := Blk.new W #[.slice p L c, .slice none 0 0, .slice none 0 0] 142
  have hB : Below β W (W.alloc (.cells #[.slice p L c, .slice none 0 0, .slice none 0 0] 142)) := (Below.refl _ _).alloc (by omega) _
  obtain ⟨W1, hW1⟩ : ∃ W1, W.alloc (.cells #[.slice p L c, .slice none 0 0, .slice none 0 0] 142) = W1 := ⟨_, rfl⟩
  have b85 := box142
  rw [hβ] at kb
  rw [hW1] at kb hB
  have l0 := k0.lt; have l1 := k1.lt; have l2 := k2.lt; have l3 := k3.lt; have l4 := k4.lt
  have hd1 : DigsB β W1 (.slice p L c) L D := (hβ ▸ DigsB.of hD : DigsB β W _ L D).trans hB
  have hI0 : DigsB β W (.slice ip K ic) K I := hβ ▸ DigsB.of hI
  have hf1 : Forest β β W1 p L c D 0 0 [] D none 0 0 none 0 0 := ⟨kb, World.ownsRow_nil _ _ _ _, World.ownsRow_nil _ _ _ _, hd1⟩
  have hT1 : TabAt 3 Lib.deBruijn64tab W1 := fun j hj => (hB.cell (p := ⟨3, j, none⟩) (by simp; omega)).trans (hT j hj)
  have R1 := hide (read_any β β 0 i L 0 0 c p D [] D none none 0 0 0 0 W1 (Nat.zero_le _) (by omega) hL (by omega) (by omega) (Nat.le_refl _) (by omega) hT1 hf1)
  have RB := hide fun (X : World) (L1 m c1 : Nat) (p1 : Option Addr) (D1 T1 : Nat → Nat → BitVec 8) (xs : List Value) (bp tp : Option Addr) (bn bc tn tc : Nat) (hL1 : L1 ≤ 1000) (hm : m ≤ 1000) (hTX : TabAt 3 Lib.deBruijn64tab X) (h : Forest β β X p1 L1 c1 D1 m m xs T1 bp bn bc tp tn tc) => read_any β β (i + K) n L1 m m c1 p1 D1 xs T1 bp tp bn bc tn tc X hiK hn hL1 hm hm (Nat.le_refl _) (by omega) hTX h
  have lF := cover_len (Nat.zero_le i) (by omega : i ≤ 1099511627776)
  have lG := cover_len hiK hn
  generalize coverL 0 i = F at R1 hg lF ⊢
  generalize coverL (i + K) n = G at RB hg lG ⊢
  have c0 := k0.cell 0
  have c1 := (k1.below hB (by omega)).cell 0
  have HG := hide hg
  have HI := hide hI0
  have hTW := hide hT
  have hwβ := hβ
  clear hg hf1 hT1 hd1 hD hT hI hI0
  go_enter Tryd.func92, Tryd.ntmps92
  go_wp2_with fail
  refine R1.out.mono ?_
  rintro e W2 (⟨hlt, rfl, hb⟩ | ⟨hle, ⟨v, rfl⟩, hb, _, _, _, p1, q1, bp1, bn1, bc1, tp1, tn1, tc1, hf2⟩)
  · have hB2 := hB.trans hb
    go_wp2_with fail
    exact ⟨rfl, .inr ⟨fun h => by omega, rfl⟩, by simpa only [hwβ] using hB2⟩
  have hB2 := hB.trans hb
  clear hb R1 kb hB b85 c0 c1
  have c2 := (k2.below hB2 (by omega)).cell 0
  rw [Nat.zero_add, List.nil_append] at hf2
  go_wp2_with fail
  go_loopw [17] (fun s17 X => ∃ (k : Nat) (T' : Nat → Nat → BitVec 8) (fb1 : Option Addr) (fb2 fb3 : Nat) (ft1 : Option Addr) (ft2 ft3 : Nat), k ≤ K ∧ s17 = .int .i64 (k : Int) ∧ Hid (∀ j, j < F.length + k → T' j = mixT F.length K D I j) ∧ Forest β β X p1 (L - F.length) q1 (fun j => D (F.length + j)) (F.length + k) (F.length + k) (cellsOf F ++ cellsOf (singles i k)) T' fb1 fb2 fb3 ft1 ft2 ft3 ∧ Below β W X) (fun s17 _ => K - (intOf s17).toNat)
  case atStart => exact ⟨0, joinT 0 D D, _, _, _, _, _, _, Nat.zero_le _, rfl, hide fun j hj => (by rw [mixT, if_pos (by omega), joinT, if_neg (by omega), Nat.sub_zero]), (by rw [Nat.add_zero, show singles i 0 = [] from rfl, show cellsOf [] = [] from rfl, List.append_nil]; exact hf2), hB2⟩
  case round =>
    clear hf2 c2 hB2
    obtain ⟨k, T', fb1, fb2, fb3, ft1, ft2, ft3, hk, rfl, HT, hf, hB⟩ := hrel
    by_cases hlt : k < K
    · have hlt1 : (k : Int) < (K : Int) := by omega
      have hk0 : (0 : Int) ≤ (k : Int) := by omega
      have hk1 : ¬ ((K : Int) ≤ (k : Int)) := by omega
      obtain ⟨ip', ic', e0, _, hd⟩ := HI.out.all wr hB
      injection e0 with e1 e2 e3
      subst e1 e3
      obtain ⟨g, o, rfl, r0⟩ := hd k hlt
      have r1 := run_loadVar_mid wr g (o + k * 16) 23 (A8 16 (I k)).toList _ r0 Tryd.underlying23 rfl (by rw [Array.length_toList, A8.size]; exact size23)
      rw [Array.toArray_toList] at r1
      clear hd r0
      have n7 := Blk.new wr (A8 16 fun _ => 0#8) 23
      have lw := hf.blk.lt
      have hwr : IntKind.i64.wrap ((i : Int) + (k : Int)) = (i : Int) + (k : Int) := IntWalk.i64_in _ (by omega)
      go_wp2_with (first | (refine wp_loadRun (by rfl) 23 _ rfl g (o + k * 16) rfl r1 ?_) | (refine wp_storeRow (C' := A8 16 (I k)) rfl 23 _ _ rfl _ rfl rfl n7 size23 (A8.size _ _) (A8.size _ _) (A8.one _) rfl ?_; intro W4 hu kd))
      have hb4 : Below wr.heap.size wr W4 := hu.below ((Below.refl _ _).alloc (Nat.le_refl _) _) (Nat.le_refl _)
      replace hf := hf.below hb4 (by omega)
      replace hB := hB.trans (hb4.mono (by omega))
      clear hu n7 r1 hb4
      generalize wr.heap.size = B7 at kd lw ⊢
      obtain ⟨wq, hwq⟩ : ∃ wq, W4 = wq := ⟨_, rfl⟩
      subst hwq
      refine wp_region_keptK (S := fun w' => Below β W w' ∧ Forest β β w' p1 (L - F.length) q1 (fun j => D (F.length + j)) (F.length + k) (F.length + k) (cellsOf F ++ cellsOf (singles i k)) T' fb1 fb2 fb3 ft1 ft2 ft3 ∧ Blk w' B7 (A8 16 (I k)) 23) 7 (by kernel_rfl) (⟨hB.drew, hf.drew, kd.drew⟩) (fun hS => ?_)
      simp only [List.size_toArray, List.length_cons, List.length_nil, Nat.reduceAdd, Array.replicate_succ, Array.replicate_zero, List.push_toArray, List.nil_append, List.cons_append]
      refine take_atK (i := 0) 22 (.pointer (some ⟨β, 0, none⟩)) [7] rfl rfl (by kernel_rfl) (by decide) (by decide) (by kernel_rfl) (by kernel_rfl) (by kernel_rfl) (by kernel_rfl) (fun _ _ _ h => h) (Or.inl ⟨by rfl, fun W hW => by go_simp⟩) hS ?_
      try simp only [List.setIfInBounds_toArray, List.set_cons_zero, List.set_cons_succ]
      refine take_atK (i := 1) 23 (.int .i64 (i : Int)) [3, 4, 7] rfl rfl (by kernel_rfl) (by decide) (by decide) (by kernel_rfl) (by kernel_rfl) (by kernel_rfl) (by kernel_rfl) (fun _ _ _ h => h) (Or.inl ⟨by rfl, fun W hW => by have hc := (k1.below hW.1 (by omega)).cell 0; go_simp⟩) hS ?_
      try simp only [List.setIfInBounds_toArray, List.set_cons_zero, List.set_cons_succ]
      refine take_atK (i := 2) 24 (.int .i64 (k : Int)) [3, 4, 7] rfl rfl (by kernel_rfl) (by decide) (by decide) (by kernel_rfl) (by kernel_rfl) (by kernel_rfl) (by kernel_rfl) (fun _ _ _ h => h) (Or.inl ⟨by rfl, fun W hW => by go_simp⟩) hS ?_
      try simp only [List.setIfInBounds_toArray, List.set_cons_zero, List.set_cons_succ]
      refine take_atK (i := 3) 25 (.int .i64 ((i : Int) + (k : Int))) [4, 7] rfl rfl (by kernel_rfl) (by decide) (by decide) (by kernel_rfl) (by kernel_rfl) (by kernel_rfl) (by kernel_rfl) (fun _ _ _ h => h) (Or.inl ⟨by rfl, fun W hW => by go_simp⟩) hS ?_
      try simp only [List.setIfInBounds_toArray, List.set_cons_zero, List.set_cons_succ]
      refine take_atK (i := 4) 26 (.agg #[.int .i64 ((i : Int) + (k : Int)), .int .i64 1]) [7] rfl rfl (by kernel_rfl) (by decide) (by decide) (by kernel_rfl) (by kernel_rfl) (by kernel_rfl) (by kernel_rfl) (fun _ _ _ h => h) (Or.inl ⟨by rfl, fun W hW => exec_build _ 106 #[(0, .tmp 25), (1, .const (.int .i64 1))] rfl #[(0, .int .i64 ((i : Int) + (k : Int))), (1, .int .i64 1)] rfl _ (build106 _ _)⟩) hS ?_
      try simp only [List.setIfInBounds_toArray, List.set_cons_zero, List.set_cons_succ]
      refine take_atK (i := 5) 27 (.agg (A8 16 (I k))) [6, 7] rfl rfl (by kernel_rfl) (by decide) (by decide) (by kernel_rfl) (by kernel_rfl) (by kernel_rfl) (by kernel_rfl) (fun _ _ _ h => h) (Or.inl ⟨by rfl, fun W hW => exec_load_blk hW.2.2⟩) hS ?_
      try simp only [List.setIfInBounds_toArray, List.set_cons_zero, List.set_cons_succ]
      refine wpAnyK_ready (rs := [6]) (by kernel_rfl) (by simp) ?_
      refine AllReadyK.cons rfl (fun K hK => ?_) AllReadyK.nil
      go_simp
      refine (leaf_any (I k) _).mono ?_
      rintro e X1 ⟨rfl, hb⟩
      refine hK.out _ _ (⟨hS.1.trans (hb.mono (by have := hS.1.size; omega)), hS.2.1.below hb (by have := hS.1.size; omega), hS.2.2.below hb hS.2.2.lt⟩) (fun hS => ?_)
      clear hK K
      clear hb
      try simp only [Act.put, List.getElem_toArray, List.getElem_cons_succ, List.getElem_cons_zero, List.setIfInBounds_toArray, List.set_cons_zero, List.set_cons_succ]
      refine storeK (by kernel_rfl) (by decide) rfl rfl (fun K hK => ?_)
      go_simp
      refine (put_any β β (F.length + k) (F.length + k) _ _ _ _ _ _ _ _ _ _ _ _ _ (Nat.le_refl _) (by omega) (by omega) hS.2.1.blk hS.2.1.r33 hS.2.1.r80).mono ?_
      rintro e Y9 ⟨⟨v9, rfl⟩, vb1, vb2, vb3, vt1, vt2, vt3, nb, n33, n80, pt⟩
      have hS0 := hS
      refine hK.out _ _ ?_
      clear hK K
      have hS : True := trivial
      clear hS
      try simp only [Act.put, List.getElem_toArray, List.getElem_cons_succ, List.getElem_cons_zero, List.setIfInBounds_toArray, List.set_cons_zero, List.set_cons_succ]
      refine wpAnyH_done (by kernel_rfl) ?_ _
      go_wp2_with fail
      have hB9 := hS0.1.trans pt.below
      have n33' : Y9.ownsRow β 106 2 (.slice vb1 vb2 vb3) (F.length + (k + 1)) (cellsOf F ++ cellsOf (singles i (k + 1))) := by rw [singles_succ, cellsOf_append, cellsOf_single, ← List.append_assoc]; exact n33
      exact ⟨⟨k + 1, snocT (F.length + k) T' (leafD (I k)), vb1, vb2, vb3, vt1, vt2, vt3, by omega, by go_num, hide (fun j hj => if hj2 : j < F.length + k then (by rw [snocT, if_pos hj2]; exact HT.out j hj2) else (by rw [snocT, if_neg hj2, mixT, if_neg (by omega), if_pos (by omega), show j - F.length = k by omega])), ⟨nb, n33', n80, hS0.2.1.digs.trans pt.below⟩, hB9⟩, by simp [intOf]; omega⟩
    · obtain rfl : k = K := by omega
      have hlt1 : ¬ (k : Int) < (k : Int) := by omega
      have hTr : TabAt 3 Lib.deBruijn64tab wr := fun j hj => (hB.cell (p := ⟨3, j, none⟩) (by simp; omega)).trans (hTW.out j hj)
      have c1 := (k1.below hB (by omega)).cell 0
      have c2 := (k2.below hB (by omega)).cell 0
      have c3 := (k3.below hB (by omega)).cell 0
      have R2 := hide (RB.out wr (L - F.length) (F.length + k) q1 p1 _ _ _ _ _ _ _ _ _ (by omega) (by omega) hTr hf)
      have lw := hf.blk.lt
      have hik : (i : Int) + (k : Int) ≤ 1099511627776 := by omega
      clear hf hTr RB
      go_wp2_with fail
      refine R2.out.mono ?_
      rintro e W4 (⟨hlt, rfl, hb⟩ | ⟨hle2, ⟨v2, rfl⟩, hb, hh1, hh2, hkeep, p2, q2, bp2, bn2, bc2, tp2, tn2, tc2, hf4⟩)
      · have hB4 := hB.trans hb
        clear hik
        go_wp2_with fail
        exact ⟨rfl, .inr ⟨fun h => by omega, rfl⟩, by simpa only [hwβ] using hB4⟩
      have hB4 := hB.trans hb
      have fn : FtI β (F ++ singles i k ++ G) (mixT F.length k D I) _ _ _ _ _ W4 := Forest.ftI (A := F ++ singles i k ++ G) (by rw [cellsOf_append, cellsOf_append]; exact hf4) (by rw [List.length_append, List.length_append, singles_length]) (by rw [List.length_append, List.length_append, singles_length]) (fun j hj => by
        rw [joinT]
        split
        · exact HT.out j (by omega)
        · rw [mixT, if_neg (by omega), if_neg (by omega), show F.length + (j - (F.length + k)) = j - k by omega])
      have cd := hf4.blk.cell 0
      have DN := hide (done_any β _ _ _ W4 cd)
      clear hb R2 hf4 hkeep hh1 hh2 cd c1 c2 c3 hik
      go_wp2_with fail
      refine DN.out.mono ?_
      rintro e W5 ⟨⟨hl0, v3, rfl⟩ | ⟨hl0, rfl⟩, hb⟩
      rotate_left
      · have hB5 := hB4.trans (hb.mono (by have := hB4.size; omega))
        go_wp2_with fail
        exact ⟨rfl, .inr ⟨fun h => by omega, rfl⟩, by simpa only [hwβ] using hB5⟩
      have hB5 := hB4.trans (hb.mono (by have := hB4.size; omega))
      replace fn := fn.below hb
      have c3 := (k3.below hB5 (by omega)).cell 0
      have k4' := k4.below hB5 (by omega)
      have IS := hide (is_any β n _ _ _ _ (F ++ singles i k ++ G) (mixT F.length k D I) d root _ W5 hn (by rw [List.length_append, List.length_append, singles_length]; omega) HG.out fn)
      clear hb DN fn
      go_wp2_with (refine wp_loadRow rfl 23 _ rfl g4 rfl k4' Tryd.underlying23 rfl size23 (A8.size _ _) ?_)
      refine IS.out.mono ?_
      rintro e W6 ⟨⟨h1, v4, rfl⟩ | ⟨h1, rfl⟩, hb⟩
      rotate_left
      · have hB6 := hB5.trans (hb.mono (by have := hB5.size; omega))
        go_wp2_with fail
        exact ⟨rfl, .inr ⟨fun h => (by rw [h1] at h; cases h.2), rfl⟩, by simpa only [hwβ] using hB6⟩
      have hB6 := hB5.trans (hb.mono (by have := hB5.size; omega))
      go_wp2_with fail
      go_end0
      exact ⟨.inl ⟨⟨by omega, h1⟩, _, rfl⟩, by simpa only [hwβ] using hB6⟩
end Go.Proofs.YtdpgebifeaakjaaDoor
