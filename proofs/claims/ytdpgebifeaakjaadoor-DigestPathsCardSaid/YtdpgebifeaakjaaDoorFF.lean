/- The body of DigestFrontiers. -/
import Derived.Test.YtdpgebifeaakjaaDoorFT
namespace Go.Proofs.YtdpgebifeaakjaaDoor
set_option linter.unusedSimpArgs false
set_option linter.unusedVariables false
open Go.RowKit

theorem digC_range {W : World} {b : Nat} {d : Nat → BitVec 8} {e : Int} {t : TypeId} (h : Blk W b (digC d e) t) : W.rangeAt b 0 (A8 16 d).toList :=
  Blk.rangeAt (F := fun i => if i < 16 then U8 (d i) else .int .i64 e) h 0 16 (fun i => U8 (d i)) (by omega) fun j hj => by
    rw [Nat.zero_add, if_pos hj]
theorem frB_spec {N : Int} {n : Nat} (h : frB N n = true) : ∃ a : Nat, N = (a : Int) ∧ a ≤ 1099511627776 ∧ n = pcN 64 a := by
  unfold frB at h
  rw [Bool.and_eq_true, Bool.and_eq_true] at h
  obtain ⟨⟨h1, h2⟩, h3⟩ := h
  have h1 := of_decide_eq_true h1
  have h2 := of_decide_eq_true h2
  have h3 := eq_of_beq h3
  obtain ⟨a, rfl⟩ := Int.eq_ofNat_of_zero_le h1
  rw [Int.toNat_natCast] at h3
  exact ⟨a, rfl, by omega, by omega⟩
theorem grow_both (N : Int) (p : Option Addr) (n cap : Nat) (D : Nat → Nat → BitVec 8) (d : Nat → BitVec 8) (w : World) (hv : Digs w (.slice p n cap) n D) (hKK : KAt w) :
    ∃ (gN : Int) (gk : Nat) (gT : Nat → Nat → BitVec 8) (ge : Int), gk ≤ 1000 ∧
      (∀ W, Below w.heap.size w W → Calls Tryd.prog 53 #[.agg #[.int .i64 N, .slice p n cap], .agg (A8 16 d)] W fun e w' => ∃ r1 r2 r3, e = .returned (.tuple #[.agg #[.int .i64 gN, .slice r1 r2 r3], .int .i64 ge]) ∧ Digs w' (.slice r1 r2 r3) gk gT ∧ Below W.heap.size W w') ∧
      (∀ W, Below w.heap.size w W → Calls Tryd.prog 54 #[.agg #[.int .i64 N, .slice p n cap], .agg (A8 16 d)] W fun e w' => ∃ r1 r2 r3, e = .returned (.agg #[.int .i64 gN, .slice r1 r2 r3, .int .i64 ge]) ∧ Digs w' (.slice r1 r2 r3) gk gT ∧ Below W.heap.size W w') := by
  cases hf : frB N n with
  | false =>
    exact ⟨0, 0, D, 2, by omega, fun W hB => (grow_bad N p n cap d W hf).mono fun e w' ⟨h1, h2⟩ => ⟨_, _, _, h1, digs_nil _ _, h2⟩, fun W hB => (rgrow_bad N p n cap d W hf).mono fun e w' ⟨h1, h2⟩ => ⟨_, _, _, h1, digs_nil _ _, h2⟩⟩
  | true =>
    obtain ⟨a, rfl, ha, hn⟩ := frB_spec hf
    by_cases hl : a = 1099511627776
    · subst hl
      exact ⟨0, 0, D, 3, by omega, fun W hB => (grow_lim p n cap d W hf).mono fun e w' ⟨h1, h2⟩ => ⟨_, _, _, h1, digs_nil _ _, h2⟩, fun W hB => (rgrow_lim p n cap d W hf).mono fun e w' ⟨h1, h2⟩ => ⟨_, _, _, h1, digs_nil _ _, h2⟩⟩
    · have hgk : ∀ (f m k : Nat) (T : Nat → Nat → BitVec 8) (x : Nat → BitVec 8), (growF f m k T x).1 ≤ k := by
        intro f
        induction f with
        | zero => intro m k T x; exact Nat.le_refl _
        | succ f ih =>
          intro m k T x
          rw [growF]
          split
          · exact Nat.le_trans (ih _ _ _ _) (Nat.sub_le _ _)
          · exact Nat.le_refl _
      have h64 := pcN_le 64 a
      have hk := hgk 64 a n D (leafD d)
      refine ⟨(a : Int) + 1, (growF 64 a n D (leafD d)).1 + 1, snocT (growF 64 a n D (leafD d)).1 D (growF 64 a n D (leafD d)).2, 0, ?_, fun W hB => (grow_ok a n cap p D d W (by omega) hn (hv.below hB)).mono ?_, fun W hB => (rgrow_ok a n cap p D d W (by omega) hn (hv.below hB) (hKK.below hKK.pos hB)).mono ?_⟩
      · omega
      · rintro e w' ⟨r, rfl, h2, h3⟩
        obtain ⟨q, c, rfl, _⟩ := id h2
        exact ⟨_, _, _, rfl, h2, h3⟩
      · rintro e w' ⟨r, rfl, h2, h3⟩
        obtain ⟨q, c, rfl, _⟩ := id h2
        exact ⟨_, _, _, rfl, h2, h3⟩
theorem top_both (N : Int) (p : Option Addr) (n cap : Nat) (D : Nat → Nat → BitVec 8) (w : World) (hv : Digs w (.slice p n cap) n D) (hKK : KAt w) :
    ∃ (Z : Nat → BitVec 8) (te : Int),
      (∀ W, Below w.heap.size w W → Calls Tryd.prog 55 #[.agg #[.int .i64 N, .slice p n cap]] W fun e w' => e = .returned (.tuple #[.agg (A8 16 Z), .int .i64 te]) ∧ Below W.heap.size W w') ∧
      (∀ W, Below w.heap.size w W → Calls Tryd.prog 56 #[.agg #[.int .i64 N, .slice p n cap]] W fun e w' => e = .returned (.agg (digC Z te)) ∧ Below W.heap.size W w') := by
  cases hf : frB N n with
  | false => exact ⟨_, 2, fun W hB => top_bad N p n cap W hf, fun W hB => rtop_bad N p n cap W hf⟩
  | true =>
    obtain ⟨a, rfl, ha, hn⟩ := frB_spec hf
    refine ⟨topZ a n D, 0, fun W hB => ?_, fun W hB => rtop_ok a n cap p D W ha hn (hv.below hB) (hKK.below hKK.pos hB)⟩
    by_cases h0 : a = 0
    · subst h0
      have hn0 : n = 0 := by rw [hn]; rfl
      subst hn0
      exact top_zero cap p W
    · rw [topZ, if_neg h0]
      have hpos : 0 < n := by
        have h1 := coverL_pc a 0 (by omega) (.inl rfl)
        rw [Nat.zero_add] at h1
        rw [hn, ← h1, coverL_cons (by omega)]
        exact Nat.succ_pos _
      exact top_ok a n cap p D W (by omega) ha hn hpos (hv.below hB)
set_option maxRecDepth 20000 in
set_option maxHeartbeats 2000000 in
theorem frontiers_any (N : Int) (p : Option Addr) (n cap : Nat) (D : Nat → Nat → BitVec 8) (d : Nat → BitVec 8) (w : World) (hv : Digs w (.slice p n cap) n D) (hm : n ≤ maxLen) (hT : TabAt 3 Lib.deBruijn64tab w) (hKK : KAt w) (h3 : 3 < w.heap.size) :
    Calls Tryd.prog 12 #[.agg #[.int .i64 N, .slice p n cap], .agg (A8 16 d)] w fun e w' => e = .returned (.bool true) ∧ Below w.heap.size w w' := by
  have hbx := box23 d
  by_cases hn : 200 < n
  · have hh : (200 : Int) < (n : Int) := by omega
    have k0 := Blk.new (w) #[.int .i64 N, .slice p n cap] 94
    have k1 := Blk.new ((w).alloc (.cells #[.int .i64 N, .slice p n cap] 94)) (A8 16 d) 23
    rw [World.size_alloc] at k1
    replace k0 := k0.alloc (.cells (A8 16 d) 23)
    have hB : Below w.heap.size w (((w).alloc (.cells #[.int .i64 N, .slice p n cap] 94)).alloc (.cells (A8 16 d) 23)) := (((Below.refl _ w).alloc (Nat.le_refl _) _).alloc (by simp) _)
    obtain ⟨W0, hW0⟩ : ∃ W0, ((w).alloc (.cells #[.int .i64 N, .slice p n cap] 94)).alloc (.cells (A8 16 d) 23) = W0 := ⟨_, rfl⟩
    rw [hW0] at k0 k1 hB
    go_enter Tryd.func12, Tryd.ntmps12
    go_upto_region 1 with (fail)
    try rw [hW0]
    clear hW0 hbx
    have q1 := k0.cell 1
    go_wp2_with fail
    refine (sane_any _ (tabC hT h3 hB) (Nat.lt_of_lt_of_le h3 hB.size)).mono ?_
    rintro e W1 ⟨rfl, hb⟩
    go_wp2_with fail
    go_ret
    exact ⟨rfl, hB.trans (hb.mono hB.size)⟩
  · have hh : ¬ (200 : Int) < (n : Int) := by omega
    obtain ⟨gN, gk, gT, ge, hgk, b1, b2⟩ := grow_both N p n cap D d w hv hKK
    obtain ⟨Z, te, b3, b4⟩ := top_both N p n cap D w hv hKK
    have sn := fun (W : World) (hB : Below w.heap.size w W) => sane_any W (tabC hT h3 hB) (Nat.lt_of_lt_of_le h3 hB.size)
    have heq := eql_same (P := Tryd.prog) Tryd.underlying23 size5 Tryd.isAgg5 Tryd.underlying5 Z
    clear hv hm hn
    have k0 := Blk.new (w) #[.int .i64 N, .slice p n cap] 94
    have k1 := Blk.new ((w).alloc (.cells #[.int .i64 N, .slice p n cap] 94)) (A8 16 d) 23
    rw [World.size_alloc] at k1
    replace k0 := k0.alloc (.cells (A8 16 d) 23)
    have hB : Below w.heap.size w (((w).alloc (.cells #[.int .i64 N, .slice p n cap] 94)).alloc (.cells (A8 16 d) 23)) := (((Below.refl _ w).alloc (Nat.le_refl _) _).alloc (by simp) _)
    obtain ⟨W0, hW0⟩ : ∃ W0, ((w).alloc (.cells #[.int .i64 N, .slice p n cap] 94)).alloc (.cells (A8 16 d) 23) = W0 := ⟨_, rfl⟩
    rw [hW0] at k0 k1 hB
    go_enter Tryd.func12, Tryd.ntmps12
    go_upto_region 1 with (fail)
    try rw [hW0]
    clear hW0 hbx
    have q1 := k0.cell 1
    go_wp2_with (first | (refine wp_loadRow rfl 94 _ rfl w.heap.size rfl k0 Tryd.underlying94 rfl size94 rfl ?_) | (refine wp_loadRow rfl 23 _ rfl (w.heap.size + 1) rfl k1 Tryd.underlying23 rfl size23 (A8.size _ _) ?_))
    refine (b1 _ hB).mono ?_
    rintro e W1 ⟨r1, r2, r3, rfl, d1, hb⟩
    replace k0 := k0.below hb k0.lt
    replace k1 := k1.below hb k1.lt
    replace hB := hB.trans (hb.mono hB.size)
    clear hb b1
    go_upto_region 4 with (fail)
    have k5 := Blk.new W1 #[.int .i64 gN, .slice r1 r2 r3] 94
    have hb : Below W1.heap.size W1 (W1.alloc (.cells #[.int .i64 gN, .slice r1 r2 r3] 94)) := (Below.refl _ _).alloc (Nat.le_refl _) _
    generalize W1.alloc (.cells #[.int .i64 gN, .slice r1 r2 r3] 94) = W2 at k5 hb ⊢
    replace k0 := k0.below hb k0.lt
    replace k1 := k1.below hb k1.lt
    replace d1 := d1.below hb
    replace hB := hB.trans (hb.mono hB.size)
    clear hb
    go_wp2_with (first | (refine wp_loadRow rfl 94 _ rfl w.heap.size rfl k0 Tryd.underlying94 rfl size94 rfl ?_) | (refine wp_loadRow rfl 23 _ rfl (w.heap.size + 1) rfl k1 Tryd.underlying23 rfl size23 (A8.size _ _) ?_))
    refine (b2 _ hB).mono ?_
    rintro e W3 ⟨s1, s2, s3, rfl, d2, hb⟩
    replace k0 := k0.below hb k0.lt
    replace k1 := k1.below hb k1.lt
    replace k5 := k5.below hb k5.lt
    replace d1 := d1.below hb
    replace hB := hB.trans (hb.mono hB.size)
    clear hb b2 k1
    go_upto_region 5 with (fail)
    have k7 := Blk.new W3 #[.int .i64 gN, .slice s1 s2 s3, .int .i64 ge] 98
    have hb : Below W3.heap.size W3 (W3.alloc (.cells #[.int .i64 gN, .slice s1 s2 s3, .int .i64 ge] 98)) := (Below.refl _ _).alloc (Nat.le_refl _) _
    generalize W3.alloc (.cells #[.int .i64 gN, .slice s1 s2 s3, .int .i64 ge] 98) = W4 at k7 hb ⊢
    replace k0 := k0.below hb k0.lt
    replace k5 := k5.below hb k5.lt
    replace d1 := d1.below hb
    replace d2 := d2.below hb
    replace hB := hB.trans (hb.mono hB.size)
    clear hb
    go_wp2_with (refine wp_loadRow rfl 94 _ rfl w.heap.size rfl k0 Tryd.underlying94 rfl size94 rfl ?_)
    refine (b3 _ hB).mono ?_
    rintro e W5 ⟨rfl, hb⟩
    replace k0 := k0.below hb k0.lt
    replace k5 := k5.below hb k5.lt
    replace k7 := k7.below hb k7.lt
    replace d1 := d1.below hb
    replace d2 := d2.below hb
    replace hB := hB.trans (hb.mono hB.size)
    clear hb b3
    have n8 := Blk.new W5 (A8 16 fun _ => 0#8) 23
    have k0a := (k0.alloc (.cells (A8 16 fun _ => 0#8) 23))
    have l0 := k0.lt
    go_wp2_with (first | (refine wp_storeRow (C' := A8 16 Z) rfl 23 _ _ rfl _ rfl rfl n8 size23 (A8.size _ _) (A8.size _ _) (A8.one _) rfl ?_; intro W6 hu k8; have k0b := k0a.upd hu (by omega)) | (refine wp_loadRow rfl 94 _ rfl w.heap.size rfl k0b Tryd.underlying94 rfl size94 rfl ?_))
    clear n8 k0a k0b l0
    have hb : Below W5.heap.size W5 W6 := hu.below ((Below.refl _ _).alloc (Nat.le_refl _) _) (Nat.le_refl _)
    replace k0 := k0.below hb k0.lt
    replace k5 := k5.below hb k5.lt
    replace k7 := k7.below hb k7.lt
    replace d1 := d1.below hb
    replace d2 := d2.below hb
    replace hB := hB.trans (hb.mono hB.size)
    clear hb hu
    refine (b4 _ hB).mono ?_
    rintro e W7 ⟨rfl, hb⟩
    replace k5 := k5.below hb k5.lt
    replace k7 := k7.below hb k7.lt
    replace k8 := k8.below hb k8.lt
    replace d1 := d1.below hb
    replace d2 := d2.below hb
    replace hB := hB.trans (hb.mono hB.size)
    clear hb b4 k0
    have n10 := Blk.new W7 (digC (fun _ => 0#8) 0) 29
    go_wp2_with (refine wp_storeRow (C' := digC Z te) rfl 29 _ _ rfl _ rfl rfl n10 size29 (digC_size _ _) (digC_size _ _) (digC_one _ _) rfl ?_; intro W8 hu k10)
    clear n10
    have hb : Below W7.heap.size W7 W8 := hu.below ((Below.refl _ _).alloc (Nat.le_refl _) _) (Nat.le_refl _)
    replace k5 := k5.below hb k5.lt
    replace k7 := k7.below hb k7.lt
    replace k8 := k8.below hb k8.lt
    replace d1 := d1.below hb
    replace d2 := d2.below hb
    replace hB := hB.trans (hb.mono hB.size)
    clear hb hu
    refine (sn _ hB).mono ?_
    rintro e W9 ⟨rfl, hb⟩
    replace k5 := k5.below hb k5.lt
    replace k7 := k7.below hb k7.lt
    replace k8 := k8.below hb k8.lt
    replace k10 := k10.below hb k10.lt
    replace d1 := d1.below hb
    replace d2 := d2.below hb
    replace hB := hB.trans (hb.mono hB.size)
    clear hb sn
    have q50 := k5.cell 0; have q51 := k5.cell 1; have q70 := k7.cell 0; have q71 := k7.cell 1; have q72 := k7.cell 2
    go_wp2_with fail
    refine (same_any gk gT _ _ _ (by omega) d1 d2).mono ?_
    rintro e W10 ⟨rfl, hb⟩
    replace k5 := k5.below hb k5.lt
    replace k7 := k7.below hb k7.lt
    replace k8 := k8.below hb k8.lt
    replace k10 := k10.below hb k10.lt
    replace hB := hB.trans (hb.mono hB.size)
    clear hb q50 q51 q70 q71 q72 d1 d2
    have q72 := k7.cell 2
    have q10 : W10.cell? ⟨W7.heap.size, 16, none⟩ = some (.int .i64 te) := by rw [k10.cell, digC, Row.get _ (by omega)]; rfl
    have r8 := run_loadVar_Blk (P := Tryd.prog) k8 Tryd.underlying23 rfl size23 (A8.size _ _)
    have r10 := run_loadVar_mid W10 W7.heap.size 0 23 (A8 16 Z).toList _ (digC_range k10) Tryd.underlying23 rfl (by rw [Array.length_toList, A8.size]; exact size23)
    rw [Array.toArray_toList] at r10
    go_wp2_with (first | (refine wp_loadRun (by rfl) 23 _ rfl _ 0 rfl r8 ?_) | (refine wp_loadRun (by rfl) 23 _ rfl _ 0 rfl r10 ?_))
    go_ret
    exact ⟨rfl, hB⟩
end Go.Proofs.YtdpgebifeaakjaaDoor
