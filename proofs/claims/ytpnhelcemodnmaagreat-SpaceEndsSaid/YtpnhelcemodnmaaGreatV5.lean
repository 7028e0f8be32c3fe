/- Texts put together for one claim: part 5. -/
import Derived.BigQuiet
import Derived.Test.YtpnhelcemodnmaaGreatV4
namespace Go.Proofs.YtpnhelcemodnmaaGreat.PA
open Go.RowKit Go.Proofs.YtpnhelcemodnmaaGreatW.PrintWords Go.Proofs.YtpnhelcemodnmaaGreatW.PrintLast Go.Proofs.YtpnhelcemodnmaaGreatW.PrintMore
attribute [local go_sem] z1c z1d z1e z1f z1i z1j z1k z1l
set_option linter.unusedVariables false
set_option linter.unusedSimpArgs false
mutual
def understoryref12_cut.l0 : Nat → List (S64) → Int → List (S64) → Int → Option ((List (S64)))
 | 0, _, _, _, _ => none
 | k + 1, x0, x1, x5, x6 => if x6 < (x0.length : Int) then (if 0 ≤ x6 then (understoryref12_cut.l1 k x0 x1 x5 x6 0 ((rd_T64 x0 x6).f0) ([] : List Int)) else (none)) else (some x5)
def understoryref12_cut.l1 : Nat → List (S64) → Int → List (S64) → Int → Int → Int → List Int → Option ((List (S64)))
 | 0, _, _, _, _, _, _, _ => none
 | k + 1, x0, x1, x5, x6, x8, x379000, x379001 => if 0 ≤ x6 then (if x6 < (x0.length : Int) then (if x8 < (((rd_T64 x0 x6).f1).length : Int) then (if 0 ≤ x8 then (if (rd ((rd_T64 x0 x6).f1) x8) < x1 then (if x379001.length < 17592186044416 then (understoryref12_cut.l1 k x0 x1 x5 x6 (wrap64 (x8 + 1)) x379000 (x379001 ++ [rd ((rd_T64 x0 x6).f1) x8])) else (none)) else (understoryref12_cut.l1 k x0 x1 x5 x6 (wrap64 (x8 + 1)) x379000 x379001)) else (none)) else (if (x379001.length : Int) > 0 then (if x5.length < 4398046511104 then (understoryref12_cut.l0 k x0 x1 (x5 ++ [(⟨x379000, x379001⟩ : S64)]) (wrap64 (x6 + 1))) else (none)) else (understoryref12_cut.l0 k x0 x1 x5 (wrap64 (x6 + 1))))) else (none)) else (none)
end
def understoryref12_cut.f (k : Nat) (l0 : List (S64)) (a1 : Int) : Option ((List (S64))) := understoryref12_cut.l0 k l0 a1 ([] : List (S64)) 0
theorem understoryref12_cut.mono_l : ∀ k, (∀ y0 y1 y2 y3, LeO (understoryref12_cut.l0 k y0 y1 y2 y3) (understoryref12_cut.l0 (k + 1) y0 y1 y2 y3)) ∧ (∀ y0 y1 y2 y3 y4 y5 y6, LeO (understoryref12_cut.l1 k y0 y1 y2 y3 y4 y5 y6) (understoryref12_cut.l1 (k + 1) y0 y1 y2 y3 y4 y5 y6))
 | 0 => ⟨fun _ _ _ _ r h => by simp [understoryref12_cut.l0] at h, fun _ _ _ _ _ _ _ r h => by simp [understoryref12_cut.l1] at h⟩
 | k + 1 => by
  obtain ⟨ih0, ih1⟩ := understoryref12_cut.mono_l k
  refine ⟨?_, ?_⟩
  ·intro y0 y1 y2 y3
   unfold understoryref12_cut.l0
   repeat' first
   | (with_reducible exact ih0 _ _ _ _)
   | (with_reducible exact ih1 _ _ _ _ _ _ _)
   | (with_reducible exact LeO.refl _)
   | (with_reducible exact LeO.none _)
   | (with_reducible refine LeO.ite ?_ ?_)
   | (with_reducible refine LeO.bind ?_ (fun _ => ?_))
   | exact ih0 _ _ _ _
   | exact ih1 _ _ _ _ _ _ _
   | exact LeO.none _
   | refine LeO.ite ?_ ?_
   | refine LeO.bind ?_ (fun _ => ?_)
  ·intro y0 y1 y2 y3 y4 y5 y6
   unfold understoryref12_cut.l1
   repeat' first
   | (with_reducible exact ih0 _ _ _ _)
   | (with_reducible exact ih1 _ _ _ _ _ _ _)
   | (with_reducible exact LeO.refl _)
   | (with_reducible exact LeO.none _)
   | (with_reducible refine LeO.ite ?_ ?_)
   | (with_reducible refine LeO.bind ?_ (fun _ => ?_))
   | exact ih0 _ _ _ _
   | exact ih1 _ _ _ _ _ _ _
   | exact LeO.none _
   | refine LeO.ite ?_ ?_
   | refine LeO.bind ?_ (fun _ => ?_)
theorem understoryref12_cut.mono : ∀ a0 a1 k, LeO (understoryref12_cut.f k a0 a1) (understoryref12_cut.f (k + 1) a0 a1) := by
 intro a0 a1 k
 obtain ⟨ih0, ih1⟩ := understoryref12_cut.mono_l k
 unfold understoryref12_cut.f
 repeat' first
   | (with_reducible exact ih0 _ _ _ _)
   | (with_reducible exact ih1 _ _ _ _ _ _ _)
   | (with_reducible exact LeO.refl _)
   | (with_reducible exact LeO.none _)
   | (with_reducible refine LeO.ite ?_ ?_)
   | (with_reducible refine LeO.bind ?_ (fun _ => ?_))
   | exact ih0 _ _ _ _
   | exact ih1 _ _ _ _ _ _ _
   | exact LeO.none _
   | refine LeO.ite ?_ ?_
   | refine LeO.bind ?_ (fun _ => ?_)
def understoryref12_cut.T10 : Bool × List (List Nat × List Nat) := (true, [([], []), ([0], [0]), ([], []), ([], []), ([2, 3], [2, 3]), ([4], [4]), ([5], [5]), ([], []), ([6, 7], [6, 7]), ([8], [8]), ([9], [9]), ([1, 10], [1, 10]), ([0, 1, 2, 3, 4, 5, 6, 7, 8, 9, 10, 11], []), ([12, 11, 11, 0, 1, 2, 3, 4, 5, 6, 7, 8, 9, 10, 11], [11, 12])])
def understoryref12_cut.B10 : List Nat := [0, 1, 0, 0, 12, 28, 60, 0, 252, 508, 1020, 2047, 4095, 8191]
theorem understoryref12_cut.tab10 : rtab .any (opsOf Tryz.f62 10) = understoryref12_cut.T10 := by kernel_rfl
theorem understoryref12_cut.bits10 : waitsOk understoryref12_cut.T10.2 understoryref12_cut.B10 = true := by kernel_rfl
set_option maxHeartbeats 8000000 in
set_option maxRecDepth 100000 in
theorem understoryref12_cut.calls (k : Nat) (A0 : Option Addr) (c0 : Nat) (l0 : List (S64)) (a1 : Int) (r : List (S64)) (w : World) (hr0 : Kd.C k64 w A0 l0.length l0) (hc0 : l0.length ≤ c0) (h : understoryref12_cut.f k l0 a1 = some r) :
  Calls Tryz.prog 62 #[.slice A0 l0.length c0, .int .i64 a1] w fun e w' => ∃ v0_ : Value, e = .returned (v0_) ∧ Kd.S k64 64 w' w.heap.size (fun _ => True) v0_ r ∧ Below w.heap.size w w' := by
 have hu64 := Tryz.underlying64
 have HR0 := Aside0.mk hr0
 have HC0 := Aside0.mk hc0
 clear hr0 hc0
 have HB := Aside0.mk (Below.refl w.heap.size w)
 have H : (understoryref12_cut.l0 k l0 a1 ([] : List (S64)) 0) = some r := h
 clear h
 have H' := Aside0.mk H
 clear H
 go_enter Tryz.func62, Tryz.ntmps62
 go_wp2
 go_loopg [5, 6] k (fun kq v5 v6 w' => ∃ (x5_1 : List (S64)) (x6_1 : Int), v6 = .int .i64 x6_1 ∧ Aside0 (understoryref12_cut.l0 kq l0 a1 x5_1 x6_1 = some r) ∧ Aside0 (kq ≤ k) ∧ Aside0 (Kd.S k64 64 w' w.heap.size (fun _ => True) v5 x5_1) ∧ Aside0 (Below w.heap.size w w'))
 case atStart => exact ⟨(([] : List (S64))), (0), (by first | rfl | (simp; done) | (simp [*]; done)), H', ⟨Nat.le_refl _⟩, ⟨by first | exact Kd.S_nil _ _ _ _ _ | exact Kd.N_nil _ _ _ _ _ | exact Kd.V_nil _ _ _ _ _ | exact Kd.Q_nil _ _ _ _ _ | exact Kd.R_nil _ _ _ _ _⟩, ⟨by repeat (first | (with_reducible first | exact HB.out | apply z0f | apply z0c | apply z0e) | exact HB.out)⟩⟩
 case round =>
  clear H'
  try clear p2
  obtain ⟨x5_1, x6_1, rfl, HA, HK1, HO_5, HB⟩ := hrel
  cases gk with
  | zero => exact absurd HA.out (by simp [understoryref12_cut.l0])
  | succ k1 =>
   have H := HA.out
   clear HA
   simp only [understoryref12_cut.l0] at H
   by_cases c3 : x6_1 < (l0.length : Int)
   ·rw [if_pos c3] at H
    have c3b0 : decide (x6_1 < (l0.length : Int)) = true := decide_eq_true c3
    clear c3
    by_cases c4 : 0 ≤ x6_1
    ·rw [if_pos c4] at H
     have c4b0 : decide (0 ≤ x6_1) = true := decide_eq_true c4
     clear c4
     have H' := Aside0.mk H
     clear H
     have p377 : 0 ≤ (x6_1 : Int) := of_decide_eq_true (by first | (with_reducible assumption) | assumption)
     have q377 : x6_1 < (l0.length : Int) := of_decide_eq_true (by first | (with_reducible assumption) | assumption)
     obtain ⟨ad377, A377_1, c377_1, e377, hx377_0, hx377_1, hl377_1, hi377_1⟩ := z0n HR0.out x6_1 p377 q377
     cases e377
     replace hx377_0 := (HB.out.cell (World.block_lt_of_cell? w _ hx377_0)).trans hx377_0
     replace hx377_1 := (HB.out.cell (World.block_lt_of_cell? w _ hx377_1)).trans hx377_1
     have HR377_1 := Aside0.mk hi377_1
     have HC377_1 := Aside0.mk hl377_1
     clear hi377_1 hl377_1
     replace p377 := eq_true p377
     replace q377 := eq_true q377
     go_wp2_with (first | ((with_reducible refine z01 (N := 7) rfl ?_); refine z06 ?hg (N := 7) ?hd (cs := #[.int .i64 0, .slice none 0 0]) (t := 64) ?hr ?_; (case hd => rfl); (case hg => rfl); (case hr => first | (go_simp; done) | (go_simp; rfl)); intro gb378 hg w5 hbox hb; have n0_ := Aside0.mk (Kd.S_below (Kd.S_elderB (by (with_reducible repeat (first | apply Kd.S_alloc | apply Kd.S_drewN | apply Kd.S_drew)); exact HO_5.out) gb378 (Nat.le_of_eq hg.symm)) hb); have n1_ := Aside0.mk (z04 (by repeat (first | (with_reducible first | exact HB.out | apply z0f | apply z0c | apply z0e) | exact HB.out)) hb); have n2_ := Aside0.mk (hbox); have n3_ := Aside0.mk ((by rw [hg]; exact (z0m (by repeat (first | (with_reducible first | exact HB.out | apply z0f | apply z0c | apply z0e) | exact HB.out))) : w.heap.size ≤ gb378)); have n4_ := Aside0.mk ((by rw [hg]; exact (z0m (by repeat (first | (with_reducible first | exact HB.out | apply z0f | apply z0c | apply z0e) | exact HB.out))) : w.heap.size ≤ gb378)); clear HO_5; clear HB; have HO_5 := n0_; have HB := n1_; have BK378 := n2_; have GW378 := n3_; have GE378 := n4_; clear n0_ n1_ n2_ n3_ n4_; clear hb hbox hg; have hcz6_0 : w5.cell? ⟨gb378, 0, none⟩ = some (.int .i64 0) := (z0a BK378.out 0).trans rfl; have hcz6_1 : w5.cell? ⟨gb378, 1, none⟩ = some (.slice none 0 0) := (z0a BK378.out 1).trans rfl; have hfz6_0 := z0d BK378.out 0; have hfz6_1 := z0d BK378.out 1))
     go_loopg [8] k1 (fun kq v8 w' => ∃ (x8_2 : Int) (x379001_2 : List Int) (u379001 : Value), v8 = .int .i64 x8_2 ∧ Aside0 (understoryref12_cut.l1 kq l0 a1 x5_1 x6_1 x8_2 ((rd_T64 l0 x6_1).f0) x379001_2 = some r) ∧ Aside0 (kq ≤ k1) ∧ Aside0 (Kd.S k64 64 w' w.heap.size (fun k_ => some k_ ≠ (u379001 : Value).ownBlock ∧ k_ ≠ gb378) u5 x5_1) ∧ Aside0 (Kd.R (Kd.int .i64) 3 w' w.heap.size (fun _ => True) u379001 x379001_2) ∧ Aside0 (w'.heap[gb378]? = some (.cells #[.int .i64 ((rd_T64 l0 x6_1).f0), u379001] 64 (0, 0))) ∧ Aside0 (Below w.heap.size w w'))
     case atStart => exact ⟨(0), (([] : List Int)), (.slice none 0 0), (by first | rfl | (simp; done) | (simp [*]; done)), H', ⟨Nat.le_refl _⟩, ⟨by (with_reducible repeat (first | apply Kd.S_alloc | apply Kd.S_drewN | apply Kd.S_drew)); exact Kd.S_mono (Kd.S_far (p := ⟨gb378, 1, none⟩) (Kd.S_far (p := ⟨gb378, 0, none⟩) (Kd.S_mono HO_5.out (fun k_ hk => (⟨hk, hk.2⟩ : _ ∧ k_ ≠ gb378))) (fun _ hk => hk.2) (.int .i64 ((rd_T64 l0 x6_1).f0))) (fun _ hk => hk.2) (.slice none 0 0)) (fun _ hk => ⟨(by simp [Value.ownBlock]), hk.1.2⟩)⟩, ⟨by first | exact Kd.R_nil _ _ _ _ _ | exact Kd.N_nil _ _ _ _ _ | exact Kd.V_nil _ _ _ _ _ | exact Kd.Q_nil _ _ _ _ _ | exact Kd.S_nil _ _ _ _ _⟩, ⟨by (with_reducible repeat (first | refine z0p ?_ _ | refine z0x ?_ | refine z0j ?_ _)); refine z0k (cs := #[.int .i64 ((rd_T64 l0 x6_1).f0), .slice none 0 0]) ?_ 1 _ rfl; (with_reducible repeat (first | refine z0p ?_ _ | refine z0x ?_ | refine z0j ?_ _)); refine z0k (cs := #[.int .i64 0, .slice none 0 0]) ?_ 0 _ rfl; (with_reducible repeat (first | refine z0p ?_ _ | refine z0x ?_ | refine z0j ?_ _)); exact BK378.out⟩, ⟨by repeat (first | (with_reducible first | exact HB.out | apply z0f | apply z0c | apply z0e | refine z0z ?_ GE378.out) | exact HB.out)⟩⟩
     case round =>
      clear H'
      try clear p2
      try clear c3
      try clear c3b0
      try clear p3
      try clear q3
      try clear hx3
      try clear c4
      try clear c4b0
      try clear c6
      try clear hcz6_0
      try clear hcz6_1
      try clear hfz6_0
      try clear hfz6_1
      try clear hx377_0
      try clear hx377_1
      try clear p2
      try clear p377
      try clear q377
      obtain ⟨x8_2, x379001_2, u379001, rfl, HA, HK2, HO_5, HO_379001, BK378, HB⟩ := hrel
      cases gk with
      | zero => exact absurd HA.out (by simp [understoryref12_cut.l1])
      | succ k2 =>
       have H := HA.out
       clear HA
       simp only [understoryref12_cut.l1] at H
       by_cases c7 : 0 ≤ x6_1
       ·rw [if_pos c7] at H
        have c7b0 : decide (0 ≤ x6_1) = true := decide_eq_true c7
        clear c7
        by_cases c8 : x6_1 < (l0.length : Int)
        ·rw [if_pos c8] at H
         have c8b0 : decide (x6_1 < (l0.length : Int)) = true := decide_eq_true c8
         clear c8
         by_cases c9 : x8_2 < (((rd_T64 l0 x6_1).f1).length : Int)
         ·rw [if_pos c9] at H
          have c9b0 : decide (x8_2 < (((rd_T64 l0 x6_1).f1).length : Int)) = true := decide_eq_true c9
          clear c9
          by_cases c10 : 0 ≤ x8_2
          ·rw [if_pos c10] at H
           have c10b0 : decide (0 ≤ x8_2) = true := decide_eq_true c10
           clear c10
           by_cases c11 : (rd ((rd_T64 l0 x6_1).f1) x8_2) < a1
           ·rw [if_pos c11] at H
            have c11b0 : decide ((rd ((rd_T64 l0 x6_1).f1) x8_2) < a1) = true := decide_eq_true c11
            clear c11
            by_cases c12 : x379001_2.length < 17592186044416
            ·rw [if_pos c12] at H
             have LMc12 := Aside0.mk c12
             clear c12
             obtain ⟨y384, hy384⟩ : ∃ y_ : List Int, y_ = (x379001_2 ++ [rd ((rd_T64 l0 x6_1).f1) x8_2]) := ⟨_, rfl⟩
             replace H : (understoryref12_cut.l1 k2 l0 a1 x5_1 x6_1 (wrap64 (x8_2 + 1)) ((rd_T64 l0 x6_1).f0) y384) = some r := by first | (rw [hy384]; with_reducible exact H) | (have H2_ := (Option.bind_some _ _).symm.trans H; rw [hy384]; with_reducible exact H2_) | (have H2_ := (Option.bind_some _ _).symm.trans H; with_reducible exact H2_) | with_reducible exact H | (rw [hy384]; exact H) | exact H
             have Ny384 := Aside0.mk hy384
             clear hy384
             have H' := Aside0.mk H
             clear H
             have p379 : 0 ≤ (x6_1 : Int) := of_decide_eq_true (by first | (with_reducible assumption) | assumption)
             have q379 : x6_1 < (l0.length : Int) := of_decide_eq_true (by first | (with_reducible assumption) | assumption)
             obtain ⟨ad379, A379_1, c379_1, e379, hx379_0, hx379_1, hl379_1, hi379_1⟩ := z0n HR0.out x6_1 p379 q379
             obtain rfl : ad377 = ad379 := (by injection e379)
             replace hx379_0 := (HB.out.cell (World.block_lt_of_cell? w _ hx379_0)).trans hx379_0
             replace hx379_1 := (HB.out.cell (World.block_lt_of_cell? w _ hx379_1)).trans hx379_1
             have HR379_1 := Aside0.mk hi379_1
             have HC379_1 := Aside0.mk hl379_1
             clear hi379_1 hl379_1
             replace p379 := eq_true p379
             replace q379 := eq_true q379
             have p380 : 0 ≤ (x6_1 : Int) := of_decide_eq_true (by first | (with_reducible assumption) | assumption)
             have q380 : x6_1 < (l0.length : Int) := of_decide_eq_true (by first | (with_reducible assumption) | assumption)
             obtain ⟨ad380, A380_1, c380_1, e380, hx380_0, hx380_1, hl380_1, hi380_1⟩ := z0n HR0.out x6_1 p380 q380
             obtain rfl : ad377 = ad380 := (by injection e380)
             replace hx380_0 := (HB.out.cell (World.block_lt_of_cell? w _ hx380_0)).trans hx380_0
             replace hx380_1 := (HB.out.cell (World.block_lt_of_cell? w _ hx380_1)).trans hx380_1
             have HR380_1 := Aside0.mk hi380_1
             have HC380_1 := Aside0.mk hl380_1
             clear hi380_1 hl380_1
             replace p380 := eq_true p380
             replace q380 := eq_true q380
             have ea_ := Option.some.inj (hx379_1.symm.trans hx380_1)
             injection ea_ with ea_ en_ ec_
             subst ea_
             subst ec_
             clear en_
             have p381 : 0 ≤ (x8_2 : Int) := of_decide_eq_true (by first | (with_reducible assumption) | assumption)
             have q381 : x8_2 < (((rd_T64 l0 x6_1).f1).length : Int) := of_decide_eq_true (by first | (with_reducible assumption) | assumption)
             obtain ⟨ad381, e381, hx381_0⟩ := Kd.at_int HR380_1.out x8_2 p381 q381
             cases e381
             replace hx381_0 := (HB.out.cell (World.block_lt_of_cell? w _ hx381_0)).trans hx381_0
             replace p381 := eq_true p381
             replace q381 := eq_true q381
             try go_wp2
             have n0_ := Aside0.mk (Kd.S_drew HO_5.out)
             have n1_ := Aside0.mk (Kd.R_drew HO_379001.out)
             have n2_ := Aside0.mk (z0x BK378.out)
             have n3_ := Aside0.mk (z0e HB.out)
             clear HO_5
             clear HO_379001
             clear BK378
             clear HB
             have HO_5 := n0_
             have HO_379001 := n1_
             have BK378 := n2_
             have HB := n3_
             clear n0_ n1_ n2_ n3_
             have p382 : 0 ≤ (x6_1 : Int) := of_decide_eq_true (by first | (with_reducible assumption) | assumption)
             have q382 : x6_1 < (l0.length : Int) := of_decide_eq_true (by first | (with_reducible assumption) | assumption)
             obtain ⟨ad382, A382_1, c382_1, e382, hx382_0, hx382_1, hl382_1, hi382_1⟩ := z0n HR0.out x6_1 p382 q382
             have hw382_1 := hx382_1
             have hw382_0 := hx382_0
             obtain rfl : ad377 = ad382 := (by injection e382)
             replace hx382_0 := (HB.out.cell (World.block_lt_of_cell? w _ hx382_0)).trans hx382_0
             replace hx382_1 := (HB.out.cell (World.block_lt_of_cell? w _ hx382_1)).trans hx382_1
             have HR382_1 := Aside0.mk hi382_1
             have HC382_1 := Aside0.mk hl382_1
             clear hi382_1 hl382_1
             replace p382 := eq_true p382
             replace q382 := eq_true q382
             have p383 : 0 ≤ (x8_2 : Int) := of_decide_eq_true (by first | (with_reducible assumption) | assumption)
             have q383 : x8_2 < (((rd_T64 l0 x6_1).f1).length : Int) := of_decide_eq_true (by first | (with_reducible assumption) | assumption)
             obtain ⟨ad383, e383, hx383_0⟩ := Kd.at_int HR382_1.out x8_2 p383 q383
             have hw383_0 := hx383_0
             cases e383
             replace hx383_0 := (HB.out.cell (World.block_lt_of_cell? w _ hx383_0)).trans hx383_0
             replace p383 := eq_true p383
             replace q383 := eq_true q383
             refine start_ (n := 14) (S := fun w' => w'.cell? ⟨gb378, 0, none⟩ = some (.int .i64 ((rd_T64 l0 x6_1).f0)) ∧ w'.cell? ⟨gb378, 1, none⟩ = some (u379001) ∧ w'.cell? (ad377.add ((x6_1).toNat * 2)) = some (.int .i64 ((rd_T64 l0 x6_1).f0)) ∧ w'.cell? ⟨(ad377.add ((x6_1).toNat * 2)).block, (ad377.add ((x6_1).toNat * 2)).off + 1, none⟩ = some (.slice (some ad383) ((rd_T64 l0 x6_1).f1).length c382_1) ∧ w'.cell? (ad383.add (x8_2).toNat) = some (.int .i64 (rd ((rd_T64 l0 x6_1).f1) x8_2))) (ds := [13]) #[false, false, false, false, false, false, false, false, false, false, false, false, false, false] (by kernel_rfl) rfl rfl ⟨(z0a BK378.out 0).trans rfl, (z0a BK378.out 1).trans rfl, ((HB.out.cell (World.block_lt_of_cell? w _ hw382_0)).trans hw382_0), ((HB.out.cell (World.block_lt_of_cell? w _ hw382_1)).trans hw382_1), ((HB.out.cell (World.block_lt_of_cell? w _ hw383_0)).trans hw383_0)⟩ (fun hHeld => ?_); refine z5p understoryref12_cut.tab10 understoryref12_cut.bits10 (fun HT_ HW_ => ?_)
             generalize wr.drew = w13 at HO_5 HO_379001 BK378 HB HR382_1 hx382_0 hx382_1 hx383_0 hHeld ⊢
             refine z07 (i := 0) (N := some 41) (v := ?_) (a' := ?_) #[true, false, false, false, false, false, false, false, false, false, false, false, false, false] rfl rfl (z08 HT_.out (by kernel_rfl)) (fun _ _ _ h => h) (Or.inl ⟨by rfl, ?_⟩) ?_ ?_
             rotate_left
             ·intro w'
              go_simp
              with_reducible rfl
             rotate_left
             ·simp only [Act.put, List.setIfInBounds_toArray, List.set_cons_zero, List.set_cons_succ, z0o, z0t]
              rfl
             refine z07 (i := 2) (N := some 43) (v := ?_) (a' := ?_) #[true, false, true, false, false, false, false, false, false, false, false, false, false, false] rfl rfl (z08 HT_.out (by kernel_rfl)) (fun _ _ _ h => h) (Or.inl ⟨by rfl, ?_⟩) ?_ ?_
             rotate_left
             ·intro w'
              go_simp
              with_reducible rfl
             rotate_left
             ·simp only [Act.put, List.setIfInBounds_toArray, List.set_cons_zero, List.set_cons_succ, z0o, z0t]
              rfl
             refine z07 (i := 3) (N := some 44) (v := ?_) (a' := ?_) #[true, false, true, true, false, false, false, false, false, false, false, false, false, false] rfl rfl (z08 HT_.out (by kernel_rfl)) (fun _ _ _ h => h) (Or.inl ⟨by rfl, ?_⟩) ?_ ?_
             rotate_left
             ·intro w'
              go_simp
              with_reducible rfl
             rotate_left
             ·simp only [Act.put, List.setIfInBounds_toArray, List.set_cons_zero, List.set_cons_succ, z0o, z0t]
              rfl
             refine z07 (i := 4) (N := some 45) (v := ?_) (a' := ?_) #[true, false, true, true, true, false, false, false, false, false, false, false, false, false] rfl rfl (z08 HT_.out (by kernel_rfl)) (fun _ _ _ h => h) (Or.inl ⟨by rfl, ?_⟩) ?_ ?_
             rotate_left
             ·intro w'
              go_simp
              with_reducible rfl
             rotate_left
             ·simp only [Act.put, List.setIfInBounds_toArray, List.set_cons_zero, List.set_cons_succ, z0o, z0t]
              rfl
             refine z07 (i := 5) (N := some 46) (v := ?_) (a' := ?_) #[true, false, true, true, true, true, false, false, false, false, false, false, false, false] rfl rfl (z08 HT_.out (by kernel_rfl)) (fun _ _ _ h => h) (Or.inl ⟨by rfl, ?_⟩) ?_ ?_
             rotate_left
             ·intro w'
              go_simp
              with_reducible rfl
             rotate_left
             ·simp only [Act.put, List.setIfInBounds_toArray, List.set_cons_zero, List.set_cons_succ, z0o, z0t]
              rfl
             refine z07 (i := 7) (N := some 48) (v := ?_) (a' := ?_) #[true, false, true, true, true, true, false, true, false, false, false, false, false, false] rfl rfl (z08 HT_.out (by kernel_rfl)) (fun _ _ _ h => h) (Or.inl ⟨by rfl, ?_⟩) ?_ ?_
             rotate_left
             ·intro w'
              go_simp
              with_reducible rfl
             rotate_left
             ·simp only [Act.put, List.setIfInBounds_toArray, List.set_cons_zero, List.set_cons_succ, z0o, z0t]
              rfl
             refine take_ (i := 1) (N := some 42) (v := ?_) (a' := ?_) #[true, true, true, true, true, true, false, true, false, false, false, false, false, false] rfl rfl (z3t HT_.out HW_.out (by kernel_rfl)) (fun _ _ _ h => h) (Or.inl ⟨by rfl, ?_⟩) hHeld ?_ ?_
             rotate_left
             ·rintro w' ⟨s0, s1, s2, s3, s4⟩
              go_simp
              with_reducible rfl
             rotate_left
             ·simp only [Act.put, List.setIfInBounds_toArray, List.set_cons_zero, List.set_cons_succ, z0o, z0t]
              rfl
             refine take_ (i := 6) (N := some 47) (v := ?_) (a' := ?_) #[true, true, true, true, true, true, true, true, false, false, false, false, false, false] rfl rfl (z3t HT_.out HW_.out (by kernel_rfl)) (fun _ _ _ h => h) (Or.inl ⟨by rfl, ?_⟩) hHeld ?_ ?_
             rotate_left
             ·rintro w' ⟨s0, s1, s2, s3, s4⟩
              go_simp
              with_reducible rfl
             rotate_left
             ·simp only [Act.put, List.setIfInBounds_toArray, List.set_cons_zero, List.set_cons_succ, z0o, z0t]
              rfl
             refine z07 (i := 8) (N := some 49) (v := ?_) (a' := ?_) #[true, true, true, true, true, true, true, true, true, false, false, false, false, false] rfl rfl (z08 HT_.out (by kernel_rfl)) (fun _ _ _ h => h) (Or.inl ⟨by rfl, ?_⟩) ?_ ?_
             rotate_left
             ·intro w'
              go_simp
              with_reducible rfl
             rotate_left
             ·simp only [Act.put, List.setIfInBounds_toArray, List.set_cons_zero, List.set_cons_succ, z0o, z0t]
              rfl
             refine take_ (i := 9) (N := some 50) (v := ?_) (a' := ?_) #[true, true, true, true, true, true, true, true, true, true, false, false, false, false] rfl rfl (z3t HT_.out HW_.out (by kernel_rfl)) (fun _ _ _ h => h) (Or.inl ⟨by rfl, ?_⟩) hHeld ?_ ?_
             rotate_left
             ·rintro w' ⟨s0, s1, s2, s3, s4⟩
              go_simp
              with_reducible rfl
             rotate_left
             ·simp only [Act.put, List.setIfInBounds_toArray, List.set_cons_zero, List.set_cons_succ, z0o, z0t]
              rfl
             refine one_ (i := 10) (N := some 51) #[true, true, true, true, true, true, true, true, true, true, true, false, false, false] rfl rfl (z26 HT_.out (by kernel_rfl)) (by decide) (fun K hK => ?_)
             refine value_ (w1 := ?_) (v := ?_) (by rfl) rfl ?_ ?_
             rotate_left 2
             ·go_simp
              constructor
              ·rfl
              ·rfl
             refine hK.out _ _ ⟨(z0a (z0j BK378.out _) 0).trans rfl, (z0a (z0j BK378.out _) 1).trans rfl, (World.cell?_alloc_lt _ _ _ (World.block_lt_of_cell? _ _ (((HB.out.cell (World.block_lt_of_cell? w _ hw382_0)).trans hw382_0)))).trans (((HB.out.cell (World.block_lt_of_cell? w _ hw382_0)).trans hw382_0)), (World.cell?_alloc_lt _ _ _ (World.block_lt_of_cell? _ _ (((HB.out.cell (World.block_lt_of_cell? w _ hw382_1)).trans hw382_1)))).trans (((HB.out.cell (World.block_lt_of_cell? w _ hw382_1)).trans hw382_1)), (World.cell?_alloc_lt _ _ _ (World.block_lt_of_cell? _ _ (((HB.out.cell (World.block_lt_of_cell? w _ hw383_0)).trans hw383_0)))).trans (((HB.out.cell (World.block_lt_of_cell? w _ hw383_0)).trans hw383_0))⟩ (fun hHeld => ?_)
             clear hK K
             refine norm_ (a' := ?_) ?_ ?_
             rotate_left
             ·show Act.put _ (some 51) _ = _
              simp only [Act.put, List.setIfInBounds_toArray, List.set_cons_zero, List.set_cons_succ, z0o, z0t]
              rfl
             refine one_ (i := 11) (N := some 52) #[true, true, true, true, true, true, true, true, true, true, true, true, false, false] rfl rfl (z26 HT_.out (by kernel_rfl)) (by decide) (fun K hK => ?_)
             refine Kd.R_append_step (Kd.int .i64) (w0 := w) w.heap.size (by rfl) (.tmp 42) (.tmp 51) 23 3 (.int .i64 0) 8 rfl Tryz.underlying23 info3 rfl (by decide) (by omega) u379001 x379001_2 (rd ((rd_T64 l0 x6_1).f1) x8_2) [.int .i64 (rd ((rd_T64 l0 x6_1).f1) x8_2)] (fun _ => True) (fun _ => False) rfl rfl ?aP (fun _ hk => hk.elim) ?aF ?aO ?aB ?aS ?aL ?_
             (case aP => exact rfl)
             (case aB => exact (by repeat (first | (with_reducible first | exact HB.out | apply z0f | apply z0c | apply z0e | refine z0z ?_ GE378.out) | exact HB.out)))
             (case aF => exact (fun _ _ => trivial))
             (case aO => exact (by (with_reducible repeat (first | apply Kd.R_alloc | apply Kd.R_drewN | apply Kd.R_drew)); exact HO_379001.out))
             (case aS => exact (z0m (by repeat (first | (with_reducible first | exact HB.out | apply z0f | apply z0c | apply z0e | refine z0z ?_ GE378.out) | exact HB.out))))
             (case aL => have := LMc12.out; omega)
             intro v385 w14 ho hb hg hat
             rw [← Ny384.out] at ho
             have n0_ := Aside0.mk (Kd.S_after (ok := (fun k_ => k_ ≠ gb378)) (by (with_reducible repeat (first | apply Kd.S_alloc | apply Kd.S_drewN | apply Kd.S_drew)); exact Kd.S_mono HO_5.out (fun _ hk => ⟨hk.2, hk.1⟩)) hg hat)
             have n1_ := Aside0.mk (z1t (g := gb378) (o := .cells #[.int .i64 ((rd_T64 l0 x6_1).f0), u379001] 64 (0, 0)) (by (with_reducible repeat (first | refine z0p ?_ _ | refine z0x ?_ | refine z0j ?_ _)); exact BK378.out) hg (Kd.R_ne HO_379001.out BK378.out (by decide)))
             have n2_ := Aside0.mk (hb)
             have n3_ := Aside0.mk (ho)
             clear HO_5
             clear BK378
             clear HB
             clear HO_379001
             have HO_5 := n0_
             have BK378 := n1_
             have HB := n2_
             have HO386 := n3_
             clear n0_ n1_ n2_ n3_
             clear ho hb hg hat
             obtain ⟨Ao15, co15, eo15⟩ := Kd.R_slice HO386.out
             (first | subst eo15 | (injection eo15 with f1_ f2_ f3_; have f4_ := f1_.symm; have f5_ := f3_.symm; clear f1_ f2_ f3_; subst f4_; subst f5_))
             refine hK.out _ _ ⟨(z0a BK378.out 0).trans rfl, (z0a BK378.out 1).trans rfl, ((HB.out.cell (World.block_lt_of_cell? w _ hw382_0)).trans hw382_0), ((HB.out.cell (World.block_lt_of_cell? w _ hw382_1)).trans hw382_1), ((HB.out.cell (World.block_lt_of_cell? w _ hw383_0)).trans hw383_0)⟩ (fun hHeld => ?_)
             clear hK K
             refine norm_ (a' := ?_) ?_ ?_
             rotate_left
             ·show Act.put _ (some 52) _ = _
              simp only [Act.put, List.setIfInBounds_toArray, List.set_cons_zero, List.set_cons_succ, z0o, z0t]
              rfl
             refine z07 (i := 12) (N := some 53) (v := ?_) (a' := ?_) #[true, true, true, true, true, true, true, true, true, true, true, true, true, false] rfl rfl (z08 HT_.out (by kernel_rfl)) (fun _ _ _ h => h) (Or.inl ⟨by rfl, ?_⟩) ?_ ?_
             rotate_left
             ·intro w'
              go_simp
              with_reducible rfl
             rotate_left
             ·simp only [Act.put, List.setIfInBounds_toArray, List.set_cons_zero, List.set_cons_succ, z0o, z0t]
              rfl
             refine last_ (i := 13) (N := none) #[true, true, true, true, true, true, true, true, true, true, true, true, true, true] rfl rfl (z26 HT_.out (by kernel_rfl)) (by decide) (fun K hK => ?_)
             have hs16 : w14.cell? ⟨gb378, 1, none⟩ = some (u379001) := (z0a BK378.out 1).trans rfl
             have hfs16 := z0d BK378.out 1
             refine skip_ (w1 := ?_) (by rfl) rfl ?_ ?_
             rotate_left
             ·go_simp
              rfl
             refine hK.out _ _ ?_
             clear hK K
             refine done_ (done_of HT_.out (by kernel_rfl)) ?_
             try go_wp2
             go_roundg k2
             case measure => have := HK1.out; have := HK2.out; omega
             case rel => exact ⟨(wrap64 (x8_2 + 1)), (y384), (.slice Ao15 y384.length co15), (by first | rfl | (simp; done) | (simp [*]; done)), H', ⟨by have := HK1.out; have := HK2.out; omega⟩, ⟨by (with_reducible repeat (first | apply Kd.S_alloc | apply Kd.S_drewN | apply Kd.S_drew)); exact Kd.S_mono (Kd.S_far (p := ⟨gb378, 1, none⟩) (Kd.S_mono HO_5.out (fun k_ hk => (⟨hk, hk.1⟩ : _ ∧ k_ ≠ gb378))) (fun _ hk => hk.2) (.slice Ao15 y384.length co15)) (fun _ hk => ⟨hk.1.2, hk.1.1⟩)⟩, ⟨by (with_reducible repeat (first | apply Kd.R_alloc | apply Kd.R_drewN | apply Kd.R_drew)); exact Kd.R_mono (Kd.R_far (p := ⟨gb378, 1, none⟩) (Kd.R_types HO386.out BK378.out (by decide)) (fun _ hk => hk.2) (.slice Ao15 y384.length co15)) (fun _ hk => trivial)⟩, ⟨by (with_reducible repeat (first | refine z0p ?_ _ | refine z0x ?_ | refine z0j ?_ _)); refine z0k (cs := #[.int .i64 ((rd_T64 l0 x6_1).f0), u379001]) ?_ 1 _ rfl; (with_reducible repeat (first | refine z0p ?_ _ | refine z0x ?_ | refine z0j ?_ _)); exact BK378.out⟩, ⟨by repeat (first | (with_reducible first | exact HB.out | apply z0f | apply z0c | apply z0e | refine z0z ?_ GE378.out) | exact HB.out)⟩⟩
            ·rw [if_neg c12] at H
             exact absurd H (by simp)
           ·rw [if_neg c11] at H
            have c11b0 : decide ((rd ((rd_T64 l0 x6_1).f1) x8_2) < a1) = false := decide_eq_false c11
            clear c11
            have H' := Aside0.mk H
            clear H
            have p379 : 0 ≤ (x6_1 : Int) := of_decide_eq_true (by first | (with_reducible assumption) | assumption)
            have q379 : x6_1 < (l0.length : Int) := of_decide_eq_true (by first | (with_reducible assumption) | assumption)
            obtain ⟨ad379, A379_1, c379_1, e379, hx379_0, hx379_1, hl379_1, hi379_1⟩ := z0n HR0.out x6_1 p379 q379
            obtain rfl : ad377 = ad379 := (by injection e379)
            replace hx379_0 := (HB.out.cell (World.block_lt_of_cell? w _ hx379_0)).trans hx379_0
            replace hx379_1 := (HB.out.cell (World.block_lt_of_cell? w _ hx379_1)).trans hx379_1
            have HR379_1 := Aside0.mk hi379_1
            have HC379_1 := Aside0.mk hl379_1
            clear hi379_1 hl379_1
            replace p379 := eq_true p379
            replace q379 := eq_true q379
            have p380 : 0 ≤ (x6_1 : Int) := of_decide_eq_true (by first | (with_reducible assumption) | assumption)
            have q380 : x6_1 < (l0.length : Int) := of_decide_eq_true (by first | (with_reducible assumption) | assumption)
            obtain ⟨ad380, A380_1, c380_1, e380, hx380_0, hx380_1, hl380_1, hi380_1⟩ := z0n HR0.out x6_1 p380 q380
            obtain rfl : ad377 = ad380 := (by injection e380)
            replace hx380_0 := (HB.out.cell (World.block_lt_of_cell? w _ hx380_0)).trans hx380_0
            replace hx380_1 := (HB.out.cell (World.block_lt_of_cell? w _ hx380_1)).trans hx380_1
            have HR380_1 := Aside0.mk hi380_1
            have HC380_1 := Aside0.mk hl380_1
            clear hi380_1 hl380_1
            replace p380 := eq_true p380
            replace q380 := eq_true q380
            have ea_ := Option.some.inj (hx379_1.symm.trans hx380_1)
            injection ea_ with ea_ en_ ec_
            subst ea_
            subst ec_
            clear en_
            have p381 : 0 ≤ (x8_2 : Int) := of_decide_eq_true (by first | (with_reducible assumption) | assumption)
            have q381 : x8_2 < (((rd_T64 l0 x6_1).f1).length : Int) := of_decide_eq_true (by first | (with_reducible assumption) | assumption)
            obtain ⟨ad381, e381, hx381_0⟩ := Kd.at_int HR380_1.out x8_2 p381 q381
            cases e381
            replace hx381_0 := (HB.out.cell (World.block_lt_of_cell? w _ hx381_0)).trans hx381_0
            replace p381 := eq_true p381
            replace q381 := eq_true q381
            go_wp2
            go_roundg k2
            case measure => have := HK1.out; have := HK2.out; omega
            case rel => exact ⟨(wrap64 (x8_2 + 1)), (x379001_2), (u379001), (by first | rfl | (simp; done) | (simp [*]; done)), H', ⟨by have := HK1.out; have := HK2.out; omega⟩, ⟨by (with_reducible repeat (first | apply Kd.S_alloc | apply Kd.S_drewN | apply Kd.S_drew)); exact HO_5.out⟩, ⟨by (with_reducible repeat (first | apply Kd.R_alloc | apply Kd.R_drewN | apply Kd.R_drew)); exact HO_379001.out⟩, ⟨by (with_reducible repeat (first | refine z0p ?_ _ | refine z0x ?_ | refine z0j ?_ _)); exact BK378.out⟩, ⟨by repeat (first | (with_reducible first | exact HB.out | apply z0f | apply z0c | apply z0e | refine z0z ?_ GE378.out) | exact HB.out)⟩⟩
          ·rw [if_neg c10] at H
           exact absurd H (by simp)
         ·rw [if_neg c9] at H
          have c9b0 : decide (x8_2 < (((rd_T64 l0 x6_1).f1).length : Int)) = false := decide_eq_false c9
          clear c9
          by_cases c17 : (x379001_2.length : Int) > 0
          ·rw [if_pos c17] at H
           have c17b0 : decide (0 < (x379001_2.length : Int)) = true := decide_eq_true c17
           have c17b1 : decide (0 < x379001_2.length) = true := decide_eq_true (by omega)
           clear c17
           by_cases c18 : x5_1.length < 4398046511104
           ·rw [if_pos c18] at H
            have LMc18 := Aside0.mk c18
            clear c18
            obtain ⟨y387, hy387⟩ : ∃ y_ : List (S64), y_ = (x5_1 ++ [(⟨((rd_T64 l0 x6_1).f0), x379001_2⟩ : S64)]) := ⟨_, rfl⟩
            replace H : (understoryref12_cut.l0 k2 l0 a1 y387 (wrap64 (x6_1 + 1))) = some r := by first | (rw [hy387]; with_reducible exact H) | (have H2_ := (Option.bind_some _ _).symm.trans H; rw [hy387]; with_reducible exact H2_) | (have H2_ := (Option.bind_some _ _).symm.trans H; with_reducible exact H2_) | with_reducible exact H | (rw [hy387]; exact H) | exact H
            have Ny387 := Aside0.mk hy387
            clear hy387
            have H' := Aside0.mk H
            clear H
            have p379 : 0 ≤ (x6_1 : Int) := of_decide_eq_true (by first | (with_reducible assumption) | assumption)
            have q379 : x6_1 < (l0.length : Int) := of_decide_eq_true (by first | (with_reducible assumption) | assumption)
            obtain ⟨ad379, A379_1, c379_1, e379, hx379_0, hx379_1, hl379_1, hi379_1⟩ := z0n HR0.out x6_1 p379 q379
            obtain rfl : ad377 = ad379 := (by injection e379)
            replace hx379_0 := (HB.out.cell (World.block_lt_of_cell? w _ hx379_0)).trans hx379_0
            replace hx379_1 := (HB.out.cell (World.block_lt_of_cell? w _ hx379_1)).trans hx379_1
            have HR379_1 := Aside0.mk hi379_1
            have HC379_1 := Aside0.mk hl379_1
            clear hi379_1 hl379_1
            replace p379 := eq_true p379
            replace q379 := eq_true q379
            have hcz19_0 : wr.cell? ⟨gb378, 0, none⟩ = some (.int .i64 ((rd_T64 l0 x6_1).f0)) := (z0a BK378.out 0).trans rfl
            have hcz19_1 : wr.cell? ⟨gb378, 1, none⟩ = some (u379001) := (z0a BK378.out 1).trans rfl
            have hfz19_0 := z0d BK378.out 0
            have hfz19_1 := z0d BK378.out 1
            obtain ⟨Ao20, co20, eo20⟩ := Kd.R_slice HO_379001.out
            subst eo20
            go_wp2_with (first | ((with_reducible refine z1n (b := .append) (xs := #[.tmp 58, .tmp 60]) rfl ?_); at_builtin; refine Kd.S_append k64 (w0 := w) w.heap.size rfl (.tmp 58) (.tmp 60) 26 64 (.agg #[(.int .i64 0), (.slice none 0 0)]) 32 rfl Tryz.underlying26 info64 rfl (by decide) (by omega) u5 x5_1 (⟨((rd_T64 l0 x6_1).f0), x379001_2⟩ : S64) [.int .i64 ((rd_T64 l0 x6_1).f0), .slice Ao20 x379001_2.length co20] (fun k_ => k_ ≠ gb378) (fun k_ => some k_ = (.slice Ao20 x379001_2.length co20 : Value).ownBlock) rfl rfl ?aP (fun k_ hk_ => ((Kd.R_mono (ok' := fun k_ => ((fun k_ => k_ ≠ gb378)) k_ ∧ some k_ ≠ (u5 : Value).ownBlock) (Kd.R_types (Kd.R_apart' (HO_379001.out) (Kd.S_typed HO_5.out) (by decide)) BK378.out (by decide)) (fun k_ hk => ⟨hk.2, hk.1.2⟩))).1 k_ hk_.symm) ?aF ?aO ?aB ?aS ?aL ?_; (case aP => exact k64_mkM _ _ _ (⟨((rd_T64 l0 x6_1).f0), x379001_2⟩ : S64) (Kd.R_mono (Kd.R_tight rfl (Kd.R_mono (ok' := fun k_ => ((fun k_ => k_ ≠ gb378)) k_ ∧ some k_ ≠ (u5 : Value).ownBlock) (Kd.R_types (Kd.R_apart' (HO_379001.out) (Kd.S_typed HO_5.out) (by decide)) BK378.out (by decide)) (fun k_ hk => ⟨hk.2, hk.1.2⟩))) (fun _ h_ => h_))); (case aB => exact (by repeat (first | (with_reducible first | exact HB.out | apply z0f | apply z0c | apply z0e | refine z0z ?_ GE378.out) | exact HB.out))); (case aF => exact (fun k_ hk => Kd.freshB (g := gb378) (o := .cells #[.int .i64 ((rd_T64 l0 x6_1).f0), .slice Ao20 x379001_2.length co20] 64 (0, 0)) (by (with_reducible repeat (first | refine z0p ?_ _ | refine z0x ?_ | refine z0j ?_ _)); exact BK378.out) k_ hk)); (case aO => exact (by (with_reducible repeat (first | apply Kd.S_alloc | apply Kd.S_drewN | apply Kd.S_drew)); exact Kd.S_mono HO_5.out (fun k_ hk => ⟨hk.2, fun e_ => hk.1 e_⟩))); (case aS => exact (z0m (by repeat (first | (with_reducible first | exact HB.out | apply z0f | apply z0c | apply z0e | refine z0z ?_ GE378.out) | exact HB.out)))); (case aL => have := LMc18.out; omega); intro v388 w21 ho hb hg hat; rw [← Ny387.out] at ho; have n0_ := Aside0.mk (z1t (g := gb378) (o := .cells #[.int .i64 ((rd_T64 l0 x6_1).f0), .slice Ao20 x379001_2.length co20] 64 (0, 0)) (by (with_reducible repeat (first | refine z0p ?_ _ | refine z0x ?_ | refine z0j ?_ _)); exact BK378.out) hg (Kd.S_away HO_5.out (fun _ hk => hk.2))); have n1_ := Aside0.mk (hb); have n2_ := Aside0.mk (ho); clear BK378; clear HB; clear HO_5; clear HO_379001; have BK378 := n0_; have HB := n1_; have HO389 := n2_; clear n0_ n1_ n2_; clear ho hb hg hat))
            go_roundg k2
            case measure => have := HK1.out; have := HK2.out; omega
            case rel => exact ⟨(y387), (wrap64 (x6_1 + 1)), (by first | rfl | (simp; done) | (simp [*]; done)), H', ⟨by have := HK1.out; have := HK2.out; omega⟩, ⟨by (with_reducible repeat (first | apply Kd.S_alloc | apply Kd.S_drewN | apply Kd.S_drew)); exact Kd.S_mono HO389.out (fun _ hk => trivial)⟩, ⟨by repeat (first | (with_reducible first | exact HB.out | apply z0f | apply z0c | apply z0e | refine z0z ?_ GE378.out) | exact HB.out)⟩⟩
           ·rw [if_neg c18] at H
            exact absurd H (by simp)
          ·rw [if_neg c17] at H
           have c17b0 : decide (0 < (x379001_2.length : Int)) = false := decide_eq_false c17
           have c17b1 : decide (0 < x379001_2.length) = false := decide_eq_false (by omega)
           clear c17
           have H' := Aside0.mk H
           clear H
           have p379 : 0 ≤ (x6_1 : Int) := of_decide_eq_true (by first | (with_reducible assumption) | assumption)
           have q379 : x6_1 < (l0.length : Int) := of_decide_eq_true (by first | (with_reducible assumption) | assumption)
           obtain ⟨ad379, A379_1, c379_1, e379, hx379_0, hx379_1, hl379_1, hi379_1⟩ := z0n HR0.out x6_1 p379 q379
           obtain rfl : ad377 = ad379 := (by injection e379)
           replace hx379_0 := (HB.out.cell (World.block_lt_of_cell? w _ hx379_0)).trans hx379_0
           replace hx379_1 := (HB.out.cell (World.block_lt_of_cell? w _ hx379_1)).trans hx379_1
           have HR379_1 := Aside0.mk hi379_1
           have HC379_1 := Aside0.mk hl379_1
           clear hi379_1 hl379_1
           replace p379 := eq_true p379
           replace q379 := eq_true q379
           have hcz22_0 : wr.cell? ⟨gb378, 0, none⟩ = some (.int .i64 ((rd_T64 l0 x6_1).f0)) := (z0a BK378.out 0).trans rfl
           have hcz22_1 : wr.cell? ⟨gb378, 1, none⟩ = some (u379001) := (z0a BK378.out 1).trans rfl
           have hfz22_0 := z0d BK378.out 0
           have hfz22_1 := z0d BK378.out 1
           obtain ⟨Ao23, co23, eo23⟩ := Kd.R_slice HO_379001.out
           subst eo23
           go_wp2
           go_roundg k2
           case measure => have := HK1.out; have := HK2.out; omega
           case rel => exact ⟨(x5_1), (wrap64 (x6_1 + 1)), (by first | rfl | (simp; done) | (simp [*]; done)), H', ⟨by have := HK1.out; have := HK2.out; omega⟩, ⟨by (with_reducible repeat (first | apply Kd.S_alloc | apply Kd.S_drewN | apply Kd.S_drew)); exact Kd.S_mono HO_5.out (fun _ hk => trivial)⟩, ⟨by repeat (first | (with_reducible first | exact HB.out | apply z0f | apply z0c | apply z0e | refine z0z ?_ GE378.out) | exact HB.out)⟩⟩
        ·rw [if_neg c8] at H
         exact absurd H (by simp)
       ·rw [if_neg c7] at H
        exact absurd H (by simp)
    ·rw [if_neg c4] at H
     exact absurd H (by simp)
   ·rw [if_neg c3] at H
    have c3b0 : decide (x6_1 < (l0.length : Int)) = false := decide_eq_false c3
    clear c3
    obtain rfl := Option.some.inj H
    go_wp2
    go_ret
    exact ⟨_, by first | rfl | (simp [z0r, z0s] <;> rfl) | (simp [*, z0r, z0s] <;> rfl), by (with_reducible repeat (first | apply Kd.S_alloc | apply Kd.S_drewN | apply Kd.S_drew)); exact HO_5.out, by repeat (first | (with_reducible first | exact HB.out | apply z0f | apply z0c | apply z0e) | exact HB.out)⟩
def understoryref04_isPage.f (a0 : Int) : Option (Bool) := if a0 ≥ 2 then (some (decide (a0 < 4096))) else (some false)
set_option maxHeartbeats 8000000 in
set_option maxRecDepth 100000 in
theorem understoryref04_isPage.calls (a0 : Int) (r : Bool) (w : World) (h : understoryref04_isPage.f a0 = some r) :
  Calls Tryz.prog 147 #[.int .i64 a0] w fun e w' => e = .returned (.bool r) ∧ Drawn0 w w' := by
 have H : (if a0 ≥ 2 then (some (decide (a0 < 4096))) else (some false)) = some r := h
 clear h
 by_cases c2 : a0 ≥ 2
 ·rw [if_pos c2] at H
  have c2b0 : decide (2 ≤ a0) = true := decide_eq_true c2
  clear c2
  obtain rfl := Option.some.inj H
  go_enter Tryz.func147, Tryz.ntmps147
  go_wp2
  go_ret
  exact ⟨by first | rfl | (simp; done) | (simp [*]; done), by repeat (first | exact Drawn0.refl _ | apply Drawn0.step)⟩
 ·rw [if_neg c2] at H
  have c2b0 : decide (2 ≤ a0) = false := decide_eq_false c2
  clear c2
  obtain rfl := Option.some.inj H
  go_enter Tryz.func147, Tryz.ntmps147
  go_wp2
  go_ret
  exact ⟨by first | rfl | (simp; done) | (simp [*]; done), by repeat (first | exact Drawn0.refl _ | apply Drawn0.step)⟩
end Go.Proofs.YtpnhelcemodnmaaGreat.PA
namespace Go.Proofs.YtpnhelcemodnmaaGreat.PA
open Go.RowKit Go.Proofs.YtpnhelcemodnmaaGreatW.PrintWords Go.Proofs.YtpnhelcemodnmaaGreatW.PrintLast Go.Proofs.YtpnhelcemodnmaaGreatW.PrintMore
attribute [local go_sem] z1c z1d z1e z1f z1i z1j z1k z1l
set_option linter.unusedVariables false
set_option linter.unusedSimpArgs false
mutual
def understoryref04_freed.l0 : Nat → List (S64) → Int → Option (Bool)
 | 0, _, _ => none
 | k + 1, x0, x3 => if x3 < (x0.length : Int) then (if 0 ≤ x3 then (if ((rd_T64 x0 x3).f0) < 0 then (understoryref04_freed.j1 k x0 x3 true ((rd_T64 x0 x3).f0) ((rd_T64 x0 x3).f1)) else (if ((rd_T64 x0 x3).f0) > 1099511627776 then (understoryref04_freed.j1 k x0 x3 true ((rd_T64 x0 x3).f0) ((rd_T64 x0 x3).f1)) else (if x3 > 0 then (if 0 ≤ (wrap64 (x3 - 1)) then (if (wrap64 (x3 - 1)) < (x0.length : Int) then (if ((rd_T64 x0 x3).f0) ≤ ((rd_T64 x0 (wrap64 (x3 - 1))).f0) then (understoryref04_freed.j1 k x0 x3 true ((rd_T64 x0 x3).f0) ((rd_T64 x0 x3).f1)) else (understoryref04_freed.j1 k x0 x3 ((((rd_T64 x0 x3).f1).length : Int) == 0) ((rd_T64 x0 x3).f0) ((rd_T64 x0 x3).f1))) else (none)) else (none)) else (understoryref04_freed.j1 k x0 x3 ((((rd_T64 x0 x3).f1).length : Int) == 0) ((rd_T64 x0 x3).f0) ((rd_T64 x0 x3).f1))))) else (none)) else (some true)
def understoryref04_freed.j1 : Nat → List (S64) → Int → Bool → Int → List Int → Option (Bool)
 | 0, _, _, _, _, _ => none
 | k + 1, x0, x3, x44, x392000, x392001 => if x44 = true then (some false) else (understoryref04_freed.l1 k x0 x3 0 x392000 x392001)
def understoryref04_freed.l1 : Nat → List (S64) → Int → Int → Int → List Int → Option (Bool)
 | 0, _, _, _, _, _ => none
 | k + 1, x0, x3, x5, x392000, x392001 => if x5 < (x392001.length : Int) then (if 0 ≤ x5 then ((understoryref04_isPage.f (rd x392001 x5)).bind fun t394 => (if t394 = true then (if x5 > 0 then (if 0 ≤ (wrap64 (x5 - 1)) then (if (wrap64 (x5 - 1)) < (x392001.length : Int) then (if (rd x392001 x5) ≤ (rd x392001 (wrap64 (x5 - 1))) then (some false) else (understoryref04_freed.l1 k x0 x3 (wrap64 (x5 + 1)) x392000 x392001)) else (none)) else (none)) else (understoryref04_freed.l1 k x0 x3 (wrap64 (x5 + 1)) x392000 x392001)) else (some false))) else (none)) else (understoryref04_freed.l0 k x0 (wrap64 (x3 + 1)))
end
def understoryref04_freed.f (k : Nat) (l0 : List (S64)) : Option (Bool) := understoryref04_freed.l0 k l0 0
theorem understoryref04_freed.mono_l : ∀ k, (∀ y0 y1, LeO (understoryref04_freed.l0 k y0 y1) (understoryref04_freed.l0 (k + 1) y0 y1)) ∧ (∀ y0 y1 y2 y3 y4, LeO (understoryref04_freed.j1 k y0 y1 y2 y3 y4) (understoryref04_freed.j1 (k + 1) y0 y1 y2 y3 y4)) ∧ (∀ y0 y1 y2 y3 y4, LeO (understoryref04_freed.l1 k y0 y1 y2 y3 y4) (understoryref04_freed.l1 (k + 1) y0 y1 y2 y3 y4))
 | 0 => ⟨fun _ _ r h => by simp [understoryref04_freed.l0] at h, fun _ _ _ _ _ r h => by simp [understoryref04_freed.j1] at h, fun _ _ _ _ _ r h => by simp [understoryref04_freed.l1] at h⟩
 | k + 1 => by
  obtain ⟨ih0, ih1, ih2⟩ := understoryref04_freed.mono_l k
  refine ⟨?_, ?_, ?_⟩
  ·intro y0 y1
   unfold understoryref04_freed.l0
   repeat' first
   | (with_reducible exact ih0 _ _)
   | (with_reducible exact ih1 _ _ _ _ _)
   | (with_reducible exact ih2 _ _ _ _ _)
   | (with_reducible exact LeO.refl _)
   | (with_reducible exact LeO.none _)
   | (with_reducible refine LeO.ite ?_ ?_)
   | (with_reducible refine LeO.bind ?_ (fun _ => ?_))
   | exact ih0 _ _
   | exact ih1 _ _ _ _ _
   | exact ih2 _ _ _ _ _
   | exact LeO.none _
   | refine LeO.ite ?_ ?_
   | refine LeO.bind ?_ (fun _ => ?_)
  ·intro y0 y1 y2 y3 y4
   unfold understoryref04_freed.j1
   repeat' first
   | (with_reducible exact ih0 _ _)
   | (with_reducible exact ih1 _ _ _ _ _)
   | (with_reducible exact ih2 _ _ _ _ _)
   | (with_reducible exact LeO.refl _)
   | (with_reducible exact LeO.none _)
   | (with_reducible refine LeO.ite ?_ ?_)
   | (with_reducible refine LeO.bind ?_ (fun _ => ?_))
   | exact ih0 _ _
   | exact ih1 _ _ _ _ _
   | exact ih2 _ _ _ _ _
   | exact LeO.none _
   | refine LeO.ite ?_ ?_
   | refine LeO.bind ?_ (fun _ => ?_)
  ·intro y0 y1 y2 y3 y4
   unfold understoryref04_freed.l1
   repeat' first
   | (with_reducible exact ih0 _ _)
   | (with_reducible exact ih1 _ _ _ _ _)
   | (with_reducible exact ih2 _ _ _ _ _)
   | (with_reducible exact LeO.refl _)
   | (with_reducible exact LeO.none _)
   | (with_reducible refine LeO.ite ?_ ?_)
   | (with_reducible refine LeO.bind ?_ (fun _ => ?_))
   | exact ih0 _ _
   | exact ih1 _ _ _ _ _
   | exact ih2 _ _ _ _ _
   | exact LeO.none _
   | refine LeO.ite ?_ ?_
   | refine LeO.bind ?_ (fun _ => ?_)
theorem understoryref04_freed.mono : ∀ a0 k, LeO (understoryref04_freed.f k a0) (understoryref04_freed.f (k + 1) a0) := by
 intro a0 k
 obtain ⟨ih0, ih1, ih2⟩ := understoryref04_freed.mono_l k
 unfold understoryref04_freed.f
 repeat' first
   | (with_reducible exact ih0 _ _)
   | (with_reducible exact ih1 _ _ _ _ _)
   | (with_reducible exact ih2 _ _ _ _ _)
   | (with_reducible exact LeO.refl _)
   | (with_reducible exact LeO.none _)
   | (with_reducible refine LeO.ite ?_ ?_)
   | (with_reducible refine LeO.bind ?_ (fun _ => ?_))
   | exact ih0 _ _
   | exact ih1 _ _ _ _ _
   | exact ih2 _ _ _ _ _
   | exact LeO.none _
   | refine LeO.ite ?_ ?_
   | refine LeO.bind ?_ (fun _ => ?_)
end Go.Proofs.YtpnhelcemodnmaaGreat.PA
namespace Go.Proofs.YtpnhelcemodnmaaGreat.PA
open Go.RowKit Go.Proofs.YtpnhelcemodnmaaGreatW.PrintWords Go.Proofs.YtpnhelcemodnmaaGreatW.PrintLast Go.Proofs.YtpnhelcemodnmaaGreatW.PrintMore
attribute [local go_sem] z1c z1d z1e z1f z1i z1j z1k z1l
set_option linter.unusedVariables false
set_option linter.unusedSimpArgs false
mutual
def understoryref04_parts.l0 : Nat → List (S64) → List (List (S64)) → List (S64) → Int → Int → Option ((List (List (S64))))
 | 0, _, _, _, _, _ => none
 | k + 1, x0, x3, x4, x5, x6 => if x6 < (x0.length : Int) then (if 0 ≤ x6 then (understoryref04_parts.l1 k x0 x3 x4 x5 x6 ((rd_T64 x0 x6).f1)) else (none)) else (if (x4.length : Int) > 0 then (if x3.length < 5864062014805 then (some (x3 ++ [x4])) else (none)) else (some x3))
def understoryref04_parts.l1 : Nat → List (S64) → List (List (S64)) → List (S64) → Int → Int → List Int → Option ((List (List (S64))))
 | 0, _, _, _, _, _, _ => none
 | k + 1, x0, x3, x4, x5, x6, x7 => if (x7.length : Int) > 0 then (if x5 < 12 then (if x3.length < 5864062014805 then (understoryref04_parts.l1 k x0 (x3 ++ [x4]) ([] : List (S64)) 490 x6 x7) else (none)) else (if 0 ≤ x6 then (if x6 < (x0.length : Int) then (if 0 ≤ (mn (wrap64 (Int.tdiv (wrap64 (x5 - 8)) 4)) (x7.length : Int)) then (if (mn (wrap64 (Int.tdiv (wrap64 (x5 - 8)) 4)) (x7.length : Int)) ≤ (x7.length : Int) then (if x4.length < 4398046511104 then (understoryref04_parts.l1 k x0 x3 (x4 ++ [(⟨(rd_T64 x0 x6).f0, (x7.take ((mn (wrap64 (Int.tdiv (wrap64 (x5 - 8)) 4)) (x7.length : Int)) : Int).toNat)⟩ : S64)]) (wrap64 ((wrap64 (x5 - 8)) - (wrap64 (4 * (mn (wrap64 (Int.tdiv (wrap64 (x5 - 8)) 4)) (x7.length : Int)))))) x6 (x7.drop ((mn (wrap64 (Int.tdiv (wrap64 (x5 - 8)) 4)) (x7.length : Int)) : Int).toNat)) else (none)) else (none)) else (none)) else (none)) else (none))) else (understoryref04_parts.l0 k x0 x3 x4 x5 (wrap64 (x6 + 1)))
end
def understoryref04_parts.f (k : Nat) (l0 : List (S64)) : Option ((List (List (S64)))) := understoryref04_parts.l0 k l0 ([] : List (List (S64))) ([] : List (S64)) 490 0
theorem understoryref04_parts.mono_l : ∀ k, (∀ y0 y1 y2 y3 y4, LeO (understoryref04_parts.l0 k y0 y1 y2 y3 y4) (understoryref04_parts.l0 (k + 1) y0 y1 y2 y3 y4)) ∧ (∀ y0 y1 y2 y3 y4 y5, LeO (understoryref04_parts.l1 k y0 y1 y2 y3 y4 y5) (understoryref04_parts.l1 (k + 1) y0 y1 y2 y3 y4 y5))
 | 0 => ⟨fun _ _ _ _ _ r h => by simp [understoryref04_parts.l0] at h, fun _ _ _ _ _ _ r h => by simp [understoryref04_parts.l1] at h⟩
 | k + 1 => by
  obtain ⟨ih0, ih1⟩ := understoryref04_parts.mono_l k
  refine ⟨?_, ?_⟩
  ·intro y0 y1 y2 y3 y4
   unfold understoryref04_parts.l0
   repeat' first
   | (with_reducible exact ih0 _ _ _ _ _)
   | (with_reducible exact ih1 _ _ _ _ _ _)
   | (with_reducible exact LeO.refl _)
   | (with_reducible exact LeO.none _)
   | (with_reducible refine LeO.ite ?_ ?_)
   | (with_reducible refine LeO.bind ?_ (fun _ => ?_))
   | exact ih0 _ _ _ _ _
   | exact ih1 _ _ _ _ _ _
   | exact LeO.none _
   | refine LeO.ite ?_ ?_
   | refine LeO.bind ?_ (fun _ => ?_)
  ·intro y0 y1 y2 y3 y4 y5
   unfold understoryref04_parts.l1
   repeat' first
   | (with_reducible exact ih0 _ _ _ _ _)
   | (with_reducible exact ih1 _ _ _ _ _ _)
   | (with_reducible exact LeO.refl _)
   | (with_reducible exact LeO.none _)
   | (with_reducible refine LeO.ite ?_ ?_)
   | (with_reducible refine LeO.bind ?_ (fun _ => ?_))
   | exact ih0 _ _ _ _ _
   | exact ih1 _ _ _ _ _ _
   | exact LeO.none _
   | refine LeO.ite ?_ ?_
   | refine LeO.bind ?_ (fun _ => ?_)
theorem understoryref04_parts.mono : ∀ a0 k, LeO (understoryref04_parts.f k a0) (understoryref04_parts.f (k + 1) a0) := by
 intro a0 k
 obtain ⟨ih0, ih1⟩ := understoryref04_parts.mono_l k
 unfold understoryref04_parts.f
 repeat' first
   | (with_reducible exact ih0 _ _ _ _ _)
   | (with_reducible exact ih1 _ _ _ _ _ _)
   | (with_reducible exact LeO.refl _)
   | (with_reducible exact LeO.none _)
   | (with_reducible refine LeO.ite ?_ ?_)
   | (with_reducible refine LeO.bind ?_ (fun _ => ?_))
   | exact ih0 _ _ _ _ _
   | exact ih1 _ _ _ _ _ _
   | exact LeO.none _
   | refine LeO.ite ?_ ?_
   | refine LeO.bind ?_ (fun _ => ?_)
def understoryref04_parts.T14 : Bool × List (List Nat × List Nat) := (true, [([], []), ([], []), ([], []), ([1, 2], [1, 2]), ([3], [3]), ([4], [4]), ([], []), ([], []), ([6, 7], [6, 7]), ([5, 8], [5, 8]), ([9], [9]), ([0, 10], [0, 10]), ([11, 11, 0, 1, 2, 3, 4, 5, 6, 7, 8, 9, 10, 11], [0, 11])])
def understoryref04_parts.B14 : List Nat := [0, 0, 0, 6, 14, 30, 0, 0, 192, 510, 1022, 2047, 4095]
theorem understoryref04_parts.tab14 : rtab .any (opsOf Tryz.f108 14) = understoryref04_parts.T14 := by kernel_rfl
theorem understoryref04_parts.bits14 : waitsOk understoryref04_parts.T14.2 understoryref04_parts.B14 = true := by kernel_rfl
set_option maxHeartbeats 8000000 in
set_option maxRecDepth 100000 in
theorem understoryref04_parts.calls (k : Nat) (P0_ : Nat → Prop) (A0 : Option Addr) (c0 : Nat) (l0 : List (S64)) (r : List (List (S64))) (w : World) (hs0 : Kd.V k64 64 w w.heap.size (fun k_ => P0_ k_) (.slice A0 l0.length c0) l0) (h : understoryref04_parts.f k l0 = some r) :
  Calls Tryz.prog 108 #[.slice A0 l0.length c0] w fun e w' => ∃ v0_ : Value, e = .returned (v0_) ∧ Kd.N (Kd.slice 64 k64) 26 w' w.heap.size (fun k_ => (P0_ k_ ∨ w.heap.size ≤ k_)) v0_ r ∧ Below w.heap.size w w' := by
 have hu64 := Tryz.underlying64
 have HO0 := Aside0.mk (show Kd.V k64 64 w w.heap.size (fun k_ => (P0_ k_ ∨ w.heap.size ≤ k_)) (.slice A0 l0.length c0) l0 from Kd.V_mono hs0 (fun k_ hk => .inl hk))
 have HB := Aside0.mk (Below.refl w.heap.size w)
 have H : (understoryref04_parts.l0 k l0 ([] : List (List (S64))) ([] : List (S64)) 490 0) = some r := h
 clear h
 have H' := Aside0.mk H
 clear H
 go_enter Tryz.func108, Tryz.ntmps108
 go_wp2
 go_loopg [3, 4, 5, 6] k (fun kq v3 v4 v5 v6 w' => ∃ (x3_1 : List (List (S64))) (x4_1 : List (S64)) (x5_1 : Int) (x6_1 : Int), v5 = .int .i64 x5_1 ∧ v6 = .int .i64 x6_1 ∧ Aside0 (understoryref04_parts.l0 kq l0 x3_1 x4_1 x5_1 x6_1 = some r) ∧ Aside0 (kq ≤ k) ∧ Aside0 (Kd.V k64 64 w' w.heap.size (fun k_ => (P0_ k_ ∨ w.heap.size ≤ k_) ∧ some k_ ≠ (v3 : Value).ownBlock ∧ some k_ ≠ (v4 : Value).ownBlock) (.slice A0 l0.length c0) l0) ∧ Aside0 (Kd.N (Kd.slice 64 k64) 26 w' w.heap.size (fun k_ => (P0_ k_ ∨ w.heap.size ≤ k_) ∧ some k_ ≠ (v4 : Value).ownBlock) v3 x3_1) ∧ Aside0 (Kd.N k64 64 w' w.heap.size (fun k_ => (P0_ k_ ∨ w.heap.size ≤ k_) ∧ some k_ ≠ (v3 : Value).ownBlock) v4 x4_1) ∧ Aside0 (Below w.heap.size w w'))
 case atStart => exact ⟨(([] : List (List (S64)))), (([] : List (S64))), (490), (0), (by first | rfl | (simp; done) | (simp [*]; done)), (by first | rfl | (simp; done) | (simp [*]; done)), H', ⟨Nat.le_refl _⟩, ⟨by (with_reducible repeat (first | apply Kd.V_alloc | apply Kd.V_drewN | apply Kd.V_drew)); exact Kd.V_mono HO0.out (fun _ hk => ⟨hk, ⟨(by simp [Value.ownBlock]), (by simp [Value.ownBlock])⟩⟩)⟩, ⟨by first | exact Kd.R_nil _ _ _ _ _ | exact Kd.N_nil _ _ _ _ _ | exact Kd.V_nil _ _ _ _ _ | exact Kd.Q_nil _ _ _ _ _ | exact Kd.S_nil _ _ _ _ _⟩, ⟨by first | exact Kd.S_nil _ _ _ _ _ | exact Kd.N_nil _ _ _ _ _ | exact Kd.V_nil _ _ _ _ _ | exact Kd.Q_nil _ _ _ _ _ | exact Kd.R_nil _ _ _ _ _⟩, ⟨by repeat (first | (with_reducible first | exact HB.out | apply z0f | apply z0c | apply z0e) | exact HB.out)⟩⟩
 case round =>
  clear H'
  try clear c1
  obtain ⟨x3_1, x4_1, x5_1, x6_1, rfl, rfl, HA, HK1, HO_0, HO_3, HO_4, HB⟩ := hrel
  cases gk with
  | zero => exact absurd HA.out (by simp [understoryref04_parts.l0])
  | succ k1 =>
   have H := HA.out
   clear HA
   simp only [understoryref04_parts.l0] at H
   by_cases c2 : x6_1 < (l0.length : Int)
   ·rw [if_pos c2] at H
    have c2b0 : decide (x6_1 < (l0.length : Int)) = true := decide_eq_true c2
    clear c2
    by_cases c3 : 0 ≤ x6_1
    ·rw [if_pos c3] at H
     have c3b0 : decide (0 ≤ x6_1) = true := decide_eq_true c3
     clear c3
     have H' := Aside0.mk H
     clear H
     have p400 : 0 ≤ (x6_1 : Int) := of_decide_eq_true (by first | (with_reducible assumption) | assumption)
     have q400 : x6_1 < (l0.length : Int) := of_decide_eq_true (by first | (with_reducible assumption) | assumption)
     obtain ⟨ad400, A400_1, c400_1, e400, hx400_0, hx400_1, hl400_1, hi400_1⟩ := z0n (Kd.V_reads' HO_0.out).2.2 x6_1 p400 q400
     cases e400
     obtain ⟨ce400, hce400, hMe400, hcc400⟩ := Kd.V_get HO_0.out z64 x6_1 p400 (by first | exact q400 | exact of_decide_eq_true (by first | (with_reducible assumption) | assumption) | (have e_ := (Kd.V_reads' HO_0.out).1; omega))
     obtain ⟨ua400_1, uc400_1, rfl, ul400_1, ge400_1⟩ := z2n hMe400
     have hv400_1 := hcc400 1 _ rfl
     rw [z2y _ _ 1 (by omega)] at hv400_1
     replace hv400_1 := Option.some.inj (hv400_1.symm.trans hx400_1)
     injection hv400_1 with hva_ hvn_ hvc_
     rw [hva_] at ge400_1
     rw [hvc_] at ul400_1
     have HL400_1 := Aside0.mk (show Kd.V (Kd.int .i64) 3 _ w.heap.size _ _ ((rd_T64 l0 x6_1).f1) from Kd.V_mk ul400_1 ge400_1)
     clear hva_ hvn_ hvc_ ge400_1 ul400_1
     clear hcc400 hce400
     have HR400_1 := Aside0.mk hi400_1
     have HC400_1 := Aside0.mk hl400_1
     clear hi400_1 hl400_1
     replace p400 := eq_true p400
     replace q400 := eq_true q400
     go_wp2
     go_loopg [3, 4, 5, 7] k1 (fun kq v3 v4 v5 v7 w' => ∃ (x3_2 : List (List (S64))) (x4_2 : List (S64)) (x5_2 : Int) (x7_2 : List Int), v5 = .int .i64 x5_2 ∧ Aside0 (understoryref04_parts.l1 kq l0 x3_2 x4_2 x5_2 x6_1 x7_2 = some r) ∧ Aside0 (kq ≤ k1) ∧ Aside0 (Kd.V k64 64 w' w.heap.size (fun k_ => (P0_ k_ ∨ w.heap.size ≤ k_) ∧ some k_ ≠ (v3 : Value).ownBlock ∧ some k_ ≠ (v4 : Value).ownBlock) (.slice (some ad400) l0.length c0) l0) ∧ Aside0 (Kd.N (Kd.slice 64 k64) 26 w' w.heap.size (fun k_ => (P0_ k_ ∨ w.heap.size ≤ k_) ∧ some k_ ≠ (v4 : Value).ownBlock) v3 x3_2) ∧ Aside0 (Kd.N k64 64 w' w.heap.size (fun k_ => (P0_ k_ ∨ w.heap.size ≤ k_) ∧ some k_ ≠ (v3 : Value).ownBlock) v4 x4_2) ∧ Aside0 (Kd.V (Kd.int .i64) 3 w' w.heap.size (fun k_ => (P0_ k_ ∨ w.heap.size ≤ k_) ∧ some k_ ≠ (v3 : Value).ownBlock ∧ some k_ ≠ (v4 : Value).ownBlock) v7 x7_2) ∧ Aside0 (Below w.heap.size w w'))
     case atStart => exact ⟨(x3_1), (x4_1), (x5_1), ((rd_T64 l0 x6_1).f1), (by first | rfl | (simp; done) | (simp [*]; done)), H', ⟨Nat.le_refl _⟩, ⟨by (with_reducible repeat (first | apply Kd.V_alloc | apply Kd.V_drewN | apply Kd.V_drew)); exact HO_0.out⟩, ⟨by (with_reducible repeat (first | apply Kd.N_alloc | apply Kd.N_drewN | apply Kd.N_drew)); exact HO_3.out⟩, ⟨by (with_reducible repeat (first | apply Kd.N_alloc | apply Kd.N_drewN | apply Kd.N_drew)); exact HO_4.out⟩, ⟨by (with_reducible repeat (first | apply Kd.V_alloc | apply Kd.V_drewN | apply Kd.V_drew)); exact HL400_1.out⟩, ⟨by repeat (first | (with_reducible first | exact HB.out | apply z0f | apply z0c | apply z0e) | exact HB.out)⟩⟩
     case round =>
      clear H'
      try clear c1
      try clear c2
      try clear c2b0
      try clear p2
      try clear c3
      try clear c3b0
      try clear hx400_0
      try clear hx400_1
      try clear p400
      try clear q400
      obtain ⟨x3_2, x4_2, x5_2, x7_2, rfl, HA, HK2, HO_0, HO_3, HO_4, HO_7, HB⟩ := hrel
      cases gk with
      | zero => exact absurd HA.out (by simp [understoryref04_parts.l1])
      | succ k2 =>
       have H := HA.out
       clear HA
       simp only [understoryref04_parts.l1] at H
       by_cases c4 : (x7_2.length : Int) > 0
       ·rw [if_pos c4] at H
        have c4b0 : decide (0 < (x7_2.length : Int)) = true := decide_eq_true c4
        have c4b1 : decide (0 < x7_2.length) = true := decide_eq_true (by omega)
        clear c4
        obtain ⟨ji5, hji5⟩ : ∃ j_ : Int, (mn (wrap64 (Int.tdiv (wrap64 (x5_2 - 8)) 4)) (x7_2.length : Int)) = j_ := ⟨_, rfl⟩
        replace H : (if x5_2 < 12 then (if x3_2.length < 5864062014805 then (understoryref04_parts.l1 k2 l0 (x3_2 ++ [x4_2]) ([] : List (S64)) 490 x6_1 x7_2) else (none)) else (if 0 ≤ x6_1 then (if x6_1 < (l0.length : Int) then (if 0 ≤ (ji5) then (if (ji5) ≤ (x7_2.length : Int) then (if x4_2.length < 4398046511104 then (understoryref04_parts.l1 k2 l0 x3_2 (x4_2 ++ [(⟨(rd_T64 l0 x6_1).f0, (x7_2.take ((ji5) : Int).toNat)⟩ : S64)]) (wrap64 ((wrap64 (x5_2 - 8)) - (wrap64 (4 * (ji5))))) x6_1 (x7_2.drop ((ji5) : Int).toNat)) else (none)) else (none)) else (none)) else (none)) else (none))) = some r := by first | (rw [hji5] at H; exact H) | (simp only [hji5] at H ⊢; exact H)
        have hji5_ : (if (x7_2.length : Int) < (wrap64 (Int.tdiv (wrap64 (x5_2 - 8)) 4)) then (x7_2.length : Int) else (wrap64 (Int.tdiv (wrap64 (x5_2 - 8)) 4))) = ji5 := hji5
        by_cases c6 : x5_2 < 12
        ·rw [if_pos c6] at H
         have c6b0 : decide (x5_2 < 12) = true := decide_eq_true c6
         clear c6
         by_cases c7 : x3_2.length < 5864062014805
         ·rw [if_pos c7] at H
          have LMc7 := Aside0.mk c7
          clear c7
          obtain ⟨y401, hy401⟩ : ∃ y_ : List (List (S64)), y_ = (x3_2 ++ [x4_2]) := ⟨_, rfl⟩
          replace H : (understoryref04_parts.l1 k2 l0 y401 ([] : List (S64)) 490 x6_1 x7_2) = some r := by first | (rw [hy401]; with_reducible exact H) | (have H2_ := (Option.bind_some _ _).symm.trans H; rw [hy401]; with_reducible exact H2_) | (have H2_ := (Option.bind_some _ _).symm.trans H; with_reducible exact H2_) | with_reducible exact H | (rw [hy401]; exact H) | exact H
          have Ny401 := Aside0.mk hy401
          clear hy401
          have H' := Aside0.mk H
          clear H
          obtain ⟨Ao8, co8, eo8⟩ := Kd.V_slice HO_7.out
          subst eo8
          obtain ⟨Ao10, co10, eo10⟩ := Kd.N_slice HO_4.out
          subst eo10
          go_wp2_with (first | ((with_reducible refine z1n (b := .append) (xs := #[.tmp 31, .tmp 33]) rfl ?_); at_builtin; refine Kd.N_append (Kd.slice 64 k64) (w0 := w) w.heap.size rfl (.tmp 31) (.tmp 33) 90 26 (.slice none 0 0) 24 rfl Tryz.underlying90 info26 rfl (by decide) (by omega) u3 x3_2 x4_2 [.slice Ao10 x4_2.length co10] (fun k_ => (P0_ k_ ∨ w.heap.size ≤ k_)) (fun k_ => ((fun k_ => (P0_ k_ ∨ w.heap.size ≤ k_))) k_ ∧ some k_ ≠ (u3 : Value).ownBlock) rfl rfl ?aP (fun _ hk => hk) ?aF ?aO ?aB ?aS ?aL ?_; (case aP => exact (Kd.FK_slice_mk (Kd.N_reads' (Kd.N_mono (ok' := (fun k_ => ((fun k_ => (P0_ k_ ∨ w.heap.size ≤ k_))) k_ ∧ some k_ ≠ (u3 : Value).ownBlock)) (HO_4.out) (fun k_ hk => ⟨hk.1, hk.2⟩))).2.1 (Kd.N_F (Kd.N_mono (ok' := (fun k_ => ((fun k_ => (P0_ k_ ∨ w.heap.size ≤ k_))) k_ ∧ some k_ ≠ (u3 : Value).ownBlock)) (HO_4.out) (fun k_ hk => ⟨hk.1, hk.2⟩))))); (case aB => exact (by repeat (first | (with_reducible first | exact HB.out | apply z0f | apply z0c | apply z0e) | exact HB.out))); (case aF => exact (fun k_ hk => (.inr (Nat.le_trans (z0m (by repeat (first | (with_reducible first | exact HB.out | apply z0f | apply z0c | apply z0e) | exact HB.out))) hk)))); (case aO => exact (by (with_reducible repeat (first | apply Kd.N_alloc | apply Kd.N_drewN | apply Kd.N_drew)); exact Kd.N_mono HO_3.out (fun _ hk => hk.1))); (case aS => exact (z0m (by repeat (first | (with_reducible first | exact HB.out | apply z0f | apply z0c | apply z0e) | exact HB.out)))); (case aL => have := LMc7.out; omega); intro v402 w9 ho hb hg hat; rw [← Ny401.out] at ho; have n0_ := Aside0.mk (Kd.V_afterv (ok := (fun k_ => (P0_ k_ ∨ w.heap.size ≤ k_) ∧ some k_ ≠ (.slice Ao10 x4_2.length co10 : Value).ownBlock)) (by (with_reducible repeat (first | apply Kd.V_alloc | apply Kd.V_drewN | apply Kd.V_drew)); exact Kd.V_mono HO_0.out (fun _ hk => ⟨⟨hk.1, hk.2.2⟩, hk.2.1⟩)) hg hat); have n1_ := Aside0.mk (Kd.V_afterv (ok := (fun k_ => (P0_ k_ ∨ w.heap.size ≤ k_) ∧ some k_ ≠ (.slice Ao10 x4_2.length co10 : Value).ownBlock)) (by (with_reducible repeat (first | apply Kd.V_alloc | apply Kd.V_drewN | apply Kd.V_drew)); exact Kd.V_mono HO_7.out (fun _ hk => ⟨⟨hk.1, hk.2.2⟩, hk.2.1⟩)) hg hat); have n2_ := Aside0.mk (hb); have n3_ := Aside0.mk (ho); clear HO_0; clear HO_7; clear HB; clear HO_3; clear HO_4; have HO_0 := n0_; have HO_7 := n1_; have HB := n2_; have HO403 := n3_; clear n0_ n1_ n2_ n3_; clear ho hb hg hat))
          go_roundg k2
          case measure => have := HK1.out; have := HK2.out; omega
          case rel => exact ⟨(y401), (([] : List (S64))), (490), (x7_2), (by first | rfl | (simp; done) | (simp [*]; done)), H', ⟨by have := HK1.out; have := HK2.out; omega⟩, ⟨by (with_reducible repeat (first | apply Kd.V_alloc | apply Kd.V_drewN | apply Kd.V_drew)); exact Kd.V_mono HO_0.out (fun _ hk => ⟨hk.1.1, ⟨hk.2, (by simp [Value.ownBlock])⟩⟩)⟩, ⟨by (with_reducible repeat (first | apply Kd.N_alloc | apply Kd.N_drewN | apply Kd.N_drew)); exact Kd.N_mono HO403.out (fun _ hk => ⟨hk, (by simp [Value.ownBlock])⟩)⟩, ⟨by first | exact Kd.S_nil _ _ _ _ _ | exact Kd.N_nil _ _ _ _ _ | exact Kd.V_nil _ _ _ _ _ | exact Kd.Q_nil _ _ _ _ _ | exact Kd.R_nil _ _ _ _ _⟩, ⟨by (with_reducible repeat (first | apply Kd.V_alloc | apply Kd.V_drewN | apply Kd.V_drew)); exact Kd.V_mono HO_7.out (fun _ hk => ⟨hk.1.1, ⟨hk.2, (by simp [Value.ownBlock])⟩⟩)⟩, ⟨by repeat (first | (with_reducible first | exact HB.out | apply z0f | apply z0c | apply z0e) | exact HB.out)⟩⟩
         ·rw [if_neg c7] at H
          exact absurd H (by simp)
        ·rw [if_neg c6] at H
         have c6b0 : decide (x5_2 < 12) = false := decide_eq_false c6
         clear c6
         by_cases c11 : 0 ≤ x6_1
         ·rw [if_pos c11] at H
          have c11b0 : decide (0 ≤ x6_1) = true := decide_eq_true c11
          clear c11
          by_cases c12 : x6_1 < (l0.length : Int)
          ·rw [if_pos c12] at H
           have c12b0 : decide (x6_1 < (l0.length : Int)) = true := decide_eq_true c12
           clear c12
           by_cases c13 : 0 ≤ (ji5)
           ·rw [if_pos c13] at H
            have c13b0 := eq_true c13
            have c13b1 : decide (0 ≤ (ji5)) = true := decide_eq_true c13
            clear c13
            by_cases c14 : (ji5) ≤ (x7_2.length : Int)
            ·rw [if_pos c14] at H
             have c14b0 := eq_true c14
             have c14b1 : decide ((ji5) ≤ (x7_2.length : Int)) = true := decide_eq_true c14
             clear c14
             obtain ⟨y405, hy405⟩ : ∃ y_ : List Int, y_ = (x7_2.take ((ji5) : Int).toNat) := ⟨_, rfl⟩
             replace H : (if x4_2.length < 4398046511104 then (understoryref04_parts.l1 k2 l0 x3_2 (x4_2 ++ [(⟨(rd_T64 l0 x6_1).f0, y405⟩ : S64)]) (wrap64 ((wrap64 (x5_2 - 8)) - (wrap64 (4 * (ji5))))) x6_1 (x7_2.drop ((ji5) : Int).toNat)) else (none)) = some r := by first | (rw [hy405]; with_reducible exact H) | (have H2_ := (Option.bind_some _ _).symm.trans H; rw [hy405]; with_reducible exact H2_) | (have H2_ := (Option.bind_some _ _).symm.trans H; with_reducible exact H2_) | with_reducible exact H | (rw [hy405]; exact H) | exact H
             have Ny405 := Aside0.mk hy405
             clear hy405
             by_cases c15 : x4_2.length < 4398046511104
             ·rw [if_pos c15] at H
              have LMc15 := Aside0.mk c15
              clear c15
              obtain ⟨y410, hy410⟩ : ∃ y_ : List (S64), y_ = (x4_2 ++ [(⟨(rd_T64 l0 x6_1).f0, y405⟩ : S64)]) := ⟨_, rfl⟩
              replace H : (understoryref04_parts.l1 k2 l0 x3_2 y410 (wrap64 ((wrap64 (x5_2 - 8)) - (wrap64 (4 * (ji5))))) x6_1 (x7_2.drop ((ji5) : Int).toNat)) = some r := by first | (rw [hy410]; with_reducible exact H) | (have H2_ := (Option.bind_some _ _).symm.trans H; rw [hy410]; with_reducible exact H2_) | (have H2_ := (Option.bind_some _ _).symm.trans H; with_reducible exact H2_) | with_reducible exact H | (rw [hy410]; exact H) | exact H
              have Ny410 := Aside0.mk hy410
              clear hy410
              have c16b0 := eq_true (of_decide_eq_true (by first | (with_reducible assumption) | assumption) : 0 ≤ (ji5))
              have c17b0 := eq_true (of_decide_eq_true (by first | (with_reducible assumption) | assumption) : (ji5) ≤ (x7_2.length : Int))
              obtain ⟨y413, hy413⟩ : ∃ y_ : List Int, y_ = (x7_2.drop ((ji5) : Int).toNat) := ⟨_, rfl⟩
              replace H : (understoryref04_parts.l1 k2 l0 x3_2 y410 (wrap64 ((wrap64 (x5_2 - 8)) - (wrap64 (4 * (ji5))))) x6_1 y413) = some r := by first | (rw [hy413]; with_reducible exact H) | (have H2_ := (Option.bind_some _ _).symm.trans H; rw [hy413]; with_reducible exact H2_) | (have H2_ := (Option.bind_some _ _).symm.trans H; with_reducible exact H2_) | with_reducible exact H | (rw [hy413]; exact H) | exact H
              have Ny413 := Aside0.mk hy413
              clear hy413
              have H' := Aside0.mk H
              clear H
              obtain ⟨Ao18, co18, eo18⟩ := Kd.V_slice HO_7.out
              subst eo18
              try go_wp2
              have n0_ := Aside0.mk (Kd.V_drew HO_0.out)
              have n1_ := Aside0.mk (Kd.N_drew HO_3.out)
              have n2_ := Aside0.mk (Kd.N_drew HO_4.out)
              have n3_ := Aside0.mk (Kd.V_drew HO_7.out)
              have n4_ := Aside0.mk (z0e HB.out)
              clear HO_0
              clear HO_3
              clear HO_4
              clear HO_7
              clear HB
              have HO_0 := n0_
              have HO_3 := n1_
              have HO_4 := n2_
              have HO_7 := n3_
              have HB := n4_
              clear n0_ n1_ n2_ n3_ n4_
              have p404 : 0 ≤ (x6_1 : Int) := of_decide_eq_true (by first | (with_reducible assumption) | assumption)
              have q404 : x6_1 < (l0.length : Int) := of_decide_eq_true (by first | (with_reducible assumption) | assumption)
              obtain ⟨ad404, A404_1, c404_1, e404, hx404_0, hx404_1, hl404_1, hi404_1⟩ := z0n (Kd.V_reads' HO_0.out).2.2 x6_1 p404 q404
              obtain rfl : ad400 = ad404 := (by injection e404)
              obtain ⟨ce404, hce404, hMe404, hcc404⟩ := Kd.V_get HO_0.out z64 x6_1 p404 (by first | exact q404 | exact of_decide_eq_true (by first | (with_reducible assumption) | assumption) | (have e_ := (Kd.V_reads' HO_0.out).1; omega))
              obtain ⟨ua404_1, uc404_1, rfl, ul404_1, ge404_1⟩ := z2n hMe404
              have hv404_1 := hcc404 1 _ rfl
              rw [z2y _ _ 1 (by omega)] at hv404_1
              replace hv404_1 := Option.some.inj (hv404_1.symm.trans hx404_1)
              injection hv404_1 with hva_ hvn_ hvc_
              rw [hva_] at ge404_1
              rw [hvc_] at ul404_1
              have HL404_1 := Aside0.mk (show Kd.V (Kd.int .i64) 3 _ w.heap.size _ _ ((rd_T64 l0 x6_1).f1) from Kd.V_mk ul404_1 ge404_1)
              clear hva_ hvn_ hvc_ ge404_1 ul404_1
              clear hcc404 hce404
              have HR404_1 := Aside0.mk hi404_1
              have HC404_1 := Aside0.mk hl404_1
              clear hi404_1 hl404_1
              replace p404 := eq_true p404
              replace q404 := eq_true q404
              have q20 : ((ji5) : Int) ≤ ((x7_2.length : Int) : Int) := of_decide_eq_true (by first | (with_reducible assumption) | assumption)
              obtain ⟨i020, hi020, _, hsz20, _⟩ := info_parts info3
              have hroom20 : x7_2.length ≤ co18 := (Kd.V_reads' HO_7.out).2.1
              have hC20 : Kd.F (Kd.int .i64) _ _ Ao18 x7_2.length x7_2 := (Kd.V_at (base := w.heap.size) HO_7.out).2.2
              have hcut20 := cut_to (P := Tryz.prog) 23 3 .i64 Tryz.underlying23 hi020 Ao18 x7_2.length co18 (ji5) (of_decide_eq_true (by first | (with_reducible assumption) | assumption)) q20 hroom20
              have hr20 := Kd.F_take (m := ((ji5) : Int).toNat) hC20 (by omega)
              have hy20 : y405.length = ((ji5) : Int).toNat := (by rw [Ny405.out, List.length_take]; omega)
              rw [← Ny405.out] at hr20
              rw [← hy20] at hcut20
              have HO409 := Aside0.mk (show Kd.V (Kd.int .i64) 3 _ w.heap.size _ (.slice Ao18 y405.length co18) y405 from Kd.V_mk (by omega) hr20)
              have HC409 := Aside0.mk (show y405.length ≤ co18 from by omega)
              clear hr20 hC20 hroom20 hi020 hsz20
              have KY20 := Aside0.mk hy20
              clear hy20
              replace q20 := eq_true q20
              refine start_ (n := 13) (S := fun w' => w'.cell? (ad400.add ((x6_1).toNat * 2)) = some (.int .i64 ((rd_T64 l0 x6_1).f0)) ∧ w'.cell? ⟨(ad400.add ((x6_1).toNat * 2)).block, (ad400.add ((x6_1).toNat * 2)).off + 1, none⟩ = some (.slice A404_1 ((rd_T64 l0 x6_1).f1).length c404_1)) (ds := [10, 11]) #[false, false, false, false, false, false, false, false, false, false, false, false, false] (by kernel_rfl) rfl rfl ⟨hx404_0, hx404_1⟩ (fun hHeld => ?_); refine z5p understoryref04_parts.tab14 understoryref04_parts.bits14 (fun HT_ HW_ => ?_)
              generalize wr.drew = w19 at HO_0 HO_3 HO_4 HO_7 HB HL404_1 HO409 HR404_1 hx404_0 hx404_1 hHeld ⊢
              refine z07 (i := 0) (N := some 35) (v := ?_) (a' := ?_) #[true, false, false, false, false, false, false, false, false, false, false, false, false] rfl rfl (z08 HT_.out (by kernel_rfl)) (fun _ _ _ h => h) (Or.inl ⟨by rfl, ?_⟩) ?_ ?_
              rotate_left
              ·intro w'
               go_simp
               with_reducible rfl
              rotate_left
              ·simp only [Act.put, List.setIfInBounds_toArray, List.set_cons_zero, List.set_cons_succ, z0o, z0t]
               rfl
              refine z07 (i := 1) (N := some 36) (v := ?_) (a' := ?_) #[true, true, false, false, false, false, false, false, false, false, false, false, false] rfl rfl (z08 HT_.out (by kernel_rfl)) (fun _ _ _ h => h) (Or.inl ⟨by rfl, ?_⟩) ?_ ?_
              rotate_left
              ·intro w'
               go_simp
               with_reducible rfl
              rotate_left
              ·simp only [Act.put, List.setIfInBounds_toArray, List.set_cons_zero, List.set_cons_succ, z0o, z0t]
               rfl
              refine z07 (i := 2) (N := some 37) (v := ?_) (a' := ?_) #[true, true, true, false, false, false, false, false, false, false, false, false, false] rfl rfl (z08 HT_.out (by kernel_rfl)) (fun _ _ _ h => h) (Or.inl ⟨by rfl, ?_⟩) ?_ ?_
              rotate_left
              ·intro w'
               go_simp
               with_reducible rfl
              rotate_left
              ·simp only [Act.put, List.setIfInBounds_toArray, List.set_cons_zero, List.set_cons_succ, z0o, z0t]
               rfl
              refine z07 (i := 3) (N := some 38) (v := ?_) (a' := ?_) #[true, true, true, true, false, false, false, false, false, false, false, false, false] rfl rfl (z08 HT_.out (by kernel_rfl)) (fun _ _ _ h => h) (Or.inl ⟨by rfl, ?_⟩) ?_ ?_
              rotate_left
              ·intro w'
               go_simp
               with_reducible rfl
              rotate_left
              ·simp only [Act.put, List.setIfInBounds_toArray, List.set_cons_zero, List.set_cons_succ, z0o, z0t]
               rfl
              refine z07 (i := 4) (N := some 39) (v := ?_) (a' := ?_) #[true, true, true, true, true, false, false, false, false, false, false, false, false] rfl rfl (z08 HT_.out (by kernel_rfl)) (fun _ _ _ h => h) (Or.inl ⟨by rfl, ?_⟩) ?_ ?_
              rotate_left
              ·intro w'
               go_simp
               with_reducible rfl
              rotate_left
              ·simp only [Act.put, List.setIfInBounds_toArray, List.set_cons_zero, List.set_cons_succ, z0o, z0t]
               rfl
              refine z07 (i := 6) (N := some 41) (v := ?_) (a' := ?_) #[true, true, true, true, true, false, true, false, false, false, false, false, false] rfl rfl (z08 HT_.out (by kernel_rfl)) (fun _ _ _ h => h) (Or.inl ⟨by rfl, ?_⟩) ?_ ?_
              rotate_left
              ·intro w'
               go_simp
               with_reducible rfl
              rotate_left
              ·simp only [Act.put, List.setIfInBounds_toArray, List.set_cons_zero, List.set_cons_succ, z0o, z0t]
               rfl
              refine z07 (i := 7) (N := some 42) (v := ?_) (a' := ?_) #[true, true, true, true, true, false, true, true, false, false, false, false, false] rfl rfl (z08 HT_.out (by kernel_rfl)) (fun _ _ _ h => h) (Or.inl ⟨by rfl, ?_⟩) ?_ ?_
              rotate_left
              ·intro w'
               go_simp
               with_reducible rfl
              rotate_left
              ·simp only [Act.put, List.setIfInBounds_toArray, List.set_cons_zero, List.set_cons_succ, z0o, z0t]
               rfl
              refine z07 (i := 8) (N := some 43) (v := ?_) (a' := ?_) #[true, true, true, true, true, false, true, true, true, false, false, false, false] rfl rfl (z08 HT_.out (by kernel_rfl)) (fun _ _ _ h => h) (Or.inl ⟨by rfl, ?_⟩) ?_ ?_
              rotate_left
              ·intro w'
               go_simp
               with_reducible rfl
              rotate_left
              ·simp only [Act.put, List.setIfInBounds_toArray, List.set_cons_zero, List.set_cons_succ, z0o, z0t]
               rfl
              refine take_ (i := 5) (N := some 40) (v := ?_) (a' := ?_) #[true, true, true, true, true, true, true, true, true, false, false, false, false] rfl rfl (z3t HT_.out HW_.out (by kernel_rfl)) (fun _ _ _ h => h) (Or.inl ⟨by rfl, ?_⟩) hHeld ?_ ?_
              rotate_left
              ·rintro w' ⟨s0, s1⟩
               go_simp
               with_reducible rfl
              rotate_left
              ·simp only [Act.put, List.setIfInBounds_toArray, List.set_cons_zero, List.set_cons_succ, z0o, z0t]
               rfl
              refine z07 (i := 9) (N := some 44) (v := ?_) (a' := ?_) #[true, true, true, true, true, true, true, true, true, true, false, false, false] rfl rfl (z08 HT_.out (by kernel_rfl)) (fun _ _ _ h => h) (Or.inl ⟨by rfl, ?_⟩) ?_ ?_
              rotate_left
              ·intro w'
               go_simp
               with_reducible rfl
              rotate_left
              ·simp only [Act.put, List.setIfInBounds_toArray, List.set_cons_zero, List.set_cons_succ, z0o, z0t]
               rfl
              refine last_ (i := 10) (N := some 45) #[true, true, true, true, true, true, true, true, true, true, true, false, false] rfl rfl (z26 HT_.out (by kernel_rfl)) (by decide) (fun K hK => ?_)
              refine value_ (w1 := ?_) (v := ?_) (by rfl) rfl ?_ ?_
              rotate_left 2
              ·go_simp
               constructor
               ·rfl
               ·rfl
              refine hK.out _ _ ?_
              clear hK K
              refine norm_ (a' := ?_) ?_ ?_
              rotate_left
              ·show Act.put _ (some 45) _ = _
               simp only [Act.put, List.setIfInBounds_toArray, List.set_cons_zero, List.set_cons_succ, z0o, z0t]
               rfl
              refine last_ (i := 11) (N := some 46) #[true, true, true, true, true, true, true, true, true, true, true, true, false] rfl rfl (z26 HT_.out (by kernel_rfl)) (by decide) (fun K hK => ?_)
              refine Kd.N_append_step k64 (w0 := w) w.heap.size (by rfl) (.tmp 35) (.tmp 45) 26 64 (.agg #[(.int .i64 0), (.slice none 0 0)]) 32 rfl Tryz.underlying26 info64 rfl (by decide) (by omega) u4 x4_2 (⟨(rd_T64 l0 x6_1).f0, y405⟩ : S64) [.int .i64 ((rd_T64 l0 x6_1).f0), .slice Ao18 y405.length co18] (fun k_ => (P0_ k_ ∨ w.heap.size ≤ k_) ∧ some k_ ≠ (u3 : Value).ownBlock) (fun k_ => ((fun k_ => (P0_ k_ ∨ w.heap.size ≤ k_) ∧ some k_ ≠ (u3 : Value).ownBlock)) k_ ∧ some k_ ≠ (u4 : Value).ownBlock) rfl rfl ?aP (fun _ hk => hk) ?aF ?aO ?aB ?aS ?aL ?_
              (case aP => exact (z1b _ _ (⟨(rd_T64 l0 x6_1).f0, y405⟩ : S64) (Kd.V_reads' (Kd.V_mono (ok' := (fun k_ => ((fun k_ => (P0_ k_ ∨ w.heap.size ≤ k_) ∧ some k_ ≠ (u3 : Value).ownBlock)) k_ ∧ some k_ ≠ (u4 : Value).ownBlock)) (HO409.out) (fun k_ hk => ⟨⟨hk.1, hk.2.1⟩, hk.2.2⟩))).2.1 (Kd.V_F (Kd.V_mono (ok' := (fun k_ => ((fun k_ => (P0_ k_ ∨ w.heap.size ≤ k_) ∧ some k_ ≠ (u3 : Value).ownBlock)) k_ ∧ some k_ ≠ (u4 : Value).ownBlock)) (HO409.out) (fun k_ hk => ⟨⟨hk.1, hk.2.1⟩, hk.2.2⟩)))))
              (case aB => exact (by repeat (first | (with_reducible first | exact HB.out | apply z0f | apply z0c | apply z0e) | exact HB.out)))
              (case aF => exact (fun k_ hk => ⟨(.inr (Nat.le_trans (z0m (by repeat (first | (with_reducible first | exact HB.out | apply z0f | apply z0c | apply z0e) | exact HB.out))) hk)), Kd.fresh' (Kd.N_lt (by (with_reducible repeat (first | apply Kd.N_alloc | apply Kd.N_drewN | apply Kd.N_drew)); exact HO_3.out)) k_ hk⟩))
              (case aO => exact (by (with_reducible repeat (first | apply Kd.N_alloc | apply Kd.N_drewN | apply Kd.N_drew)); exact HO_4.out))
              (case aS => exact (z0m (by repeat (first | (with_reducible first | exact HB.out | apply z0f | apply z0c | apply z0e) | exact HB.out))))
              (case aL => have := LMc15.out; omega)
              intro v411 w21 ho hb hg hat
              rw [← Ny410.out] at ho
              have n0_ := Aside0.mk (Kd.V_afterv (ok := (fun k_ => (P0_ k_ ∨ w.heap.size ≤ k_) ∧ some k_ ≠ (u3 : Value).ownBlock)) (by (with_reducible repeat (first | apply Kd.V_alloc | apply Kd.V_drewN | apply Kd.V_drew)); exact Kd.V_mono HO_0.out (fun _ hk => ⟨⟨hk.1, hk.2.1⟩, hk.2.2⟩)) hg hat)
              have n1_ := Aside0.mk (Kd.N_afterv (ok := (fun k_ => (P0_ k_ ∨ w.heap.size ≤ k_))) (by (with_reducible repeat (first | apply Kd.N_alloc | apply Kd.N_drewN | apply Kd.N_drew)); exact HO_3.out) hg hat)
              have n2_ := Aside0.mk (Kd.V_afterv (ok := (fun k_ => (P0_ k_ ∨ w.heap.size ≤ k_) ∧ some k_ ≠ (u3 : Value).ownBlock)) (by (with_reducible repeat (first | apply Kd.V_alloc | apply Kd.V_drewN | apply Kd.V_drew)); exact Kd.V_mono HO_7.out (fun _ hk => ⟨⟨hk.1, hk.2.1⟩, hk.2.2⟩)) hg hat)
              have n3_ := Aside0.mk (Kd.V_afterv (ok := (fun k_ => (P0_ k_ ∨ w.heap.size ≤ k_) ∧ some k_ ≠ (u3 : Value).ownBlock)) (by (with_reducible repeat (first | apply Kd.V_alloc | apply Kd.V_drewN | apply Kd.V_drew)); exact Kd.V_mono HL404_1.out (fun _ hk => ⟨⟨hk.1, hk.2.1⟩, hk.2.2⟩)) hg hat)
              have n4_ := Aside0.mk (Kd.V_afterv (ok := (fun k_ => (P0_ k_ ∨ w.heap.size ≤ k_) ∧ some k_ ≠ (u3 : Value).ownBlock)) (by (with_reducible repeat (first | apply Kd.V_alloc | apply Kd.V_drewN | apply Kd.V_drew)); exact Kd.V_mono HO409.out (fun _ hk => ⟨⟨hk.1, hk.2.1⟩, hk.2.2⟩)) hg hat)
              have n5_ := Aside0.mk (hb)
              have n6_ := Aside0.mk (ho)
              clear HO_0
              clear HO_3
              clear HO_7
              clear HL404_1
              clear HO409
              clear HB
              clear HO_4
              have HO_0 := n0_
              have HO_3 := n1_
              have HO_7 := n2_
              have HL404_1 := n3_
              have HO409 := n4_
              have HB := n5_
              have HO412 := n6_
              clear n0_ n1_ n2_ n3_ n4_ n5_ n6_
              clear ho hb hg hat
              refine hK.out _ _ ?_
              clear hK K
              refine norm_ (a' := ?_) ?_ ?_
              rotate_left
              ·show Act.put _ (some 46) _ = _
               simp only [Act.put, List.setIfInBounds_toArray, List.set_cons_zero, List.set_cons_succ, z0o, z0t]
               rfl
              refine z07 (i := 12) (N := some 4) (v := ?_) (a' := ?_) #[true, true, true, true, true, true, true, true, true, true, true, true, true] rfl rfl (z08 HT_.out (by kernel_rfl)) (fun _ _ _ h => h) (Or.inl ⟨by rfl, ?_⟩) ?_ ?_
              rotate_left
              ·intro w'
               go_simp
               with_reducible rfl
              rotate_left
              ·simp only [Act.put, List.setIfInBounds_toArray, List.set_cons_zero, List.set_cons_succ, z0o, z0t]
               rfl
              refine done_ (done_of HT_.out (by kernel_rfl)) ?_
              have q22 : ((ji5) : Int) ≤ ((x7_2.length : Int) : Int) := of_decide_eq_true (by first | (with_reducible assumption) | assumption)
              obtain ⟨i022, hi022, _, hsz22, _⟩ := info_parts info3
              have hroom22 : x7_2.length ≤ co18 := (Kd.V_reads' HO_7.out).2.1
              have hC22 : Kd.F (Kd.int .i64) _ _ Ao18 x7_2.length x7_2 := (Kd.V_at (base := w.heap.size) HO_7.out).2.2
              have q022 : (0 : Int) ≤ ((ji5) : Int) := of_decide_eq_true (by first | (with_reducible assumption) | assumption)
              have hcut22 := cut_from (P := Tryz.prog) 23 3 .i64 Tryz.underlying23 hi022 1 hsz22 Ao18 x7_2.length co18 (ji5) q022 q22
              have hr22 := Kd.F_cut (m := ((ji5) : Int).toNat) (c := co18) hC22 (by omega) hroom22
              obtain ⟨A22, hA22⟩ : ∃ A1, A1 = (if co18 = ((ji5) : Int).toNat then Ao18 else (Ao18 : Option Addr).map (·.add (((ji5) : Int).toNat * 1))) := ⟨_, rfl⟩
              obtain ⟨c22, hc22⟩ : ∃ c1, c1 = co18 - ((ji5) : Int).toNat := ⟨_, rfl⟩
              have hy22 : y413.length = x7_2.length - ((ji5) : Int).toNat := (by rw [Ny413.out, List.length_drop] <;> omega)
              rw [show (x7_2).drop ((ji5) : Int).toNat = y413 from Ny413.out.symm] at hr22
              replace hr22 : Kd.F (Kd.int .i64) _ _ A22 y413.length y413 := (by rw [hA22]; exact hr22)
              rw [← hy22, ← hA22, ← hc22] at hcut22
              have HO417 := Aside0.mk (show Kd.V (Kd.int .i64) 3 _ w.heap.size _ (.slice A22 y413.length c22) y413 from Kd.V_mk (by rw [hy22, hc22]; exact Nat.sub_le_sub_right hroom22 _) hr22)
              have HC417 := Aside0.mk (show y413.length ≤ c22 from by rw [hy22, hc22]; exact Nat.sub_le_sub_right hroom22 _)
              clear hr22 hC22 hroom22 hi022 hsz22 hc22
              have KY22 := Aside0.mk hy22
              have KA22 := Aside0.mk hA22
              clear hy22 hA22
              replace q22 := eq_true q22
              try go_wp2
              go_roundg k2
              case measure => have := HK1.out; have := HK2.out; omega
              case rel => exact ⟨(x3_2), (y410), (wrap64 ((wrap64 (x5_2 - 8)) - (wrap64 (4 * (ji5))))), (y413), (by first | rfl | (simp; done) | (simp only [← hji5] <;> (first | rfl | simp)) | (simp [*]; done)), H', ⟨by have := HK1.out; have := HK2.out; omega⟩, ⟨by (with_reducible repeat (first | apply Kd.V_alloc | apply Kd.V_drewN | apply Kd.V_drew)); exact Kd.V_mono HO_0.out (fun _ hk => ⟨hk.1.1, ⟨hk.1.2, hk.2⟩⟩)⟩, ⟨by (with_reducible repeat (first | apply Kd.N_alloc | apply Kd.N_drewN | apply Kd.N_drew)); exact HO_3.out⟩, ⟨by (with_reducible repeat (first | apply Kd.N_alloc | apply Kd.N_drewN | apply Kd.N_drew)); exact HO412.out⟩, ⟨by (with_reducible repeat (first | apply Kd.V_alloc | apply Kd.V_drewN | apply Kd.V_drew)); exact Kd.V_mono HO417.out (fun _ hk => ⟨hk.1.1, ⟨hk.1.2, hk.2⟩⟩)⟩, ⟨by repeat (first | (with_reducible first | exact HB.out | apply z0f | apply z0c | apply z0e) | exact HB.out)⟩⟩
             ·rw [if_neg c15] at H
              exact absurd H (by simp)
            ·rw [if_neg c14] at H
             exact absurd H (by simp)
           ·rw [if_neg c13] at H
            exact absurd H (by simp)
          ·rw [if_neg c12] at H
           exact absurd H (by simp)
         ·rw [if_neg c11] at H
          exact absurd H (by simp)
       ·rw [if_neg c4] at H
        have c4b0 : decide (0 < (x7_2.length : Int)) = false := decide_eq_false c4
        have c4b1 : decide (0 < x7_2.length) = false := decide_eq_false (by omega)
        clear c4
        have H' := Aside0.mk H
        clear H
        obtain ⟨Ao23, co23, eo23⟩ := Kd.V_slice HO_7.out
        subst eo23
        go_wp2
        go_roundg k2
        case measure => have := HK1.out; have := HK2.out; omega
        case rel => exact ⟨(x3_2), (x4_2), (x5_2), (wrap64 (x6_1 + 1)), (by first | rfl | (simp; done) | (simp [*]; done)), (by first | rfl | (simp; done) | (simp [*]; done)), H', ⟨by have := HK1.out; have := HK2.out; omega⟩, ⟨by (with_reducible repeat (first | apply Kd.V_alloc | apply Kd.V_drewN | apply Kd.V_drew)); exact HO_0.out⟩, ⟨by (with_reducible repeat (first | apply Kd.N_alloc | apply Kd.N_drewN | apply Kd.N_drew)); exact HO_3.out⟩, ⟨by (with_reducible repeat (first | apply Kd.N_alloc | apply Kd.N_drewN | apply Kd.N_drew)); exact HO_4.out⟩, ⟨by repeat (first | (with_reducible first | exact HB.out | apply z0f | apply z0c | apply z0e) | exact HB.out)⟩⟩
    ·rw [if_neg c3] at H
     exact absurd H (by simp)
   ·rw [if_neg c2] at H
    have c2b0 : decide (x6_1 < (l0.length : Int)) = false := decide_eq_false c2
    clear c2
    by_cases c24 : (x4_1.length : Int) > 0
    ·rw [if_pos c24] at H
     have c24b0 : decide (0 < (x4_1.length : Int)) = true := decide_eq_true c24
     have c24b1 : decide (0 < x4_1.length) = true := decide_eq_true (by omega)
     clear c24
     by_cases c25 : x3_1.length < 5864062014805
     ·rw [if_pos c25] at H
      have LMc25 := Aside0.mk c25
      clear c25
      obtain ⟨y397, hy397⟩ : ∃ y_ : List (List (S64)), y_ = (x3_1 ++ [x4_1]) := ⟨_, rfl⟩
      replace H : (some y397) = some r := by first | (rw [hy397]; with_reducible exact H) | (have H2_ := (Option.bind_some _ _).symm.trans H; rw [hy397]; with_reducible exact H2_) | (have H2_ := (Option.bind_some _ _).symm.trans H; with_reducible exact H2_) | with_reducible exact H | (rw [hy397]; exact H) | exact H
      have Ny397 := Aside0.mk hy397
      clear hy397
      obtain rfl := Option.some.inj H
      obtain ⟨Ao26, co26, eo26⟩ := Kd.N_slice HO_4.out
      subst eo26
      go_wp2_with (first | ((with_reducible refine z1n (b := .append) (xs := #[.tmp 58, .tmp 60]) rfl ?_); at_builtin; refine Kd.N_append (Kd.slice 64 k64) (w0 := w) w.heap.size rfl (.tmp 58) (.tmp 60) 90 26 (.slice none 0 0) 24 rfl Tryz.underlying90 info26 rfl (by decide) (by omega) u3 x3_1 x4_1 [.slice Ao26 x4_1.length co26] (fun k_ => (P0_ k_ ∨ w.heap.size ≤ k_)) (fun k_ => ((fun k_ => (P0_ k_ ∨ w.heap.size ≤ k_))) k_ ∧ some k_ ≠ (u3 : Value).ownBlock) rfl rfl ?aP (fun _ hk => hk) ?aF ?aO ?aB ?aS ?aL ?_; (case aP => exact (Kd.FK_slice_mk (Kd.N_reads' (Kd.N_mono (ok' := (fun k_ => ((fun k_ => (P0_ k_ ∨ w.heap.size ≤ k_))) k_ ∧ some k_ ≠ (u3 : Value).ownBlock)) (HO_4.out) (fun k_ hk => ⟨hk.1, hk.2⟩))).2.1 (Kd.N_F (Kd.N_mono (ok' := (fun k_ => ((fun k_ => (P0_ k_ ∨ w.heap.size ≤ k_))) k_ ∧ some k_ ≠ (u3 : Value).ownBlock)) (HO_4.out) (fun k_ hk => ⟨hk.1, hk.2⟩))))); (case aB => exact (by repeat (first | (with_reducible first | exact HB.out | apply z0f | apply z0c | apply z0e) | exact HB.out))); (case aF => exact (fun k_ hk => (.inr (Nat.le_trans (z0m (by repeat (first | (with_reducible first | exact HB.out | apply z0f | apply z0c | apply z0e) | exact HB.out))) hk)))); (case aO => exact (by (with_reducible repeat (first | apply Kd.N_alloc | apply Kd.N_drewN | apply Kd.N_drew)); exact Kd.N_mono HO_3.out (fun _ hk => hk.1))); (case aS => exact (z0m (by repeat (first | (with_reducible first | exact HB.out | apply z0f | apply z0c | apply z0e) | exact HB.out)))); (case aL => have := LMc25.out; omega); intro v398 w27 ho hb hg hat; rw [← Ny397.out] at ho; have n0_ := Aside0.mk (Kd.V_afterv (ok := (fun k_ => (P0_ k_ ∨ w.heap.size ≤ k_) ∧ some k_ ≠ (.slice Ao26 x4_1.length co26 : Value).ownBlock)) (by (with_reducible repeat (first | apply Kd.V_alloc | apply Kd.V_drewN | apply Kd.V_drew)); exact Kd.V_mono HO_0.out (fun _ hk => ⟨⟨hk.1, hk.2.2⟩, hk.2.1⟩)) hg hat); have n1_ := Aside0.mk (hb); have n2_ := Aside0.mk (ho); clear HO_0; clear HB; clear HO_3; clear HO_4; have HO_0 := n0_; have HB := n1_; have HO399 := n2_; clear n0_ n1_ n2_; clear ho hb hg hat))
      go_ret
      exact ⟨_, by first | rfl | (simp [z0r, z0s] <;> rfl) | (simp [*, z0r, z0s] <;> rfl), by (with_reducible repeat (first | apply Kd.N_alloc | apply Kd.N_drewN | apply Kd.N_drew)); exact HO399.out, by repeat (first | (with_reducible first | exact HB.out | apply z0f | apply z0c | apply z0e) | exact HB.out)⟩
     ·rw [if_neg c25] at H
      exact absurd H (by simp)
    ·rw [if_neg c24] at H
     have c24b0 : decide (0 < (x4_1.length : Int)) = false := decide_eq_false c24
     have c24b1 : decide (0 < x4_1.length) = false := decide_eq_false (by omega)
     clear c24
     obtain rfl := Option.some.inj H
     obtain ⟨Ao28, co28, eo28⟩ := Kd.N_slice HO_4.out
     subst eo28
     go_wp2
     go_ret
     exact ⟨_, by first | rfl | (simp [z0r, z0s] <;> rfl) | (simp [*, z0r, z0s] <;> rfl), by (with_reducible repeat (first | apply Kd.N_alloc | apply Kd.N_drewN | apply Kd.N_drew)); exact Kd.N_mono HO_3.out (fun _ hk => hk.1), by repeat (first | (with_reducible first | exact HB.out | apply z0f | apply z0c | apply z0e) | exact HB.out)⟩
def understoryref04_ListNeeds.f (k : Nat) (l0 : List (S64)) : Option (Int × Int) := (understoryref04_freed.f k l0).bind fun t419 => (if t419 = true then ((understoryref04_parts.f k l0).bind fun t420 => (some ((t420.length : Int), 0))) else (some (0, 2)))
theorem understoryref04_ListNeeds.mono : ∀ a0 k, LeO (understoryref04_ListNeeds.f k a0) (understoryref04_ListNeeds.f (k + 1) a0) := by
 intro a0 k
 unfold understoryref04_ListNeeds.f
 repeat' first
   | (with_reducible exact understoryref04_freed.mono _ _)
   | (with_reducible exact understoryref04_parts.mono _ _)
   | (with_reducible exact LeO.refl _)
   | (with_reducible exact LeO.none _)
   | (with_reducible refine LeO.ite ?_ ?_)
   | (with_reducible refine LeO.bind ?_ (fun _ => ?_))
   | exact understoryref04_freed.mono _ _
   | exact understoryref04_parts.mono _ _
   | exact LeO.none _
   | refine LeO.ite ?_ ?_
   | refine LeO.bind ?_ (fun _ => ?_)
def understoryref12_without.l0 : Nat → List Int → Int → List Int → Int → Option (List Int)
 | 0, _, _, _, _ => none
 | k + 1, x0, x1, x5, x6 => if x6 < (x0.length : Int) then (if 0 ≤ x6 then (if (rd x0 x6) = x1 then (understoryref12_without.l0 k x0 x1 x5 (wrap64 (x6 + 1))) else (if x5.length < 17592186044416 then (understoryref12_without.l0 k x0 x1 (x5 ++ [rd x0 x6]) (wrap64 (x6 + 1))) else (none))) else (none)) else (some x5)
def understoryref12_without.f (k : Nat) (l0 : List Int) (a1 : Int) : Option (List Int) := understoryref12_without.l0 k l0 a1 ([] : List Int) 0
theorem understoryref12_without.mono_l : ∀ k, (∀ y0 y1 y2 y3, LeO (understoryref12_without.l0 k y0 y1 y2 y3) (understoryref12_without.l0 (k + 1) y0 y1 y2 y3))
 | 0 => fun _ _ _ _ r h => by simp [understoryref12_without.l0] at h
 | k + 1 => by
  have ih0 := understoryref12_without.mono_l k
  ·intro y0 y1 y2 y3
   unfold understoryref12_without.l0
   repeat' first
   | (with_reducible exact ih0 _ _ _ _)
   | (with_reducible exact LeO.refl _)
   | (with_reducible exact LeO.none _)
   | (with_reducible refine LeO.ite ?_ ?_)
   | (with_reducible refine LeO.bind ?_ (fun _ => ?_))
   | exact ih0 _ _ _ _
   | exact LeO.none _
   | refine LeO.ite ?_ ?_
   | refine LeO.bind ?_ (fun _ => ?_)
theorem understoryref12_without.mono : ∀ a0 a1 k, LeO (understoryref12_without.f k a0 a1) (understoryref12_without.f (k + 1) a0 a1) := by
 intro a0 a1 k
 have ih0 := understoryref12_without.mono_l k
 unfold understoryref12_without.f
 repeat' first
   | (with_reducible exact ih0 _ _ _ _)
   | (with_reducible exact LeO.refl _)
   | (with_reducible exact LeO.none _)
   | (with_reducible refine LeO.ite ?_ ?_)
   | (with_reducible refine LeO.bind ?_ (fun _ => ?_))
   | exact ih0 _ _ _ _
   | exact LeO.none _
   | refine LeO.ite ?_ ?_
   | refine LeO.bind ?_ (fun _ => ?_)
set_option maxHeartbeats 8000000 in
set_option maxRecDepth 100000 in
theorem understoryref12_without.calls (k : Nat) (A0 : Option Addr) (c0 : Nat) (l0 : List Int) (a1 : Int) (r : List Int) (w : World) (hr0 : Kd.C (Kd.int .i64) w A0 l0.length l0) (hc0 : l0.length ≤ c0) (h : understoryref12_without.f k l0 a1 = some r) :
  Calls Tryz.prog 109 #[.slice A0 l0.length c0, .int .i64 a1] w fun e w' => ∃ v0_ : Value, e = .returned (v0_) ∧ Kd.R (Kd.int .i64) 3 w' w.heap.size (fun _ => True) v0_ r ∧ Below w.heap.size w w' := by
 have HR0 := Aside0.mk hr0
 have HC0 := Aside0.mk hc0
 clear hr0 hc0
 have HB := Aside0.mk (Below.refl w.heap.size w)
 have H : (understoryref12_without.l0 k l0 a1 ([] : List Int) 0) = some r := h
 clear h
 have H' := Aside0.mk H
 clear H
 go_enter Tryz.func109, Tryz.ntmps109
 go_wp2
 go_loopg [5, 6] k (fun kq v5 v6 w' => ∃ (x5_1 : List Int) (x6_1 : Int), v6 = .int .i64 x6_1 ∧ Aside0 (understoryref12_without.l0 kq l0 a1 x5_1 x6_1 = some r) ∧ Aside0 (kq ≤ k) ∧ Aside0 (Kd.R (Kd.int .i64) 3 w' w.heap.size (fun _ => True) v5 x5_1) ∧ Aside0 (Below w.heap.size w w'))
 case atStart => exact ⟨(([] : List Int)), (0), (by first | rfl | (simp; done) | (simp [*]; done)), H', ⟨Nat.le_refl _⟩, ⟨by first | exact Kd.R_nil _ _ _ _ _ | exact Kd.N_nil _ _ _ _ _ | exact Kd.V_nil _ _ _ _ _ | exact Kd.Q_nil _ _ _ _ _ | exact Kd.S_nil _ _ _ _ _⟩, ⟨by repeat (first | (with_reducible first | exact HB.out | apply z0f | apply z0c | apply z0e) | exact HB.out)⟩⟩
 case round =>
  clear H'
  try clear c1
  try clear p2
  obtain ⟨x5_1, x6_1, rfl, HA, HK1, HO_5, HB⟩ := hrel
  cases gk with
  | zero => exact absurd HA.out (by simp [understoryref12_without.l0])
  | succ k1 =>
   have H := HA.out
   clear HA
   simp only [understoryref12_without.l0] at H
   by_cases c3 : x6_1 < (l0.length : Int)
   ·rw [if_pos c3] at H
    have c3b0 : decide (x6_1 < (l0.length : Int)) = true := decide_eq_true c3
    clear c3
    by_cases c4 : 0 ≤ x6_1
    ·rw [if_pos c4] at H
     have c4b0 : decide (0 ≤ x6_1) = true := decide_eq_true c4
     clear c4
     by_cases c5 : (rd l0 x6_1) = a1
     ·rw [if_pos c5] at H
      have c5b0 : ((rd l0 x6_1) == a1) = true := beq_iff_eq.mpr c5
      have c5b1 : ((rd l0 x6_1) != a1) = false := bne_eq_false_iff_eq.mpr c5
      clear c5
      have H' := Aside0.mk H
      clear H
      have p423 : 0 ≤ (x6_1 : Int) := of_decide_eq_true (by first | (with_reducible assumption) | assumption)
      have q423 : x6_1 < (l0.length : Int) := of_decide_eq_true (by first | (with_reducible assumption) | assumption)
      obtain ⟨ad423, e423, hx423_0⟩ := Kd.at_int HR0.out x6_1 p423 q423
      cases e423
      replace hx423_0 := (HB.out.cell (World.block_lt_of_cell? w _ hx423_0)).trans hx423_0
      replace p423 := eq_true p423
      replace q423 := eq_true q423
      go_wp2
      go_roundg k1
      case measure => have := HK1.out; omega
      case rel => exact ⟨(x5_1), (wrap64 (x6_1 + 1)), (by first | rfl | (simp; done) | (simp [*]; done)), H', ⟨by have := HK1.out; omega⟩, ⟨by (with_reducible repeat (first | apply Kd.R_alloc | apply Kd.R_drewN | apply Kd.R_drew)); exact HO_5.out⟩, ⟨by repeat (first | (with_reducible first | exact HB.out | apply z0f | apply z0c | apply z0e) | exact HB.out)⟩⟩
     ·rw [if_neg c5] at H
      have c5b0 : ((rd l0 x6_1) == a1) = false := beq_eq_false_iff_ne.mpr c5
      have c5b1 : ((rd l0 x6_1) != a1) = true := bne_iff_ne.mpr c5
      by_cases c6 : x5_1.length < 17592186044416
      ·rw [if_pos c6] at H
       have LMc6 := Aside0.mk c6
       clear c6
       obtain ⟨y425, hy425⟩ : ∃ y_ : List Int, y_ = (x5_1 ++ [rd l0 x6_1]) := ⟨_, rfl⟩
       replace H : (understoryref12_without.l0 k1 l0 a1 y425 (wrap64 (x6_1 + 1))) = some r := by first | (rw [hy425]; with_reducible exact H) | (have H2_ := (Option.bind_some _ _).symm.trans H; rw [hy425]; with_reducible exact H2_) | (have H2_ := (Option.bind_some _ _).symm.trans H; with_reducible exact H2_) | with_reducible exact H | (rw [hy425]; exact H) | exact H
       have Ny425 := Aside0.mk hy425
       clear hy425
       have H' := Aside0.mk H
       clear H
       have p423 : 0 ≤ (x6_1 : Int) := of_decide_eq_true (by first | (with_reducible assumption) | assumption)
       have q423 : x6_1 < (l0.length : Int) := of_decide_eq_true (by first | (with_reducible assumption) | assumption)
       obtain ⟨ad423, e423, hx423_0⟩ := Kd.at_int HR0.out x6_1 p423 q423
       cases e423
       replace hx423_0 := (HB.out.cell (World.block_lt_of_cell? w _ hx423_0)).trans hx423_0
       replace p423 := eq_true p423
       replace q423 := eq_true q423
       have p424 : 0 ≤ (x6_1 : Int) := of_decide_eq_true (by first | (with_reducible assumption) | assumption)
       have q424 : x6_1 < (l0.length : Int) := of_decide_eq_true (by first | (with_reducible assumption) | assumption)
       obtain ⟨ad424, e424, hx424_0⟩ := Kd.at_int HR0.out x6_1 p424 q424
       obtain rfl : ad423 = ad424 := (by injection e424)
       replace hx424_0 := (HB.out.cell (World.block_lt_of_cell? w _ hx424_0)).trans hx424_0
       replace p424 := eq_true p424
       replace q424 := eq_true q424
       go_wp2_with (first | ((with_reducible refine z1n (b := .append) (xs := #[.tmp 19, .tmp 24]) rfl ?_); at_builtin; refine Kd.R_append (Kd.int .i64) (w0 := w) w.heap.size rfl (.tmp 19) (.tmp 24) 23 3 (.int .i64 0) 8 rfl Tryz.underlying23 info3 rfl (by decide) (by omega) u5 x5_1 (rd l0 x6_1) [.int .i64 (rd l0 x6_1)] (fun _ => True) (fun _ => False) rfl rfl ?aP (fun _ hk => hk.elim) ?aF ?aO ?aB ?aS ?aL ?_; (case aP => exact rfl); (case aB => exact (by repeat (first | (with_reducible first | exact HB.out | apply z0f | apply z0c | apply z0e) | exact HB.out))); (case aF => exact (fun _ _ => trivial)); (case aO => exact (by (with_reducible repeat (first | apply Kd.R_alloc | apply Kd.R_drewN | apply Kd.R_drew)); exact HO_5.out)); (case aS => exact (z0m (by repeat (first | (with_reducible first | exact HB.out | apply z0f | apply z0c | apply z0e) | exact HB.out)))); (case aL => have := LMc6.out; omega); intro v426 w7 ho hb hg hat; rw [← Ny425.out] at ho; have n0_ := Aside0.mk (hb); have n1_ := Aside0.mk (ho); clear HB; clear HO_5; have HB := n0_; have HO427 := n1_; clear n0_ n1_; clear ho hb hg hat))
       go_roundg k1
       case measure => have := HK1.out; omega
       case rel => exact ⟨(y425), (wrap64 (x6_1 + 1)), (by first | rfl | (simp; done) | (simp [*]; done)), H', ⟨by have := HK1.out; omega⟩, ⟨by (with_reducible repeat (first | apply Kd.R_alloc | apply Kd.R_drewN | apply Kd.R_drew)); exact HO427.out⟩, ⟨by repeat (first | (with_reducible first | exact HB.out | apply z0f | apply z0c | apply z0e) | exact HB.out)⟩⟩
      ·rw [if_neg c6] at H
       exact absurd H (by simp)
    ·rw [if_neg c4] at H
     exact absurd H (by simp)
   ·rw [if_neg c3] at H
    have c3b0 : decide (x6_1 < (l0.length : Int)) = false := decide_eq_false c3
    clear c3
    obtain rfl := Option.some.inj H
    go_wp2
    go_ret
    exact ⟨_, by first | rfl | (simp [z0r, z0s] <;> rfl) | (simp [*, z0r, z0s] <;> rfl), by (with_reducible repeat (first | apply Kd.R_alloc | apply Kd.R_drewN | apply Kd.R_drew)); exact HO_5.out, by repeat (first | (with_reducible first | exact HB.out | apply z0f | apply z0c | apply z0e) | exact HB.out)⟩
end Go.Proofs.YtpnhelcemodnmaaGreat.PA
namespace Go.Proofs.YtpnhelcemodnmaaGreat
open Go.RowKit Go.Shelf Go.Proofs.YtpnhelcemodnmaaGreatW.PrintWords Go.Proofs.YtpnhelcemodnmaaGreatW.PrintLast Go.Proofs.YtpnhelcemodnmaaGreatW.PrintMore PA
set_option linter.unusedVariables false
set_option linter.unusedSimpArgs false
attribute [local go_sem] Oper.semAt_some
def cutAll (m : Int) (l : List S64) : List S64 := l.foldr (fun f t => if f.f1.filter (fun x => decide (x < m)) = [] then t else ⟨f.f0, f.f1.filter (fun x => decide (x < m))⟩ :: t) []
theorem z43 (m : Int) (f : S64) (t : List S64) : cutAll m (f :: t) = if f.f1.filter (fun x => decide (x < m)) = [] then cutAll m t else ⟨f.f0, f.f1.filter (fun x => decide (x < m))⟩ :: cutAll m t := rfl
theorem cut_l1 (l : List S64) (m : Int) (out : List S64) (i : Nat) (hi : i < l.length) (hf : (rd_T64 l (i : Int)).f1.length ≤ 1000000) (ho : out.length ≤ 1000000) (hl : l.length ≤ 1000000) (d : Nat) : ∀ (k q : Nat), q ≤ (rd_T64 l (i : Int)).f1.length → (rd_T64 l (i : Int)).f1.length - q = d →
  understoryref12_cut.l1 (d + 1 + k) l m out (i : Int) (q : Int) (rd_T64 l (i : Int)).f0 (((rd_T64 l (i : Int)).f1.take q).filter fun x => decide (x < m)) = understoryref12_cut.l0 k l m (if (rd_T64 l (i : Int)).f1.filter (fun x => decide (x < m)) = [] then out else out ++ [⟨(rd_T64 l (i : Int)).f0, (rd_T64 l (i : Int)).f1.filter (fun x => decide (x < m))⟩]) ((i + 1 : Nat) : Int) := by
 induction d with
 | zero =>
  intro k q h1 h2
  obtain rfl : q = (rd_T64 l (i : Int)).f1.length := by omega
  rw [List.take_length, show 0 + 1 + k = k + 1 by omega]
  simp only [understoryref12_cut.l1]
  rw [if_pos (by omega), if_pos (by omega), if_neg (by omega), wrapp _ (by omega)]
  by_cases c : (rd_T64 l (i : Int)).f1.filter (fun x => decide (x < m)) = []
  ·rw [c, if_neg (by simp), if_pos rfl]
  ·have := List.length_pos_iff.2 c
   rw [if_pos (by omega), if_pos (by omega), if_neg c]
 | succ d ih =>
  intro k q h1 h2
  have hlt : q < (rd_T64 l (i : Int)).f1.length := by omega
  have hle : (((rd_T64 l (i : Int)).f1.take q).filter fun x => decide (x < m)).length ≤ 1000000 := Nat.le_trans (List.length_filter_le _ _) (by rw [List.length_take]; omega)
  rw [show d + 1 + 1 + k = (d + 1 + k) + 1 by omega]
  simp only [understoryref12_cut.l1]
  rw [if_pos (by omega), if_pos (by omega), if_pos (by omega), if_pos (by omega), z0u _ q hlt, wrapp _ (by omega)]
  have e := ih k (q + 1) (by omega) (by omega)
  rw [List.take_succ_eq_append_getElem hlt, List.filter_append] at e
  by_cases c : (rd_T64 l (i : Int)).f1[q] < m
  ·rw [if_pos c, if_pos (by omega)]
   rw [show List.filter (fun x => decide (x < m)) [(rd_T64 l (i : Int)).f1[q]] = [(rd_T64 l (i : Int)).f1[q]] by simp [c]] at e
   exact e
  ·rw [if_neg c]
   rw [show List.filter (fun x => decide (x < m)) [(rd_T64 l (i : Int)).f1[q]] = [] by simp; omega, List.append_nil] at e
   exact e
theorem cut_l0 (l : List S64) (m : Int) (hl : smallL l) (d : Nat) : ∀ (i : Nat) (out : List S64), i ≤ l.length → l.length - i = d → out.length ≤ i → ∃ K, understoryref12_cut.l0 K l m out (i : Int) = some (out ++ cutAll m (l.drop i)) := by
 induction d with
 | zero =>
  intro i out h1 h2 h3
  obtain rfl : i = l.length := by omega
  refine ⟨1, ?_⟩
  simp only [understoryref12_cut.l0]
  rw [if_neg (by omega), List.drop_length]
  simp [cutAll]
 | succ d ih =>
  intro i out h1 h2 h3
  have hlt : i < l.length := by omega
  have hll := hl.1
  have hf := z16 hl _ (List.getElem_mem hlt)
  rw [← z05 l i hlt] at hf
  obtain ⟨K, hK⟩ := ih (i + 1) (if (rd_T64 l (i : Int)).f1.filter (fun x => decide (x < m)) = [] then out else out ++ [⟨(rd_T64 l (i : Int)).f0, (rd_T64 l (i : Int)).f1.filter (fun x => decide (x < m))⟩]) (by omega) (by omega) (by split <;> (try simp) <;> omega)
  refine ⟨((rd_T64 l (i : Int)).f1.length + 1 + K) + 1, ?_⟩
  simp only [understoryref12_cut.l0]
  rw [if_pos (by omega), if_pos (by omega)]
  have e := cut_l1 l m out i hlt hf (by omega) (by omega) _ K 0 (Nat.zero_le _) rfl
  rw [List.take_zero] at e
  refine (show _ = _ from e).trans (hK.trans ?_)
  rw [List.drop_eq_getElem_cons hlt, z43, ← z05 l i hlt]
  congr 1
  split <;> simp
theorem cut_any (l : List S64) (m : Int) (A : Option Addr) (c : Nat) (w : World) (hC : k64.C w A l.length l) (hc : l.length ≤ c) (hs : smallL l) :
  Calls Tryz.prog 62 #[.slice A l.length c, .int .i64 m] w fun e w' => ∃ v, e = .returned v ∧ Kd.S k64 64 w' w.heap.size (fun _ => True) v (cutAll m l) ∧ Below w.heap.size w w' := by
 obtain ⟨K, hK⟩ := cut_l0 l m hs l.length 0 [] (Nat.zero_le _) rfl (Nat.zero_le _)
 exact understoryref12_cut.calls K A c l m _ w hC hc hK
theorem tailL_has (ys : List Int) : ∀ (p x : Int), tailL ys p ≤ x → x < p → x ∈ ys := by
 induction ys with
 | nil => intro p x h1 h2; rw [tailL] at h1; omega
 | cons y t ih =>
  intro p x h1 h2
  rw [tailL] at h1
  split at h1
  ·next e =>
   by_cases hx : x = p - 1
   ·rw [hx, e]; exact List.mem_cons_self
   ·exact List.mem_cons_of_mem _ (ih (p - 1) x h1 (by omega))
  ·omega
theorem z6z {m : Int} {l : List S64} (h : ∀ f ∈ l, f.f1 ≠ [] ∧ ∀ x ∈ f.f1, x < m) : cutAll m l = l := by
 induction l with
 | nil => rfl
 | cons f t ih =>
  have hf := h f (List.mem_cons_self)
  have e : f.f1.filter (fun x => decide (x < m)) = f.f1 := List.filter_eq_self.2 fun x hx => decide_eq_true (hf.2 x hx)
  rw [z43, e, if_neg hf.1, ih (fun g hg => h g (List.mem_cons_of_mem _ hg))]
theorem z60 {l : List S64} {x : Int} : x ∈ pagesOf l ↔ ∃ f ∈ l, x ∈ f.f1 := by
 induction l with
 | nil => simp [pagesOf, flat]
 | cons f t ih =>
  rw [show f :: t = [f] ++ t from rfl, z0y, z02, List.mem_append, ih]
  simp
theorem cut_keep {p : Int} {l : List S64} (h : validP p l) : cutAll (tailN l p) l = keepAll (tailN l p) l := by
 cases l with
 | nil => rfl
 | cons f t =>
  have hft := z3m h.2.1
  have hn := h.2.2
  rw [show f :: t = [f] ++ t from rfl, z0y, z02, List.nodup_append] at hn
  by_cases e : f.f0 = 0
  ·have et : tailN (f :: t) p = tailL f.f1.reverse p := by unfold tailN; simp [e]
   rw [et, z39 e, z43]
   rw [z6z (l := t) (fun g hg => ⟨(hft.2.1 g hg).2.2.1, fun x hx => ?_⟩)]
   ·unfold keepL restL
    rw [← e]
   ·have hx2 := ((hft.2.1 g hg).2.2.2.1 x hx).2
    by_cases c : x < tailL f.f1.reverse p
    ·exact c
    ·have := tailL_has f.f1.reverse p x (by omega) (by omega)
     exact absurd rfl (hn.2.2 x (List.mem_reverse.1 this) x (z60.2 ⟨g, hg, hx⟩))
  ·have et : tailN (f :: t) p = p := by unfold tailN; simp [e]
   rw [et, z4a e]
   exact z6z fun g hg => ⟨(h.2.1.1 g hg).2.2.1, fun x hx => by have := ((h.2.1.1 g hg).2.2.2.1 x hx).2; omega⟩
theorem z9e (xs : List Int) (n : Int) (hlm : xs.length ≤ 1000000) (d : Nat) : ∀ (k q : Nat), q ≤ xs.length → xs.length - q = d → d < k → understoryref12_without.l0 k xs n ((xs.take q).filter fun x => decide (x ≠ n)) (q : Int) = some (xs.filter fun x => decide (x ≠ n)) := by
 induction d with
 | zero =>
  intro k q h1 h2 h3
  obtain ⟨k, rfl⟩ : ∃ j, k = j + 1 := ⟨k - 1, by omega⟩
  obtain rfl : q = xs.length := by omega
  rw [List.take_length]
  simp only [understoryref12_without.l0]
  rw [if_neg (by omega)]
 | succ d ih =>
  intro k q h1 h2 h3
  obtain ⟨k, rfl⟩ : ∃ j, k = j + 1 := ⟨k - 1, by omega⟩
  have hlt : q < xs.length := by omega
  have e := ih k (q + 1) (by omega) (by omega) (by omega)
  have hle : ((xs.take q).filter fun x => decide (x ≠ n)).length ≤ 1000000 := Nat.le_trans (List.length_filter_le _ _) (by rw [List.length_take]; omega)
  rw [List.take_succ_eq_append_getElem hlt, List.filter_append] at e
  simp only [understoryref12_without.l0]
  rw [if_pos (by omega), if_pos (by omega), z0u xs q hlt, wrapp _ (by omega)]
  by_cases c : xs[q] = n
  ·rw [if_pos c]
   rw [show List.filter (fun x => decide (x ≠ n)) [xs[q]] = [] by simp [c], List.append_nil] at e
   exact e
  ·rw [if_neg c, if_pos (by omega)]
   rw [show List.filter (fun x => decide (x ≠ n)) [xs[q]] = [xs[q]] by simp [c]] at e
   exact e
theorem z9f (xs : List Int) (n : Int) (A : Option Addr) (c : Nat) (w : World) (hC : (Kd.int .i64).C w A xs.length xs) (hc : xs.length ≤ c) (hl : xs.length ≤ 1000000) :
  Calls Tryz.prog 109 #[.slice A xs.length c, .int .i64 n] w fun e w' => ∃ v, e = .returned v ∧ Kd.R (Kd.int .i64) 3 w' w.heap.size (fun _ => True) v (xs.filter fun x => decide (x ≠ n)) ∧ Below w.heap.size w w' :=
 understoryref12_without.calls (xs.length + 1) A c xs n _ w hC hc (z9e xs n hl xs.length _ 0 (Nat.zero_le _) rfl (by omega))
theorem z9g {n : Int} {t : List Int} (h : n ∉ t) : (n :: t).filter (fun x => decide (x ≠ n)) = t := by
 rw [List.filter_cons_of_neg (by simp)]
 exact List.filter_eq_self.2 fun x hx => decide_eq_true fun e => h (e ▸ hx)
theorem ispage_q {x : Int} (h : 2 ≤ x ∧ x < 4096) (w : World) (n : Nat) : Calls Tryz.prog 147 #[.int .i64 x] (w.drewN n) fun e w'' => e = .returned (.bool true) ∧ ∃ m, w'' = w.drewN m :=
 quiet0 (understoryref04_isPage.calls x true _ (by unfold understoryref04_isPage.f; rw [if_pos (by omega), decide_eq_true h.2]))
set_option maxRecDepth 100000 in
set_option maxHeartbeats 1000000 in
theorem z61 (l : List S64) (A : Option Addr) (c : Nat) (w : World) (hC : k64.C w A l.length l) (hc : l.length ≤ c) (hs : smallL l) (hf : formP 4096 l) :
  Calls Tryz.prog 107 #[.slice A l.length c] w fun e w' => e = .returned (.bool true) ∧ Below w.heap.size w w' := by
 have hlm := Kd.C_max hC
 have HC := Aside0.mk hC
 have HF := Lib.hid (fun (k : Nat) (h : k < l.length) => ((z1u 4096 l k h).1 (z3d 4096 l (k + 1) hf)).2)
 clear hC hf hs
 go_enter Tryz.func107, Tryz.ntmps107
 go_upto_region 2 with (fail)
 go_loopw [3] (fun i wr => ∃ k : Nat, k ≤ l.length ∧ i = .int .i64 k ∧ Aside0 (Below w.heap.size w wr))
  (fun i _ => l.length - (intOf i).toNat)
 case atStart => exact ⟨0, Nat.zero_le _, rfl, ⟨Below.refl _ _⟩⟩
 case round =>
  obtain ⟨k, hk, rfl, HB⟩ := hrel
  by_cases hlt : k < l.length
  ·obtain ⟨ad, A1, c1, rfl, hx0, hx1, hl1, hC1⟩ := z0n HC.out (k : Int) (by omega) (by omega)
   rw [Int.toNat_natCast] at hx0 hx1
   replace hx0 := cellB HB.out (Nat.le_refl _) hx0
   replace hx1 := cellB HB.out (Nat.le_refl _) hx1
   have hpv : ∀ j, k = j + 1 → wr.cell? (ad.add (j * 2)) = some (.int .i64 (rd_T64 l (j : Int)).f0) := fun j hj => by
    obtain ⟨ad2, A2, c2, e2, hy0, _⟩ := z0n HC.out (j : Int) (by omega) (by omega)
    obtain rfl : ad = ad2 := by injection e2
    rw [Int.toNat_natCast] at hy0
    exact cellB HB.out (Nat.le_refl _) hy0
   have hok := HF.out k hlt
   unfold okAt at hok
   obtain ⟨T, hT⟩ : ∃ T, rd_T64 l (k : Int) = T := ⟨_, rfl⟩
   rw [hT] at hx0 hx1 hl1 hC1 hok
   obtain ⟨v, xs⟩ := T
   dsimp only at hx0 hx1 hl1 hC1 hok
   have HCX := Aside0.mk hC1
   obtain ⟨⟨hv0, hv1⟩, hpr, hne, hinc⟩ := hok
   have HPR := Lib.hid hpr
   have HIN := Lib.hid hinc
   have d1 : decide (v < 0) = false := decide_eq_false (by omega)
   have d2 : decide (1099511627776 < v) = false := decide_eq_false (by omega)
   have hlp := List.length_pos_iff.2 hne
   have d4 : ((xs.length : Int) == 0) = false := by simp; omega
   have d5 : (xs.length == 0) = false := by simp; omega
   have hxl := Kd.C_max HCX.out
   clear hT hC1 hpr hinc hne hv0 hv1
   go_upto_region 5 with (fail)
   have hbk := z0l wr (.cells #[.int .i64 v, .slice A1 xs.length c1] 64)
   have hb1 := z0i wr (.cells #[.int .i64 v, .slice A1 xs.length c1] 64)
   obtain ⟨B, hBe⟩ : ∃ B, wr.heap.size = B := ⟨_, rfl⟩
   obtain ⟨W0, hW0⟩ : ∃ W0, wr.alloc (.cells #[.int .i64 v, .slice A1 xs.length c1] 64) = W0 := ⟨_, rfl⟩
   rw [hW0] at hbk hb1 ⊢
   rw [hBe] at hbk ⊢
   have HBK : Aside0 (W0.heap[B]? = some (.cells #[.int .i64 v, .slice A1 xs.length c1] 64 (0, 0))) := ⟨hbk⟩
   have HB0 := Aside0.mk (HB.out.trans (hb1.mono HB.out.size))
   replace hpv := fun j hj => cellB hb1 (Nat.le_refl _) (hpv j hj)
   have b0 : W0.cell? ⟨B, 0, none⟩ = some (.int .i64 v) := (z0a HBK.out 0).trans rfl
   have b1 : W0.cell? ⟨B, 1, none⟩ = some (.slice A1 xs.length c1) := (z0a HBK.out 1).trans rfl
   clear hbk hb1 hW0 hBe hx0 hx1 HB
   go_cut [44] from 6 to 76 (fun cc wx => cc = .bool false ∧ Drawn0 W0 wx)
   case first =>
    by_cases c3 : k = 0
    ·have d3 : decide (0 < k) = false := decide_eq_false (by omega)
     clear c3 hpv hlp
     repeat (go_quiet (fail); try go_wp2)
     go_meet
     case rel => refine ⟨rfl, ?_⟩; repeat (first | exact Drawn0.refl _ | apply Drawn0.step)
    ·have d3 : decide (0 < k) = true := decide_eq_true (by omega)
     have hy0 := hpv (k - 1) (by omega)
     have hpr := HPR.out (k - 1) (by omega)
     obtain ⟨u, hu⟩ : ∃ u, (rd_T64 l ((k - 1 : Nat) : Int)).f0 = u := ⟨_, rfl⟩
     rw [hu] at hy0 hpr
     have hkl : k - 1 < l.length := by omega
     have hw : IntKind.i64.wrap ((k : Int) - 1) = ((k - 1 : Nat) : Int) := by rw [IntKind.wrap_i64]; omega
     have d6 : decide (v ≤ u) = false := decide_eq_false (by omega)
     clear c3 hpv hu hpr hlp
     repeat (go_quiet (fail); try go_wp2)
     go_meet
     case rel => refine ⟨rfl, ?_⟩; repeat (first | exact Drawn0.refl _ | apply Drawn0.step)
   case rest =>
    obtain ⟨rfl, nd, rfl⟩ := hcut
    go_upto_region 8 with (fail)
    have HBK1 : Aside0 ((W0.drewN nd).heap[B]? = some (.cells #[.int .i64 v, .slice A1 xs.length c1] 64 (0, 0))) := ⟨z0p HBK.out nd⟩
    have HB1 := Aside0.mk (z0c HB0.out nd)
    obtain ⟨W1, hW1⟩ : ∃ W1, W0.drewN nd = W1 := ⟨_, rfl⟩
    rw [hW1] at HBK1 HB1 ⊢
    clear hW1 b0 b1 HBK HB0 hpv HPR d1 d2 d4 d5 hlp
    go_loopw [5] (fun i wi => ∃ q : Nat, q ≤ xs.length ∧ i = .int .i64 q ∧ Aside0 (wi.heap[B]? = some (.cells #[.int .i64 v, .slice A1 xs.length c1] 64 (0, 0))) ∧ Aside0 (Below w.heap.size w wi))
     (fun i _ => xs.length - (intOf i).toNat)
    case atStart => exact ⟨0, Nat.zero_le _, rfl, HBK1, HB1⟩
    case round =>
     clear HBK1 HB1
     obtain ⟨q, hq, rfl, HBI, HBW⟩ := hrel
     have y1 : wr.cell? ⟨B, 1, none⟩ = some (.slice A1 xs.length c1) := (z0a HBI.out 1).trans rfl
     by_cases hql : q < xs.length
     ·obtain ⟨bd, rfl, hx⟩ := Kd.at_int (Kd.C_below HCX.out HBW.out) (q : Int) (by omega) (by omega)
      rw [Int.toNat_natCast, z0u xs q hql] at hx
      have hxb := HIN.out.1 _ (List.getElem_mem hql)
      have hpx : ∀ j, (hj : q = j + 1) → wr.cell? (bd.add j) = some (.int .i64 (xs[j]'(by omega))) ∧ xs[j]'(by omega) < xs[q] := fun j hj => by
       obtain ⟨bd2, e2, hy⟩ := Kd.at_int (Kd.C_below HCX.out HBW.out) (j : Int) (by omega) (by omega)
       obtain rfl : bd = bd2 := by injection e2
       rw [Int.toNat_natCast, z0u xs j (by omega)] at hy
       exact ⟨hy, List.pairwise_iff_getElem.1 HIN.out.2 j q (by omega) hql (by omega)⟩
      obtain ⟨x, hxx⟩ : ∃ x, xs[q] = x := ⟨_, rfl⟩
      rw [hxx] at hx hxb
      have HPG := Aside0.mk (ispage_q (x := x) ⟨hxb.1, by omega⟩)
      go_upto_region 10 with (fail)
      go_cut [76] from 45 to 76 (fun cc wx => cc = .bool false ∧ Drawn0 wr wx)
      case first =>
       by_cases c3 : q = 0
       ·have d3 : decide (0 < q) = false := decide_eq_false (by omega)
        clear c3 hpx hxx hxb
        repeat (go_quiet ((go_at_call 147; exact HPG.out _ _)); try go_wp2)
        go_meet
        case rel => refine ⟨rfl, ?_⟩; repeat (first | exact Drawn0.refl _ | apply Drawn0.step)
       ·have d3 : decide (0 < q) = true := decide_eq_true (by omega)
        have hpq := hpx (q - 1) (by omega)
        rw [hxx] at hpq
        obtain ⟨hy0, hlu⟩ := hpq
        obtain ⟨u, hu⟩ : ∃ u, xs[q - 1] = u := ⟨_, rfl⟩
        rw [hu] at hy0 hlu
        have hkl : q - 1 < xs.length := by omega
        have hw : IntKind.i64.wrap ((q : Int) - 1) = ((q - 1 : Nat) : Int) := by rw [IntKind.wrap_i64]; omega
        have d6 : decide (x ≤ u) = false := decide_eq_false (by omega)
        clear c3 hpx hu hxx hxb hlu
        repeat (go_quiet ((go_at_call 147; exact HPG.out _ _)); try go_wp2)
        go_meet
        case rel => refine ⟨rfl, ?_⟩; repeat (first | exact Drawn0.refl _ | apply Drawn0.step)
      case rest =>
       obtain ⟨rfl, nd2, rfl⟩ := hcut
       clear hpx hxx hxb
       go_wp2
       go_roundw
       case rel => exact ⟨q + 1, by omega, by go_num, ⟨z0p HBI.out nd2⟩, ⟨z0c HBW.out nd2⟩⟩
       case measure => simp [intOf]; omega
     ·obtain rfl : q = xs.length := by omega
      go_wp2
      go_roundw
      case rel => exact ⟨k + 1, by omega, by go_num, HBW⟩
      case measure => simp [intOf]; omega
  ·obtain rfl : k = l.length := by omega
   go_wp2
   go_ret
   exact ⟨rfl, HB.out⟩
end Go.Proofs.YtpnhelcemodnmaaGreat
namespace Go.Proofs.YtpnhelcemodnmaaGreat.PA
open Go.RowKit Go.Proofs.YtpnhelcemodnmaaGreatW.PrintWords Go.Proofs.YtpnhelcemodnmaaGreatW.PrintLast Go.Proofs.YtpnhelcemodnmaaGreatW.PrintMore
attribute [local go_sem] z1c z1d z1e z1f z1i z1j z1k z1l
set_option linter.unusedVariables false
set_option linter.unusedSimpArgs false
mutual
def understoryref12_Is.l0 : Nat → List (S64) → Int → List Bool → Int → Option (Bool)
 | 0, _, _, _, _ => none
 | k + 1, x0, x1, x5, x6 => if x6 < (x0.length : Int) then (if 0 ≤ x6 then (if ((rd_T64 x0 x6).f0) < 0 then (understoryref12_Is.j1 k x0 x1 x5 x6 true ((rd_T64 x0 x6).f0) ((rd_T64 x0 x6).f1)) else (if ((rd_T64 x0 x6).f0) > 1099511627776 then (understoryref12_Is.j1 k x0 x1 x5 x6 true ((rd_T64 x0 x6).f0) ((rd_T64 x0 x6).f1)) else (if x6 > 0 then (if 0 ≤ (wrap64 (x6 - 1)) then (if (wrap64 (x6 - 1)) < (x0.length : Int) then (if ((rd_T64 x0 x6).f0) ≤ ((rd_T64 x0 (wrap64 (x6 - 1))).f0) then (understoryref12_Is.j1 k x0 x1 x5 x6 true ((rd_T64 x0 x6).f0) ((rd_T64 x0 x6).f1)) else (understoryref12_Is.j1 k x0 x1 x5 x6 ((((rd_T64 x0 x6).f1).length : Int) == 0) ((rd_T64 x0 x6).f0) ((rd_T64 x0 x6).f1))) else (none)) else (none)) else (understoryref12_Is.j1 k x0 x1 x5 x6 ((((rd_T64 x0 x6).f1).length : Int) == 0) ((rd_T64 x0 x6).f0) ((rd_T64 x0 x6).f1))))) else (none)) else (some true)
def understoryref12_Is.j1 : Nat → List (S64) → Int → List Bool → Int → Bool → Int → List Int → Option (Bool)
 | 0, _, _, _, _, _, _, _ => none
 | k + 1, x0, x1, x5, x6, x50, x304000, x304001 => if x50 = true then (some false) else (understoryref12_Is.l1 k x0 x1 x5 x6 0 x304000 x304001)
def understoryref12_Is.l1 : Nat → List (S64) → Int → List Bool → Int → Int → Int → List Int → Option (Bool)
 | 0, _, _, _, _, _, _, _ => none
 | k + 1, x0, x1, x5, x6, x8, x304000, x304001 => if x8 < (x304001.length : Int) then (if 0 ≤ x8 then (if (rd x304001 x8) < 2 then (some false) else (if (rd x304001 x8) ≥ x1 then (some false) else (if 0 ≤ (rd x304001 x8) then (if (rd x304001 x8) < (x5.length : Int) then (if rdOf false x5 (rd x304001 x8) = true then (some false) else (if x8 > 0 then (if 0 ≤ (wrap64 (x8 - 1)) then (if (wrap64 (x8 - 1)) < (x304001.length : Int) then (if (rd x304001 x8) ≤ (rd x304001 (wrap64 (x8 - 1))) then (some false) else (understoryref12_Is.l1 k x0 x1 (x5.set ((rd x304001 x8) : Int).toNat true) x6 (wrap64 (x8 + 1)) x304000 x304001)) else (none)) else (none)) else (understoryref12_Is.l1 k x0 x1 (x5.set ((rd x304001 x8) : Int).toNat true) x6 (wrap64 (x8 + 1)) x304000 x304001))) else (none)) else (none)))) else (none)) else (understoryref12_Is.l0 k x0 x1 x5 (wrap64 (x6 + 1)))
end
def understoryref12_Is.f (k : Nat) (l0 : List (S64)) (a1 : Int) : Option (Bool) := if 0 ≤ a1 then (if (a1 : Int).toNat ≤ 281474976710656 then (understoryref12_Is.l0 k l0 a1 (List.replicate (a1 : Int).toNat false) 0) else (none)) else (none)
theorem understoryref12_Is.mono_l : ∀ k, (∀ y0 y1 y2 y3, LeO (understoryref12_Is.l0 k y0 y1 y2 y3) (understoryref12_Is.l0 (k + 1) y0 y1 y2 y3)) ∧ (∀ y0 y1 y2 y3 y4 y5 y6, LeO (understoryref12_Is.j1 k y0 y1 y2 y3 y4 y5 y6) (understoryref12_Is.j1 (k + 1) y0 y1 y2 y3 y4 y5 y6)) ∧ (∀ y0 y1 y2 y3 y4 y5 y6, LeO (understoryref12_Is.l1 k y0 y1 y2 y3 y4 y5 y6) (understoryref12_Is.l1 (k + 1) y0 y1 y2 y3 y4 y5 y6))
 | 0 => ⟨fun _ _ _ _ r h => by simp [understoryref12_Is.l0] at h, fun _ _ _ _ _ _ _ r h => by simp [understoryref12_Is.j1] at h, fun _ _ _ _ _ _ _ r h => by simp [understoryref12_Is.l1] at h⟩
 | k + 1 => by
  obtain ⟨ih0, ih1, ih2⟩ := understoryref12_Is.mono_l k
  refine ⟨?_, ?_, ?_⟩
  ·intro y0 y1 y2 y3
   unfold understoryref12_Is.l0
   repeat' first
   | (with_reducible exact ih0 _ _ _ _)
   | (with_reducible exact ih1 _ _ _ _ _ _ _)
   | (with_reducible exact ih2 _ _ _ _ _ _ _)
   | (with_reducible exact LeO.refl _)
   | (with_reducible exact LeO.none _)
   | (with_reducible refine LeO.ite ?_ ?_)
   | (with_reducible refine LeO.bind ?_ (fun _ => ?_))
   | exact ih0 _ _ _ _
   | exact ih1 _ _ _ _ _ _ _
   | exact ih2 _ _ _ _ _ _ _
   | exact LeO.none _
   | refine LeO.ite ?_ ?_
   | refine LeO.bind ?_ (fun _ => ?_)
  ·intro y0 y1 y2 y3 y4 y5 y6
   unfold understoryref12_Is.j1
   repeat' first
   | (with_reducible exact ih0 _ _ _ _)
   | (with_reducible exact ih1 _ _ _ _ _ _ _)
   | (with_reducible exact ih2 _ _ _ _ _ _ _)
   | (with_reducible exact LeO.refl _)
   | (with_reducible exact LeO.none _)
   | (with_reducible refine LeO.ite ?_ ?_)
   | (with_reducible refine LeO.bind ?_ (fun _ => ?_))
   | exact ih0 _ _ _ _
   | exact ih1 _ _ _ _ _ _ _
   | exact ih2 _ _ _ _ _ _ _
   | exact LeO.none _
   | refine LeO.ite ?_ ?_
   | refine LeO.bind ?_ (fun _ => ?_)
  ·intro y0 y1 y2 y3 y4 y5 y6
   unfold understoryref12_Is.l1
   repeat' first
   | (with_reducible exact ih0 _ _ _ _)
   | (with_reducible exact ih1 _ _ _ _ _ _ _)
   | (with_reducible exact ih2 _ _ _ _ _ _ _)
   | (with_reducible exact LeO.refl _)
   | (with_reducible exact LeO.none _)
   | (with_reducible refine LeO.ite ?_ ?_)
   | (with_reducible refine LeO.bind ?_ (fun _ => ?_))
   | exact ih0 _ _ _ _
   | exact ih1 _ _ _ _ _ _ _
   | exact ih2 _ _ _ _ _ _ _
   | exact LeO.none _
   | refine LeO.ite ?_ ?_
   | refine LeO.bind ?_ (fun _ => ?_)
theorem understoryref12_Is.mono : ∀ a0 a1 k, LeO (understoryref12_Is.f k a0 a1) (understoryref12_Is.f (k + 1) a0 a1) := by
 intro a0 a1 k
 obtain ⟨ih0, ih1, ih2⟩ := understoryref12_Is.mono_l k
 unfold understoryref12_Is.f
 repeat' first
   | (with_reducible exact ih0 _ _ _ _)
   | (with_reducible exact ih1 _ _ _ _ _ _ _)
   | (with_reducible exact ih2 _ _ _ _ _ _ _)
   | (with_reducible exact LeO.refl _)
   | (with_reducible exact LeO.none _)
   | (with_reducible refine LeO.ite ?_ ?_)
   | (with_reducible refine LeO.bind ?_ (fun _ => ?_))
   | exact ih0 _ _ _ _
   | exact ih1 _ _ _ _ _ _ _
   | exact ih2 _ _ _ _ _ _ _
   | exact LeO.none _
   | refine LeO.ite ?_ ?_
   | refine LeO.bind ?_ (fun _ => ?_)
end Go.Proofs.YtpnhelcemodnmaaGreat.PA
namespace Go.Proofs.YtpnhelcemodnmaaGreat.PA
open Go.RowKit Go.Proofs.YtpnhelcemodnmaaGreatW.PrintWords Go.Proofs.YtpnhelcemodnmaaGreatW.PrintLast Go.Proofs.YtpnhelcemodnmaaGreatW.PrintMore
attribute [local go_sem] z1c z1d z1e z1f z1i z1j z1k z1l
set_option linter.unusedVariables false
set_option linter.unusedSimpArgs false
mutual
def understoryref04_numbered.l0 : Nat → List Int → Int → Int → Option (Bool)
 | 0, _, _, _ => none
 | k + 1, x0, x1, x5 => if x5 < (x0.length : Int) then (if 0 ≤ x5 then ((understoryref04_isPage.f (rd x0 x5)).bind fun t451 => (if t451 = true then (understoryref04_numbered.l1 k x0 x1 x5 0) else (some false))) else (none)) else (if x1 ≥ 0 then (some (decide (x1 ≤ 1099511627776))) else (some false))
def understoryref04_numbered.l1 : Nat → List Int → Int → Int → Int → Option (Bool)
 | 0, _, _, _, _ => none
 | k + 1, x0, x1, x5, x6 => if x6 < x5 then (if 0 ≤ x6 then (if x6 < (x0.length : Int) then (if 0 ≤ x5 then (if x5 < (x0.length : Int) then (if (rd x0 x6) = (rd x0 x5) then (some false) else (understoryref04_numbered.l1 k x0 x1 x5 (wrap64 (x6 + 1)))) else (none)) else (none)) else (none)) else (none)) else (understoryref04_numbered.l0 k x0 x1 (wrap64 (x5 + 1)))
end
def understoryref04_numbered.f (k : Nat) (l0 : List Int) (a1 : Int) : Option (Bool) := understoryref04_numbered.l0 k l0 a1 0
theorem understoryref04_numbered.mono_l : ∀ k, (∀ y0 y1 y2, LeO (understoryref04_numbered.l0 k y0 y1 y2) (understoryref04_numbered.l0 (k + 1) y0 y1 y2)) ∧ (∀ y0 y1 y2 y3, LeO (understoryref04_numbered.l1 k y0 y1 y2 y3) (understoryref04_numbered.l1 (k + 1) y0 y1 y2 y3))
 | 0 => ⟨fun _ _ _ r h => by simp [understoryref04_numbered.l0] at h, fun _ _ _ _ r h => by simp [understoryref04_numbered.l1] at h⟩
 | k + 1 => by
  obtain ⟨ih0, ih1⟩ := understoryref04_numbered.mono_l k
  refine ⟨?_, ?_⟩
  ·intro y0 y1 y2
   unfold understoryref04_numbered.l0
   repeat' first
   | (with_reducible exact ih0 _ _ _)
   | (with_reducible exact ih1 _ _ _ _)
   | (with_reducible exact LeO.refl _)
   | (with_reducible exact LeO.none _)
   | (with_reducible refine LeO.ite ?_ ?_)
   | (with_reducible refine LeO.bind ?_ (fun _ => ?_))
   | exact ih0 _ _ _
   | exact ih1 _ _ _ _
   | exact LeO.none _
   | refine LeO.ite ?_ ?_
   | refine LeO.bind ?_ (fun _ => ?_)
  ·intro y0 y1 y2 y3
   unfold understoryref04_numbered.l1
   repeat' first
   | (with_reducible exact ih0 _ _ _)
   | (with_reducible exact ih1 _ _ _ _)
   | (with_reducible exact LeO.refl _)
   | (with_reducible exact LeO.none _)
   | (with_reducible refine LeO.ite ?_ ?_)
   | (with_reducible refine LeO.bind ?_ (fun _ => ?_))
   | exact ih0 _ _ _
   | exact ih1 _ _ _ _
   | exact LeO.none _
   | refine LeO.ite ?_ ?_
   | refine LeO.bind ?_ (fun _ => ?_)
theorem understoryref04_numbered.mono : ∀ a0 a1 k, LeO (understoryref04_numbered.f k a0 a1) (understoryref04_numbered.f (k + 1) a0 a1) := by
 intro a0 a1 k
 obtain ⟨ih0, ih1⟩ := understoryref04_numbered.mono_l k
 unfold understoryref04_numbered.f
 repeat' first
   | (with_reducible exact ih0 _ _ _)
   | (with_reducible exact ih1 _ _ _ _)
   | (with_reducible exact LeO.refl _)
   | (with_reducible exact LeO.none _)
   | (with_reducible refine LeO.ite ?_ ?_)
   | (with_reducible refine LeO.bind ?_ (fun _ => ?_))
   | exact ih0 _ _ _
   | exact ih1 _ _ _ _
   | exact LeO.none _
   | refine LeO.ite ?_ ?_
   | refine LeO.bind ?_ (fun _ => ?_)
set_option maxHeartbeats 8000000 in
set_option maxRecDepth 100000 in
theorem understoryref04_numbered.calls (k : Nat) (A0 : Option Addr) (c0 : Nat) (l0 : List Int) (a1 : Int) (r : Bool) (w : World) (hr0 : Kd.C (Kd.int .i64) w A0 l0.length l0) (hc0 : l0.length ≤ c0) (h : understoryref04_numbered.f k l0 a1 = some r) :
  Calls Tryz.prog 110 #[.slice A0 l0.length c0, .int .i64 a1] w fun e w' => e = .returned (.bool r) ∧ Drawn0 w w' := by
 have HR0 := Aside0.mk hr0
 have HC0 := Aside0.mk hc0
 clear hr0 hc0
 have H : (understoryref04_numbered.l0 k l0 a1 0) = some r := h
 clear h
 have H' := Aside0.mk H
 clear H
 go_enter Tryz.func110, Tryz.ntmps110
 go_wp2
 repeat (go_quiet (fail); try go_wp2)
 go_loopg [5] k (fun kq v5 w' => ∃ (x5_1 : Int), v5 = .int .i64 x5_1 ∧ Aside0 (understoryref04_numbered.l0 kq l0 a1 x5_1 = some r) ∧ Aside0 (kq ≤ k) ∧ Drawn0 w w')
 case atStart => exact ⟨(0), (by first | rfl | (simp; done) | (simp [*]; done)), H', ⟨Nat.le_refl _⟩, by repeat (first | exact Drawn0.refl _ | apply Drawn0.step)⟩
 case round =>
  clear H'
  try clear c1
  try clear p2
  obtain ⟨x5_1, rfl, HA, HK1, ⟨m1, rfl⟩⟩ := hrel
  cases gk with
  | zero => exact absurd HA.out (by simp [understoryref04_numbered.l0])
  | succ k1 =>
   have H := HA.out
   clear HA
   simp only [understoryref04_numbered.l0] at H
   by_cases c3 : x5_1 < (l0.length : Int)
   ·rw [if_pos c3] at H
    have c3b0 : decide (x5_1 < (l0.length : Int)) = true := decide_eq_true c3
    clear c3
    by_cases c4 : 0 ≤ x5_1
    ·rw [if_pos c4] at H
     have c4b0 : decide (0 ≤ x5_1) = true := decide_eq_true c4
     clear c4
     replace H := Option.bind_eq_some_iff.mp H
     obtain ⟨t451, A50, H⟩ := H
     replace H : (if t451 = true then (understoryref04_numbered.l1 k1 l0 a1 x5_1 0) else (some false)) = some r := H
     have A5 := Aside0.mk A50
     clear A50
     by_cases c6 : t451 = true
     ·subst c6
      have H1 : (understoryref04_numbered.l1 k1 l0 a1 x5_1 0) = some r := by rw [if_pos rfl] at H; exact H
      clear H
      have H := H1
      clear H1
      have H' := Aside0.mk H
      clear H
      have p450 : 0 ≤ (x5_1 : Int) := of_decide_eq_true (by first | (with_reducible assumption) | assumption)
      have q450 : x5_1 < (l0.length : Int) := of_decide_eq_true (by first | (with_reducible assumption) | assumption)
      obtain ⟨ad450, e450, hx450_0⟩ := Kd.at_int HR0.out x5_1 p450 q450
      cases e450
      replace p450 := eq_true p450
      replace q450 := eq_true q450
      go_wp2_with (first | (go_at_call 147; (with_reducible refine (understoryref04_isPage.calls (rd l0 x5_1) true _ A5.out).mono ?_); rintro e w' ⟨rfl, ⟨nd, rfl⟩⟩; (try first | exact ⟨rfl, _, World.drewN_drewN _ _ _⟩ | exact ⟨rfl, _, Eq.trans (World.drewN_drewN _ _ _) (congrArg (World.drewN _) (Nat.add_assoc _ _ _))⟩)))
      repeat (go_quiet (first | (go_at_call 147; (with_reducible refine (understoryref04_isPage.calls (rd l0 x5_1) true _ A5.out).mono ?_); rintro e w' ⟨rfl, ⟨nd, rfl⟩⟩; (try first | exact ⟨rfl, _, World.drewN_drewN _ _ _⟩ | exact ⟨rfl, _, Eq.trans (World.drewN_drewN _ _ _) (congrArg (World.drewN _) (Nat.add_assoc _ _ _))⟩))); try go_wp2_with (first | (go_at_call 147; (with_reducible refine (understoryref04_isPage.calls (rd l0 x5_1) true _ A5.out).mono ?_); rintro e w' ⟨rfl, ⟨nd, rfl⟩⟩; (try first | exact ⟨rfl, _, World.drewN_drewN _ _ _⟩ | exact ⟨rfl, _, Eq.trans (World.drewN_drewN _ _ _) (congrArg (World.drewN _) (Nat.add_assoc _ _ _))⟩))))
      go_loopg [6] k1 (fun kq v6 w' => ∃ (x6_2 : Int), v6 = .int .i64 x6_2 ∧ Aside0 (understoryref04_numbered.l1 kq l0 a1 x5_1 x6_2 = some r) ∧ Aside0 (kq ≤ k1) ∧ Drawn0 w w')
      case atStart => exact ⟨(0), (by first | rfl | (simp; done) | (simp [*]; done)), H', ⟨Nat.le_refl _⟩, by repeat (first | exact Drawn0.refl _ | apply Drawn0.step)⟩
      case round =>
       clear H'
       try clear c1
       try clear p2
       try clear c3
       try clear c3b0
       try clear c4
       try clear c4b0
       try clear p4
       try clear q4
       try clear hx4
       try clear c6
       try clear hx450_0
       try clear p2
       try clear p450
       try clear q450
       obtain ⟨x6_2, rfl, HA, HK2, ⟨m2, rfl⟩⟩ := hrel
       cases gk with
       | zero => exact absurd HA.out (by simp [understoryref04_numbered.l1])
       | succ k2 =>
        have H := HA.out
        clear HA
        simp only [understoryref04_numbered.l1] at H
        by_cases c7 : x6_2 < x5_1
        ·rw [if_pos c7] at H
         have c7b0 : decide (x6_2 < x5_1) = true := decide_eq_true c7
         clear c7
         by_cases c8 : 0 ≤ x6_2
         ·rw [if_pos c8] at H
          have c8b0 : decide (0 ≤ x6_2) = true := decide_eq_true c8
          clear c8
          by_cases c9 : x6_2 < (l0.length : Int)
          ·rw [if_pos c9] at H
           have c9b0 : decide (x6_2 < (l0.length : Int)) = true := decide_eq_true c9
           clear c9
           by_cases c10 : 0 ≤ x5_1
           ·rw [if_pos c10] at H
            have c10b0 : decide (0 ≤ x5_1) = true := decide_eq_true c10
            clear c10
            by_cases c11 : x5_1 < (l0.length : Int)
            ·rw [if_pos c11] at H
             have c11b0 : decide (x5_1 < (l0.length : Int)) = true := decide_eq_true c11
             clear c11
             by_cases c12 : (rd l0 x6_2) = (rd l0 x5_1)
             ·rw [if_pos c12] at H
              have c12b0 : ((rd l0 x6_2) == (rd l0 x5_1)) = true := beq_iff_eq.mpr c12
              have c12b1 : ((rd l0 x6_2) != (rd l0 x5_1)) = false := bne_eq_false_iff_eq.mpr c12
              clear c12
              obtain rfl := Option.some.inj H
              have p452 : 0 ≤ (x6_2 : Int) := of_decide_eq_true (by first | (with_reducible assumption) | assumption)
              have q452 : x6_2 < (l0.length : Int) := of_decide_eq_true (by first | (with_reducible assumption) | assumption)
              obtain ⟨ad452, e452, hx452_0⟩ := Kd.at_int HR0.out x6_2 p452 q452
              obtain rfl : ad450 = ad452 := (by injection e452)
              replace p452 := eq_true p452
              replace q452 := eq_true q452
              have p453 : 0 ≤ (x5_1 : Int) := of_decide_eq_true (by first | (with_reducible assumption) | assumption)
              have q453 : x5_1 < (l0.length : Int) := of_decide_eq_true (by first | (with_reducible assumption) | assumption)
              obtain ⟨ad453, e453, hx453_0⟩ := Kd.at_int HR0.out x5_1 p453 q453
              obtain rfl : ad450 = ad453 := (by injection e453)
              replace p453 := eq_true p453
              replace q453 := eq_true q453
              go_wp2
              repeat (go_quiet (fail); try go_wp2)
              go_ret
              exact ⟨by first | rfl | (simp; done) | (simp [*]; done), by repeat (first | exact Drawn0.refl _ | apply Drawn0.step)⟩
             ·rw [if_neg c12] at H
              have c12b0 : ((rd l0 x6_2) == (rd l0 x5_1)) = false := beq_eq_false_iff_ne.mpr c12
              have c12b1 : ((rd l0 x6_2) != (rd l0 x5_1)) = true := bne_iff_ne.mpr c12
              have H' := Aside0.mk H
              clear H
              have p452 : 0 ≤ (x6_2 : Int) := of_decide_eq_true (by first | (with_reducible assumption) | assumption)
              have q452 : x6_2 < (l0.length : Int) := of_decide_eq_true (by first | (with_reducible assumption) | assumption)
              obtain ⟨ad452, e452, hx452_0⟩ := Kd.at_int HR0.out x6_2 p452 q452
              obtain rfl : ad450 = ad452 := (by injection e452)
              replace p452 := eq_true p452
              replace q452 := eq_true q452
              have p453 : 0 ≤ (x5_1 : Int) := of_decide_eq_true (by first | (with_reducible assumption) | assumption)
              have q453 : x5_1 < (l0.length : Int) := of_decide_eq_true (by first | (with_reducible assumption) | assumption)
              obtain ⟨ad453, e453, hx453_0⟩ := Kd.at_int HR0.out x5_1 p453 q453
              obtain rfl : ad450 = ad453 := (by injection e453)
              replace p453 := eq_true p453
              replace q453 := eq_true q453
              go_wp2
              repeat (go_quiet (fail); try go_wp2)
              go_roundg k2
              case measure => have := HK1.out; have := HK2.out; omega
              case rel => exact ⟨(wrap64 (x6_2 + 1)), (by first | rfl | (simp; done) | (simp [*]; done)), H', ⟨by have := HK1.out; have := HK2.out; omega⟩, by repeat (first | exact Drawn0.refl _ | apply Drawn0.step)⟩
            ·rw [if_neg c11] at H
             exact absurd H (by simp)
           ·rw [if_neg c10] at H
            exact absurd H (by simp)
          ·rw [if_neg c9] at H
           exact absurd H (by simp)
         ·rw [if_neg c8] at H
          exact absurd H (by simp)
        ·rw [if_neg c7] at H
         have c7b0 : decide (x6_2 < x5_1) = false := decide_eq_false c7
         clear c7
         have H' := Aside0.mk H
         clear H
         go_wp2
         repeat (go_quiet (fail); try go_wp2)
         go_roundg k2
         case measure => have := HK1.out; have := HK2.out; omega
         case rel => exact ⟨(wrap64 (x5_1 + 1)), (by first | rfl | (simp; done) | (simp [*]; done)), H', ⟨by have := HK1.out; have := HK2.out; omega⟩, by repeat (first | exact Drawn0.refl _ | apply Drawn0.step)⟩
     ·replace c6 := Bool.eq_false_iff.mpr c6
      subst c6
      have H1 : (some false) = some r := by rw [if_neg (show ¬ (false = true) by decide)] at H; exact H
      clear H
      have H := H1
      clear H1
      obtain rfl := Option.some.inj H
      have p450 : 0 ≤ (x5_1 : Int) := of_decide_eq_true (by first | (with_reducible assumption) | assumption)
      have q450 : x5_1 < (l0.length : Int) := of_decide_eq_true (by first | (with_reducible assumption) | assumption)
      obtain ⟨ad450, e450, hx450_0⟩ := Kd.at_int HR0.out x5_1 p450 q450
      cases e450
      replace p450 := eq_true p450
      replace q450 := eq_true q450
      go_wp2_with (first | (go_at_call 147; (with_reducible refine (understoryref04_isPage.calls (rd l0 x5_1) false _ A5.out).mono ?_); rintro e w' ⟨rfl, ⟨nd, rfl⟩⟩; (try first | exact ⟨rfl, _, World.drewN_drewN _ _ _⟩ | exact ⟨rfl, _, Eq.trans (World.drewN_drewN _ _ _) (congrArg (World.drewN _) (Nat.add_assoc _ _ _))⟩)))
      repeat (go_quiet (first | (go_at_call 147; (with_reducible refine (understoryref04_isPage.calls (rd l0 x5_1) false _ A5.out).mono ?_); rintro e w' ⟨rfl, ⟨nd, rfl⟩⟩; (try first | exact ⟨rfl, _, World.drewN_drewN _ _ _⟩ | exact ⟨rfl, _, Eq.trans (World.drewN_drewN _ _ _) (congrArg (World.drewN _) (Nat.add_assoc _ _ _))⟩))); try go_wp2_with (first | (go_at_call 147; (with_reducible refine (understoryref04_isPage.calls (rd l0 x5_1) false _ A5.out).mono ?_); rintro e w' ⟨rfl, ⟨nd, rfl⟩⟩; (try first | exact ⟨rfl, _, World.drewN_drewN _ _ _⟩ | exact ⟨rfl, _, Eq.trans (World.drewN_drewN _ _ _) (congrArg (World.drewN _) (Nat.add_assoc _ _ _))⟩))))
      go_ret
      exact ⟨by first | rfl | (simp; done) | (simp [*]; done), by repeat (first | exact Drawn0.refl _ | apply Drawn0.step)⟩
    ·rw [if_neg c4] at H
     exact absurd H (by simp)
   ·rw [if_neg c3] at H
    have c3b0 : decide (x5_1 < (l0.length : Int)) = false := decide_eq_false c3
    clear c3
    by_cases c13 : a1 ≥ 0
    ·rw [if_pos c13] at H
     have c13b0 : decide (0 ≤ a1) = true := decide_eq_true c13
     clear c13
     obtain rfl := Option.some.inj H
     go_wp2
     repeat (go_quiet (fail); try go_wp2)
     go_ret
     exact ⟨by first | rfl | (simp; done) | (simp [*]; done), by repeat (first | exact Drawn0.refl _ | apply Drawn0.step)⟩
    ·rw [if_neg c13] at H
     have c13b0 : decide (0 ≤ a1) = false := decide_eq_false c13
     clear c13
     obtain rfl := Option.some.inj H
     go_wp2
     repeat (go_quiet (fail); try go_wp2)
     go_ret
     exact ⟨by first | rfl | (simp; done) | (simp [*]; done), by repeat (first | exact Drawn0.refl _ | apply Drawn0.step)⟩
def understoryref12_Check.f (k : Nat) (l0 : List (S64)) (a1 : Int) : Option (Int) := (understoryref12_size.f a1).bind fun t454 => (if t454 = true then ((understoryref12_Is.f k l0 a1).bind fun t455 => (if t455 = true then (some 0) else (some 2))) else (some 1))
theorem understoryref12_Check.mono : ∀ a0 a1 k, LeO (understoryref12_Check.f k a0 a1) (understoryref12_Check.f (k + 1) a0 a1) := by
 intro a0 a1 k
 unfold understoryref12_Check.f
 repeat' first
   | (with_reducible exact understoryref12_Is.mono _ _ _)
   | (with_reducible exact LeO.refl _)
   | (with_reducible exact LeO.none _)
   | (with_reducible refine LeO.ite ?_ ?_)
   | (with_reducible refine LeO.bind ?_ (fun _ => ?_))
   | exact understoryref12_Is.mono _ _ _
   | exact LeO.none _
   | refine LeO.ite ?_ ?_
   | refine LeO.bind ?_ (fun _ => ?_)
end Go.Proofs.YtpnhelcemodnmaaGreat.PA
namespace Go.Proofs.YtpnhelcemodnmaaGreat
open Go.RowKit Go.Shelf Go.Proofs.YtpnhelcemodnmaaGreatW.PrintWords Go.Proofs.YtpnhelcemodnmaaGreatW.PrintLast Go.Proofs.YtpnhelcemodnmaaGreatW.PrintMore PA
set_option linter.unusedVariables false
set_option linter.unusedSimpArgs false
attribute [local go_sem] Oper.semAt_some
theorem z62 (f : S64) (t : List S64) (h : fullL (f :: t)) : partsOf (f :: t) = (cutL 490 (f :: t)).1 :: partsOf (cutL 490 (f :: t)).2 := by
 unfold partsOf
 rw [partsL]
 have hc := z4w f t h
 rw [z8s _ ((pagesOf (cutL 490 (f :: t)).2).length + 1) _ (z3g 490 _ h).1 (by omega) (by omega)]
theorem parts_nil : partsOf [] = [] := rfl
def finP (out : List (List S64)) (now : List S64) (room : Nat) (l : List S64) : List (List S64) :=
 if l = [] then (if now = [] then out else out ++ [now]) else out ++ ((now ++ (cutL room l).1) :: partsOf (cutL room l).2)
theorem z63 (out : List (List S64)) (now : List S64) (room : Nat) : finP out now room [] = if now = [] then out else out ++ [now] := if_pos rfl
theorem z2j (out : List (List S64)) (now : List S64) (room : Nat) (f : S64) (t : List S64) : finP out now room (f :: t) = out ++ ((now ++ (cutL room (f :: t)).1) :: partsOf (cutL room (f :: t)).2) := if_neg (by simp)
theorem finP_full (out : List (List S64)) (now : List S64) (room : Nat) (f : S64) (t : List S64) (hr : room < 12) (h : fullL (f :: t)) : finP (out ++ [now]) [] 490 (f :: t) = finP out now room (f :: t) := by
 rw [z2j, z2j, z2s hr, List.nil_append, List.append_nil, ← z62 f t h, List.append_assoc]
 rfl
theorem finP_part (out : List (List S64)) (now : List S64) (room : Nat) (f : S64) (t : List S64) (hr : ¬ room < 12) (hn : (room - 8) / 4 < f.f1.length) (h : fullL (f :: t)) :
  finP out (now ++ [⟨f.f0, f.f1.take ((room - 8) / 4)⟩]) (room - 8 - 4 * ((room - 8) / 4)) (⟨f.f0, f.f1.drop ((room - 8) / 4)⟩ :: t) = finP out now room (f :: t) := by
 rw [z2j, z2j, z3e hr hn, z2s (by omega), List.append_nil]
theorem finP_more (out : List (List S64)) (now : List S64) (room : Nat) (f : S64) (t : List S64) (hr : ¬ room < 12) (hn : ¬ (room - 8) / 4 < f.f1.length) :
  finP out (now ++ [f]) (room - 8 - 4 * f.f1.length) t = finP out now room (f :: t) := by
 rw [z2j, z3f hr hn]
 cases t with
 | nil =>
  rw [z63, if_neg (by simp)]
  have : cutL (room - (8 + 4 * f.f1.length)) [] = ([], []) := by rw [cutL]
  rw [this, parts_nil]
 | cons g t =>
  rw [z2j, show room - 8 - 4 * f.f1.length = room - (8 + 4 * f.f1.length) by omega, List.append_assoc]
  rfl
theorem tdiv4 (room : Nat) (h1 : 12 ≤ room) (h2 : room ≤ 490) : wrap64 (Int.tdiv (wrap64 ((room : Int) - 8)) 4) = (((room - 8) / 4 : Nat) : Int) := by
 have e1 : wrap64 ((room : Int) - 8) = ((room - 8 : Nat) : Int) := by unfold wrap64; omega
 rw [e1, Int.tdiv_eq_ediv_of_nonneg (by omega)]
 unfold wrap64
 omega
theorem parts_run (l : List S64) (hs : smallL l) (hf : fullL l) (m : Nat) : ∀ (i : Nat) (left : List Int) (out : List (List S64)) (now : List S64) (room : Nat), i < l.length → left ≠ [] → 3 * (left.length + (pagesOf (l.drop (i + 1))).length) + (if room < 12 then 1 else 0) ≤ m → room ≤ 490 →
  out.length + now.length + 2 * (left.length + (pagesOf (l.drop (i + 1))).length) + (if room < 12 then 1 else 0) ≤ 4000000 →
  ∃ K, understoryref04_parts.l1 K l out now (room : Int) (i : Int) left = some (finP out now room (⟨(rd_T64 l (i : Int)).f0, left⟩ :: l.drop (i + 1))) := by
 have hll := hs.1
 have after : ∀ (m : Nat), (∀ (i : Nat) (left : List Int) (out : List (List S64)) (now : List S64) (room : Nat), i < l.length → left ≠ [] → 3 * (left.length + (pagesOf (l.drop (i + 1))).length) + (if room < 12 then 1 else 0) ≤ m → room ≤ 490 →
  out.length + now.length + 2 * (left.length + (pagesOf (l.drop (i + 1))).length) + (if room < 12 then 1 else 0) ≤ 4000000 →
  ∃ K, understoryref04_parts.l1 K l out now (room : Int) (i : Int) left = some (finP out now room (⟨(rd_T64 l (i : Int)).f0, left⟩ :: l.drop (i + 1)))) →
  ∀ (i : Nat) (out : List (List S64)) (now : List S64) (room : Nat), i ≤ l.length → 3 * (pagesOf (l.drop i)).length + 1 ≤ m ∨ i = l.length → room ≤ 490 → out.length + now.length + 2 * (pagesOf (l.drop i)).length + 1 ≤ 4000000 →
  ∃ K, understoryref04_parts.l0 K l out now (room : Int) (i : Int) = some (finP out now room (l.drop i)) := by
  intro m ih i out now room h1 h2 h3 h4
  by_cases c : i = l.length
  ·subst c
   refine ⟨1, ?_⟩
   simp only [understoryref04_parts.l0]
   rw [if_neg (by omega), List.drop_length, z63]
   by_cases c2 : now = []
   ·rw [if_pos c2, if_neg (by rw [c2]; simp)]
   ·have := List.length_pos_iff.2 c2
    rw [if_neg c2, if_pos (by omega), if_pos (by omega)]
  ·have hlt : i < l.length := by omega
   have hg : l[i].f1 ≠ [] := hf _ (List.getElem_mem hlt)
   have ep : (pagesOf (l.drop i)).length = l[i].f1.length + (pagesOf (l.drop (i + 1))).length := by
    rw [List.drop_eq_getElem_cons hlt, z1h]
   obtain ⟨K, hK⟩ := ih i (rd_T64 l (i : Int)).f1 out now room hlt (by rw [z05 l i hlt]; exact hg) (by rw [z05 l i hlt]; split <;> omega) h3 (by
    rw [z05 l i hlt]
    have := List.length_pos_iff.2 hg
    split <;> omega)
   refine ⟨K + 1, ?_⟩
   simp only [understoryref04_parts.l0]
   rw [if_pos (by omega), if_pos (by omega), hK, List.drop_eq_getElem_cons hlt, z05 l i hlt]
 induction m using Nat.strongRecOn with
 | _ m IH =>
  intro i left out now room h1 h2 h3 h4 h5
  have hlp := List.length_pos_iff.2 h2
  have hfl : fullL ((⟨(rd_T64 l (i : Int)).f0, left⟩ : S64) :: l.drop (i + 1)) := by
   intro f hfm
   rcases List.mem_cons.1 hfm with rfl | hfm
   ·exact h2
   ·exact hf f (List.mem_of_mem_drop hfm)
  by_cases c : room < 12
  ·rw [if_pos c] at h3 h5
   obtain ⟨K, hK⟩ := IH (m - 1) (by omega) i left (out ++ [now]) [] 490 h1 h2 (by rw [if_neg (by omega)]; omega) (by omega) (by rw [if_neg (by omega), List.length_append]; simp; omega)
   refine ⟨K + 1, ?_⟩
   simp only [understoryref04_parts.l1]
   rw [if_pos (by omega), if_pos (by omega), if_pos (by omega)]
   rw [show ((490 : Nat) : Int) = 490 from rfl] at hK
   rw [hK, finP_full _ _ _ _ _ c hfl]
  ·rw [if_neg c] at h3 h5
   have e4 := tdiv4 room (by omega) h4
   have e8 : wrap64 ((room : Int) - 8) = ((room - 8 : Nat) : Int) := by unfold wrap64; omega
   by_cases cn : (room - 8) / 4 < left.length
   ·have em : mn (wrap64 (Int.tdiv (wrap64 ((room : Int) - 8)) 4)) (left.length : Int) = (((room - 8) / 4 : Nat) : Int) := by rw [e4]; unfold mn; rw [if_neg (by omega)]
    have er : wrap64 (((room - 8 : Nat) : Int) - wrap64 (4 * (((room - 8) / 4 : Nat) : Int))) = ((room - 8 - 4 * ((room - 8) / 4) : Nat) : Int) := by
     have : wrap64 (4 * (((room - 8) / 4 : Nat) : Int)) = ((4 * ((room - 8) / 4) : Nat) : Int) := by unfold wrap64; omega
     rw [this]; unfold wrap64; omega
    obtain ⟨K, hK⟩ := IH (m - 1) (by omega) i (left.drop ((room - 8) / 4)) out (now ++ [⟨(rd_T64 l (i : Int)).f0, left.take ((room - 8) / 4)⟩]) (room - 8 - 4 * ((room - 8) / 4)) h1 (by
      intro hd
      have := congrArg List.length hd
      simp at this
      omega) (by rw [List.length_drop]; split <;> omega) (by omega) (by rw [List.length_drop, List.length_append]; simp only [List.length_cons, List.length_nil]; split <;> omega)
    refine ⟨K + 1, ?_⟩
    simp only [understoryref04_parts.l1]
    rw [if_pos (by omega), if_neg (by omega), if_pos (by omega), if_pos (by omega), em, if_pos (by omega), if_pos (by omega), if_pos (by omega), e8, er, Int.toNat_natCast, hK]
    have := finP_part out now room (⟨(rd_T64 l (i : Int)).f0, left⟩ : S64) (l.drop (i + 1)) c cn hfl
    exact congrArg some this
   ·have em : mn (wrap64 (Int.tdiv (wrap64 ((room : Int) - 8)) 4)) (left.length : Int) = (left.length : Int) := by
     rw [e4]; unfold mn
     by_cases c9 : (left.length : Int) < (((room - 8) / 4 : Nat) : Int)
     ·rw [if_pos c9]
     ·rw [if_neg c9]; omega
    have er : wrap64 (((room - 8 : Nat) : Int) - wrap64 (4 * (left.length : Int))) = ((room - 8 - 4 * left.length : Nat) : Int) := by
     have : wrap64 (4 * (left.length : Int)) = ((4 * left.length : Nat) : Int) := by unfold wrap64; omega
     rw [this]; unfold wrap64; omega
    have hpd := after (m - 2) (fun i' left' out' now' room' a1 a2 a3 a4 a5 => IH (m - 2) (by omega) i' left' out' now' room' a1 a2 a3 a4 a5) (i + 1) out (now ++ [⟨(rd_T64 l (i : Int)).f0, left⟩]) (room - 8 - 4 * left.length) (by omega)
     (by
      by_cases ci : i + 1 = l.length
      ·exact .inr ci
      ·refine .inl ?_
       have hlt : i + 1 < l.length := by omega
       have hg : l[i + 1].f1 ≠ [] := hf _ (List.getElem_mem hlt)
       omega) (by omega) (by rw [List.length_append]; simp only [List.length_cons, List.length_nil]; omega)
    obtain ⟨K, hK⟩ := hpd
    refine ⟨K + 1 + 1, ?_⟩
    simp only [understoryref04_parts.l1]
    rw [if_pos (by omega), if_neg (by omega), if_pos (by omega), if_pos (by omega), em, if_pos (by omega), if_pos (by omega), if_pos (by omega), e8, er, Int.toNat_natCast, List.drop_length, List.take_length, if_neg (by simp), wrapp _ (by omega), hK]
    have := finP_more out now room (⟨(rd_T64 l (i : Int)).f0, left⟩ : S64) (l.drop (i + 1)) c cn
    exact congrArg some this
theorem z9h (l : List S64) (hs : smallL l) (hf : fullL l) : ∃ K, understoryref04_parts.f K l = some (partsOf l) := by
 have hll := hs.1
 have hpl := hs.2
 unfold understoryref04_parts.f
 cases l with
 | nil => exact ⟨1, rfl⟩
 | cons f t =>
  have hg := hf f (List.mem_cons_self)
  have ep := z1h f t
  obtain ⟨K, hK⟩ := parts_run (f :: t) hs hf _ 0 f.f1 [] [] 490 (by simp) hg (Nat.le_refl _) (by omega) (by rw [if_neg (by omega)]; simp; omega)
  refine ⟨K + 1, ?_⟩
  simp only [understoryref04_parts.l0]
  rw [if_pos (by simp), if_pos (by omega)]
  refine (show _ = _ from hK).trans ?_
  rw [z2j, List.nil_append, List.nil_append]
  exact congrArg some (z62 f t hf).symm
theorem z65 (l : List S64) (A : Option Addr) (c : Nat) (w : World) (okp : Nat → Prop) (hF : Kd.F k64 w okp A l.length l) (hc : l.length ≤ c) (hs : smallL l) (hf : fullL l) :
  Calls Tryz.prog 108 #[.slice A l.length c] w fun e w' => ∃ v, e = .returned v ∧ Kd.N (Kd.slice 64 k64) 26 w' w.heap.size (fun k => okp k ∨ w.heap.size ≤ k) v (partsOf l) ∧ Below w.heap.size w w' := by
 obtain ⟨K, hK⟩ := z9h l hs hf
 exact understoryref04_parts.calls K okp A c l _ w (Kd.V_mk hc hF) hK
theorem load114 {w : World} {g : Nat} {x y : Value} (h : w.heap[g]? = some (.cells #[x, y] 114 (0, 0))) : (loadVar 114 ⟨g, 0, none⟩).run Tryz.prog w = .ok (.agg #[x, y]) w := by
 have h0 : w.cell? ⟨g, 0, none⟩ = some x := (z0a h 0).trans rfl
 have h1 : w.cell? ⟨g, 1, none⟩ = some y := (z0a h 1).trans rfl
 simp [h0, h1, go_sem]
set_option maxRecDepth 100000 in
set_option maxHeartbeats 1000000 in
theorem z9i (l : List S64) (A : Option Addr) (c : Nat) (w : World) (hC : k64.C w A l.length l) (hc : l.length ≤ c) (hs : smallL l) (hf : formP 4096 l) :
  Calls Tryz.prog 63 #[.slice A l.length c] w fun e w' => e = .returned (.agg #[.int .i64 (partsOf l).length, .int .i64 0]) ∧ Below w.heap.size w w' := by
 have HF := Aside0.mk (fun (w1 : World) (hb : Below w.heap.size w w1) => z61 l A c w1 (Kd.C_below hC hb) hc hs hf)
 have HP := Aside0.mk (fun (w1 : World) (hb : Below w.heap.size w w1) => z65 l A c w1 _ (Kd.C_F z2m (Kd.C_below hC hb)) hc hs (z1r hf))
 obtain ⟨n, hn⟩ : ∃ n, (partsOf l).length = n := ⟨_, rfl⟩
 have HN := Lib.hid hn
 have hb0 := z0i w (.cells #[.int .i64 0, .int .i64 0] 114)
 have hk0 := z0l w (.cells #[.int .i64 0, .int .i64 0] 114)
 obtain ⟨W0, hW0⟩ : ∃ W0, w.alloc (.cells #[.int .i64 0, .int .i64 0] 114) = W0 := ⟨_, rfl⟩
 rw [hW0] at hb0 hk0
 have HB0 := Aside0.mk hb0
 have HK0 := Aside0.mk hk0
 have HW0 := Lib.hid hW0
 clear hC hc hs hf hb0 hk0 hW0 hn
 go_enter Tryz.func63, Tryz.ntmps63
 go_upto_region 1 with (fail)
 rw [HW0.out]
 go_upto_region 3 with (go_at_call 107; (refine (HF.out _ HB0.out).mono ?_); rintro e w1 ⟨rfl, hd1⟩; have HB1 := Aside0.mk (HB0.out.trans (hd1.mono HB0.out.size)); have HK1 := Aside0.mk (z0g HK0.out hd1); clear hd1)
 have HP1 := HP.out _ HB1.out
 go_upto_region 4 with (go_at_call 108; (refine HP1.mono ?_); rintro e w2 ⟨u, rfl, hu, hd2⟩; obtain ⟨UA, uc, rfl⟩ := Kd.N_slice hu; rw [HN.out]; have HB2 := Aside0.mk (HB1.out.trans (hd2.mono HB1.out.size)); have HK2 := Aside0.mk (z0g HK1.out hd2); have k0 : w2.cell? ⟨w.heap.size, 0, none⟩ = some (.int .i64 0) := (z0a HK2.out 0).trans rfl; have k1 : w2.cell? ⟨w.heap.size, 1, none⟩ = some (.int .i64 0) := (z0a HK2.out 1).trans rfl; have z0 := z0d HK2.out 0; have z1 := z0d HK2.out 1; clear hd2 hu)
 refine bodyPost_ret (z00 rfl _ _ _ _ rfl (load114 (z0k (z0k HK2.out 0 (.int .i64 n) rfl) 1 (.int .i64 0) rfl))) rfl ?_
 exact ⟨by rw [HN.out], (HB2.out.setCell (p := ⟨w.heap.size, 0, none⟩) (Nat.le_refl _) _).setCell (p := ⟨w.heap.size, 1, none⟩) (Nat.le_refl _) _⟩
theorem rnum_l1 (no : List Int) (v : Int) (i : Nat) (hi : i < no.length) (hn : no.Nodup) (hl : no.length ≤ 1000000) (d : Nat) : ∀ (k q : Nat), q ≤ i → i - q = d →
  understoryref04_numbered.l1 (d + 1 + k) no v (i : Int) (q : Int) = understoryref04_numbered.l0 k no v ((i + 1 : Nat) : Int) := by
 induction d with
 | zero =>
  intro k q h1 h2
  obtain rfl : q = i := by omega
  rw [show 0 + 1 + k = k + 1 by omega]
  simp only [understoryref04_numbered.l1]
  rw [if_neg (by omega), wrapp _ (by omega)]
 | succ d ih =>
  intro k q h1 h2
  have hq : q < no.length := by omega
  have hne : no[q] ≠ no[i] := by
   have := List.pairwise_iff_getElem.1 hn q i hq hi (by omega)
   exact this
  rw [show d + 1 + 1 + k = (d + 1 + k) + 1 by omega]
  simp only [understoryref04_numbered.l1]
  rw [if_pos (by omega), if_pos (by omega), if_pos (by omega), if_pos (by omega), if_pos (by omega), z0u no q hq, z0u no i hi, if_neg hne, wrapp _ (by omega)]
  exact ih k _ (by omega) (by omega)
theorem rnum_l0 (no : List Int) (v : Int) (h : numB no v = true) (hl : no.length ≤ 1000000) (d : Nat) : ∀ (i : Nat), i ≤ no.length → no.length - i = d → ∃ K, understoryref04_numbered.l0 K no v (i : Int) = some true := by
 obtain ⟨hn, hx, hv⟩ := of_decide_eq_true h
 induction d with
 | zero =>
  intro i h1 h2
  refine ⟨1, ?_⟩
  simp only [understoryref04_numbered.l0]
  rw [if_neg (by omega), if_pos (by omega), decide_eq_true (by omega)]
 | succ d ih =>
  intro i h1 h2
  have hlt : i < no.length := by omega
  have hq := hx _ (List.getElem_mem hlt)
  have hip : understoryref04_isPage.f no[i] = some true := by
   unfold understoryref04_isPage.f
   rw [if_pos (by omega), decide_eq_true (by omega)]
  obtain ⟨K, hK⟩ := ih (i + 1) (by omega) (by omega)
  refine ⟨(i - 0 + 1 + K) + 1, ?_⟩
  simp only [understoryref04_numbered.l0]
  rw [if_pos (by omega), if_pos (by omega), z0u no i hlt, hip]
  simp only [Option.bind_some, if_true]
  exact (rnum_l1 no v i hlt hn hl _ K 0 (Nat.zero_le _) rfl).trans hK
theorem rnum_any (no : List Int) (v : Int) (A : Option Addr) (c : Nat) (w : World) (hC : (Kd.int .i64).C w A no.length no) (hc : no.length ≤ c) (h : numB no v = true) (hl : no.length ≤ 1000000) :
  Calls Tryz.prog 110 #[.slice A no.length c, .int .i64 v] w fun e w' => e = .returned (.bool true) ∧ Drawn0 w w' := by
 obtain ⟨K, hK⟩ := rnum_l0 no v h hl no.length 0 (Nat.zero_le _) rfl
 exact understoryref04_numbered.calls K A c no v _ w hC hc hK
def RemB (w W : World) (g : Nat) (UA : Option Addr) (uc : Nat) (qs : List Int) : Prop := W.heap[g]? = some (.cells #[.int .i64 0, .slice UA qs.length uc] 64 (0, 0)) ∧ qs.length ≤ uc ∧ Kd.F (Kd.int .i64) W (fun y => w.heap.size ≤ y ∧ y ≠ g) UA qs.length qs ∧ w.heap.size ≤ g ∧ Below w.heap.size w W
theorem z66 {w W : World} {g : Nat} {UA : Option Addr} {uc : Nat} {qs : List Int} (hk : W.heap[g]? = some (.cells #[.int .i64 0, .slice none 0 0] 64 (0, 0))) (hF : Kd.F (Kd.int .i64) W (fun y => w.heap.size ≤ y ∧ y ≠ g) UA qs.length qs) (hb : Below w.heap.size w W) (hg : w.heap.size ≤ g) (hc : qs.length ≤ uc) :
  RemB w ((W.setCell ⟨g, 0, none⟩ (.int .i64 0)).setCell ⟨g, 1, none⟩ (.slice UA qs.length uc)) g UA uc qs :=
 ⟨z0k (z0k hk 0 _ rfl) 1 _ rfl, hc, Kd.F_far (p := ⟨g, 1, none⟩) (Kd.F_far (p := ⟨g, 0, none⟩) hF (fun y hy => hy.2) _) (fun y hy => hy.2) _, hg, (hb.setCell (p := ⟨g, 0, none⟩) hg _).setCell (p := ⟨g, 1, none⟩) hg _⟩
set_option maxRecDepth 100000 in
set_option maxHeartbeats 1000000 in
theorem z9j (q : Int) (qs : List Int) (t : List S64) (A : Option Addr) (c : Nat) (w : World) (okp : Nat → Prop) (hF : Kd.F k64 w okp A (⟨0, q :: qs⟩ :: t : List S64).length (⟨0, q :: qs⟩ :: t)) (hc : (⟨0, q :: qs⟩ :: t : List S64).length ≤ c) (hq : q ∉ qs) (hs : smallL (⟨0, q :: qs⟩ :: t)) :
  Calls Tryz.prog 64 #[.slice A (⟨0, q :: qs⟩ :: t : List S64).length c, .int .i64 q] w fun e w' => ∃ O oc, e = .returned (.slice O (restL qs t).length oc) ∧ (restL qs t).length ≤ oc ∧ Kd.F k64 w' (fun k => okp k ∨ w.heap.size ≤ k) O (restL qs t).length (restL qs t) ∧ Below w.heap.size w w' := by
 have hlen := hs.1
 have hf1 := z16 hs _ (List.mem_cons_self)
 obtain ⟨ad, A1, c1, rfl, hx0, hx1, hl1, hF1⟩ := z2f hF 0 (by simp)
 rw [show ad.add (0 * 2) = ad from z09 ad] at hx0 hx1
 replace hx0 : w.cell? ad = some (.int .i64 0) := hx0
 replace hx1 : w.cell? ⟨ad.block, ad.off + 1, none⟩ = some (.slice A1 (q :: qs).length c1) := hx1
 replace hF1 : Kd.F (Kd.int .i64) w okp A1 (q :: qs).length (q :: qs) := hF1
 replace hl1 : (q :: qs).length ≤ c1 := hl1
 have HWI := Aside0.mk (fun (w1 : World) (hb : Below w.heap.size w w1) => z9f (q :: qs) q A1 c1 w1 (Kd.C_below (Kd.F_now hF1) hb) hl1 hf1)
 rw [z9g hq] at HWI
 have hcut := Kd.F_cut (m := 1) (c := c) hF (by simp) hc
 rw [show (⟨0, q :: qs⟩ :: t : List S64).drop 1 = t from rfl] at hcut
 have HTF := Aside0.mk (Kd.F_bound hcut)
 have hnt : (⟨0, q :: qs⟩ :: t : List S64).length = t.length + 1 := rfl
 obtain ⟨n, hn⟩ : ∃ n, (⟨0, q :: qs⟩ :: t : List S64).length = n := ⟨_, rfl⟩
 rw [hn] at hnt hc hlen
 rw [hn]
 obtain ⟨m, hm⟩ : ∃ m, (q :: qs).length = m := ⟨_, rfl⟩
 rw [hm] at hx1 HWI
 have hn1 : 1 ≤ n := by omega
 have HNT := Lib.hid hnt
 have HX0 := Aside0.mk hx0
 have HX1 := Aside0.mk hx1
 have hn0 : 0 < n := by omega
 clear hnt hn hm hF hF1 hl1 hcut hs hf1 hq
 go_enter Tryz.func64, Tryz.ntmps64
 go_upto_region 1 with (fail)
 go_cut [5] from 6 to 27 (fun pt wx => ∃ gb UA uc, pt = .pointer (some ⟨gb, 0, none⟩) ∧ Aside0 (RemB w wx gb UA uc qs))
 case first =>
  refine wp_region_held_drew (S := fun W => W.cell? ad = some (.int .i64 0) ∧ W.cell? ⟨ad.block, ad.off + 1, none⟩ = some (.slice A1 m c1) ∧ Below w.heap.size w W) (by kernel_rfl) (⟨hx0, hx1, (Below.refl _ _).drew⟩) (fun hS => ?_)
  simp only [List.size_toArray, List.length_cons, List.length_nil, Nat.reduceAdd, Array.replicate_succ, Array.replicate_zero, List.push_toArray, List.nil_append, List.cons_append]
  refine z0b (i := 0) 6 (.slice (some ad) n c) rfl rfl (by kernel_rfl) (by kernel_rfl) (by kernel_rfl) (fun _ _ _ h => h) (Or.inl ⟨by rfl, fun W hW => by go_simp⟩) hS ?_
  try simp only [List.setIfInBounds_toArray, List.set_cons_zero, List.set_cons_succ]
  refine z0b (i := 1) 7 (.pointer (some ad)) rfl rfl (by kernel_rfl) (by kernel_rfl) (by kernel_rfl) (fun _ _ _ h => h) (Or.inl ⟨by rfl, fun W hW => by go_simp⟩) hS ?_
  try simp only [List.setIfInBounds_toArray, List.set_cons_zero, List.set_cons_succ]
  refine z0b (i := 2) 8 (.pointer (some ad)) rfl rfl (by kernel_rfl) (by kernel_rfl) (by kernel_rfl) (fun _ _ _ h => h) (Or.inl ⟨by rfl, fun W hW => by go_simp⟩) hS ?_
  try simp only [List.setIfInBounds_toArray, List.set_cons_zero, List.set_cons_succ]
  refine z0b (i := 3) 9 (.int .i64 0) rfl rfl (by kernel_rfl) (by kernel_rfl) (by kernel_rfl) (fun _ _ _ h => h) (Or.inl ⟨by rfl, fun W hW => by have h0 := hW.1; go_simp⟩) hS ?_
  try simp only [List.setIfInBounds_toArray, List.set_cons_zero, List.set_cons_succ]
  refine z0b (i := 4) 10 (.slice (some ad) n c) rfl rfl (by kernel_rfl) (by kernel_rfl) (by kernel_rfl) (fun _ _ _ h => h) (Or.inl ⟨by rfl, fun W hW => by go_simp⟩) hS ?_
  try simp only [List.setIfInBounds_toArray, List.set_cons_zero, List.set_cons_succ]
  refine z0b (i := 5) 11 (.pointer (some ad)) rfl rfl (by kernel_rfl) (by kernel_rfl) (by kernel_rfl) (fun _ _ _ h => h) (Or.inl ⟨by rfl, fun W hW => by go_simp⟩) hS ?_
  try simp only [List.setIfInBounds_toArray, List.set_cons_zero, List.set_cons_succ]
  refine z0b (i := 6) 12 (.pointer (some ⟨ad.block, ad.off + 1, none⟩)) rfl rfl (by kernel_rfl) (by kernel_rfl) (by kernel_rfl) (fun _ _ _ h => h) (Or.inl ⟨by rfl, fun W hW => by go_simp⟩) hS ?_
  try simp only [List.setIfInBounds_toArray, List.set_cons_zero, List.set_cons_succ]
  refine z0b (i := 7) 13 (.slice A1 m c1) rfl rfl (by kernel_rfl) (by kernel_rfl) (by kernel_rfl) (fun _ _ _ h => h) (Or.inl ⟨by rfl, fun W hW => by have h0 := hW.2.1; go_simp⟩) hS ?_
  try simp only [List.setIfInBounds_toArray, List.set_cons_zero, List.set_cons_succ]
  refine z0b (i := 8) 14 (.int .i64 q) rfl rfl (by kernel_rfl) (by kernel_rfl) (by kernel_rfl) (fun _ _ _ h => h) (Or.inl ⟨by rfl, fun W hW => by go_simp⟩) hS ?_
  try simp only [List.setIfInBounds_toArray, List.set_cons_zero, List.set_cons_succ]
  refine wpAnyH_ready (rs := [9, 11]) (by kernel_rfl) (by simp) ?_
  refine AllReadyH.cons rfl (fun K hK => ?_) ?_
  ·skip
   go_simp
   refine (HWI.out _ hS.2.2).mono ?_
   rintro e w1 ⟨v1, rfl, hr1, hb1⟩
   obtain ⟨UA, uc, rfl⟩ := Kd.R_slice hr1
   refine hK.out _ _ (⟨cellB hb1 (Nat.le_refl _) hS.1, cellB hb1 (Nat.le_refl _) hS.2.1, hS.2.2.trans (hb1.mono hS.2.2.size)⟩) (fun hS => ?_)
   clear hK K
   try simp only [Act.put, List.getElem_toArray, List.getElem_cons_succ, List.getElem_cons_zero, List.setIfInBounds_toArray, List.set_cons_zero, List.set_cons_succ]
   refine z0b (i := 10) 16 (.agg #[.int .i64 0, .slice UA qs.length uc]) rfl rfl (by kernel_rfl) (by kernel_rfl) (by kernel_rfl) (fun _ _ _ h => h) (Or.inl ⟨by rfl, fun W hW => by have h0 := build64 0 UA qs.length uc W; go_simp⟩) hS ?_
   try simp only [List.setIfInBounds_toArray, List.set_cons_zero, List.set_cons_succ]
   refine wpAnyH_ready (rs := [11]) (by kernel_rfl) (by simp) ?_
   refine AllReadyH.cons rfl (fun K hK => ?_) AllReadyH.nil
   go_simp
   refine hK.out _ _ (⟨cellB (z0i _ _) (Nat.le_refl _) hS.1, cellB (z0i _ _) (Nat.le_refl _) hS.2.1, hS.2.2.alloc hS.2.2.size _⟩) (fun hS => ?_)
   clear hK K
   try simp only [Act.put, List.getElem_toArray, List.getElem_cons_succ, List.getElem_cons_zero, List.setIfInBounds_toArray, List.set_cons_zero, List.set_cons_succ]
   refine wpAnyH_ready (rs := [12]) (by kernel_rfl) (by simp) ?_
   refine AllReadyH.cons rfl (fun K hK => ?_) AllReadyH.nil
   have hs1 : w.heap.size ≤ w1.heap.size := hb1.size
   obtain ⟨W9, hW9⟩ : ∃ W9, w1.alloc (.cells #[.int .i64 0, .slice none 0 0] 64) = W9 := ⟨_, rfl⟩
   have hblk := z0l w1 (.cells #[.int .i64 0, .slice none 0 0] 64)
   have hfr := Kd.F_mono (Kd.R_F (Kd.R_below (Kd.R_bound hr1) (z0i w1 (.cells #[.int .i64 0, .slice none 0 0] 64)))) (ok' := fun y => w.heap.size ≤ y ∧ y ≠ w1.heap.size) (fun y hy => ⟨hy.2.1, Nat.ne_of_lt hy.2.2.1⟩)
   have hb9 := hS.2.2
   rw [hW9] at hblk hfr hb9 ⊢
   obtain ⟨gb, hgb⟩ : ∃ gb, w1.heap.size = gb := ⟨_, rfl⟩
   rw [hgb] at hblk hs1 hfr ⊢
   clear hW9 hgb
   have y0 : W9.cell? ⟨gb, 0, none⟩ = some (.int .i64 0) := (z0a hblk 0).trans rfl
   have y1 : W9.cell? ⟨gb, 1, none⟩ = some (.slice none 0 0) := (z0a hblk 1).trans rfl
   have z0 := z0d hblk 0
   have z1 := z0d hblk 1
   have HRB := Aside0.mk (z66 hblk hfr hb9 hs1 (Kd.R_reads' hr1).2.1)
   go_simp
   refine hK.out _ _ (⟨cellB HRB.out.2.2.2.2 (Nat.le_refl _) HX0.out, cellB HRB.out.2.2.2.2 (Nat.le_refl _) HX1.out, HRB.out.2.2.2.2⟩) (fun hS => ?_)
   clear hK K
   try simp only [Act.put, List.getElem_toArray, List.getElem_cons_succ, List.getElem_cons_zero, List.setIfInBounds_toArray, List.set_cons_zero, List.set_cons_succ]
   refine wpAnyH_done (by kernel_rfl) ?_ _
   clear hS
   go_wp2
   go_meet
   case rel => exact ⟨_, UA, uc, rfl, HRB⟩
  refine AllReadyH.cons rfl (fun K hK => ?_) AllReadyH.nil
  go_simp
  refine hK.out _ _ (⟨cellB (z0i _ _) (Nat.le_refl _) hS.1, cellB (z0i _ _) (Nat.le_refl _) hS.2.1, hS.2.2.alloc hS.2.2.size _⟩) (fun hS => ?_)
  clear hK K
  try simp only [Act.put, List.getElem_toArray, List.getElem_cons_succ, List.getElem_cons_zero, List.setIfInBounds_toArray, List.set_cons_zero, List.set_cons_succ]
  refine wpAnyH_ready (rs := [9]) (by kernel_rfl) (by simp) ?_
  refine AllReadyH.cons rfl (fun K hK => ?_) AllReadyH.nil
  go_simp
  refine (HWI.out _ hS.2.2).mono ?_
  rintro e w1 ⟨v1, rfl, hr1, hb1⟩
  obtain ⟨UA, uc, rfl⟩ := Kd.R_slice hr1
  refine hK.out _ _ (⟨cellB hb1 (Nat.le_refl _) hS.1, cellB hb1 (Nat.le_refl _) hS.2.1, hS.2.2.trans (hb1.mono hS.2.2.size)⟩) (fun hS => ?_)
  clear hK K
  try simp only [Act.put, List.getElem_toArray, List.getElem_cons_succ, List.getElem_cons_zero, List.setIfInBounds_toArray, List.set_cons_zero, List.set_cons_succ]
  refine z0b (i := 10) 16 (.agg #[.int .i64 0, .slice UA qs.length uc]) rfl rfl (by kernel_rfl) (by kernel_rfl) (by kernel_rfl) (fun _ _ _ h => h) (Or.inl ⟨by rfl, fun W hW => by have h0 := build64 0 UA qs.length uc W; go_simp⟩) hS ?_
  try simp only [List.setIfInBounds_toArray, List.set_cons_zero, List.set_cons_succ]
  refine wpAnyH_ready (rs := [12]) (by kernel_rfl) (by simp) ?_
  refine AllReadyH.cons rfl (fun K hK => ?_) AllReadyH.nil
  have hblk : w1.heap[w.heap.size]? = some (.cells #[.int .i64 0, .slice none 0 0] 64 (0, 0)) := z0g (z0l w.drew (.cells #[.int .i64 0, .slice none 0 0] 64)) hb1
  have hfr := Kd.F_mono (Kd.R_F (Kd.R_bound hr1)) (ok' := fun y => w.heap.size ≤ y ∧ y ≠ w.heap.size) (fun y hy => by have h : w.heap.size + 1 ≤ y := (by have := hy.2.1; simpa using this); omega)
  have hb9 := hS.2.2
  have hs1 : w.heap.size ≤ w.heap.size := Nat.le_refl _
  have y0 : w1.cell? ⟨w.heap.size, 0, none⟩ = some (.int .i64 0) := (z0a hblk 0).trans rfl
  have y1 : w1.cell? ⟨w.heap.size, 1, none⟩ = some (.slice none 0 0) := (z0a hblk 1).trans rfl
  have z0 := z0d hblk 0
  have z1 := z0d hblk 1
  have HRB := Aside0.mk (z66 hblk hfr hb9 hs1 (Kd.R_reads' hr1).2.1)
  go_simp
  refine hK.out _ _ (⟨cellB HRB.out.2.2.2.2 (Nat.le_refl _) HX0.out, cellB HRB.out.2.2.2.2 (Nat.le_refl _) HX1.out, HRB.out.2.2.2.2⟩) (fun hS => ?_)
  clear hK K
  try simp only [Act.put, List.getElem_toArray, List.getElem_cons_succ, List.getElem_cons_zero, List.setIfInBounds_toArray, List.set_cons_zero, List.set_cons_succ]
  refine wpAnyH_done (by kernel_rfl) ?_ _
  clear hS
  go_wp2
  go_meet
  case rel => exact ⟨_, UA, uc, rfl, HRB⟩
 case rest =>
  obtain ⟨gb, UA, uc, rfl, HRB⟩ := hcut
  have b1 : wc.cell? ⟨gb, 1, none⟩ = some (.slice UA qs.length uc) := (z0a HRB.out.1 1).trans rfl
  by_cases c0 : qs = []
  ·have hz : ((qs.length : Int) == 0) = true := by rw [c0]; rfl
   have hr : restL qs t = t := if_pos c0
   have HR := Lib.hid hr
   clear c0 hr
   have HT2 := Aside0.mk (Kd.F_mono (Kd.F_below HTF.out HRB.out.2.2.2.2) (ok' := fun y => okp y ∨ w.heap.size ≤ y) (fun y hy => .inl hy.1))
   go_wp2
   ·have h1 : c = 1 := by assumption
    have HT3 := HT2.out
    rw [if_pos h1] at HT3
    have HT4 := Aside0.mk HT3
    go_ret
    rw [HR.out, show t.length = n - 1 by have := HNT.out; omega]
    exact ⟨_, _, rfl, by have := HNT.out; omega, by rw [show n - 1 = t.length by have := HNT.out; omega]; exact HT4.out, HRB.out.2.2.2.2⟩
   ·have h1 : ¬ c = 1 := by assumption
    have HT3 := HT2.out
    rw [if_neg h1] at HT3
    have HT4 := Aside0.mk HT3
    go_ret
    rw [HR.out, show t.length = n - 1 by have := HNT.out; omega]
    exact ⟨_, _, rfl, by omega, by rw [show n - 1 = t.length by have := HNT.out; omega]; exact HT4.out, HRB.out.2.2.2.2⟩
  ·have hz : ((qs.length : Int) == 0) = false := by have := List.length_pos_iff.2 c0; simp; omega
   have hr : restL qs t = ⟨0, qs⟩ :: t := if_neg c0
   have HR := Lib.hid hr
   clear c0 hr
   have hs2 := HRB.out.2.2.2.2.size
   have HN : Aside0 (Kd.N k64 64 (wc.drew.alloc (.cells #[.int .i64 0, .slice UA qs.length uc] 64)) w.heap.size (fun y => okp y ∨ w.heap.size ≤ y) (.slice (some ⟨wc.drew.heap.size, 0, none⟩) 1 1) [(⟨0, qs⟩ : S64)]) := ⟨N_one (z0l wc.drew _) rfl (z1b _ (fun y => w.heap.size ≤ y ∧ y < wc.heap.size) (⟨0, qs⟩ : S64) HRB.out.2.1 (Kd.F_below (Kd.F_drew (Kd.F_mono (Kd.F_bound HRB.out.2.2.1) (fun y hy => ⟨hy.1.1, hy.2⟩))) (z0i _ _))) hs2 (.inr hs2) (fun y hy => ⟨.inr hy.1, Nat.ne_of_lt hy.2⟩)⟩
   have HBB := Aside0.mk (HRB.out.2.2.2.2.drew.alloc (o := .cells #[.int .i64 0, .slice UA qs.length uc] 64) (show w.heap.size ≤ wc.drew.heap.size from hs2))
   have HT := Kd.F_below HTF.out HBB.out
   have HT2 : Aside0 (Kd.F k64 (wc.drew.alloc (.cells #[.int .i64 0, .slice UA qs.length uc] 64)) (fun y => okp y ∧ y < w.heap.size) (if c = 1 then some ad else (some ad).map (·.add (1 * 2))) (n - 1) t) := ⟨by rw [HNT.out]; exact HT⟩
   clear HT
   have HOK : Aside0 (∀ y, (okp y ∧ y < w.heap.size) → (okp y ∨ w.heap.size ≤ y) ∧ some y ≠ (Value.slice (some ⟨wc.drew.heap.size, 0, none⟩) 1 1).ownBlock) := ⟨fun y hy => ⟨.inl hy.1, fun e => by have e' : y = wc.heap.size := (by simpa [Value.ownBlock] using e); have := hy.2; omega⟩⟩
   have HFR : Aside0 (∀ y, (wc.drew.alloc (.cells #[.int .i64 0, .slice UA qs.length uc] 64)).heap.size ≤ y → okp y ∨ w.heap.size ≤ y) := ⟨fun y hy => .inr (Nat.le_trans HBB.out.size hy)⟩
   have HLL : Aside0 (([(⟨0, qs⟩ : S64)].length + (n - 1)) * 32 ≤ 140737488355328) := ⟨by simp; omega⟩
   have HNE : Aside0 (some gb ≠ (Value.slice (some ⟨wc.drew.heap.size, 0, none⟩) 1 1).ownBlock) := ⟨fun e => by have e' : gb = wc.heap.size := (by simpa [Value.ownBlock] using e); have := z0w HRB.out.1; omega⟩
   go_upto_region 4 with (fail)
   refine wp_region_held_drew (S := fun W => W.heap[gb]? = some (.cells #[.int .i64 0, .slice UA qs.length uc] 64 (0, 0))) (by kernel_rfl) (HRB.out.1) (fun hS => ?_)
   simp only [List.size_toArray, List.length_cons, List.length_nil, Nat.reduceAdd, Array.replicate_succ, Array.replicate_zero, List.push_toArray, List.nil_append, List.cons_append]
   refine z0b (i := 0) 23 (.agg #[.int .i64 0, .slice UA qs.length uc]) rfl rfl (by kernel_rfl) (by kernel_rfl) (by kernel_rfl) (fun _ _ _ h => h) (Or.inl ⟨by rfl, fun W hW => by have h0 : W.cell? ⟨gb, 0, none⟩ = some (.int .i64 0) := (z0a hW 0).trans rfl; have h1 : W.cell? ⟨gb, 1, none⟩ = some (.slice UA qs.length uc) := (z0a hW 1).trans rfl; go_simp⟩) hS ?_
   try simp only [List.setIfInBounds_toArray, List.set_cons_zero, List.set_cons_succ]
   refine z0b (i := 2) 25 (.slice (some ad) n c) rfl rfl (by kernel_rfl) (by kernel_rfl) (by kernel_rfl) (fun _ _ _ h => h) (Or.inl ⟨by rfl, fun W hW => by go_simp⟩) hS ?_
   try simp only [List.setIfInBounds_toArray, List.set_cons_zero, List.set_cons_succ]
   refine z0b (i := 3) 26 (.slice (if c = 1 then some ad else (some ad).map (·.add (1 * 2))) (n - 1) (c - 1)) rfl rfl (by kernel_rfl) (by kernel_rfl) (by kernel_rfl) (fun _ _ _ h => h) (Or.inl ⟨by rfl, fun W hW => z2q _ 26 64 2 (.tmp 25) (.const (.int .i64 1)) rfl (some ad) n c 1 rfl rfl Tryz.underlying26 size64 hn1⟩) hS ?_
   try simp only [List.setIfInBounds_toArray, List.set_cons_zero, List.set_cons_succ]
   refine wpAnyH_ready (rs := [1]) (by kernel_rfl) (by simp) ?_
   refine AllReadyH.cons rfl (fun K hK => ?_) AllReadyH.nil
   rw [if_pos (by rfl)]
   refine z15 (.tmp 23) rfl rfl (build26 0 UA qs.length uc _) ?_
   refine hK.out _ _ (z0j hS _) (fun hS => ?_)
   clear hK K
   try simp only [Act.put, List.getElem_toArray, List.getElem_cons_succ, List.getElem_cons_zero, List.setIfInBounds_toArray, List.set_cons_zero, List.set_cons_succ]
   refine wpAnyH_ready (rs := [4]) (by kernel_rfl) (by simp) ?_
   refine AllReadyH.cons rfl (fun K hK => ?_) AllReadyH.nil
   refine Kd.N_append_rows_step k64 (w0 := w) w.heap.size (by rfl) (.tmp 24) (.tmp 26) 26 64 (.agg #[.int .i64 0, .slice none 0 0]) 32 rfl Tryz.underlying26 info64 rfl (by decide) (by decide) (.slice (some ⟨wc.drew.heap.size, 0, none⟩) 1 1) [⟨0, qs⟩] t _ _ _ (fun y => okp y ∨ w.heap.size ≤ y) (fun y => okp y ∧ y < w.heap.size) rfl rfl HN.out HT2.out HOK.out HFR.out HBB.out HBB.out.size HLL.out ?_
   intro v9 w9 hn9 hb9 hg9 hat9
   refine hK.out _ _ (z1t hS hg9 HNE.out) (fun hS => ?_)
   clear hK K
   try simp only [Act.put, List.getElem_toArray, List.getElem_cons_succ, List.getElem_cons_zero, List.setIfInBounds_toArray, List.set_cons_zero, List.set_cons_succ]
   refine z0b (i := 5) 4 (v9) rfl rfl (by kernel_rfl) (by kernel_rfl) (by kernel_rfl) (fun _ _ _ h => h) (Or.inl ⟨by rfl, fun W hW => by go_simp⟩) hS ?_
   try simp only [List.setIfInBounds_toArray, List.set_cons_zero, List.set_cons_succ]
   refine wpAnyH_done (by kernel_rfl) ?_ _
   obtain ⟨O, oc, rfl⟩ := Kd.N_slice hn9
   have HN9 := Aside0.mk hn9
   have HB9 := Aside0.mk hb9
   have hoc := (Kd.N_reads' hn9).2.1
   clear hn9 hb9 hg9 hat9
   go_wp2
   all_goals (go_ret; rw [HR.out]; exact ⟨O, oc, rfl, hoc, Kd.N_F HN9.out, HB9.out⟩)
theorem z9k (l : List S64) (p : Int) (A : Option Addr) (c : Nat) (w : World) (hC : k64.C w A l.length l) (hc : l.length ≤ c) (hs : smallL l) :
  Calls Tryz.prog 20 #[.slice A l.length c, .int .i64 p] w fun e w' => e = .returned (.int .i64 (checkE p l)) ∧ Below w.heap.size w w' := by
 have HSZ := Aside0.mk (size_any p w)
 by_cases hp : 2 ≤ p ∧ p ≤ 4096
 ·rw [decide_eq_true hp] at HSZ
  have HIS := Aside0.mk (fun (w1 : World) (hb : Below w.heap.size w w1) => is_any l p A c w1 (Kd.C_below hC hb) hc hp.1 hp.2 hs)
  rw [z3o l p hp] at HIS
  have HCK := Lib.hid (show checkE p l = if validB p l = true then 0 else 2 by unfold checkE; rw [if_pos hp])
  obtain ⟨b, hb⟩ : ∃ b, validB p l = b := ⟨_, rfl⟩
  rw [hb] at HIS HCK
  clear hC hs hp hb
  cases b
  all_goals
   go_enter Tryz.func20, Tryz.ntmps20
   go_wp2_with (first
    | (go_at_call 57; (refine HSZ.out.mono ?_); rintro e w1 ⟨rfl, hd1⟩)
    | (go_at_call 58; (refine (HIS.out _ hd1.below).mono ?_); rintro e w2 ⟨rfl, hb2⟩))
   go_ret
   exact ⟨by rw [HCK.out]; rfl, hd1.below.trans (hb2.mono hd1.below.size)⟩
 ·rw [decide_eq_false hp] at HSZ
  have HCK := Lib.hid (show checkE p l = 1 by unfold checkE; rw [if_neg hp])
  clear hC hs hp
  go_enter Tryz.func20, Tryz.ntmps20
  go_wp2_with (go_at_call 57; (refine HSZ.out.mono ?_); rintro e w1 ⟨rfl, hd1⟩)
  go_ret
  exact ⟨by rw [HCK.out]; rfl, hd1.below⟩
end Go.Proofs.YtpnhelcemodnmaaGreat
