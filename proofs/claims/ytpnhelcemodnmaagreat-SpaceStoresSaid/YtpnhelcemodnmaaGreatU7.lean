/- Texts put together for one claim: part 7. -/
import Derived.Test.YtpnhelcemodnmaaGreatU6
namespace Go.Proofs.YtpnhelcemodnmaaGreat
open Go.RowKit Go.Shelf Go.Proofs.YtpnhelcemodnmaaGreatW.PrintWords Go.Proofs.YtpnhelcemodnmaaGreatW.PrintLast Go.Proofs.YtpnhelcemodnmaaGreatW.PrintMore PA
set_option linter.unusedVariables false
set_option linter.unusedSimpArgs false
attribute [local go_sem] Oper.semAt_some
set_option maxRecDepth 100000 in
set_option maxHeartbeats 1000000 in
theorem sane_any (w : World) : Calls Tryz.prog 12 #[] w fun e w' => e = .returned (.bool true) ∧ Below w.heap.size w w' := by
  go_enter Tryz.func12, Tryz.ntmps12
  go_upto_region 2 with (fail)
  have hl1 : k64.C ((((w.alloc (.cells #[.int .i64 5] 3)).alloc (.cells #[.int .i64 7, .int .i64 8] 3)).alloc (.cells #[.int .i64 9] 3)).alloc (.cells #[.int .i64 0, .slice (some ⟨w.heap.size, 0, none⟩) 1 1, .int .i64 3, .slice (some ⟨w.heap.size + 1, 0, none⟩) 2 2, .int .i64 4, .slice (some ⟨w.heap.size + 1 + 1, 0, none⟩) 1 1] 64)) (some ⟨w.heap.size + 1 + 1 + 1, 0, none⟩) 3 [⟨0, [5]⟩, ⟨3, [7, 8]⟩, ⟨4, [9]⟩] := by
    obtain ⟨n1, n2, n3, n4⟩ := new4 w (.cells #[.int .i64 5] 3) (.cells #[.int .i64 7, .int .i64 8] 3) (.cells #[.int .i64 9] 3) (.cells #[.int .i64 0, .slice (some ⟨w.heap.size, 0, none⟩) 1 1, .int .i64 3, .slice (some ⟨w.heap.size + 1, 0, none⟩) 2 2, .int .i64 4, .slice (some ⟨w.heap.size + 1 + 1, 0, none⟩) 1 1] 64)
    exact three64 (x1 := [5]) (x2 := [7, 8]) (x3 := [9]) n1 rfl (by simp) n2 rfl (by simp) n3 rfl (by simp) n4
  have hB1 : Below w.heap.size w ((((w.alloc (.cells #[.int .i64 5] 3)).alloc (.cells #[.int .i64 7, .int .i64 8] 3)).alloc (.cells #[.int .i64 9] 3)).alloc (.cells #[.int .i64 0, .slice (some ⟨w.heap.size, 0, none⟩) 1 1, .int .i64 3, .slice (some ⟨w.heap.size + 1, 0, none⟩) 2 2, .int .i64 4, .slice (some ⟨w.heap.size + 1 + 1, 0, none⟩) 1 1] 64)) := below4 w _ _ _ _
  obtain ⟨g1, hg1⟩ : ∃ g, w.heap.size + 1 + 1 + 1 = g := ⟨_, rfl⟩
  obtain ⟨w1, hw1⟩ : ∃ w1, (((w.alloc (.cells #[.int .i64 5] 3)).alloc (.cells #[.int .i64 7, .int .i64 8] 3)).alloc (.cells #[.int .i64 9] 3)).alloc (.cells #[.int .i64 0, .slice (some ⟨w.heap.size, 0, none⟩) 1 1, .int .i64 3, .slice (some ⟨w.heap.size + 1, 0, none⟩) 2 2, .int .i64 4, .slice (some ⟨w.heap.size + 1 + 1, 0, none⟩) 1 1] 64) = w1 := ⟨_, rfl⟩
  rw [hw1] at hl1 hB1 ⊢
  rw [hg1] at hl1 ⊢
  have HUS := Aside0.mk (usable_yes [⟨0, [5]⟩, ⟨3, [7, 8]⟩, ⟨4, [9]⟩] 4 (some ⟨g1, 0, none⟩) 3 w1 hl1 (by simp) (sane_small ⟨by simp, by decide⟩) sane_use)
  rw [sane_low, sortI_self (by decide), sane_hi] at HUS
  have HB1 := Aside0.mk hB1
  clear hl1 hB1 hw1 hg1
  go_upto_region 3 with (go_at_call 26; (refine HUS.out.mono ?_); rintro e w2 ⟨u, r, rfl, hu, hr, hb2⟩; obtain ⟨UA, uc, rfl⟩ := Kd.R_slice hu; obtain ⟨RA, rc, rfl⟩ := Kd.R_slice hr)
  have HU2 := Aside0.mk (Kd.R_reads' hu).2
  have HB2 := Aside0.mk (HB1.out.trans (hb2.mono HB1.out.size))
  clear hu hr hb2 HUS HB1
  -- Oldest
  have hl3 : k83.C (w2.alloc (.cells #[.int .i64 3, .int .i64 1, .int .i64 6, .int .i64 1] 83)) (some ⟨w2.heap.size, 0, none⟩) 2 [⟨3, 1⟩, ⟨6, 1⟩] := row83 (xs := [⟨3, 1⟩, ⟨6, 1⟩]) (new1 w2 _) rfl (by simp) (fun j p hj => by
    match j with
    | 0 => obtain rfl : (⟨3, 1⟩ : S83) = p := by simpa using hj
           rfl
    | 1 => obtain rfl : (⟨6, 1⟩ : S83) = p := by simpa using hj
           rfl
    | j + 2 => simp at hj)
  obtain ⟨K1, hK1⟩ := sane_pins
  have HO3 := Aside0.mk (oldest_yes [⟨3, 1⟩, ⟨6, 1⟩] 7 K1 (some ⟨w2.heap.size, 0, none⟩) 2 _ hl3 (by simp) hK1 (by omega) (by simp) (fun k hk => by
    match k with
    | 0 => exact ⟨rfl, rfl⟩
    | 1 => exact ⟨rfl, rfl⟩
    | k + 2 => simp at hk; omega))
  rw [sane_old] at HO3
  clear hl3 hK1
  go_upto_region 4 with (go_at_call 41; (refine HO3.out.mono ?_); rintro e w3 ⟨rfl, hb3⟩)
  have HB23 := Aside0.mk (show Below w2.heap.size w2 w3 from (below1 w2 _).trans (hb3.mono (by simp)))
  have HB3 := Aside0.mk (HB2.out.trans (HB23.out.mono HB2.out.size))
  have HU3 := Aside0.mk (show 3 ≤ uc ∧ (Kd.int .i64).C w3 UA 3 [5, 7, 8] from ⟨HU2.out.1, Kd.C_below HU2.out.2 HB23.out⟩)
  clear hb3 HO3 HB23 HU2 HB2
  -- Unpin
  have hl4 : k83.C (w3.alloc (.cells #[.int .i64 3, .int .i64 2] 83)) (some ⟨w3.heap.size, 0, none⟩) 1 [⟨3, 2⟩] := row83 (xs := [⟨3, 2⟩]) (new1 w3 _) rfl (by simp) (fun j p hj => by
    match j with
    | 0 => obtain rfl : (⟨3, 2⟩ : S83) = p := by simpa using hj
           rfl
    | j + 1 => simp at hj)
  obtain ⟨K2, hK2⟩ := sane_pins2
  have HO4 := Aside0.mk (unpin_none [⟨3, 2⟩] 5 K2 (some ⟨w3.heap.size, 0, none⟩) 1 _ hl4 (by simp) hK2 (by omega) (by simp) (fun k hk => by
    match k with
    | 0 => exact ⟨rfl, rfl⟩
    | k + 1 => simp at hk) sane_unpin)
  clear hl4 hK2
  go_upto_region 5 with (go_at_call 42; (refine HO4.out.mono ?_); rintro e w4 ⟨rfl, hb4⟩)
  have HB34 := Aside0.mk (show Below w3.heap.size w3 w4 from (below1 w3 _).trans (hb4.mono (by simp)))
  have HB4 := Aside0.mk (HB3.out.trans (HB34.out.mono HB3.out.size))
  have HU4 := Aside0.mk (show 3 ≤ uc ∧ (Kd.int .i64).C w4 UA 3 [5, 7, 8] from ⟨HU3.out.1, Kd.C_below HU3.out.2 HB34.out⟩)
  clear hb4 HO4 HB34 HU3 HB3
  go_upto_region 6 with ((with_reducible refine gate_dst (N := 48) rfl ?_); refine Kd.N_make k89 (w0 := w4) w4.heap.size 89 rfl (N' := 48) rfl 22 _ _ rfl 6 rfl rfl Tryz.underlying22 (.agg (cells89 z89 none 0).toArray) 120 info89 rfl (by decide) (by decide) z89 (ok := fun _ => True) (okp := fun _ => False) zero89F (fun _ h => h.elim) trivial (by omega) (by decide) (Below.refl _ _) (Nat.le_refl _) ?_; intro pv w5 hp5 hb5 hg5 hat5; obtain ⟨PA, pc, rfl⟩ := Kd.N_slice hp5)
  obtain ⟨_, hpc, hPG⟩ := Kd.N_reads' hp5
  obtain ⟨m1, m2, m3⟩ := new3 w5 (.cells #[.int .i64 4, .int .i64 5] 3) (.cells #[.int .i64 3] 3) (.cells #[.slice PA 6 pc, .slice (some ⟨w5.heap.size, 0, none⟩) 2 2, .slice none 0 0, .slice (some ⟨w5.heap.size + 1, 0, none⟩) 1 1, .int .i64 2, .int .i64 0] 25)
  have hb6 := below3 w5 (.cells #[.int .i64 4, .int .i64 5] 3) (.cells #[.int .i64 3] 3) (.cells #[.slice PA 6 pc, .slice (some ⟨w5.heap.size, 0, none⟩) 2 2, .slice none 0 0, .slice (some ⟨w5.heap.size + 1, 0, none⟩) 1 1, .int .i64 2, .int .i64 0] 25)
  obtain ⟨w6, hw6⟩ : ∃ W, ((w5.alloc (.cells #[.int .i64 4, .int .i64 5] 3)).alloc (.cells #[.int .i64 3] 3)).alloc (.cells #[.slice PA 6 pc, .slice (some ⟨w5.heap.size, 0, none⟩) 2 2, .slice none 0 0, .slice (some ⟨w5.heap.size + 1, 0, none⟩) 1 1, .int .i64 2, .int .i64 0] 25) = W := ⟨_, rfl⟩
  obtain ⟨n5, hn5⟩ : ∃ n, w5.heap.size = n := ⟨_, rfl⟩
  rw [hw6] at m1 m2 m3 hb6 ⊢
  have hb46 : Below w4.heap.size w4 w6 := hb5.trans (hb6.mono hb5.size)
  rw [hn5] at m1 m2 m3 ⊢
  have HE1 := Aside0.mk (sane_end1 PA (some ⟨n5, 0, none⟩) (some ⟨n5 + 1, 0, none⟩) pc w6 (Kd.C_below hPG hb6) hpc (row_int (xs := [4, 5]) m1 rfl (by simp)) (row_int (xs := [3]) m2 rfl (by simp)))
  have HPG6 := Aside0.mk (show 6 ≤ pc ∧ k89.C w6 PA 6 (List.replicate 6 z89) from ⟨hpc, Kd.C_below hPG hb6⟩)
  have HM1 := Aside0.mk m1
  have HM2 := Aside0.mk m2
  have HM3 := Aside0.mk m3
  have HB6 := Aside0.mk (HB4.out.trans (hb46.mono HB4.out.size))
  have HU6 := Aside0.mk (show 3 ≤ uc ∧ (Kd.int .i64).C w6 UA 3 [5, 7, 8] from ⟨HU4.out.1, Kd.C_below HU4.out.2 hb46⟩)
  have x0 := (blk_cell m3 0).trans rfl
  have x1 := (blk_cell m3 1).trans rfl
  have x2 := (blk_cell m3 2).trans rfl
  have x3 := (blk_cell m3 3).trans rfl
  have x4 := (blk_cell m3 4).trans rfl
  have x5 := (blk_cell m3 5).trans rfl
  clear m1 m2 m3 hb6 hw6 hn5 hb46 hpc hPG hp5 hb5 hg5 hat5 HB4 HU4
  go_upto_region 7 with (go_at_call 15; (refine HE1.out.mono ?_); rintro e w7 ⟨q, qc, LA, lc, rfl, hq, hlc, hL, hb7⟩)
  clear x0 x1 x2 x3 x4 x5
  have hb7a := below1 w7 (.cells #[.slice (some ⟨q, 0, none⟩) 6 qc, .slice none 0 0, .slice none 0 0, .slice none 0 0, .int .i64 2, .int .i64 0] 25)
  have hk7 := new1 w7 (.cells #[.slice (some ⟨q, 0, none⟩) 6 qc, .slice none 0 0, .slice none 0 0, .slice none 0 0, .int .i64 2, .int .i64 0] 25)
  obtain ⟨W7, hW7⟩ : ∃ W, w7.alloc (.cells #[.slice (some ⟨q, 0, none⟩) 6 qc, .slice none 0 0, .slice none 0 0, .slice none 0 0, .int .i64 2, .int .i64 0] 25) = W := ⟨_, rfl⟩
  obtain ⟨n7, hn7⟩ : ∃ n, w7.heap.size = n := ⟨_, rfl⟩
  rw [hW7] at hb7a hk7 ⊢
  rw [hn7] at hk7 ⊢
  have hb67 : Below w6.heap.size w6 W7 := hb7.trans (hb7a.mono hb7.size)
  have HE2 := Aside0.mk (sane_end2 PA (some ⟨n5, 0, none⟩) (some ⟨n5 + 1, 0, none⟩) pc W7 (Kd.C_below HPG6.out.2 hb67) HPG6.out.1 (row_int (xs := [4, 5]) (blk_below HM1.out hb67) rfl (by simp)) (row_int (xs := [3]) (blk_below HM2.out hb67) rfl (by simp)))
  have m3 := blk_below HM3.out hb67
  have x0 := (blk_cell m3 0).trans rfl
  have x1 := (blk_cell m3 1).trans rfl
  have x2 := (blk_cell m3 2).trans rfl
  have x3 := (blk_cell m3 3).trans rfl
  have x4 := (blk_cell m3 4).trans rfl
  have x5 := (blk_cell m3 5).trans rfl
  have HB7 := Aside0.mk (HB6.out.trans (hb67.mono HB6.out.size))
  have HU7 := Aside0.mk (show 3 ≤ uc ∧ (Kd.int .i64).C W7 UA 3 [5, 7, 8] from ⟨HU6.out.1, Kd.C_below HU6.out.2 hb67⟩)
  have HQ7 := Aside0.mk (cellB hb7a (Nat.le_refl _) hq)
  have HL7 := Aside0.mk (show 2 ≤ lc ∧ k64.C W7 LA 2 [⟨0, [5]⟩, ⟨1, [3]⟩] from ⟨hlc, Kd.C_below hL hb7a⟩)
  have HK7 := Aside0.mk hk7
  clear m3 hb67 hW7 hn7 hb7a hk7 hb7 hq hlc hL HE1 HPG6 HM1 HM2 HM3 HB6 HU6
  go_upto_region 8 with (go_at_call 15; (refine HE2.out.mono ?_); rintro e w8 ⟨QA, qd, LB, ld, rfl, hlc, hL, hb8⟩)
  have hb8a := below1 w8 (.cells #[.slice QA 5 qd, .slice none 0 0, .slice none 0 0, .slice none 0 0, .int .i64 2, .int .i64 0] 25)
  have hk8 := new1 w8 (.cells #[.slice QA 5 qd, .slice none 0 0, .slice none 0 0, .slice none 0 0, .int .i64 2, .int .i64 0] 25)
  obtain ⟨W8, hW8⟩ : ∃ W, w8.alloc (.cells #[.slice QA 5 qd, .slice none 0 0, .slice none 0 0, .slice none 0 0, .int .i64 2, .int .i64 0] 25) = W := ⟨_, rfl⟩
  obtain ⟨n8, hn8⟩ : ∃ n, w8.heap.size = n := ⟨_, rfl⟩
  rw [hW8] at hb8a hk8 ⊢
  rw [hn8] at hk8 ⊢
  have hb78 : Below W7.heap.size W7 W8 := hb8.trans (hb8a.mono hb8.size)
  have HB8 := Aside0.mk (HB7.out.trans (hb78.mono HB7.out.size))
  have HQ8 := Aside0.mk (cellB hb78 (Nat.le_refl _) HQ7.out)
  have HL8 := Aside0.mk (show 2 ≤ lc ∧ k64.C W8 LA 2 [⟨0, [5]⟩, ⟨1, [3]⟩] from ⟨HL7.out.1, Kd.C_below HL7.out.2 hb78⟩)
  have HK7' := Aside0.mk (blk_below HK7.out hb78)
  have HK8 := Aside0.mk hk8
  have HLB := Aside0.mk (show 1 ≤ ld ∧ k64.C W8 LB 1 [⟨1, [3]⟩] from ⟨hlc, Kd.C_below hL hb8a⟩)
  have HSI := Aside0.mk (sameInts_any [5, 7, 8] [5, 7, 8] UA (some ⟨W8.heap.size, 0, none⟩) uc 3 (W8.alloc (.cells #[.int .i64 5, .int .i64 7, .int .i64 8] 3)) (Kd.C_below HU7.out.2 (hb78.trans ((below1 W8 _).mono hb78.size))) HU7.out.1 (row_int (xs := [5, 7, 8]) (new1 W8 _) rfl (by simp)) (by simp) (by simp))
  rw [decide_eq_true rfl] at HSI
  clear x0 x1 x2 x3 x4 x5 hb8 hb8a hk8 hW8 hn8 hb78 hL hlc HB7 HQ7 HL7 HK7 HU7 HE2
  go_upto_region 10 with (go_at_call 31; (refine HSI.out.mono ?_); rintro e w9 ⟨rfl, hd9⟩)
  have hb89 : Below W8.heap.size W8 w9 := (below1 W8 _).trans (hd9.below.mono (by simp))
  have HB9 := Aside0.mk (HB8.out.trans (hb89.mono HB8.out.size))
  have HL9 := Aside0.mk (show 2 ≤ lc ∧ k64.C w9 LA 2 [⟨0, [5]⟩, ⟨1, [3]⟩] from ⟨HL8.out.1, Kd.C_below HL8.out.2 hb89⟩)
  have HK9 := Aside0.mk (blk_below HK8.out hb89)
  have HLB9 := Aside0.mk (show 1 ≤ ld ∧ k64.C w9 LB 1 [⟨1, [3]⟩] from ⟨HLB.out.1, Kd.C_below HLB.out.2 hb89⟩)
  have y0 : w9.cell? ⟨n7, 0, none⟩ = some (.slice (some ⟨q, 0, none⟩) 6 qc) := (blk_cell (blk_below HK7'.out hb89) 0).trans rfl
  have y1 : w9.cell? ⟨q, 40, none⟩ = some (.int .i64 4) := cellB hb89 (Nat.le_refl _) HQ8.out
  have HSF : Aside0 (Calls Tryz.prog 18 #[.slice LA 2 lc, .slice (some ⟨w9.heap.size + 1 + 1, 0, none⟩) 2 2] (((w9.alloc (.cells #[.int .i64 5] 3)).alloc (.cells #[.int .i64 3] 3)).alloc (.cells #[.int .i64 0, .slice (some ⟨w9.heap.size, 0, none⟩) 1 1, .int .i64 1, .slice (some ⟨w9.heap.size + 1, 0, none⟩) 1 1] 64)) fun e w' => e = .returned (.bool true) ∧ Drawn0 (((w9.alloc (.cells #[.int .i64 5] 3)).alloc (.cells #[.int .i64 3] 3)).alloc (.cells #[.int .i64 0, .slice (some ⟨w9.heap.size, 0, none⟩) 1 1, .int .i64 1, .slice (some ⟨w9.heap.size + 1, 0, none⟩) 1 1] 64)) w') := by
    obtain ⟨m1, m2, m3⟩ := new3 w9 (.cells #[.int .i64 5] 3) (.cells #[.int .i64 3] 3) (.cells #[.int .i64 0, .slice (some ⟨w9.heap.size, 0, none⟩) 1 1, .int .i64 1, .slice (some ⟨w9.heap.size + 1, 0, none⟩) 1 1] 64)
    have := sameFreed_any [⟨0, [5]⟩, ⟨1, [3]⟩] [⟨0, [5]⟩, ⟨1, [3]⟩] LA (some ⟨w9.heap.size + 1 + 1, 0, none⟩) lc 2 (((w9.alloc (.cells #[.int .i64 5] 3)).alloc (.cells #[.int .i64 3] 3)).alloc (.cells #[.int .i64 0, .slice (some ⟨w9.heap.size, 0, none⟩) 1 1, .int .i64 1, .slice (some ⟨w9.heap.size + 1, 0, none⟩) 1 1] 64)) (Kd.C_below HL9.out.2 (below3 w9 _ _ _)) HL9.out.1 (two64 (x1 := [5]) (x2 := [3]) m1 rfl (by simp) m2 rfl (by simp) m3) (by simp) (sane_small ⟨by simp, by decide⟩)
    rw [decide_eq_true rfl] at this
    exact ⟨this⟩
  clear hd9 hb89 HB8 HQ8 HL8 HK7' HK8 HLB HSI
  go_upto_region 12 with (go_at_call 18; (refine HSF.out.mono ?_); rintro e w10 ⟨rfl, hd10⟩)
  have hb910 : Below w9.heap.size w9 w10 := (below3 w9 (.cells #[.int .i64 5] 3) (.cells #[.int .i64 3] 3) (.cells #[.int .i64 0, .slice (some ⟨w9.heap.size, 0, none⟩) 1 1, .int .i64 1, .slice (some ⟨w9.heap.size + 1, 0, none⟩) 1 1] 64)).trans (hd10.below.mono (by simp <;> omega))
  have HB10 := Aside0.mk (HB9.out.trans (hb910.mono HB9.out.size))
  have HL10 := Aside0.mk (show 2 ≤ lc ∧ k64.C w10 LA 2 [⟨0, [5]⟩, ⟨1, [3]⟩] from ⟨HL9.out.1, Kd.C_below HL9.out.2 hb910⟩)
  have HK10 := Aside0.mk (blk_below HK9.out hb910)
  have HLB10 := Aside0.mk (show 1 ≤ ld ∧ k64.C w10 LB 1 [⟨1, [3]⟩] from ⟨HLB9.out.1, Kd.C_below HLB9.out.2 hb910⟩)
  have HAC := Aside0.mk (account_walk 6 [2, 4] [⟨0, [5]⟩, ⟨1, [3]⟩] (some ⟨w10.heap.size, 0, none⟩) 2 LA lc (w10.alloc (.cells #[.int .i64 2, .int .i64 4] 3)) (row_int (xs := [2, 4]) (new1 w10 _) rfl (by simp)) (by simp) (Kd.C_below HL10.out.2 (below1 w10 _)) HL10.out.1 sane_check sane_inc3 (by simp) (by decide))
  clear y0 y1 hd10 hb910 HB9 HL9 HK9 HLB9 HSF
  go_upto_region 13 with (go_at_call 22; (refine HAC.out.mono ?_); rintro e w11 ⟨a, n, rfl, hao, hb11⟩; obtain ⟨rfl, rfl⟩ := sane_acc hao)
  have hb1011 : Below w10.heap.size w10 w11 := (below1 w10 _).trans (hb11.mono (by simp))
  have HB11 := Aside0.mk (HB10.out.trans (hb1011.mono HB10.out.size))
  have HK11 := Aside0.mk (blk_below HK10.out hb1011)
  have HLB11 := Aside0.mk (show 1 ≤ ld ∧ k64.C w11 LB 1 [⟨1, [3]⟩] from ⟨HLB10.out.1, Kd.C_below HLB10.out.2 hb1011⟩)
  have HTA : Aside0 (Calls Tryz.prog 19 #[.slice (some ⟨w11.heap.size + 1, 0, none⟩) 1 1, .int .i64 6] ((w11.alloc (.cells #[.int .i64 4, .int .i64 5] 3)).alloc (.cells #[.int .i64 0, .slice (some ⟨w11.heap.size, 0, none⟩) 2 2] 64)) fun e w' => e = .returned (.tuple #[.int .i64 4, .int .i64 0]) ∧ Below ((w11.alloc (.cells #[.int .i64 4, .int .i64 5] 3)).alloc (.cells #[.int .i64 0, .slice (some ⟨w11.heap.size, 0, none⟩) 2 2] 64)).heap.size ((w11.alloc (.cells #[.int .i64 4, .int .i64 5] 3)).alloc (.cells #[.int .i64 0, .slice (some ⟨w11.heap.size, 0, none⟩) 2 2] 64)) w') := by
    obtain ⟨m1, m2⟩ := new2 w11 (.cells #[.int .i64 4, .int .i64 5] 3) (.cells #[.int .i64 0, .slice (some ⟨w11.heap.size, 0, none⟩) 2 2] 64)
    have := Tail_any [⟨0, [4, 5]⟩] 6 (some ⟨w11.heap.size + 1, 0, none⟩) 1 ((w11.alloc (.cells #[.int .i64 4, .int .i64 5] 3)).alloc (.cells #[.int .i64 0, .slice (some ⟨w11.heap.size, 0, none⟩) 2 2] 64)) (one64 (xs := [4, 5]) m1 rfl (by simp) m2) (by simp) (sane_small ⟨by simp, by decide⟩)
    rw [show checkE 6 [⟨0, [4, 5]⟩] = 0 from sane_check2, if_pos rfl, show tailN [⟨0, [4, 5]⟩] 6 = 4 from sane_tail2] at this
    exact ⟨this⟩
  clear hao hb11 hb1011 HB10 HL10 HK10 HLB10 HAC
  go_upto_region 14 with (go_at_call 19; (refine HTA.out.mono ?_); rintro e w12 ⟨rfl, hb12⟩)
  have hb1112 : Below w11.heap.size w11 w12 := (below2 w11 (.cells #[.int .i64 4, .int .i64 5] 3) (.cells #[.int .i64 0, .slice (some ⟨w11.heap.size, 0, none⟩) 2 2] 64)).trans (hb12.mono (by simp <;> omega))
  have HB12 := Aside0.mk (HB11.out.trans (hb1112.mono HB11.out.size))
  have y0 : w12.cell? ⟨n8, 0, none⟩ = some (.slice QA 5 qd) := (blk_cell (blk_below HK11.out hb1112) 0).trans rfl
  have HSG : Aside0 (Calls Tryz.prog 18 #[.slice LB 1 ld, .slice (some ⟨w12.heap.size + 1, 0, none⟩) 1 1] ((w12.alloc (.cells #[.int .i64 3] 3)).alloc (.cells #[.int .i64 1, .slice (some ⟨w12.heap.size, 0, none⟩) 1 1] 64)) fun e w' => e = .returned (.bool true) ∧ Drawn0 ((w12.alloc (.cells #[.int .i64 3] 3)).alloc (.cells #[.int .i64 1, .slice (some ⟨w12.heap.size, 0, none⟩) 1 1] 64)) w') := by
    obtain ⟨m1, m2⟩ := new2 w12 (.cells #[.int .i64 3] 3) (.cells #[.int .i64 1, .slice (some ⟨w12.heap.size, 0, none⟩) 1 1] 64)
    have := sameFreed_any [⟨1, [3]⟩] [⟨1, [3]⟩] LB (some ⟨w12.heap.size + 1, 0, none⟩) ld 1 ((w12.alloc (.cells #[.int .i64 3] 3)).alloc (.cells #[.int .i64 1, .slice (some ⟨w12.heap.size, 0, none⟩) 1 1] 64)) (Kd.C_below (Kd.C_below HLB11.out.2 hb1112) (below2 w12 _ _)) HLB11.out.1 (one64 (xs := [3]) m1 rfl (by simp) m2) (by simp) (sane_small ⟨by simp, by decide⟩)
    rw [decide_eq_true rfl] at this
    exact ⟨this⟩
  clear hb12 hb1112 HB11 HK11 HLB11 HTA
  go_wp2_with (go_at_call 18; (refine HSG.out.mono ?_); rintro e w13 ⟨rfl, hd13⟩)
  go_ret
  exact ⟨rfl, HB12.out.trans (((below2 w12 (.cells #[.int .i64 3] 3) (.cells #[.int .i64 1, .slice (some ⟨w12.heap.size, 0, none⟩) 1 1] 64)).trans (hd13.below.mono (by simp <;> omega))).mono HB12.out.size)⟩
set_option maxRecDepth 100000 in
set_option maxHeartbeats 4000000 in
theorem stores_any (pg : List S89) (free gone : List Int) (l : List S64) (ver tree : Int) (PA FA RA GA A : Option Addr) (pc fc rn rc gc cl : Nat) (w : World)
    (hPG : k89.C w PA pg.length pg) (hpc : pg.length ≤ pc) (hpm : pg.length ≤ 9223372036854775807) (hPI : ∀ y ∈ pg, PageIn w y) (hFR : (Kd.int .i64).C w FA free.length free) (hfc : free.length ≤ fc) (hGO : (Kd.int .i64).C w GA gone.length gone) (hgc : gone.length ≤ gc)
    (hL : k64.C w A l.length l) (hcl : l.length ≤ cl) (hbl : ∀ f ∈ l, f.f1.length ≤ 17592186044416) :
    Calls Tryz.prog 5 #[.agg #[.slice PA pg.length pc, .slice FA free.length fc, .slice RA rn rc, .slice GA gone.length gc, .int .i64 ver, .int .i64 tree], .slice A l.length cl] w fun e w' => e = .returned (.bool true) ∧ Below w.heap.size w w' := by
  have HSA := Aside0.mk (fun w1 => sane_any w1)
  have HSM := Aside0.mk (fun (w1 : World) (hb : Below w.heap.size w w1) => small_any pg free.length gone.length rn ver tree PA FA RA GA pc fc rc gc w1 (Kd.C_below hPG hb) (fun x hx => (hPI x hx).2) hpm)
  have HSH := Aside0.mk (fun (w1 : World) (hb : Below w.heap.size w w1) => short1_any l A cl w1 (Kd.C_below hL hb) hcl hbl)
  have hb0 := below_alloc1 w (.cells #[.slice PA pg.length pc, .slice FA free.length fc, .slice RA rn rc, .slice GA gone.length gc, .int .i64 ver, .int .i64 tree] 25)
  have hk0 := blk_new w (.cells #[.slice PA pg.length pc, .slice FA free.length fc, .slice RA rn rc, .slice GA gone.length gc, .int .i64 ver, .int .i64 tree] 25)
  obtain ⟨W0, hW0⟩ : ∃ V, w.alloc (.cells #[.slice PA pg.length pc, .slice FA free.length fc, .slice RA rn rc, .slice GA gone.length gc, .int .i64 ver, .int .i64 tree] 25) = V := ⟨_, rfl⟩
  obtain ⟨b, hb⟩ : ∃ b, w.heap.size = b := ⟨_, rfl⟩
  rw [hW0] at hb0 hk0
  rw [hb] at hk0
  have HW0 := Lib.hid hW0
  have HB0 := Aside0.mk hb0
  have HK0 : Aside0 (W0.heap[b]? = some (.cells #[.slice PA pg.length pc, .slice FA free.length fc, .slice RA rn rc, .slice GA gone.length gc, .int .i64 ver, .int .i64 tree] 25 (0, 0))) := ⟨hk0⟩
  clear hb0 hk0 hW0
  go_enter Tryz.func5, Tryz.ntmps5
  go_upto_region 1 with (fail)
  rw [HW0.out]
  go_upto_region 2 with (go_at_call 12; (refine (HSA.out W0).mono ?_); rintro e w1 ⟨rfl, hb1⟩; have HBA := Aside0.mk hb1; clear hb1)
  have HB1 := Aside0.mk (HB0.out.trans (HBA.out.mono HB0.out.size))
  have HK1 : Aside0 (w1.heap[b]? = some (.cells #[.slice PA pg.length pc, .slice FA free.length fc, .slice RA rn rc, .slice GA gone.length gc, .int .i64 ver, .int .i64 tree] 25 (0, 0))) := ⟨blk_below HK0.out HBA.out⟩
  have p0 : w1.cell? ⟨b, 0, none⟩ = some (.slice PA pg.length pc) := (blk_cell (HK1.out) 0).trans rfl
  have p1 : w1.cell? ⟨b, 1, none⟩ = some (.slice FA free.length fc) := (blk_cell (HK1.out) 1).trans rfl
  have p2 : w1.cell? ⟨b, 2, none⟩ = some (.slice RA rn rc) := (blk_cell (HK1.out) 2).trans rfl
  have p3 : w1.cell? ⟨b, 3, none⟩ = some (.slice GA gone.length gc) := (blk_cell (HK1.out) 3).trans rfl
  have p4 : w1.cell? ⟨b, 4, none⟩ = some (.int .i64 ver) := (blk_cell (HK1.out) 4).trans rfl
  have p5 : w1.cell? ⟨b, 5, none⟩ = some (.int .i64 tree) := (blk_cell (HK1.out) 5).trans rfl
  rcases Classical.em (SmallOk pg free.length rn gone.length) with hok | hok
  rotate_left
  · have HN : Aside0 (∀ (w1 : World), Below w.heap.size w w1 → Calls Tryz.prog 13 #[.agg #[.slice PA pg.length pc, .slice FA free.length fc, .slice RA rn rc, .slice GA gone.length gc, .int .i64 ver, .int .i64 tree]] w1 fun e w' => e = .returned (.bool false) ∧ Below w1.heap.size w1 w') := ⟨fun w1 hb => (HSM.out w1 hb).mono fun e w' h => ⟨h.1.elim (fun h => absurd h.2 hok) (fun h => h.1), h.2⟩⟩
    clear hPG hFR hGO hL
    go_wp2_with ((go_at_call 13; (refine (HN.out _ HB1.out).mono ?_); rintro e w2 ⟨rfl, hb2⟩; have HB2 := Aside0.mk (HB1.out.trans (hb2.mono HB1.out.size)); clear hb2))
    go_ret
    exact ⟨rfl, HB2.out⟩
  have HY : Aside0 (∀ (w1 : World), Below w.heap.size w w1 → Calls Tryz.prog 13 #[.agg #[.slice PA pg.length pc, .slice FA free.length fc, .slice RA rn rc, .slice GA gone.length gc, .int .i64 ver, .int .i64 tree]] w1 fun e w' => e = .returned (.bool true) ∧ Below w1.heap.size w1 w') := ⟨fun w1 hb => (HSM.out w1 hb).mono fun e w' h => ⟨h.1.elim (fun h => h.1) (fun h => absurd hok h.2), h.2⟩⟩
  by_cases hs : shortP l
  rotate_left
  · rw [decide_eq_false hs] at HSH
    clear hPG hFR hGO hL hs
    go_wp2_with (first | (go_at_call 14; (refine (HSH.out _ HB2.out).mono ?_); rintro e w3 ⟨rfl, hb3⟩; have HB3 := Aside0.mk (HB2.out.trans (hb3.mono HB2.out.size)); have HA3 := Aside0.mk (HA2.out.trans (hb3.mono HA2.out.size)); clear hb3) | (go_at_call 13; (refine (HY.out _ HB1.out).mono ?_); rintro e w2 ⟨rfl, hb2⟩; have HB2 := Aside0.mk (HB1.out.trans (hb2.mono HB1.out.size)); have HA2 := Aside0.mk (HBA.out.trans (hb2.mono HBA.out.size)); clear hb2))
    go_ret
    exact ⟨rfl, HB3.out⟩
  rw [decide_eq_true hs] at HSH
  go_upto_region 4 with (first | (go_at_call 14; (refine (HSH.out _ HB2.out).mono ?_); rintro e w3 ⟨rfl, hb3⟩; have HB3 := Aside0.mk (HB2.out.trans (hb3.mono HB2.out.size)); have HA3 := Aside0.mk (HA2.out.trans (hb3.mono HA2.out.size)); clear hb3) | (go_at_call 13; (refine (HY.out _ HB1.out).mono ?_); rintro e w2 ⟨rfl, hb2⟩; have HB2 := Aside0.mk (HB1.out.trans (hb2.mono HB1.out.size)); have HA2 := Aside0.mk (HBA.out.trans (hb2.mono HBA.out.size)); clear hb2))
  have htl := short_tiny hs
  have hsml := tiny_small htl
  have hsm5 : smallL l ∧ free.length ≤ 1000 ∧ gone.length ≤ 1000 ∧ (pagesOf l).length ≤ 10000 ∧ l.length ≤ 10000 := ⟨hsml, by have := hok.1; omega, by have := hok.1; omega, by have := htl.2; omega, by have := htl.1; omega⟩
  have hpl : pg.length ≤ 1000000 := by have := hok.1; omega
  have hplm : pg.length ≤ 400 := hok.1.1
  have HEN := Aside0.mk (fun (w1 : World) (hb : Below w.heap.size w w1) => end_all pg free gone l ver tree false PA FA RA GA A pc fc rn rc gc cl w1 (Kd.C_below hPG hb) hpc (Kd.C_below hFR hb) hfc (Kd.C_below hGO hb) hgc (Kd.C_below hL hb) hcl hsm5 hpl)
  have HK3 : Aside0 (w3.heap[b]? = some (.cells #[.slice PA pg.length pc, .slice FA free.length fc, .slice RA rn rc, .slice GA gone.length gc, .int .i64 ver, .int .i64 tree] 25 (0, 0))) := ⟨blk_below HK0.out HA3.out⟩
  clear HSA HSM HSH HY hok hs htl hsml hpl hPG hFR hGO hL hPI hbl p0 p1 p2 p3 p4 p5
  have p0 : w3.cell? ⟨b, 0, none⟩ = some (.slice PA pg.length pc) := (blk_cell (HK3.out) 0).trans rfl
  have p1 : w3.cell? ⟨b, 1, none⟩ = some (.slice FA free.length fc) := (blk_cell (HK3.out) 1).trans rfl
  have p2 : w3.cell? ⟨b, 2, none⟩ = some (.slice RA rn rc) := (blk_cell (HK3.out) 2).trans rfl
  have p3 : w3.cell? ⟨b, 3, none⟩ = some (.slice GA gone.length gc) := (blk_cell (HK3.out) 3).trans rfl
  have p4 : w3.cell? ⟨b, 4, none⟩ = some (.int .i64 ver) := (blk_cell (HK3.out) 4).trans rfl
  have p5 : w3.cell? ⟨b, 5, none⟩ = some (.int .i64 tree) := (blk_cell (HK3.out) 5).trans rfl
  cases hR : endX pg free gone l ver false with
  | error x =>
    have hx0 := endX_code hR
    have hxn : (x != 0) = true := by simpa using hx0
    rw [hR] at HEN
    clear hR hx0 hsm5 hplm
    go_wp2_with (go_at_call 15; (refine (HEN.out _ HB3.out).mono ?_); rintro e w4 ⟨rfl, hb4⟩; have HB4 := Aside0.mk (HB3.out.trans (hb4.mono HB3.out.size)); clear hb4)
    go_ret
    exact ⟨rfl, HB4.out.alloc HB4.out.size _⟩
  | ok R =>
    obtain ⟨P, first, l4⟩ := R
    obtain ⟨own, olds, HF⟩ := end_facts hR hsm5
    have HFA := Aside0.mk HF
    rw [hR] at HEN
    clear hR hsm5 HF
    go_upto_region 5 with (go_at_call 15; (refine (HEN.out _ HB3.out).mono ?_); rintro e w4 ⟨PV, LA, lc, rfl, hP4, hl4, hb4⟩; obtain ⟨QA, qc, rfl⟩ := Kd.N_slice hP4)
    have hB4 := (HB3.out.trans (hb4.mono HB3.out.size)).alloc (Nat.le_trans HB3.out.size hb4.size) (.cells #[.slice QA P.length qc, .slice none 0 0, .slice none 0 0, .slice none 0 0, .int .i64 ver, .int .i64 tree] 25)
    have hbx := below_alloc1 w4 (.cells #[.slice QA P.length qc, .slice none 0 0, .slice none 0 0, .slice none 0 0, .int .i64 ver, .int .i64 tree] 25)
    have hkx := blk_new w4 (.cells #[.slice QA P.length qc, .slice none 0 0, .slice none 0 0, .slice none 0 0, .int .i64 ver, .int .i64 tree] 25)
    have hkb := blk_alloc (o' := .cells #[.slice QA P.length qc, .slice none 0 0, .slice none 0 0, .slice none 0 0, .int .i64 ver, .int .i64 tree] 25) (blk_below HK3.out hb4)
    have hPC := Kd.C_below (Kd.N_reads' hP4).2.2 hbx
    have hLC := Kd.C_below (Kd.N_reads' hl4).2.2 hbx
    have hqc := (Kd.N_reads' hP4).2.1
    have hlc := (Kd.N_reads' hl4).2.1
    obtain ⟨X, hX⟩ : ∃ x, w4.heap.size = x := ⟨_, rfl⟩
    obtain ⟨W4, hW4⟩ : ∃ V, w4.alloc (.cells #[.slice QA P.length qc, .slice none 0 0, .slice none 0 0, .slice none 0 0, .int .i64 ver, .int .i64 tree] 25) = V := ⟨_, rfl⟩
    rw [hW4] at hB4 hkx hkb hPC hLC ⊢
    rw [hX] at hkx ⊢
    have x0 : W4.cell? ⟨X, 0, none⟩ = some (.slice QA P.length qc) := (blk_cell hkx 0).trans rfl
    have x1 : W4.cell? ⟨X, 1, none⟩ = some (.slice none 0 0) := (blk_cell hkx 1).trans rfl
    have x2 : W4.cell? ⟨X, 2, none⟩ = some (.slice none 0 0) := (blk_cell hkx 2).trans rfl
    have x3 : W4.cell? ⟨X, 3, none⟩ = some (.slice none 0 0) := (blk_cell hkx 3).trans rfl
    have x4 : W4.cell? ⟨X, 4, none⟩ = some (.int .i64 ver) := (blk_cell hkx 4).trans rfl
    have x5 : W4.cell? ⟨X, 5, none⟩ = some (.int .i64 tree) := (blk_cell hkx 5).trans rfl
    have HB4 := Aside0.mk hB4
    have HKB := Aside0.mk hkb
    have HLC := Aside0.mk hLC
    have HLO := Aside0.mk (listOf_end HFA.out tree QA qc W4 hPC hqc)
    obtain ⟨bz, hbz⟩ : ∃ bz, decide (own = []) = bz := ⟨_, rfl⟩
    have d1 : (first == 0) = bz := by
      rw [← hbz, HFA.out.first_]
      cases own with
      | nil => rfl
      | cons o t =>
        have h2 := ((HFA.out.chain.2.2 0 (by simp)).1).1
        have h3 : rd (o :: t) ((0 : Nat) : Int) = o := rfl
        rw [h3] at h2
        rw [show rd (o :: t) 0 = o from rfl]
        simp; omega
    have d2 : ((own.length : Int) == 0) = bz := by
      rw [← hbz]
      cases own with
      | nil => rfl
      | cons o t => simp; omega
    have d2n : (own.length == 0) = bz := by
      rw [← hbz]
      cases own <;> simp
    clear hbz hB4 hbx hkx hkb hPC hLC hX hW4 hP4 hl4 hb4 HEN p0 p1 p2 p3 p4 p5
    go_upto_region 8 with (go_at_call 32; (refine HLO.out.mono ?_); rintro e w5 ⟨v, u, rfl, hv, hu, hb5⟩; obtain ⟨VA, vc, rfl⟩ := Kd.N_slice hv; obtain ⟨OA, oc, rfl⟩ := Kd.R_slice hu)
    have HSF := Aside0.mk (sameFreed_any l4 l4 VA LA vc lc w5 (Kd.N_reads' hv).2.2 (Kd.N_reads' hv).2.1 (Kd.C_below HLC.out hb5) hlc HFA.out.small)
    rw [decide_eq_true rfl] at HSF
    have HB5 := Aside0.mk (HB4.out.trans (hb5.mono HB4.out.size))
    have HKB5 := Aside0.mk (blk_below HKB.out hb5)
    have HLC5 := Aside0.mk (Kd.C_below HLC.out hb5)
    have HOC5 := Aside0.mk (Kd.R_reads' hu)
    clear hv hu hb5 HLO HLC HKB HB4 x0 x1 x2 x3 x4 x5
    go_upto_region 13 with (go_at_call 18; (refine HSF.out.mono ?_); rintro e w6 ⟨rfl, hd6⟩)
    have HB6 := Aside0.mk (HB5.out.trans (hd6.below.mono HB5.out.size))
    have hkb6 := blk_below HKB5.out hd6.below
    have HP0 := Aside0.mk hkb6
    have HLC6 := Aside0.mk (Kd.C_below HLC5.out hd6.below)
    have HOC6 := Aside0.mk (Kd.C_below HOC5.out.2.2 hd6.below)
    have hoc := HOC5.out.2.1
    have hol := HFA.out.olen
    clear hd6 hkb6 HB5 HKB5 HLC5 HOC5 HSF d1 d2 d2n
    go_loopw [14, 15] (fun o i wr => ∃ k : Nat, k ≤ own.length ∧ i = .int .i64 k ∧ Aside0 ((Kd.int .i64).R 3 wr w6.heap.size (fun _ => True) o ((own.take k).filter (fun x => decide (x < (pg.length : Int))))) ∧ Aside0 (Below w6.heap.size w6 wr))
      (fun _ i _ => own.length - (intOf i).toNat)
    case atStart => exact ⟨0, Nat.zero_le _, rfl, ⟨Kd.R_nil (Kd.int .i64) 3 w6 w6.heap.size (fun _ => True)⟩, ⟨Below.refl _ _⟩⟩
    case round =>
      obtain ⟨k, hk, rfl, HR, HW⟩ := hrel
      obtain ⟨O, co, hO⟩ := Kd.R_slice HR.out
      subst hO
      by_cases hlt : k < own.length
      · obtain ⟨ob, oo, rfl, hx⟩ := int_P (Kd.C_below HOC6.out HW.out) k hlt
        have p0 : wr.cell? ⟨b, 0, none⟩ = some (.slice PA pg.length pc) := (blk_cell (blk_below HP0.out HW.out) 0).trans rfl
        have HTS := Lib.hid (show (own.take (k + 1)).filter (fun x => decide (x < (pg.length : Int))) = (own.take k).filter (fun x => decide (x < (pg.length : Int))) ++ [own[k]].filter (fun x => decide (x < (pg.length : Int))) by rw [List.take_succ_eq_append_getElem hlt, List.filter_append])
        have hnl : ((own.take k).filter (fun x => decide (x < (pg.length : Int)))).length ≤ 4096 := Nat.le_trans (List.length_filter_le _ _) (by rw [List.length_take]; omega)
        obtain ⟨x, hxx⟩ : ∃ x, own[k] = x := ⟨_, rfl⟩
        obtain ⟨T, hT⟩ : ∃ T, (own.take k).filter (fun x => decide (x < (pg.length : Int))) = T := ⟨_, rfl⟩
        rw [hxx] at hx HTS
        rw [hT] at HR HTS hnl ⊢
        have HNL := Lib.hid hnl
        clear hxx hT hnl
        go_upto_region 15 with (fail)
        go_cut [90] from 77 to 97 (fun cc wx => cc = .bool (decide (x < (pg.length : Int))) ∧ Drawn0 wr wx)
        case first =>
          by_cases c1 : x < (pg.length : Int)
          · have e1 := decide_eq_true c1
            clear c1
            repeat (go_quiet (fail); try go_wp2)
            go_meet
            case rel => refine ⟨by rw [e1], ?_⟩; repeat (first | exact Drawn0.refl _ | apply Drawn0.step)
          · have e1 := decide_eq_false c1
            clear c1
            repeat (go_quiet (fail); try go_wp2)
            go_meet
            case rel => refine ⟨by rw [e1], ?_⟩; repeat (first | exact Drawn0.refl _ | apply Drawn0.step)
        case rest =>
          obtain ⟨rfl, nd, rfl⟩ := hcut
          have HR1 := Aside0.mk (Kd.R_drewN HR.out nd)
          have HW1 := Aside0.mk (pw_below_drewN HW.out nd)
          have hx1 : (wr.drewN nd).cell? ⟨ob, oo + k, none⟩ = some (.int .i64 x) := hx
          obtain ⟨w7, hw7⟩ : ∃ y, wr.drewN nd = y := ⟨_, rfl⟩
          rw [hw7] at HR1 HW1 hx1 ⊢
          clear hw7 hx p0 HR HW
          by_cases c1 : x < (pg.length : Int)
          · have HT2 := Lib.hid (show (own.take (k + 1)).filter (fun x => decide (x < (pg.length : Int))) = T ++ [x] by rw [HTS.out]; simp [c1])
            rw [decide_eq_true c1]
            clear c1
            go_wp2_with (at_builtin; refine Kd.R_append (Kd.int .i64) (w0 := w6) w6.heap.size rfl (.tmp 91) (.tmp 96) 23 3 (.int .i64 0) 8 rfl Tryz.underlying23 info3 rfl (by decide) (by omega) (.slice O T.length co) T x [.int .i64 x] (fun _ => True) (fun _ => False) rfl rfl rfl (fun _ hk => hk.elim) (fun _ _ => trivial) HR1.out HW1.out HW1.out.size (by have := HNL.out; omega) ?_; intro v9 w9 hr9 hb9 hg9 hat9)
            go_roundw
            case rel => exact ⟨k + 1, by omega, by go_num, ⟨by rw [HT2.out]; exact hr9⟩, ⟨hb9⟩⟩
            case measure => simp [intOf]; omega
          · have HT2 := Lib.hid (show (own.take (k + 1)).filter (fun x => decide (x < (pg.length : Int))) = T by rw [HTS.out]; simp [c1])
            rw [decide_eq_false c1]
            clear c1
            go_wp2
            go_roundw
            case rel => exact ⟨k + 1, by omega, by go_num, ⟨by rw [HT2.out]; exact HR1.out⟩, HW1⟩
            case measure => simp [intOf]; omega
      · obtain rfl : k = own.length := by omega
        have hfil : (own.take own.length).filter (fun x => decide (x < (pg.length : Int))) = olds := by rw [List.take_length]; exact HFA.out.olds_
        rw [hfil] at HR ⊢
        have HBW := Aside0.mk (HB6.out.trans (HW.out.mono HB6.out.size))
        have HLCW := Aside0.mk (Kd.C_below HLC6.out HW.out)
        have hml := HFA.out.merge
        have hsl := HFA.out.same
        have HNE := Aside0.mk HFA.out.needs
        have HF0 := Aside0.mk HFA.out.form0
        have HS0 := Aside0.mk HFA.out.small0
        have HS4 := Aside0.mk HFA.out.small
        have hoo : olds.length ≤ 4096 := by rw [← HFA.out.olds_]; exact Nat.le_trans (List.length_filter_le _ _) hol
        obtain ⟨L0, hL0⟩ : ∃ L0, endL2 free gone l ver = L0 := ⟨_, rfl⟩
        rw [hL0] at hml hsl HNE HF0 HS0
        have hpq := HNE.out
        obtain ⟨q, hq⟩ : ∃ q, (partsOf L0).length = q := ⟨_, rfl⟩
        have HQ := Lib.hid hq
        rw [hq] at hpq
        have e9 : decide ((own.length : Int) ≤ (q : Int)) = true := decide_eq_true (by omega)
        have e9n : decide (own.length ≤ q) = true := decide_eq_true hpq
        clear hL0 hq hfil hlt hk HFA HP0 HLC6 HOC6 HB6 HNE
        by_cases ho : olds = []
        · have hl : l4 = L0 := hsl ho
          subst hl
          have c1 : decide (0 < (olds.length : Int)) = false := decide_eq_false (by rw [ho]; decide)
          have c1n : decide (0 < olds.length) = false := decide_eq_false (by rw [ho]; decide)
          have HNY := Aside0.mk (needs_yes l4 LA lc wr HLCW.out hlc HS0.out HF0.out)
          rw [HQ.out] at HNY
          clear hml hsl ho HR HW
          go_wp2_with (go_at_call 33; (refine HNY.out.mono ?_); rintro e w9 ⟨rfl, hb9⟩)
          go_ret
          exact ⟨rfl, HBW.out.trans (hb9.mono HBW.out.size)⟩
        · have c1 : decide (0 < (olds.length : Int)) = true := decide_eq_true (by have := List.length_pos_iff.2 ho; omega)
          have c1n : decide (0 < olds.length) = true := decide_eq_true (List.length_pos_iff.2 ho)
          have hm := hml ho
          have hcap := (Kd.R_reads' HR.out).2.1
          have hRC := (Kd.R_reads' HR.out).2.2
          have hbl0 := below_alloc1 wr (.cells #[.int .i64 0, .slice O olds.length co] 64)
          have hnb := blk_new wr (.cells #[.int .i64 0, .slice O olds.length co] 64)
          obtain ⟨W0, hW0⟩ : ∃ W0, wr.alloc (.cells #[.int .i64 0, .slice O olds.length co] 64) = W0 := ⟨_, rfl⟩
          rw [hW0] at hbl0 hnb
          have hC2 : k64.C W0 (some ⟨wr.heap.size, 0, none⟩) [(⟨0, olds⟩ : S64)].length [⟨0, olds⟩] := one_row hnb rfl (k64_mk W0 (⟨0, olds⟩ : S64) hcap (Kd.C_below hRC hbl0))
          have HT := Aside0.mk (Merge_any l4 [⟨0, olds⟩] LA lc (some ⟨wr.heap.size, 0, none⟩) 1 W0 (Kd.C_below HLCW.out hbl0) hlc hC2 (by simp) HS4.out ⟨by simp, by rw [pages_one]; show olds.length ≤ 1000000; omega⟩)
          have HB7 := Aside0.mk (HBW.out.trans (hbl0.mono HBW.out.size))
          have HNE := Lib.hid (fun (w1 : World) (v : Option Addr) (c base : Nat) (h : Kd.N k64 64 w1 base (fun _ => True) (.slice v L0.length c) L0) => needs_yes L0 v c w1 (Kd.N_reads' h).2.2 (Kd.N_reads' h).2.1 HS0.out HF0.out)
          rw [HQ.out] at HNE
          rw [hm.2] at HT
          have hl1 : [(⟨0, olds⟩ : S64)].length = 1 := rfl
          have HM1 := Lib.hid hm.1
          rw [hl1, ← hW0] at HT
          rw [← hW0] at HB7
          clear hml hsl ho hm HR HW hcap hRC hbl0 hnb hW0 hC2 hl1 HLCW HS4 HBW
          go_wp2_with (first
            | (go_at_call 24; (refine HT.out.mono ?_); rintro e w8 ⟨hd, hb8⟩; obtain ⟨v, rfl, hv⟩ := hd.elim (fun h => absurd h.1 (by rw [HM1.out]; decide)) (fun h => h.2); obtain ⟨vA, vc, rfl⟩ := Kd.N_slice hv; have HV := Aside0.mk hv; have HB8 := Aside0.mk (HB7.out.trans (hb8.mono HB7.out.size)); clear hd hv hb8)
            | (go_at_call 33; (refine (HNE.out _ _ _ _ HV.out).mono ?_); rintro e w9 ⟨rfl, hb9⟩))
          go_ret
          exact ⟨rfl, HB8.out.trans (hb9.mono HB8.out.size)⟩
end Go.Proofs.YtpnhelcemodnmaaGreat
