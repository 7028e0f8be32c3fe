/- Texts put together for one claim: part 2. -/
import Derived.Shelf.Small.Wraps
import Derived.Shelf.Sort.Plain
import Derived.Shelf.Slices.Equal
import Derived.Ground.Names2Prog
import Derived.Shelf.Slices.Clone
import Derived.Shelf.Slices.CompactI
import Derived.Shelf.Slices.In.SortNone
import Derived.Shelf.Slices.Empties
import Derived.Shelf.Slices.Empties2
import Derived.Ground.SlgnProg
import Derived.Shelf.SlicesE.Clone
import Derived.Test.YtpnhelcemodnmaaGreatProg
import Derived.Lib.OwnBridge
import Derived.WalkSpells
import Derived.Deep.RegionHeld
import Derived.Deep.RegionHeld3
import Derived.Test.YtpnhelcemodnmaaGreatU1
namespace Go.Proofs.YtpnhelcemodnmaaGreat.PA
open Go.RowKit Go.Proofs.YtpnhelcemodnmaaGreatW.PrintWords Go.Proofs.YtpnhelcemodnmaaGreatW.PrintLast Go.Proofs.YtpnhelcemodnmaaGreatW.PrintMore
attribute [local go_sem] max2_int min2_int max_two min_two max_three min_three max_four min_four
set_option linter.unusedVariables false
set_option linter.unusedSimpArgs false
def page_within.f (a0 : Int) (a1 : Int) (a2 : Int) : Option (Bool) := if a1 ≤ a0 then (some (decide (a0 ≤ a2))) else (some false)
set_option maxHeartbeats 8000000 in
set_option maxRecDepth 100000 in
theorem page_within.calls (a0 : Int) (a1 : Int) (a2 : Int) (r : Bool) (w : World) (h : page_within.f a0 a1 a2 = some r) :
    Calls Tryz.prog 118 #[.int .i64 a0, .int .i64 a1, .int .i64 a2] w fun e w' => e = .returned (.bool r) ∧ Drawn0 w w' := by
  have H : (if a1 ≤ a0 then (some (decide (a0 ≤ a2))) else (some false)) = some r := h
  clear h
  by_cases c4 : a1 ≤ a0
  · rw [if_pos c4] at H
    have c4b0 : decide (a1 ≤ a0) = true := decide_eq_true c4
    clear c4
    obtain rfl := Option.some.inj H
    go_enter Tryz.func118, Tryz.ntmps118
    go_wp2
    go_ret
    exact ⟨by first | rfl | (simp; done) | (simp [*]; done), by repeat (first | exact Drawn0.refl _ | apply Drawn0.step)⟩
  · rw [if_neg c4] at H
    have c4b0 : decide (a1 ≤ a0) = false := decide_eq_false c4
    clear c4
    obtain rfl := Option.some.inj H
    go_enter Tryz.func118, Tryz.ntmps118
    go_wp2
    go_ret
    exact ⟨by first | rfl | (simp; done) | (simp [*]; done), by repeat (first | exact Drawn0.refl _ | apply Drawn0.step)⟩
def page_numbered.f (a0 : Int) : Option (Bool) := (page_within.f a0 2 4095).bind fun t101 => (some t101)
set_option maxHeartbeats 8000000 in
set_option maxRecDepth 100000 in
theorem page_numbered.calls (a0 : Int) (r : Bool) (w : World) (h : page_numbered.f a0 = some r) :
    Calls Tryz.prog 119 #[.int .i64 a0] w fun e w' => e = .returned (.bool r) ∧ Drawn0 w w' := by
  have H : ((page_within.f a0 2 4095).bind fun t101 => (some t101)) = some r := h
  clear h
  replace H := Option.bind_eq_some_iff.mp H
  obtain ⟨t101, A20, H⟩ := H
  replace H : (some t101) = some r := H
  have A2 := Aside0.mk A20
  clear A20
  obtain rfl := Option.some.inj H
  go_enter Tryz.func119, Tryz.ntmps119
  go_wp2_with (first | ((with_reducible refine gate_callee (f := 118) rfl ?_); refine goesL_ (some 4) rfl rfl Tryz.func118 (by kernel_rfl) rfl #[.int .i64 a0, .int .i64 2, .int .i64 4095] rfl (by (try simp only [List.map_toArray, List.map_cons, List.map_nil]); first | done | rfl | (simp only [List.length_drop, List.length_take]; rfl)) ?_; (with_reducible refine (page_within.calls a0 2 4095 t101 _ A2.out).mono ?_); rintro e w' ⟨rfl, ⟨nd, rfl⟩⟩; refine ⟨_, rfl, ?_⟩))
  go_ret
  exact ⟨by first | rfl | (simp; done) | (simp [*]; done), by repeat (first | exact Drawn0.refl _ | apply Drawn0.step)⟩
mutual
def page_freed.l0 : Nat → List (S64) → List (S64) → Int → Int → Option (Bool)
  | 0, _, _, _, _ => none
  | k + 1, x0, x7, x8, x9 => if x9 < x8 then (if 0 ≤ x9 then (if x9 < (x7.length : Int) then ((page_within.f ((rd_T64 x7 x9).f0) 0 1099511627776).bind fun t104 => (if t104 = true then (if (((rd_T64 x7 x9).f1).length : Int) = 0 then (page_freed.j1 k x0 x7 x8 x9 true ((rd_T64 x7 x9).f0) ((rd_T64 x7 x9).f1)) else (if x9 > 0 then (if 0 ≤ (wrap64 (x9 - 1)) then (if (wrap64 (x9 - 1)) < (x0.length : Int) then (page_freed.j1 k x0 x7 x8 x9 (decide (((rd_T64 x0 (wrap64 (x9 - 1))).f0) ≥ ((rd_T64 x7 x9).f0))) ((rd_T64 x7 x9).f0) ((rd_T64 x7 x9).f1)) else (none)) else (none)) else (page_freed.j1 k x0 x7 x8 x9 false ((rd_T64 x7 x9).f0) ((rd_T64 x7 x9).f1)))) else (page_freed.j1 k x0 x7 x8 x9 true ((rd_T64 x7 x9).f0) ((rd_T64 x7 x9).f1)))) else (none)) else (none)) else (some true)
def page_freed.j1 : Nat → List (S64) → List (S64) → Int → Int → Bool → Int → List Int → Option (Bool)
  | 0, _, _, _, _, _, _, _ => none
  | k + 1, x0, x7, x8, x9, x38, x104000, x104001 => if x38 = true then (some false) else (page_freed.l1 k x0 x7 x8 x9 x104001 (x104001.length : Int) 0 x104000 x104001)
def page_freed.l1 : Nat → List (S64) → List (S64) → Int → Int → List Int → Int → Int → Int → List Int → Option (Bool)
  | 0, _, _, _, _, _, _, _, _, _ => none
  | k + 1, x0, x7, x8, x9, x40, x41, x42, x104000, x104001 => if x42 < x41 then (if 0 ≤ x42 then (if x42 < (x40.length : Int) then ((page_numbered.f (rd x40 x42)).bind fun t107 => (if t107 = true then (if x42 > 0 then (if 0 ≤ (wrap64 (x42 - 1)) then (if (wrap64 (x42 - 1)) < (x104001.length : Int) then (if (rd x104001 (wrap64 (x42 - 1))) ≥ (rd x40 x42) then (some false) else (page_freed.l1 k x0 x7 x8 x9 x40 x41 (wrap64 (x42 + 1)) x104000 x104001)) else (none)) else (none)) else (page_freed.l1 k x0 x7 x8 x9 x40 x41 (wrap64 (x42 + 1)) x104000 x104001)) else (some false))) else (none)) else (none)) else (page_freed.l0 k x0 x7 x8 (wrap64 (x9 + 1)))
end
def page_freed.f (k : Nat) (l0 : List (S64)) : Option (Bool) := page_freed.l0 k l0 l0 (l0.length : Int) 0
theorem page_freed.mono_l : ∀ k, (∀ y0 y1 y2 y3, LeO (page_freed.l0 k y0 y1 y2 y3) (page_freed.l0 (k + 1) y0 y1 y2 y3)) ∧ (∀ y0 y1 y2 y3 y4 y5 y6, LeO (page_freed.j1 k y0 y1 y2 y3 y4 y5 y6) (page_freed.j1 (k + 1) y0 y1 y2 y3 y4 y5 y6)) ∧ (∀ y0 y1 y2 y3 y4 y5 y6 y7 y8, LeO (page_freed.l1 k y0 y1 y2 y3 y4 y5 y6 y7 y8) (page_freed.l1 (k + 1) y0 y1 y2 y3 y4 y5 y6 y7 y8))
  | 0 => ⟨fun _ _ _ _ r h => by simp [page_freed.l0] at h, fun _ _ _ _ _ _ _ r h => by simp [page_freed.j1] at h, fun _ _ _ _ _ _ _ _ _ r h => by simp [page_freed.l1] at h⟩
  | k + 1 => by
    obtain ⟨ih0, ih1, ih2⟩ := page_freed.mono_l k
    refine ⟨?_, ?_, ?_⟩
    · intro y0 y1 y2 y3
      unfold page_freed.l0
      repeat' first
      | (with_reducible exact ih0 _ _ _ _)
      | (with_reducible exact ih1 _ _ _ _ _ _ _)
      | (with_reducible exact ih2 _ _ _ _ _ _ _ _ _)
      | (with_reducible exact LeO.refl _)
      | (with_reducible exact LeO.none _)
      | (with_reducible refine LeO.ite ?_ ?_)
      | (with_reducible refine LeO.bind ?_ (fun _ => ?_))
      | exact ih0 _ _ _ _
      | exact ih1 _ _ _ _ _ _ _
      | exact ih2 _ _ _ _ _ _ _ _ _
      | exact LeO.none _
      | refine LeO.ite ?_ ?_
      | refine LeO.bind ?_ (fun _ => ?_)
    · intro y0 y1 y2 y3 y4 y5 y6
      unfold page_freed.j1
      repeat' first
      | (with_reducible exact ih0 _ _ _ _)
      | (with_reducible exact ih1 _ _ _ _ _ _ _)
      | (with_reducible exact ih2 _ _ _ _ _ _ _ _ _)
      | (with_reducible exact LeO.refl _)
      | (with_reducible exact LeO.none _)
      | (with_reducible refine LeO.ite ?_ ?_)
      | (with_reducible refine LeO.bind ?_ (fun _ => ?_))
      | exact ih0 _ _ _ _
      | exact ih1 _ _ _ _ _ _ _
      | exact ih2 _ _ _ _ _ _ _ _ _
      | exact LeO.none _
      | refine LeO.ite ?_ ?_
      | refine LeO.bind ?_ (fun _ => ?_)
    · intro y0 y1 y2 y3 y4 y5 y6 y7 y8
      unfold page_freed.l1
      repeat' first
      | (with_reducible exact ih0 _ _ _ _)
      | (with_reducible exact ih1 _ _ _ _ _ _ _)
      | (with_reducible exact ih2 _ _ _ _ _ _ _ _ _)
      | (with_reducible exact LeO.refl _)
      | (with_reducible exact LeO.none _)
      | (with_reducible refine LeO.ite ?_ ?_)
      | (with_reducible refine LeO.bind ?_ (fun _ => ?_))
      | exact ih0 _ _ _ _
      | exact ih1 _ _ _ _ _ _ _
      | exact ih2 _ _ _ _ _ _ _ _ _
      | exact LeO.none _
      | refine LeO.ite ?_ ?_
      | refine LeO.bind ?_ (fun _ => ?_)
theorem page_freed.mono : ∀ a0 k, LeO (page_freed.f k a0) (page_freed.f (k + 1) a0) := by
  intro a0 k
  obtain ⟨ih0, ih1, ih2⟩ := page_freed.mono_l k
  unfold page_freed.f
  repeat' first
      | (with_reducible exact ih0 _ _ _ _)
      | (with_reducible exact ih1 _ _ _ _ _ _ _)
      | (with_reducible exact ih2 _ _ _ _ _ _ _ _ _)
      | (with_reducible exact LeO.refl _)
      | (with_reducible exact LeO.none _)
      | (with_reducible refine LeO.ite ?_ ?_)
      | (with_reducible refine LeO.bind ?_ (fun _ => ?_))
      | exact ih0 _ _ _ _
      | exact ih1 _ _ _ _ _ _ _
      | exact ih2 _ _ _ _ _ _ _ _ _
      | exact LeO.none _
      | refine LeO.ite ?_ ?_
      | refine LeO.bind ?_ (fun _ => ?_)
set_option maxHeartbeats 8000000 in
set_option maxRecDepth 100000 in
theorem page_freed.calls (k : Nat) (A0 : Option Addr) (c0 : Nat) (l0 : List (S64)) (r : Bool) (w : World) (hr0 : Kd.C k64 w A0 l0.length l0) (hc0 : l0.length ≤ c0) (h : page_freed.f k l0 = some r) :
    Calls Tryz.prog 75 #[.slice A0 l0.length c0] w fun e w' => e = .returned (.bool r) ∧ Below w.heap.size w w' := by
  have hu64 := Tryz.underlying64
  have HR0 := Aside0.mk hr0
  have HC0 := Aside0.mk hc0
  clear hr0 hc0
  have HB := Aside0.mk (Below.refl w.heap.size w)
  have H : (page_freed.l0 k l0 l0 (l0.length : Int) 0) = some r := h
  clear h
  have H' := Aside0.mk H
  clear H
  go_enter Tryz.func75, Tryz.ntmps75
  go_wp2
  repeat (go_quiet (fail); try go_wp2)
  go_loopg [9] k (fun kq v9 w' => ∃ (x9_1 : Int), v9 = .int .i64 x9_1 ∧ Aside0 (page_freed.l0 kq l0 l0 (l0.length : Int) x9_1 = some r) ∧ Aside0 (kq ≤ k) ∧ Aside0 (Below w.heap.size w w'))
  case atStart => exact ⟨(0), (by first | rfl | (simp; done) | (simp [*]; done)), H', ⟨Nat.le_refl _⟩, ⟨by repeat (first | (with_reducible first | exact HB.out | apply below_alloc | apply pw_below_drewN | apply below_drew1) | exact HB.out)⟩⟩
  case round =>
    clear H'
    obtain ⟨x9_1, rfl, HA, HK1, HB⟩ := hrel
    cases gk with
    | zero => exact absurd HA.out (by simp [page_freed.l0])
    | succ k1 =>
      have H := HA.out
      clear HA
      simp only [page_freed.l0] at H
      by_cases c2 : x9_1 < (l0.length : Int)
      · rw [if_pos c2] at H
        have c2b0 : decide (x9_1 < (l0.length : Int)) = true := decide_eq_true c2
        clear c2
        by_cases c3 : 0 ≤ x9_1
        · rw [if_pos c3] at H
          have c3b0 : decide (0 ≤ x9_1) = true := decide_eq_true c3
          clear c3
          by_cases c4 : x9_1 < (l0.length : Int)
          · rw [if_pos c4] at H
            have c4b0 : decide (x9_1 < (l0.length : Int)) = true := decide_eq_true c4
            clear c4
            have HC5 := Aside0.mk H
            clear H
            have p102 : 0 ≤ (x9_1 : Int) := of_decide_eq_true (by first | (with_reducible assumption) | assumption)
            have q102 : x9_1 < (l0.length : Int) := of_decide_eq_true (by first | (with_reducible assumption) | assumption)
            obtain ⟨ad102, A102_1, c102_1, e102, hx102_0, hx102_1, hl102_1, hi102_1⟩ := at_T64 HR0.out x9_1 p102 q102
            cases e102
            replace hx102_0 := (HB.out.cell (World.block_lt_of_cell? w _ hx102_0)).trans hx102_0
            replace hx102_1 := (HB.out.cell (World.block_lt_of_cell? w _ hx102_1)).trans hx102_1
            have HR102_1 := Aside0.mk hi102_1
            have HC102_1 := Aside0.mk hl102_1
            clear hi102_1 hl102_1
            replace p102 := eq_true p102
            replace q102 := eq_true q102
            go_upto_region 4 with (first | ((with_reducible refine gate_dst (N := 4) rfl ?_); (try (refine gate_guard (by rfl) ?_; dsimp only)); refine box_event ?hg (N := 4) ?hd (cs := #[.int .i64 0, .slice none 0 0]) (t := 64) ?hr ?_; (case hd => rfl); (case hg => rfl); (case hr => first | (go_simp; done) | (go_simp; rfl)); intro gb103 hg w6 hbox hb; have n0_ := Aside0.mk (below_step (by repeat (first | (with_reducible first | exact HB.out | apply below_alloc | apply pw_below_drewN | apply below_drew1) | exact HB.out)) hb); have n1_ := Aside0.mk (hbox); have n2_ := Aside0.mk ((by rw [hg]; exact (below_size (by repeat (first | (with_reducible first | exact HB.out | apply below_alloc | apply pw_below_drewN | apply below_drew1) | exact HB.out))) : w.heap.size ≤ gb103)); have n3_ := Aside0.mk ((by rw [hg]; exact (below_size (by repeat (first | (with_reducible first | exact HB.out | apply below_alloc | apply pw_below_drewN | apply below_drew1) | exact HB.out))) : w.heap.size ≤ gb103)); clear HB; have HB := n0_; have BK103 := n1_; have GW103 := n2_; have GE103 := n3_; clear n0_ n1_ n2_ n3_; clear hb hbox hg; have hcz7_0 : w6.cell? ⟨gb103, 0, none⟩ = some (.int .i64 0) := (blk_cell BK103.out 0).trans rfl; have hcz7_1 : w6.cell? ⟨gb103, 1, none⟩ = some (.slice none 0 0) := (blk_cell BK103.out 1).trans rfl; have hfz7_0 := blk_frozen BK103.out 0; have hfz7_1 := blk_frozen BK103.out 1))
            repeat (go_quiet (first | ((with_reducible refine gate_dst (N := 4) rfl ?_); (try (refine gate_guard (by rfl) ?_; dsimp only)); refine box_event ?hg (N := 4) ?hd (cs := #[.int .i64 0, .slice none 0 0]) (t := 64) ?hr ?_; (case hd => rfl); (case hg => rfl); (case hr => first | (go_simp; done) | (go_simp; rfl)); intro gb103 hg w6 hbox hb; have n0_ := Aside0.mk (below_step (by repeat (first | (with_reducible first | exact HB.out | apply below_alloc | apply pw_below_drewN | apply below_drew1) | exact HB.out)) hb); have n1_ := Aside0.mk (hbox); have n2_ := Aside0.mk ((by rw [hg]; exact (below_size (by repeat (first | (with_reducible first | exact HB.out | apply below_alloc | apply pw_below_drewN | apply below_drew1) | exact HB.out))) : w.heap.size ≤ gb103)); have n3_ := Aside0.mk ((by rw [hg]; exact (below_size (by repeat (first | (with_reducible first | exact HB.out | apply below_alloc | apply pw_below_drewN | apply below_drew1) | exact HB.out))) : w.heap.size ≤ gb103)); clear HB; have HB := n0_; have BK103 := n1_; have GW103 := n2_; have GE103 := n3_; clear n0_ n1_ n2_ n3_; clear hb hbox hg; have hcz7_0 : w6.cell? ⟨gb103, 0, none⟩ = some (.int .i64 0) := (blk_cell BK103.out 0).trans rfl; have hcz7_1 : w6.cell? ⟨gb103, 1, none⟩ = some (.slice none 0 0) := (blk_cell BK103.out 1).trans rfl; have hfz7_0 := blk_frozen BK103.out 0; have hfz7_1 := blk_frozen BK103.out 1)); go_upto_region 4 with (first | ((with_reducible refine gate_dst (N := 4) rfl ?_); (try (refine gate_guard (by rfl) ?_; dsimp only)); refine box_event ?hg (N := 4) ?hd (cs := #[.int .i64 0, .slice none 0 0]) (t := 64) ?hr ?_; (case hd => rfl); (case hg => rfl); (case hr => first | (go_simp; done) | (go_simp; rfl)); intro gb103 hg w6 hbox hb; have n0_ := Aside0.mk (below_step (by repeat (first | (with_reducible first | exact HB.out | apply below_alloc | apply pw_below_drewN | apply below_drew1) | exact HB.out)) hb); have n1_ := Aside0.mk (hbox); have n2_ := Aside0.mk ((by rw [hg]; exact (below_size (by repeat (first | (with_reducible first | exact HB.out | apply below_alloc | apply pw_below_drewN | apply below_drew1) | exact HB.out))) : w.heap.size ≤ gb103)); have n3_ := Aside0.mk ((by rw [hg]; exact (below_size (by repeat (first | (with_reducible first | exact HB.out | apply below_alloc | apply pw_below_drewN | apply below_drew1) | exact HB.out))) : w.heap.size ≤ gb103)); clear HB; have HB := n0_; have BK103 := n1_; have GW103 := n2_; have GE103 := n3_; clear n0_ n1_ n2_ n3_; clear hb hbox hg; have hcz7_0 : w6.cell? ⟨gb103, 0, none⟩ = some (.int .i64 0) := (blk_cell BK103.out 0).trans rfl; have hcz7_1 : w6.cell? ⟨gb103, 1, none⟩ = some (.slice none 0 0) := (blk_cell BK103.out 1).trans rfl; have hfz7_0 := blk_frozen BK103.out 0; have hfz7_1 := blk_frozen BK103.out 1)))
            (try simp only [Act.put, List.setIfInBounds_toArray, List.set_cons_zero, List.set_cons_succ])
            go_cut [38] (fun v38 wc => ∃ (kq : Nat) (x38_4 : Bool), v38 = .bool x38_4 ∧ Aside0 (page_freed.j1 kq l0 l0 (l0.length : Int) x9_1 x38_4 ((rd_T64 l0 x9_1).f0) ((rd_T64 l0 x9_1).f1) = some r) ∧ Aside0 (kq ≤ k1) ∧ Aside0 (wc.heap[gb103]? = some (.cells #[.int .i64 ((rd_T64 l0 x9_1).f0), (.slice A102_1 ((rd_T64 l0 x9_1).f1).length c102_1)] 64 (0, 0))) ∧ Aside0 (Below w.heap.size w wc))
            case first =>
              have H := HC5.out
              clear HC5
              replace H := Option.bind_eq_some_iff.mp H
              obtain ⟨t104, A80, H⟩ := H
              replace H : (if t104 = true then (if (((rd_T64 l0 x9_1).f1).length : Int) = 0 then (page_freed.j1 k1 l0 l0 (l0.length : Int) x9_1 true ((rd_T64 l0 x9_1).f0) ((rd_T64 l0 x9_1).f1)) else (if x9_1 > 0 then (if 0 ≤ (wrap64 (x9_1 - 1)) then (if (wrap64 (x9_1 - 1)) < (l0.length : Int) then (page_freed.j1 k1 l0 l0 (l0.length : Int) x9_1 (decide (((rd_T64 l0 (wrap64 (x9_1 - 1))).f0) ≥ ((rd_T64 l0 x9_1).f0))) ((rd_T64 l0 x9_1).f0) ((rd_T64 l0 x9_1).f1)) else (none)) else (none)) else (page_freed.j1 k1 l0 l0 (l0.length : Int) x9_1 false ((rd_T64 l0 x9_1).f0) ((rd_T64 l0 x9_1).f1)))) else (page_freed.j1 k1 l0 l0 (l0.length : Int) x9_1 true ((rd_T64 l0 x9_1).f0) ((rd_T64 l0 x9_1).f1))) = some r := H
              have A8 := Aside0.mk A80
              clear A80
              by_cases c9 : t104 = true
              · subst c9
                have H1 : (if (((rd_T64 l0 x9_1).f1).length : Int) = 0 then (page_freed.j1 k1 l0 l0 (l0.length : Int) x9_1 true ((rd_T64 l0 x9_1).f0) ((rd_T64 l0 x9_1).f1)) else (if x9_1 > 0 then (if 0 ≤ (wrap64 (x9_1 - 1)) then (if (wrap64 (x9_1 - 1)) < (l0.length : Int) then (page_freed.j1 k1 l0 l0 (l0.length : Int) x9_1 (decide (((rd_T64 l0 (wrap64 (x9_1 - 1))).f0) ≥ ((rd_T64 l0 x9_1).f0))) ((rd_T64 l0 x9_1).f0) ((rd_T64 l0 x9_1).f1)) else (none)) else (none)) else (page_freed.j1 k1 l0 l0 (l0.length : Int) x9_1 false ((rd_T64 l0 x9_1).f0) ((rd_T64 l0 x9_1).f1)))) = some r := by rw [if_pos rfl] at H; exact H
                clear H
                have H := H1
                clear H1
                by_cases c10 : (((rd_T64 l0 x9_1).f1).length : Int) = 0
                · rw [if_pos c10] at H
                  have c10b0 : ((((rd_T64 l0 x9_1).f1).length : Int) == 0) = true := beq_iff_eq.mpr c10
                  have c10b1 : ((((rd_T64 l0 x9_1).f1).length : Int) != 0) = false := bne_eq_false_iff_eq.mpr c10
                  clear c10
                  (first | rw [c10b0] | (simp only [i64_w, i32_w]; rw [c10b0]) | skip)
                  have H' := Aside0.mk H
                  clear H
                  have hcz11_0 : w6.cell? ⟨gb103, 0, none⟩ = some (.int .i64 0) := (blk_cell BK103.out 0).trans rfl
                  have hcz11_1 : w6.cell? ⟨gb103, 1, none⟩ = some (.slice none 0 0) := (blk_cell BK103.out 1).trans rfl
                  have hfz11_0 := blk_frozen BK103.out 0
                  have hfz11_1 := blk_frozen BK103.out 1
                  go_wp2_with (first | (go_at_call 118; (with_reducible refine (page_within.calls ((rd_T64 l0 x9_1).f0) 0 1099511627776 true _ A8.out).mono ?_); rintro e w' ⟨rfl, ⟨nd, rfl⟩⟩; (try first | exact ⟨rfl, _, World.drewN_drewN _ _ _⟩ | exact ⟨rfl, _, Eq.trans (World.drewN_drewN _ _ _) (congrArg (World.drewN _) (Nat.add_assoc _ _ _))⟩)))
                  repeat (go_quiet (first | (go_at_call 118; (with_reducible refine (page_within.calls ((rd_T64 l0 x9_1).f0) 0 1099511627776 true _ A8.out).mono ?_); rintro e w' ⟨rfl, ⟨nd, rfl⟩⟩; (try first | exact ⟨rfl, _, World.drewN_drewN _ _ _⟩ | exact ⟨rfl, _, Eq.trans (World.drewN_drewN _ _ _) (congrArg (World.drewN _) (Nat.add_assoc _ _ _))⟩))); try go_wp2_with (first | (go_at_call 118; (with_reducible refine (page_within.calls ((rd_T64 l0 x9_1).f0) 0 1099511627776 true _ A8.out).mono ?_); rintro e w' ⟨rfl, ⟨nd, rfl⟩⟩; (try first | exact ⟨rfl, _, World.drewN_drewN _ _ _⟩ | exact ⟨rfl, _, Eq.trans (World.drewN_drewN _ _ _) (congrArg (World.drewN _) (Nat.add_assoc _ _ _))⟩))))
                  go_meet
                  case rel => exact ⟨_, (true), (by first | rfl | (simp; done) | (simp [*]; done)), H', ⟨by have := HK1.out; first | omega | exact Nat.le_refl _⟩, ⟨by (with_reducible repeat (first | refine blk_drewN ?_ _ | refine blk_drew ?_ | refine blk_alloc ?_ _)); refine blk_put (cs := #[.int .i64 ((rd_T64 l0 x9_1).f0), .slice none 0 0]) ?_ 1 _ rfl; (with_reducible repeat (first | refine blk_drewN ?_ _ | refine blk_drew ?_ | refine blk_alloc ?_ _)); refine blk_put (cs := #[.int .i64 0, .slice none 0 0]) ?_ 0 _ rfl; (with_reducible repeat (first | refine blk_drewN ?_ _ | refine blk_drew ?_ | refine blk_alloc ?_ _)); exact BK103.out⟩, ⟨by repeat (first | (with_reducible first | exact HB.out | apply below_alloc | apply pw_below_drewN | apply below_drew1 | refine below_set ?_ GE103.out) | exact HB.out)⟩⟩
                · rw [if_neg c10] at H
                  have c10b0 : ((((rd_T64 l0 x9_1).f1).length : Int) == 0) = false := beq_eq_false_iff_ne.mpr c10
                  have c10b1 : ((((rd_T64 l0 x9_1).f1).length : Int) != 0) = true := bne_iff_ne.mpr c10
                  have c10b2 : ¬ (((rd_T64 l0 x9_1).f1) = []) := fun h_ => c10 (by rw [h_]; rfl)
                  (first | rw [c10b0] | (simp only [i64_w, i32_w]; rw [c10b0]) | skip)
                  by_cases c12 : x9_1 > 0
                  · rw [if_pos c12] at H
                    have c12b0 : decide (0 < x9_1) = true := decide_eq_true c12
                    clear c12
                    obtain ⟨ji13, hji13⟩ : ∃ j_ : Int, (wrap64 (x9_1 - 1)) = j_ := ⟨_, rfl⟩
                    replace H : (if 0 ≤ (ji13) then (if (ji13) < (l0.length : Int) then (page_freed.j1 k1 l0 l0 (l0.length : Int) x9_1 (decide (((rd_T64 l0 (ji13)).f0) ≥ ((rd_T64 l0 x9_1).f0))) ((rd_T64 l0 x9_1).f0) ((rd_T64 l0 x9_1).f1)) else (none)) else (none)) = some r := by first | (rw [hji13] at H; exact H) | (simp only [hji13] at H ⊢; exact H)
                    (try rw [hji13] at A8)
                    have hji13w : (IntKind.i64.wrap (x9_1 - 1)) = ji13 := (i64_w _).trans hji13
                    by_cases c14 : 0 ≤ (ji13)
                    · rw [if_pos c14] at H
                      have c14b0 : decide (0 ≤ (ji13)) = true := decide_eq_true c14
                      clear c14
                      by_cases c15 : (ji13) < (l0.length : Int)
                      · rw [if_pos c15] at H
                        have c15b0 : decide ((ji13) < (l0.length : Int)) = true := decide_eq_true c15
                        clear c15
                        have H' := Aside0.mk H
                        clear H
                        have hcz16_0 : w6.cell? ⟨gb103, 0, none⟩ = some (.int .i64 0) := (blk_cell BK103.out 0).trans rfl
                        have hcz16_1 : w6.cell? ⟨gb103, 1, none⟩ = some (.slice none 0 0) := (blk_cell BK103.out 1).trans rfl
                        have hfz16_0 := blk_frozen BK103.out 0
                        have hfz16_1 := blk_frozen BK103.out 1
                        go_wp2_with (first | (go_at_call 118; (with_reducible refine (page_within.calls ((rd_T64 l0 x9_1).f0) 0 1099511627776 true _ A8.out).mono ?_); rintro e w' ⟨rfl, ⟨nd, rfl⟩⟩; (try first | exact ⟨rfl, _, World.drewN_drewN _ _ _⟩ | exact ⟨rfl, _, Eq.trans (World.drewN_drewN _ _ _) (congrArg (World.drewN _) (Nat.add_assoc _ _ _))⟩); have p105 : 0 ≤ ((ji13) : Int) := of_decide_eq_true (by first | (with_reducible assumption) | assumption); have q105 : (ji13) < (l0.length : Int) := of_decide_eq_true (by first | (with_reducible assumption) | assumption); obtain ⟨ad105, A105_1, c105_1, e105, hx105_0, hx105_1, hl105_1, hi105_1⟩ := at_T64 HR0.out (ji13) p105 q105; obtain rfl : ad102 = ad105 := (by injection e105); have hn105_0 : ad102.block ≠ gb103 := Nat.ne_of_lt (Nat.lt_of_lt_of_le (by have := World.block_lt_of_cell? _ _ hx105_0; first | rwa [add_block] at this | exact this) GW103.out); have hn105_1 : ad102.block ≠ gb103 := Nat.ne_of_lt (Nat.lt_of_lt_of_le (by have := World.block_lt_of_cell? _ _ hx105_0; first | rwa [add_block] at this | exact this) GW103.out); replace hx105_0 := (HB.out.cell (World.block_lt_of_cell? w _ hx105_0)).trans hx105_0; replace hx105_1 := (HB.out.cell (World.block_lt_of_cell? w _ hx105_1)).trans hx105_1; have HR105_1 := Aside0.mk hi105_1; have HC105_1 := Aside0.mk hl105_1; clear hi105_1 hl105_1; replace hx105_0 := (cell_far (p := ⟨gb103, 0, none⟩) (by first | (rw [add_block]; exact hn105_0) | (show (Addr.add _ _).block ≠ _; rw [add_block]; exact hn105_0) | exact hn105_0) (.int .i64 ((rd_T64 l0 x9_1).f0))).trans hx105_0; replace hx105_1 := (cell_far (p := ⟨gb103, 0, none⟩) (by first | (rw [add_block]; exact hn105_0) | (show (Addr.add _ _).block ≠ _; rw [add_block]; exact hn105_0) | exact hn105_0) (.int .i64 ((rd_T64 l0 x9_1).f0))).trans hx105_1; replace hx105_0 := (cell_far (p := ⟨gb103, 1, none⟩) (by first | (rw [add_block]; exact hn105_1) | (show (Addr.add _ _).block ≠ _; rw [add_block]; exact hn105_1) | exact hn105_1) (.slice A102_1 ((rd_T64 l0 x9_1).f1).length c102_1)).trans hx105_0; replace hx105_1 := (cell_far (p := ⟨gb103, 1, none⟩) (by first | (rw [add_block]; exact hn105_1) | (show (Addr.add _ _).block ≠ _; rw [add_block]; exact hn105_1) | exact hn105_1) (.slice A102_1 ((rd_T64 l0 x9_1).f1).length c102_1)).trans hx105_1; (try have hy105_0 := fun (n_ : Nat) => (show ((((w6.drewN n_).setCell ⟨gb103, 0, none⟩ (.int .i64 ((rd_T64 l0 x9_1).f0))).setCell ⟨gb103, 1, none⟩ (.slice A102_1 ((rd_T64 l0 x9_1).f1).length c102_1))).cell? _ = some _ from hx105_0)); (try have hy105_1 := fun (n_ : Nat) => (show ((((w6.drewN n_).setCell ⟨gb103, 0, none⟩ (.int .i64 ((rd_T64 l0 x9_1).f0))).setCell ⟨gb103, 1, none⟩ (.slice A102_1 ((rd_T64 l0 x9_1).f1).length c102_1))).cell? _ = some _ from hx105_1)); clear hn105_0; clear hn105_1; replace p105 := eq_true p105; replace q105 := eq_true q105))
                        repeat (go_quiet (first | (go_at_call 118; (with_reducible refine (page_within.calls ((rd_T64 l0 x9_1).f0) 0 1099511627776 true _ A8.out).mono ?_); rintro e w' ⟨rfl, ⟨nd, rfl⟩⟩; (try first | exact ⟨rfl, _, World.drewN_drewN _ _ _⟩ | exact ⟨rfl, _, Eq.trans (World.drewN_drewN _ _ _) (congrArg (World.drewN _) (Nat.add_assoc _ _ _))⟩); have p105 : 0 ≤ ((ji13) : Int) := of_decide_eq_true (by first | (with_reducible assumption) | assumption); have q105 : (ji13) < (l0.length : Int) := of_decide_eq_true (by first | (with_reducible assumption) | assumption); obtain ⟨ad105, A105_1, c105_1, e105, hx105_0, hx105_1, hl105_1, hi105_1⟩ := at_T64 HR0.out (ji13) p105 q105; obtain rfl : ad102 = ad105 := (by injection e105); have hn105_0 : ad102.block ≠ gb103 := Nat.ne_of_lt (Nat.lt_of_lt_of_le (by have := World.block_lt_of_cell? _ _ hx105_0; first | rwa [add_block] at this | exact this) GW103.out); have hn105_1 : ad102.block ≠ gb103 := Nat.ne_of_lt (Nat.lt_of_lt_of_le (by have := World.block_lt_of_cell? _ _ hx105_0; first | rwa [add_block] at this | exact this) GW103.out); replace hx105_0 := (HB.out.cell (World.block_lt_of_cell? w _ hx105_0)).trans hx105_0; replace hx105_1 := (HB.out.cell (World.block_lt_of_cell? w _ hx105_1)).trans hx105_1; have HR105_1 := Aside0.mk hi105_1; have HC105_1 := Aside0.mk hl105_1; clear hi105_1 hl105_1; replace hx105_0 := (cell_far (p := ⟨gb103, 0, none⟩) (by first | (rw [add_block]; exact hn105_0) | (show (Addr.add _ _).block ≠ _; rw [add_block]; exact hn105_0) | exact hn105_0) (.int .i64 ((rd_T64 l0 x9_1).f0))).trans hx105_0; replace hx105_1 := (cell_far (p := ⟨gb103, 0, none⟩) (by first | (rw [add_block]; exact hn105_0) | (show (Addr.add _ _).block ≠ _; rw [add_block]; exact hn105_0) | exact hn105_0) (.int .i64 ((rd_T64 l0 x9_1).f0))).trans hx105_1; replace hx105_0 := (cell_far (p := ⟨gb103, 1, none⟩) (by first | (rw [add_block]; exact hn105_1) | (show (Addr.add _ _).block ≠ _; rw [add_block]; exact hn105_1) | exact hn105_1) (.slice A102_1 ((rd_T64 l0 x9_1).f1).length c102_1)).trans hx105_0; replace hx105_1 := (cell_far (p := ⟨gb103, 1, none⟩) (by first | (rw [add_block]; exact hn105_1) | (show (Addr.add _ _).block ≠ _; rw [add_block]; exact hn105_1) | exact hn105_1) (.slice A102_1 ((rd_T64 l0 x9_1).f1).length c102_1)).trans hx105_1; (try have hy105_0 := fun (n_ : Nat) => (show ((((w6.drewN n_).setCell ⟨gb103, 0, none⟩ (.int .i64 ((rd_T64 l0 x9_1).f0))).setCell ⟨gb103, 1, none⟩ (.slice A102_1 ((rd_T64 l0 x9_1).f1).length c102_1))).cell? _ = some _ from hx105_0)); (try have hy105_1 := fun (n_ : Nat) => (show ((((w6.drewN n_).setCell ⟨gb103, 0, none⟩ (.int .i64 ((rd_T64 l0 x9_1).f0))).setCell ⟨gb103, 1, none⟩ (.slice A102_1 ((rd_T64 l0 x9_1).f1).length c102_1))).cell? _ = some _ from hx105_1)); clear hn105_0; clear hn105_1; replace p105 := eq_true p105; replace q105 := eq_true q105)); try go_wp2_with (first | (go_at_call 118; (with_reducible refine (page_within.calls ((rd_T64 l0 x9_1).f0) 0 1099511627776 true _ A8.out).mono ?_); rintro e w' ⟨rfl, ⟨nd, rfl⟩⟩; (try first | exact ⟨rfl, _, World.drewN_drewN _ _ _⟩ | exact ⟨rfl, _, Eq.trans (World.drewN_drewN _ _ _) (congrArg (World.drewN _) (Nat.add_assoc _ _ _))⟩); have p105 : 0 ≤ ((ji13) : Int) := of_decide_eq_true (by first | (with_reducible assumption) | assumption); have q105 : (ji13) < (l0.length : Int) := of_decide_eq_true (by first | (with_reducible assumption) | assumption); obtain ⟨ad105, A105_1, c105_1, e105, hx105_0, hx105_1, hl105_1, hi105_1⟩ := at_T64 HR0.out (ji13) p105 q105; obtain rfl : ad102 = ad105 := (by injection e105); have hn105_0 : ad102.block ≠ gb103 := Nat.ne_of_lt (Nat.lt_of_lt_of_le (by have := World.block_lt_of_cell? _ _ hx105_0; first | rwa [add_block] at this | exact this) GW103.out); have hn105_1 : ad102.block ≠ gb103 := Nat.ne_of_lt (Nat.lt_of_lt_of_le (by have := World.block_lt_of_cell? _ _ hx105_0; first | rwa [add_block] at this | exact this) GW103.out); replace hx105_0 := (HB.out.cell (World.block_lt_of_cell? w _ hx105_0)).trans hx105_0; replace hx105_1 := (HB.out.cell (World.block_lt_of_cell? w _ hx105_1)).trans hx105_1; have HR105_1 := Aside0.mk hi105_1; have HC105_1 := Aside0.mk hl105_1; clear hi105_1 hl105_1; replace hx105_0 := (cell_far (p := ⟨gb103, 0, none⟩) (by first | (rw [add_block]; exact hn105_0) | (show (Addr.add _ _).block ≠ _; rw [add_block]; exact hn105_0) | exact hn105_0) (.int .i64 ((rd_T64 l0 x9_1).f0))).trans hx105_0; replace hx105_1 := (cell_far (p := ⟨gb103, 0, none⟩) (by first | (rw [add_block]; exact hn105_0) | (show (Addr.add _ _).block ≠ _; rw [add_block]; exact hn105_0) | exact hn105_0) (.int .i64 ((rd_T64 l0 x9_1).f0))).trans hx105_1; replace hx105_0 := (cell_far (p := ⟨gb103, 1, none⟩) (by first | (rw [add_block]; exact hn105_1) | (show (Addr.add _ _).block ≠ _; rw [add_block]; exact hn105_1) | exact hn105_1) (.slice A102_1 ((rd_T64 l0 x9_1).f1).length c102_1)).trans hx105_0; replace hx105_1 := (cell_far (p := ⟨gb103, 1, none⟩) (by first | (rw [add_block]; exact hn105_1) | (show (Addr.add _ _).block ≠ _; rw [add_block]; exact hn105_1) | exact hn105_1) (.slice A102_1 ((rd_T64 l0 x9_1).f1).length c102_1)).trans hx105_1; (try have hy105_0 := fun (n_ : Nat) => (show ((((w6.drewN n_).setCell ⟨gb103, 0, none⟩ (.int .i64 ((rd_T64 l0 x9_1).f0))).setCell ⟨gb103, 1, none⟩ (.slice A102_1 ((rd_T64 l0 x9_1).f1).length c102_1))).cell? _ = some _ from hx105_0)); (try have hy105_1 := fun (n_ : Nat) => (show ((((w6.drewN n_).setCell ⟨gb103, 0, none⟩ (.int .i64 ((rd_T64 l0 x9_1).f0))).setCell ⟨gb103, 1, none⟩ (.slice A102_1 ((rd_T64 l0 x9_1).f1).length c102_1))).cell? _ = some _ from hx105_1)); clear hn105_0; clear hn105_1; replace p105 := eq_true p105; replace q105 := eq_true q105)))
                        go_meet
                        case rel => exact ⟨_, (decide (((rd_T64 l0 (ji13)).f0) ≥ ((rd_T64 l0 x9_1).f0))), (by first | rfl | (simp; done) | (simp only [← hji13] <;> (first | rfl | simp)) | (simp [*]; done)), H', ⟨by have := HK1.out; first | omega | exact Nat.le_refl _⟩, ⟨by (with_reducible repeat (first | refine blk_drewN ?_ _ | refine blk_drew ?_ | refine blk_alloc ?_ _)); refine blk_put (cs := #[.int .i64 ((rd_T64 l0 x9_1).f0), .slice none 0 0]) ?_ 1 _ rfl; (with_reducible repeat (first | refine blk_drewN ?_ _ | refine blk_drew ?_ | refine blk_alloc ?_ _)); refine blk_put (cs := #[.int .i64 0, .slice none 0 0]) ?_ 0 _ rfl; (with_reducible repeat (first | refine blk_drewN ?_ _ | refine blk_drew ?_ | refine blk_alloc ?_ _)); exact BK103.out⟩, ⟨by repeat (first | (with_reducible first | exact HB.out | apply below_alloc | apply pw_below_drewN | apply below_drew1 | refine below_set ?_ GE103.out) | exact HB.out)⟩⟩
                      · rw [if_neg c15] at H
                        exact absurd H (by simp)
                    · rw [if_neg c14] at H
                      exact absurd H (by simp)
                  · rw [if_neg c12] at H
                    have c12b0 : decide (0 < x9_1) = false := decide_eq_false c12
                    clear c12
                    have H' := Aside0.mk H
                    clear H
                    have hcz17_0 : w6.cell? ⟨gb103, 0, none⟩ = some (.int .i64 0) := (blk_cell BK103.out 0).trans rfl
                    have hcz17_1 : w6.cell? ⟨gb103, 1, none⟩ = some (.slice none 0 0) := (blk_cell BK103.out 1).trans rfl
                    have hfz17_0 := blk_frozen BK103.out 0
                    have hfz17_1 := blk_frozen BK103.out 1
                    go_wp2_with (first | (go_at_call 118; (with_reducible refine (page_within.calls ((rd_T64 l0 x9_1).f0) 0 1099511627776 true _ A8.out).mono ?_); rintro e w' ⟨rfl, ⟨nd, rfl⟩⟩; (try first | exact ⟨rfl, _, World.drewN_drewN _ _ _⟩ | exact ⟨rfl, _, Eq.trans (World.drewN_drewN _ _ _) (congrArg (World.drewN _) (Nat.add_assoc _ _ _))⟩)))
                    repeat (go_quiet (first | (go_at_call 118; (with_reducible refine (page_within.calls ((rd_T64 l0 x9_1).f0) 0 1099511627776 true _ A8.out).mono ?_); rintro e w' ⟨rfl, ⟨nd, rfl⟩⟩; (try first | exact ⟨rfl, _, World.drewN_drewN _ _ _⟩ | exact ⟨rfl, _, Eq.trans (World.drewN_drewN _ _ _) (congrArg (World.drewN _) (Nat.add_assoc _ _ _))⟩))); try go_wp2_with (first | (go_at_call 118; (with_reducible refine (page_within.calls ((rd_T64 l0 x9_1).f0) 0 1099511627776 true _ A8.out).mono ?_); rintro e w' ⟨rfl, ⟨nd, rfl⟩⟩; (try first | exact ⟨rfl, _, World.drewN_drewN _ _ _⟩ | exact ⟨rfl, _, Eq.trans (World.drewN_drewN _ _ _) (congrArg (World.drewN _) (Nat.add_assoc _ _ _))⟩))))
                    go_meet
                    case rel => exact ⟨_, (false), (by first | rfl | (simp; done) | (simp [*]; done)), H', ⟨by have := HK1.out; first | omega | exact Nat.le_refl _⟩, ⟨by (with_reducible repeat (first | refine blk_drewN ?_ _ | refine blk_drew ?_ | refine blk_alloc ?_ _)); refine blk_put (cs := #[.int .i64 ((rd_T64 l0 x9_1).f0), .slice none 0 0]) ?_ 1 _ rfl; (with_reducible repeat (first | refine blk_drewN ?_ _ | refine blk_drew ?_ | refine blk_alloc ?_ _)); refine blk_put (cs := #[.int .i64 0, .slice none 0 0]) ?_ 0 _ rfl; (with_reducible repeat (first | refine blk_drewN ?_ _ | refine blk_drew ?_ | refine blk_alloc ?_ _)); exact BK103.out⟩, ⟨by repeat (first | (with_reducible first | exact HB.out | apply below_alloc | apply pw_below_drewN | apply below_drew1 | refine below_set ?_ GE103.out) | exact HB.out)⟩⟩
              · replace c9 := Bool.eq_false_iff.mpr c9
                subst c9
                have H1 : (page_freed.j1 k1 l0 l0 (l0.length : Int) x9_1 true ((rd_T64 l0 x9_1).f0) ((rd_T64 l0 x9_1).f1)) = some r := by rw [if_neg (show ¬ (false = true) by decide)] at H; exact H
                clear H
                have H := H1
                clear H1
                have H' := Aside0.mk H
                clear H
                have hcz18_0 : w6.cell? ⟨gb103, 0, none⟩ = some (.int .i64 0) := (blk_cell BK103.out 0).trans rfl
                have hcz18_1 : w6.cell? ⟨gb103, 1, none⟩ = some (.slice none 0 0) := (blk_cell BK103.out 1).trans rfl
                have hfz18_0 := blk_frozen BK103.out 0
                have hfz18_1 := blk_frozen BK103.out 1
                go_wp2_with (first | (go_at_call 118; (with_reducible refine (page_within.calls ((rd_T64 l0 x9_1).f0) 0 1099511627776 false _ A8.out).mono ?_); rintro e w' ⟨rfl, ⟨nd, rfl⟩⟩; (try first | exact ⟨rfl, _, World.drewN_drewN _ _ _⟩ | exact ⟨rfl, _, Eq.trans (World.drewN_drewN _ _ _) (congrArg (World.drewN _) (Nat.add_assoc _ _ _))⟩)))
                repeat (go_quiet (first | (go_at_call 118; (with_reducible refine (page_within.calls ((rd_T64 l0 x9_1).f0) 0 1099511627776 false _ A8.out).mono ?_); rintro e w' ⟨rfl, ⟨nd, rfl⟩⟩; (try first | exact ⟨rfl, _, World.drewN_drewN _ _ _⟩ | exact ⟨rfl, _, Eq.trans (World.drewN_drewN _ _ _) (congrArg (World.drewN _) (Nat.add_assoc _ _ _))⟩))); try go_wp2_with (first | (go_at_call 118; (with_reducible refine (page_within.calls ((rd_T64 l0 x9_1).f0) 0 1099511627776 false _ A8.out).mono ?_); rintro e w' ⟨rfl, ⟨nd, rfl⟩⟩; (try first | exact ⟨rfl, _, World.drewN_drewN _ _ _⟩ | exact ⟨rfl, _, Eq.trans (World.drewN_drewN _ _ _) (congrArg (World.drewN _) (Nat.add_assoc _ _ _))⟩))))
                go_meet
                case rel => exact ⟨_, (true), (by first | rfl | (simp; done) | (simp [*]; done)), H', ⟨by have := HK1.out; first | omega | exact Nat.le_refl _⟩, ⟨by (with_reducible repeat (first | refine blk_drewN ?_ _ | refine blk_drew ?_ | refine blk_alloc ?_ _)); refine blk_put (cs := #[.int .i64 ((rd_T64 l0 x9_1).f0), .slice none 0 0]) ?_ 1 _ rfl; (with_reducible repeat (first | refine blk_drewN ?_ _ | refine blk_drew ?_ | refine blk_alloc ?_ _)); refine blk_put (cs := #[.int .i64 0, .slice none 0 0]) ?_ 0 _ rfl; (with_reducible repeat (first | refine blk_drewN ?_ _ | refine blk_drew ?_ | refine blk_alloc ?_ _)); exact BK103.out⟩, ⟨by repeat (first | (with_reducible first | exact HB.out | apply below_alloc | apply pw_below_drewN | apply below_drew1 | refine below_set ?_ GE103.out) | exact HB.out)⟩⟩
            case rest =>
              clear HC5
              try clear c1
              try clear p1
              try clear q1
              try clear hx1
              try clear c2
              try clear c2b0
              try clear p2
              try clear c3
              try clear c3b0
              try clear c4
              try clear c4b0
              try clear p6
              try clear c7
              try clear c9
              try clear c10
              try clear c10b0
              try clear c10b1
              try clear c10b2
              try clear p10
              try clear q10
              try clear hx10
              try clear c12
              try clear c12b0
              try clear c14
              try clear c14b0
              try clear c15
              try clear c15b0
              try clear hcz11_0
              try clear hcz11_1
              try clear hcz16_0
              try clear hcz16_1
              try clear hcz17_0
              try clear hcz17_1
              try clear hcz18_0
              try clear hcz18_1
              try clear hcz7_0
              try clear hcz7_1
              try clear hfz11_0
              try clear hfz11_1
              try clear hfz16_0
              try clear hfz16_1
              try clear hfz17_0
              try clear hfz17_1
              try clear hfz18_0
              try clear hfz18_1
              try clear hfz7_0
              try clear hfz7_1
              try clear hx102_0
              try clear hx102_1
              try clear hx105_0
              try clear hx105_1
              try clear p102
              try clear p105
              try clear q102
              try clear q105
              obtain ⟨kq, x38_4, rfl, HA, HJ4, BK103, HB⟩ := hcut
              cases kq with
              | zero => exact absurd HA.out (by simp [page_freed.j1])
              | succ kj4 =>
                have H := HA.out
                clear HA
                simp only [page_freed.j1] at H
                by_cases c19 : x38_4 = true
                · subst c19
                  have H1 : (some false) = some r := by rw [if_pos rfl] at H; exact H
                  clear H
                  have H := H1
                  clear H1
                  obtain rfl := Option.some.inj H
                  go_wp2
                  repeat (go_quiet (fail); try go_wp2)
                  go_ret
                  exact ⟨by first | rfl | (simp [errW_none, errW_some] <;> rfl) | (simp [*, errW_none, errW_some] <;> rfl), by repeat (first | (with_reducible first | exact HB.out | apply below_alloc | apply pw_below_drewN | apply below_drew1 | refine below_set ?_ GE103.out) | exact HB.out)⟩
                · replace c19 := Bool.eq_false_iff.mpr c19
                  subst c19
                  have H1 : (page_freed.l1 kj4 l0 l0 (l0.length : Int) x9_1 ((rd_T64 l0 x9_1).f1) (((rd_T64 l0 x9_1).f1).length : Int) 0 ((rd_T64 l0 x9_1).f0) ((rd_T64 l0 x9_1).f1)) = some r := by rw [if_neg (show ¬ (false = true) by decide)] at H; exact H
                  clear H
                  have H := H1
                  clear H1
                  have H' := Aside0.mk H
                  clear H
                  have hcz20_0 : wc.cell? ⟨gb103, 0, none⟩ = some (.int .i64 ((rd_T64 l0 x9_1).f0)) := (blk_cell BK103.out 0).trans rfl
                  have hcz20_1 : wc.cell? ⟨gb103, 1, none⟩ = some (.slice A102_1 ((rd_T64 l0 x9_1).f1).length c102_1) := (blk_cell BK103.out 1).trans rfl
                  have hfz20_0 := blk_frozen BK103.out 0
                  have hfz20_1 := blk_frozen BK103.out 1
                  go_wp2
                  repeat (go_quiet (fail); try go_wp2)
                  go_loopg [42] kj4 (fun kq v42 w' => ∃ (x42_3 : Int), v42 = .int .i64 x42_3 ∧ Aside0 (page_freed.l1 kq l0 l0 (l0.length : Int) x9_1 ((rd_T64 l0 x9_1).f1) (((rd_T64 l0 x9_1).f1).length : Int) x42_3 ((rd_T64 l0 x9_1).f0) ((rd_T64 l0 x9_1).f1) = some r) ∧ Aside0 (kq ≤ kj4) ∧ Aside0 (w'.heap[gb103]? = some (.cells #[.int .i64 ((rd_T64 l0 x9_1).f0), (.slice A102_1 ((rd_T64 l0 x9_1).f1).length c102_1)] 64 (0, 0))) ∧ Aside0 (Below w.heap.size w w'))
                  case atStart => exact ⟨(0), (by first | rfl | (simp; done) | (simp [*]; done)), H', ⟨Nat.le_refl _⟩, ⟨by (with_reducible repeat (first | refine blk_drewN ?_ _ | refine blk_drew ?_ | refine blk_alloc ?_ _)); exact BK103.out⟩, ⟨by repeat (first | (with_reducible first | exact HB.out | apply below_alloc | apply pw_below_drewN | apply below_drew1 | refine below_set ?_ GE103.out) | exact HB.out)⟩⟩
                  case round =>
                    clear H'
                    try clear c1
                    try clear p1
                    try clear q1
                    try clear hx1
                    try clear c2
                    try clear c2b0
                    try clear p2
                    try clear c3
                    try clear c3b0
                    try clear c4
                    try clear c4b0
                    try clear p6
                    try clear c7
                    try clear c9
                    try clear c10
                    try clear c10b0
                    try clear c10b1
                    try clear c10b2
                    try clear p10
                    try clear q10
                    try clear hx10
                    try clear c12
                    try clear c12b0
                    try clear c14
                    try clear c14b0
                    try clear c15
                    try clear c15b0
                    try clear c19
                    try clear hcz11_0
                    try clear hcz11_1
                    try clear hcz16_0
                    try clear hcz16_1
                    try clear hcz17_0
                    try clear hcz17_1
                    try clear hcz18_0
                    try clear hcz18_1
                    try clear hcz20_0
                    try clear hcz20_1
                    try clear hcz7_0
                    try clear hcz7_1
                    try clear hfz11_0
                    try clear hfz11_1
                    try clear hfz16_0
                    try clear hfz16_1
                    try clear hfz17_0
                    try clear hfz17_1
                    try clear hfz18_0
                    try clear hfz18_1
                    try clear hfz20_0
                    try clear hfz20_1
                    try clear hfz7_0
                    try clear hfz7_1
                    try clear hx102_0
                    try clear hx102_1
                    try clear hx105_0
                    try clear hx105_1
                    try clear p1
                    try clear p10
                    try clear p102
                    try clear p105
                    try clear p2
                    try clear p6
                    try clear q1
                    try clear q10
                    try clear q102
                    try clear q105
                    obtain ⟨x42_3, rfl, HA, HK3, BK103, HB⟩ := hrel
                    cases gk with
                    | zero => exact absurd HA.out (by simp [page_freed.l1])
                    | succ k3 =>
                      have H := HA.out
                      clear HA
                      simp only [page_freed.l1] at H
                      by_cases c21 : x42_3 < (((rd_T64 l0 x9_1).f1).length : Int)
                      · rw [if_pos c21] at H
                        have c21b0 : decide (x42_3 < (((rd_T64 l0 x9_1).f1).length : Int)) = true := decide_eq_true c21
                        clear c21
                        by_cases c22 : 0 ≤ x42_3
                        · rw [if_pos c22] at H
                          have c22b0 : decide (0 ≤ x42_3) = true := decide_eq_true c22
                          clear c22
                          by_cases c23 : x42_3 < (((rd_T64 l0 x9_1).f1).length : Int)
                          · rw [if_pos c23] at H
                            have c23b0 : decide (x42_3 < (((rd_T64 l0 x9_1).f1).length : Int)) = true := decide_eq_true c23
                            clear c23
                            replace H := Option.bind_eq_some_iff.mp H
                            obtain ⟨t107, A240, H⟩ := H
                            replace H : (if t107 = true then (if x42_3 > 0 then (if 0 ≤ (wrap64 (x42_3 - 1)) then (if (wrap64 (x42_3 - 1)) < (((rd_T64 l0 x9_1).f1).length : Int) then (if (rd ((rd_T64 l0 x9_1).f1) (wrap64 (x42_3 - 1))) ≥ (rd ((rd_T64 l0 x9_1).f1) x42_3) then (some false) else (page_freed.l1 k3 l0 l0 (l0.length : Int) x9_1 ((rd_T64 l0 x9_1).f1) (((rd_T64 l0 x9_1).f1).length : Int) (wrap64 (x42_3 + 1)) ((rd_T64 l0 x9_1).f0) ((rd_T64 l0 x9_1).f1))) else (none)) else (none)) else (page_freed.l1 k3 l0 l0 (l0.length : Int) x9_1 ((rd_T64 l0 x9_1).f1) (((rd_T64 l0 x9_1).f1).length : Int) (wrap64 (x42_3 + 1)) ((rd_T64 l0 x9_1).f0) ((rd_T64 l0 x9_1).f1))) else (some false)) = some r := H
                            have A24 := Aside0.mk A240
                            clear A240
                            by_cases c25 : t107 = true
                            · subst c25
                              have H1 : (if x42_3 > 0 then (if 0 ≤ (wrap64 (x42_3 - 1)) then (if (wrap64 (x42_3 - 1)) < (((rd_T64 l0 x9_1).f1).length : Int) then (if (rd ((rd_T64 l0 x9_1).f1) (wrap64 (x42_3 - 1))) ≥ (rd ((rd_T64 l0 x9_1).f1) x42_3) then (some false) else (page_freed.l1 k3 l0 l0 (l0.length : Int) x9_1 ((rd_T64 l0 x9_1).f1) (((rd_T64 l0 x9_1).f1).length : Int) (wrap64 (x42_3 + 1)) ((rd_T64 l0 x9_1).f0) ((rd_T64 l0 x9_1).f1))) else (none)) else (none)) else (page_freed.l1 k3 l0 l0 (l0.length : Int) x9_1 ((rd_T64 l0 x9_1).f1) (((rd_T64 l0 x9_1).f1).length : Int) (wrap64 (x42_3 + 1)) ((rd_T64 l0 x9_1).f0) ((rd_T64 l0 x9_1).f1))) = some r := by rw [if_pos rfl] at H; exact H
                              clear H
                              have H := H1
                              clear H1
                              by_cases c26 : x42_3 > 0
                              · rw [if_pos c26] at H
                                have c26b0 : decide (0 < x42_3) = true := decide_eq_true c26
                                clear c26
                                obtain ⟨ji27, hji27⟩ : ∃ j_ : Int, (wrap64 (x42_3 - 1)) = j_ := ⟨_, rfl⟩
                                replace H : (if 0 ≤ (ji27) then (if (ji27) < (((rd_T64 l0 x9_1).f1).length : Int) then (if (rd ((rd_T64 l0 x9_1).f1) (ji27)) ≥ (rd ((rd_T64 l0 x9_1).f1) x42_3) then (some false) else (page_freed.l1 k3 l0 l0 (l0.length : Int) x9_1 ((rd_T64 l0 x9_1).f1) (((rd_T64 l0 x9_1).f1).length : Int) (wrap64 (x42_3 + 1)) ((rd_T64 l0 x9_1).f0) ((rd_T64 l0 x9_1).f1))) else (none)) else (none)) = some r := by first | (rw [hji27] at H; exact H) | (simp only [hji27] at H ⊢; exact H)
                                (try rw [hji27] at A24)
                                have hji27w : (IntKind.i64.wrap (x42_3 - 1)) = ji27 := (i64_w _).trans hji27
                                by_cases c28 : 0 ≤ (ji27)
                                · rw [if_pos c28] at H
                                  have c28b0 : decide (0 ≤ (ji27)) = true := decide_eq_true c28
                                  clear c28
                                  by_cases c29 : (ji27) < (((rd_T64 l0 x9_1).f1).length : Int)
                                  · rw [if_pos c29] at H
                                    have c29b0 : decide ((ji27) < (((rd_T64 l0 x9_1).f1).length : Int)) = true := decide_eq_true c29
                                    clear c29
                                    by_cases c30 : (rd ((rd_T64 l0 x9_1).f1) (ji27)) ≥ (rd ((rd_T64 l0 x9_1).f1) x42_3)
                                    · rw [if_pos c30] at H
                                      have c30b0 : decide ((rd ((rd_T64 l0 x9_1).f1) x42_3) ≤ (rd ((rd_T64 l0 x9_1).f1) (ji27))) = true := decide_eq_true c30
                                      clear c30
                                      obtain rfl := Option.some.inj H
                                      have p106 : 0 ≤ (x42_3 : Int) := of_decide_eq_true (by first | (with_reducible assumption) | assumption)
                                      have q106 : x42_3 < (((rd_T64 l0 x9_1).f1).length : Int) := of_decide_eq_true (by first | (with_reducible assumption) | assumption)
                                      obtain ⟨ad106, e106, hx106_0⟩ := Kd.at_int HR102_1.out x42_3 p106 q106
                                      cases e106
                                      replace hx106_0 := (HB.out.cell (World.block_lt_of_cell? w _ hx106_0)).trans hx106_0
                                      replace p106 := eq_true p106
                                      replace q106 := eq_true q106
                                      go_wp2_with (first | (go_at_call 119; (with_reducible refine (page_numbered.calls (rd ((rd_T64 l0 x9_1).f1) x42_3) true _ A24.out).mono ?_); rintro e w' ⟨rfl, ⟨nd, rfl⟩⟩; (try first | exact ⟨rfl, _, World.drewN_drewN _ _ _⟩ | exact ⟨rfl, _, Eq.trans (World.drewN_drewN _ _ _) (congrArg (World.drewN _) (Nat.add_assoc _ _ _))⟩); have hcz31_0 : wr.cell? ⟨gb103, 0, none⟩ = some (.int .i64 ((rd_T64 l0 x9_1).f0)) := (blk_cell BK103.out 0).trans rfl; have hcz31_1 : wr.cell? ⟨gb103, 1, none⟩ = some (.slice (some ad106) ((rd_T64 l0 x9_1).f1).length c102_1) := (blk_cell BK103.out 1).trans rfl; have hfz31_0 := blk_frozen BK103.out 0; have hfz31_1 := blk_frozen BK103.out 1; have p108 : 0 ≤ ((ji27) : Int) := of_decide_eq_true (by first | (with_reducible assumption) | assumption); have q108 : (ji27) < (((rd_T64 l0 x9_1).f1).length : Int) := of_decide_eq_true (by first | (with_reducible assumption) | assumption); obtain ⟨ad108, e108, hx108_0⟩ := Kd.at_int HR102_1.out (ji27) p108 q108; obtain rfl : ad106 = ad108 := (by injection e108); replace hx108_0 := (HB.out.cell (World.block_lt_of_cell? w _ hx108_0)).trans hx108_0; replace p108 := eq_true p108; replace q108 := eq_true q108))
                                      repeat (go_quiet (first | (go_at_call 119; (with_reducible refine (page_numbered.calls (rd ((rd_T64 l0 x9_1).f1) x42_3) true _ A24.out).mono ?_); rintro e w' ⟨rfl, ⟨nd, rfl⟩⟩; (try first | exact ⟨rfl, _, World.drewN_drewN _ _ _⟩ | exact ⟨rfl, _, Eq.trans (World.drewN_drewN _ _ _) (congrArg (World.drewN _) (Nat.add_assoc _ _ _))⟩); have hcz31_0 : wr.cell? ⟨gb103, 0, none⟩ = some (.int .i64 ((rd_T64 l0 x9_1).f0)) := (blk_cell BK103.out 0).trans rfl; have hcz31_1 : wr.cell? ⟨gb103, 1, none⟩ = some (.slice (some ad106) ((rd_T64 l0 x9_1).f1).length c102_1) := (blk_cell BK103.out 1).trans rfl; have hfz31_0 := blk_frozen BK103.out 0; have hfz31_1 := blk_frozen BK103.out 1; have p108 : 0 ≤ ((ji27) : Int) := of_decide_eq_true (by first | (with_reducible assumption) | assumption); have q108 : (ji27) < (((rd_T64 l0 x9_1).f1).length : Int) := of_decide_eq_true (by first | (with_reducible assumption) | assumption); obtain ⟨ad108, e108, hx108_0⟩ := Kd.at_int HR102_1.out (ji27) p108 q108; obtain rfl : ad106 = ad108 := (by injection e108); replace hx108_0 := (HB.out.cell (World.block_lt_of_cell? w _ hx108_0)).trans hx108_0; replace p108 := eq_true p108; replace q108 := eq_true q108)); try go_wp2_with (first | (go_at_call 119; (with_reducible refine (page_numbered.calls (rd ((rd_T64 l0 x9_1).f1) x42_3) true _ A24.out).mono ?_); rintro e w' ⟨rfl, ⟨nd, rfl⟩⟩; (try first | exact ⟨rfl, _, World.drewN_drewN _ _ _⟩ | exact ⟨rfl, _, Eq.trans (World.drewN_drewN _ _ _) (congrArg (World.drewN _) (Nat.add_assoc _ _ _))⟩); have hcz31_0 : wr.cell? ⟨gb103, 0, none⟩ = some (.int .i64 ((rd_T64 l0 x9_1).f0)) := (blk_cell BK103.out 0).trans rfl; have hcz31_1 : wr.cell? ⟨gb103, 1, none⟩ = some (.slice (some ad106) ((rd_T64 l0 x9_1).f1).length c102_1) := (blk_cell BK103.out 1).trans rfl; have hfz31_0 := blk_frozen BK103.out 0; have hfz31_1 := blk_frozen BK103.out 1; have p108 : 0 ≤ ((ji27) : Int) := of_decide_eq_true (by first | (with_reducible assumption) | assumption); have q108 : (ji27) < (((rd_T64 l0 x9_1).f1).length : Int) := of_decide_eq_true (by first | (with_reducible assumption) | assumption); obtain ⟨ad108, e108, hx108_0⟩ := Kd.at_int HR102_1.out (ji27) p108 q108; obtain rfl : ad106 = ad108 := (by injection e108); replace hx108_0 := (HB.out.cell (World.block_lt_of_cell? w _ hx108_0)).trans hx108_0; replace p108 := eq_true p108; replace q108 := eq_true q108)))
                                      go_ret
                                      exact ⟨by first | rfl | (simp [errW_none, errW_some] <;> rfl) | (simp only [← hji27]; first | rfl | (simp [errW_none, errW_some] <;> rfl)) | (simp [*, errW_none, errW_some] <;> rfl), by repeat (first | (with_reducible first | exact HB.out | apply below_alloc | apply pw_below_drewN | apply below_drew1 | refine below_set ?_ GE103.out) | exact HB.out)⟩
                                    · rw [if_neg c30] at H
                                      have c30b0 : decide ((rd ((rd_T64 l0 x9_1).f1) x42_3) ≤ (rd ((rd_T64 l0 x9_1).f1) (ji27))) = false := decide_eq_false c30
                                      clear c30
                                      have H' := Aside0.mk H
                                      clear H
                                      have p106 : 0 ≤ (x42_3 : Int) := of_decide_eq_true (by first | (with_reducible assumption) | assumption)
                                      have q106 : x42_3 < (((rd_T64 l0 x9_1).f1).length : Int) := of_decide_eq_true (by first | (with_reducible assumption) | assumption)
                                      obtain ⟨ad106, e106, hx106_0⟩ := Kd.at_int HR102_1.out x42_3 p106 q106
                                      cases e106
                                      replace hx106_0 := (HB.out.cell (World.block_lt_of_cell? w _ hx106_0)).trans hx106_0
                                      replace p106 := eq_true p106
                                      replace q106 := eq_true q106
                                      go_wp2_with (first | (go_at_call 119; (with_reducible refine (page_numbered.calls (rd ((rd_T64 l0 x9_1).f1) x42_3) true _ A24.out).mono ?_); rintro e w' ⟨rfl, ⟨nd, rfl⟩⟩; (try first | exact ⟨rfl, _, World.drewN_drewN _ _ _⟩ | exact ⟨rfl, _, Eq.trans (World.drewN_drewN _ _ _) (congrArg (World.drewN _) (Nat.add_assoc _ _ _))⟩); have hcz32_0 : wr.cell? ⟨gb103, 0, none⟩ = some (.int .i64 ((rd_T64 l0 x9_1).f0)) := (blk_cell BK103.out 0).trans rfl; have hcz32_1 : wr.cell? ⟨gb103, 1, none⟩ = some (.slice (some ad106) ((rd_T64 l0 x9_1).f1).length c102_1) := (blk_cell BK103.out 1).trans rfl; have hfz32_0 := blk_frozen BK103.out 0; have hfz32_1 := blk_frozen BK103.out 1; have p108 : 0 ≤ ((ji27) : Int) := of_decide_eq_true (by first | (with_reducible assumption) | assumption); have q108 : (ji27) < (((rd_T64 l0 x9_1).f1).length : Int) := of_decide_eq_true (by first | (with_reducible assumption) | assumption); obtain ⟨ad108, e108, hx108_0⟩ := Kd.at_int HR102_1.out (ji27) p108 q108; obtain rfl : ad106 = ad108 := (by injection e108); replace hx108_0 := (HB.out.cell (World.block_lt_of_cell? w _ hx108_0)).trans hx108_0; replace p108 := eq_true p108; replace q108 := eq_true q108))
                                      repeat (go_quiet (first | (go_at_call 119; (with_reducible refine (page_numbered.calls (rd ((rd_T64 l0 x9_1).f1) x42_3) true _ A24.out).mono ?_); rintro e w' ⟨rfl, ⟨nd, rfl⟩⟩; (try first | exact ⟨rfl, _, World.drewN_drewN _ _ _⟩ | exact ⟨rfl, _, Eq.trans (World.drewN_drewN _ _ _) (congrArg (World.drewN _) (Nat.add_assoc _ _ _))⟩); have hcz32_0 : wr.cell? ⟨gb103, 0, none⟩ = some (.int .i64 ((rd_T64 l0 x9_1).f0)) := (blk_cell BK103.out 0).trans rfl; have hcz32_1 : wr.cell? ⟨gb103, 1, none⟩ = some (.slice (some ad106) ((rd_T64 l0 x9_1).f1).length c102_1) := (blk_cell BK103.out 1).trans rfl; have hfz32_0 := blk_frozen BK103.out 0; have hfz32_1 := blk_frozen BK103.out 1; have p108 : 0 ≤ ((ji27) : Int) := of_decide_eq_true (by first | (with_reducible assumption) | assumption); have q108 : (ji27) < (((rd_T64 l0 x9_1).f1).length : Int) := of_decide_eq_true (by first | (with_reducible assumption) | assumption); obtain ⟨ad108, e108, hx108_0⟩ := Kd.at_int HR102_1.out (ji27) p108 q108; obtain rfl : ad106 = ad108 := (by injection e108); replace hx108_0 := (HB.out.cell (World.block_lt_of_cell? w _ hx108_0)).trans hx108_0; replace p108 := eq_true p108; replace q108 := eq_true q108)); try go_wp2_with (first | (go_at_call 119; (with_reducible refine (page_numbered.calls (rd ((rd_T64 l0 x9_1).f1) x42_3) true _ A24.out).mono ?_); rintro e w' ⟨rfl, ⟨nd, rfl⟩⟩; (try first | exact ⟨rfl, _, World.drewN_drewN _ _ _⟩ | exact ⟨rfl, _, Eq.trans (World.drewN_drewN _ _ _) (congrArg (World.drewN _) (Nat.add_assoc _ _ _))⟩); have hcz32_0 : wr.cell? ⟨gb103, 0, none⟩ = some (.int .i64 ((rd_T64 l0 x9_1).f0)) := (blk_cell BK103.out 0).trans rfl; have hcz32_1 : wr.cell? ⟨gb103, 1, none⟩ = some (.slice (some ad106) ((rd_T64 l0 x9_1).f1).length c102_1) := (blk_cell BK103.out 1).trans rfl; have hfz32_0 := blk_frozen BK103.out 0; have hfz32_1 := blk_frozen BK103.out 1; have p108 : 0 ≤ ((ji27) : Int) := of_decide_eq_true (by first | (with_reducible assumption) | assumption); have q108 : (ji27) < (((rd_T64 l0 x9_1).f1).length : Int) := of_decide_eq_true (by first | (with_reducible assumption) | assumption); obtain ⟨ad108, e108, hx108_0⟩ := Kd.at_int HR102_1.out (ji27) p108 q108; obtain rfl : ad106 = ad108 := (by injection e108); replace hx108_0 := (HB.out.cell (World.block_lt_of_cell? w _ hx108_0)).trans hx108_0; replace p108 := eq_true p108; replace q108 := eq_true q108)))
                                      go_roundg k3
                                      case measure => have := HK1.out; have := HJ4.out; have := HK3.out; omega
                                      case rel => exact ⟨(wrap64 (x42_3 + 1)), (by first | rfl | (simp; done) | (simp [*]; done)), H', ⟨by have := HK1.out; have := HJ4.out; have := HK3.out; omega⟩, ⟨by (with_reducible repeat (first | refine blk_drewN ?_ _ | refine blk_drew ?_ | refine blk_alloc ?_ _)); exact BK103.out⟩, ⟨by repeat (first | (with_reducible first | exact HB.out | apply below_alloc | apply pw_below_drewN | apply below_drew1 | refine below_set ?_ GE103.out) | exact HB.out)⟩⟩
                                  · rw [if_neg c29] at H
                                    exact absurd H (by simp)
                                · rw [if_neg c28] at H
                                  exact absurd H (by simp)
                              · rw [if_neg c26] at H
                                have c26b0 : decide (0 < x42_3) = false := decide_eq_false c26
                                clear c26
                                have H' := Aside0.mk H
                                clear H
                                have p106 : 0 ≤ (x42_3 : Int) := of_decide_eq_true (by first | (with_reducible assumption) | assumption)
                                have q106 : x42_3 < (((rd_T64 l0 x9_1).f1).length : Int) := of_decide_eq_true (by first | (with_reducible assumption) | assumption)
                                obtain ⟨ad106, e106, hx106_0⟩ := Kd.at_int HR102_1.out x42_3 p106 q106
                                cases e106
                                replace hx106_0 := (HB.out.cell (World.block_lt_of_cell? w _ hx106_0)).trans hx106_0
                                replace p106 := eq_true p106
                                replace q106 := eq_true q106
                                go_wp2_with (first | (go_at_call 119; (with_reducible refine (page_numbered.calls (rd ((rd_T64 l0 x9_1).f1) x42_3) true _ A24.out).mono ?_); rintro e w' ⟨rfl, ⟨nd, rfl⟩⟩; (try first | exact ⟨rfl, _, World.drewN_drewN _ _ _⟩ | exact ⟨rfl, _, Eq.trans (World.drewN_drewN _ _ _) (congrArg (World.drewN _) (Nat.add_assoc _ _ _))⟩)))
                                repeat (go_quiet (first | (go_at_call 119; (with_reducible refine (page_numbered.calls (rd ((rd_T64 l0 x9_1).f1) x42_3) true _ A24.out).mono ?_); rintro e w' ⟨rfl, ⟨nd, rfl⟩⟩; (try first | exact ⟨rfl, _, World.drewN_drewN _ _ _⟩ | exact ⟨rfl, _, Eq.trans (World.drewN_drewN _ _ _) (congrArg (World.drewN _) (Nat.add_assoc _ _ _))⟩))); try go_wp2_with (first | (go_at_call 119; (with_reducible refine (page_numbered.calls (rd ((rd_T64 l0 x9_1).f1) x42_3) true _ A24.out).mono ?_); rintro e w' ⟨rfl, ⟨nd, rfl⟩⟩; (try first | exact ⟨rfl, _, World.drewN_drewN _ _ _⟩ | exact ⟨rfl, _, Eq.trans (World.drewN_drewN _ _ _) (congrArg (World.drewN _) (Nat.add_assoc _ _ _))⟩))))
                                go_roundg k3
                                case measure => have := HK1.out; have := HJ4.out; have := HK3.out; omega
                                case rel => exact ⟨(wrap64 (x42_3 + 1)), (by first | rfl | (simp; done) | (simp [*]; done)), H', ⟨by have := HK1.out; have := HJ4.out; have := HK3.out; omega⟩, ⟨by (with_reducible repeat (first | refine blk_drewN ?_ _ | refine blk_drew ?_ | refine blk_alloc ?_ _)); exact BK103.out⟩, ⟨by repeat (first | (with_reducible first | exact HB.out | apply below_alloc | apply pw_below_drewN | apply below_drew1 | refine below_set ?_ GE103.out) | exact HB.out)⟩⟩
                            · replace c25 := Bool.eq_false_iff.mpr c25
                              subst c25
                              have H1 : (some false) = some r := by rw [if_neg (show ¬ (false = true) by decide)] at H; exact H
                              clear H
                              have H := H1
                              clear H1
                              obtain rfl := Option.some.inj H
                              have p106 : 0 ≤ (x42_3 : Int) := of_decide_eq_true (by first | (with_reducible assumption) | assumption)
                              have q106 : x42_3 < (((rd_T64 l0 x9_1).f1).length : Int) := of_decide_eq_true (by first | (with_reducible assumption) | assumption)
                              obtain ⟨ad106, e106, hx106_0⟩ := Kd.at_int HR102_1.out x42_3 p106 q106
                              cases e106
                              replace hx106_0 := (HB.out.cell (World.block_lt_of_cell? w _ hx106_0)).trans hx106_0
                              replace p106 := eq_true p106
                              replace q106 := eq_true q106
                              go_wp2_with (first | (go_at_call 119; (with_reducible refine (page_numbered.calls (rd ((rd_T64 l0 x9_1).f1) x42_3) false _ A24.out).mono ?_); rintro e w' ⟨rfl, ⟨nd, rfl⟩⟩; (try first | exact ⟨rfl, _, World.drewN_drewN _ _ _⟩ | exact ⟨rfl, _, Eq.trans (World.drewN_drewN _ _ _) (congrArg (World.drewN _) (Nat.add_assoc _ _ _))⟩)))
                              repeat (go_quiet (first | (go_at_call 119; (with_reducible refine (page_numbered.calls (rd ((rd_T64 l0 x9_1).f1) x42_3) false _ A24.out).mono ?_); rintro e w' ⟨rfl, ⟨nd, rfl⟩⟩; (try first | exact ⟨rfl, _, World.drewN_drewN _ _ _⟩ | exact ⟨rfl, _, Eq.trans (World.drewN_drewN _ _ _) (congrArg (World.drewN _) (Nat.add_assoc _ _ _))⟩))); try go_wp2_with (first | (go_at_call 119; (with_reducible refine (page_numbered.calls (rd ((rd_T64 l0 x9_1).f1) x42_3) false _ A24.out).mono ?_); rintro e w' ⟨rfl, ⟨nd, rfl⟩⟩; (try first | exact ⟨rfl, _, World.drewN_drewN _ _ _⟩ | exact ⟨rfl, _, Eq.trans (World.drewN_drewN _ _ _) (congrArg (World.drewN _) (Nat.add_assoc _ _ _))⟩))))
                              go_ret
                              exact ⟨by first | rfl | (simp [errW_none, errW_some] <;> rfl) | (simp [*, errW_none, errW_some] <;> rfl), by repeat (first | (with_reducible first | exact HB.out | apply below_alloc | apply pw_below_drewN | apply below_drew1 | refine below_set ?_ GE103.out) | exact HB.out)⟩
                          · rw [if_neg c23] at H
                            exact absurd H (by simp)
                        · rw [if_neg c22] at H
                          exact absurd H (by simp)
                      · rw [if_neg c21] at H
                        have c21b0 : decide (x42_3 < (((rd_T64 l0 x9_1).f1).length : Int)) = false := decide_eq_false c21
                        clear c21
                        have H' := Aside0.mk H
                        clear H
                        go_wp2
                        repeat (go_quiet (fail); try go_wp2)
                        go_roundg k3
                        case measure => have := HK1.out; have := HJ4.out; have := HK3.out; omega
                        case rel => exact ⟨(wrap64 (x9_1 + 1)), (by first | rfl | (simp; done) | (simp [*]; done)), H', ⟨by have := HK1.out; have := HJ4.out; have := HK3.out; omega⟩, ⟨by repeat (first | (with_reducible first | exact HB.out | apply below_alloc | apply pw_below_drewN | apply below_drew1 | refine below_set ?_ GE103.out) | exact HB.out)⟩⟩
          · rw [if_neg c4] at H
            exact absurd H (by simp)
        · rw [if_neg c3] at H
          exact absurd H (by simp)
      · rw [if_neg c2] at H
        have c2b0 : decide (x9_1 < (l0.length : Int)) = false := decide_eq_false c2
        clear c2
        obtain rfl := Option.some.inj H
        go_wp2
        repeat (go_quiet (fail); try go_wp2)
        go_ret
        exact ⟨by first | rfl | (simp [errW_none, errW_some] <;> rfl) | (simp [*, errW_none, errW_some] <;> rfl), by repeat (first | (with_reducible first | exact HB.out | apply below_alloc | apply pw_below_drewN | apply below_drew1) | exact HB.out)⟩
def space_within.f (a0 : Int) (a1 : Int) (a2 : Int) : Option (Bool) := if a1 ≤ a0 then (some (decide (a0 ≤ a2))) else (some false)
set_option maxHeartbeats 8000000 in
set_option maxRecDepth 100000 in
theorem space_within.calls (a0 : Int) (a1 : Int) (a2 : Int) (r : Bool) (w : World) (h : space_within.f a0 a1 a2 = some r) :
    Calls Tryz.prog 46 #[.int .i64 a0, .int .i64 a1, .int .i64 a2] w fun e w' => e = .returned (.bool r) ∧ Drawn0 w w' := by
  have H : (if a1 ≤ a0 then (some (decide (a0 ≤ a2))) else (some false)) = some r := h
  clear h
  by_cases c4 : a1 ≤ a0
  · rw [if_pos c4] at H
    have c4b0 : decide (a1 ≤ a0) = true := decide_eq_true c4
    clear c4
    obtain rfl := Option.some.inj H
    go_enter Tryz.func46, Tryz.ntmps46
    go_wp2
    go_ret
    exact ⟨by first | rfl | (simp; done) | (simp [*]; done), by repeat (first | exact Drawn0.refl _ | apply Drawn0.step)⟩
  · rw [if_neg c4] at H
    have c4b0 : decide (a1 ≤ a0) = false := decide_eq_false c4
    clear c4
    obtain rfl := Option.some.inj H
    go_enter Tryz.func46, Tryz.ntmps46
    go_wp2
    go_ret
    exact ⟨by first | rfl | (simp; done) | (simp [*]; done), by repeat (first | exact Drawn0.refl _ | apply Drawn0.step)⟩
def space_increasing.l0 : Nat → List Int → Int → List Int → Int → Int → Option (Bool)
  | 0, _, _, _, _, _ => none
  | k + 1, x0, x1, x7, x8, x9 => if x9 < x8 then (if 0 ≤ x9 then (if x9 < (x7.length : Int) then ((space_within.f (rd x7 x9) 2 (wrap64 (x1 - 1))).bind fun t121 => (if t121 = true then (if x9 > 0 then (if 0 ≤ (wrap64 (x9 - 1)) then (if (wrap64 (x9 - 1)) < (x0.length : Int) then (if (rd x0 (wrap64 (x9 - 1))) ≥ (rd x7 x9) then (some false) else (space_increasing.l0 k x0 x1 x7 x8 (wrap64 (x9 + 1)))) else (none)) else (none)) else (space_increasing.l0 k x0 x1 x7 x8 (wrap64 (x9 + 1)))) else (some false))) else (none)) else (none)) else (some true)
def space_increasing.f (k : Nat) (l0 : List Int) (a1 : Int) : Option (Bool) := space_increasing.l0 k l0 a1 l0 (l0.length : Int) 0
theorem space_increasing.mono_l : ∀ k, (∀ y0 y1 y2 y3 y4, LeO (space_increasing.l0 k y0 y1 y2 y3 y4) (space_increasing.l0 (k + 1) y0 y1 y2 y3 y4))
  | 0 => fun _ _ _ _ _ r h => by simp [space_increasing.l0] at h
  | k + 1 => by
    have ih0 := space_increasing.mono_l k
    · intro y0 y1 y2 y3 y4
      unfold space_increasing.l0
      repeat' first
      | (with_reducible exact ih0 _ _ _ _ _)
      | (with_reducible exact LeO.refl _)
      | (with_reducible exact LeO.none _)
      | (with_reducible refine LeO.ite ?_ ?_)
      | (with_reducible refine LeO.bind ?_ (fun _ => ?_))
      | exact ih0 _ _ _ _ _
      | exact LeO.none _
      | refine LeO.ite ?_ ?_
      | refine LeO.bind ?_ (fun _ => ?_)
theorem space_increasing.mono : ∀ a0 a1 k, LeO (space_increasing.f k a0 a1) (space_increasing.f (k + 1) a0 a1) := by
  intro a0 a1 k
  have ih0 := space_increasing.mono_l k
  unfold space_increasing.f
  repeat' first
      | (with_reducible exact ih0 _ _ _ _ _)
      | (with_reducible exact LeO.refl _)
      | (with_reducible exact LeO.none _)
      | (with_reducible refine LeO.ite ?_ ?_)
      | (with_reducible refine LeO.bind ?_ (fun _ => ?_))
      | exact ih0 _ _ _ _ _
      | exact LeO.none _
      | refine LeO.ite ?_ ?_
      | refine LeO.bind ?_ (fun _ => ?_)
set_option maxHeartbeats 8000000 in
set_option maxRecDepth 100000 in
theorem space_increasing.calls (k : Nat) (A0 : Option Addr) (c0 : Nat) (l0 : List Int) (a1 : Int) (r : Bool) (w : World) (hr0 : Kd.C (Kd.int .i64) w A0 l0.length l0) (hc0 : l0.length ≤ c0) (h : space_increasing.f k l0 a1 = some r) :
    Calls Tryz.prog 48 #[.slice A0 l0.length c0, .int .i64 a1] w fun e w' => e = .returned (.bool r) ∧ Drawn0 w w' := by
  have HR0 := Aside0.mk hr0
  have HC0 := Aside0.mk hc0
  clear hr0 hc0
  have H : (space_increasing.l0 k l0 a1 l0 (l0.length : Int) 0) = some r := h
  clear h
  have H' := Aside0.mk H
  clear H
  go_enter Tryz.func48, Tryz.ntmps48
  go_wp2
  go_loopg [9] k (fun kq v9 w' => ∃ (x9_1 : Int), v9 = .int .i64 x9_1 ∧ Aside0 (space_increasing.l0 kq l0 a1 l0 (l0.length : Int) x9_1 = some r) ∧ Aside0 (kq ≤ k) ∧ Drawn0 w w')
  case atStart => exact ⟨(0), (by first | rfl | (simp; done) | (simp [*]; done)), H', ⟨Nat.le_refl _⟩, by repeat (first | exact Drawn0.refl _ | apply Drawn0.step)⟩
  case round =>
    clear H'
    try clear p2
    obtain ⟨x9_1, rfl, HA, HK1, ⟨m1, rfl⟩⟩ := hrel
    cases gk with
    | zero => exact absurd HA.out (by simp [space_increasing.l0])
    | succ k1 =>
      have H := HA.out
      clear HA
      simp only [space_increasing.l0] at H
      by_cases c3 : x9_1 < (l0.length : Int)
      · rw [if_pos c3] at H
        have c3b0 : decide (x9_1 < (l0.length : Int)) = true := decide_eq_true c3
        clear c3
        by_cases c4 : 0 ≤ x9_1
        · rw [if_pos c4] at H
          have c4b0 : decide (0 ≤ x9_1) = true := decide_eq_true c4
          clear c4
          by_cases c5 : x9_1 < (l0.length : Int)
          · rw [if_pos c5] at H
            have c5b0 : decide (x9_1 < (l0.length : Int)) = true := decide_eq_true c5
            clear c5
            replace H := Option.bind_eq_some_iff.mp H
            obtain ⟨t121, A60, H⟩ := H
            replace H : (if t121 = true then (if x9_1 > 0 then (if 0 ≤ (wrap64 (x9_1 - 1)) then (if (wrap64 (x9_1 - 1)) < (l0.length : Int) then (if (rd l0 (wrap64 (x9_1 - 1))) ≥ (rd l0 x9_1) then (some false) else (space_increasing.l0 k1 l0 a1 l0 (l0.length : Int) (wrap64 (x9_1 + 1)))) else (none)) else (none)) else (space_increasing.l0 k1 l0 a1 l0 (l0.length : Int) (wrap64 (x9_1 + 1)))) else (some false)) = some r := H
            have A6 := Aside0.mk A60
            clear A60
            by_cases c7 : t121 = true
            · subst c7
              have H1 : (if x9_1 > 0 then (if 0 ≤ (wrap64 (x9_1 - 1)) then (if (wrap64 (x9_1 - 1)) < (l0.length : Int) then (if (rd l0 (wrap64 (x9_1 - 1))) ≥ (rd l0 x9_1) then (some false) else (space_increasing.l0 k1 l0 a1 l0 (l0.length : Int) (wrap64 (x9_1 + 1)))) else (none)) else (none)) else (space_increasing.l0 k1 l0 a1 l0 (l0.length : Int) (wrap64 (x9_1 + 1)))) = some r := by rw [if_pos rfl] at H; exact H
              clear H
              have H := H1
              clear H1
              by_cases c8 : x9_1 > 0
              · rw [if_pos c8] at H
                have c8b0 : decide (0 < x9_1) = true := decide_eq_true c8
                clear c8
                obtain ⟨ji9, hji9⟩ : ∃ j_ : Int, (wrap64 (x9_1 - 1)) = j_ := ⟨_, rfl⟩
                replace H : (if 0 ≤ (ji9) then (if (ji9) < (l0.length : Int) then (if (rd l0 (ji9)) ≥ (rd l0 x9_1) then (some false) else (space_increasing.l0 k1 l0 a1 l0 (l0.length : Int) (wrap64 (x9_1 + 1)))) else (none)) else (none)) = some r := by first | (rw [hji9] at H; exact H) | (simp only [hji9] at H ⊢; exact H)
                (try rw [hji9] at A6)
                have hji9w : (IntKind.i64.wrap (x9_1 - 1)) = ji9 := (i64_w _).trans hji9
                by_cases c10 : 0 ≤ (ji9)
                · rw [if_pos c10] at H
                  have c10b0 : decide (0 ≤ (ji9)) = true := decide_eq_true c10
                  clear c10
                  by_cases c11 : (ji9) < (l0.length : Int)
                  · rw [if_pos c11] at H
                    have c11b0 : decide ((ji9) < (l0.length : Int)) = true := decide_eq_true c11
                    clear c11
                    by_cases c12 : (rd l0 (ji9)) ≥ (rd l0 x9_1)
                    · rw [if_pos c12] at H
                      have c12b0 : decide ((rd l0 x9_1) ≤ (rd l0 (ji9))) = true := decide_eq_true c12
                      clear c12
                      obtain rfl := Option.some.inj H
                      have p120 : 0 ≤ (x9_1 : Int) := of_decide_eq_true (by first | (with_reducible assumption) | assumption)
                      have q120 : x9_1 < (l0.length : Int) := of_decide_eq_true (by first | (with_reducible assumption) | assumption)
                      obtain ⟨ad120, e120, hx120_0⟩ := Kd.at_int HR0.out x9_1 p120 q120
                      cases e120
                      replace p120 := eq_true p120
                      replace q120 := eq_true q120
                      go_wp2_with (first | ((with_reducible refine gate_callee (f := 46) rfl ?_); refine goesL_ (some 17) rfl rfl Tryz.func46 (by kernel_rfl) rfl #[.int .i64 (rd l0 x9_1), .int .i64 2, .int .i64 (wrap64 (a1 - 1))] rfl (by (try simp only [List.map_toArray, List.map_cons, List.map_nil]); first | done | rfl | (simp only [List.length_drop, List.length_take]; rfl)) ?_; (with_reducible refine (space_within.calls (rd l0 x9_1) 2 (wrap64 (a1 - 1)) true _ A6.out).mono ?_); rintro e w' ⟨rfl, ⟨nd, rfl⟩⟩; refine ⟨_, rfl, ?_⟩; have p122 : 0 ≤ ((ji9) : Int) := of_decide_eq_true (by first | (with_reducible assumption) | assumption); have q122 : (ji9) < (l0.length : Int) := of_decide_eq_true (by first | (with_reducible assumption) | assumption); obtain ⟨ad122, e122, hx122_0⟩ := Kd.at_int HR0.out (ji9) p122 q122; obtain rfl : ad120 = ad122 := (by injection e122); replace p122 := eq_true p122; replace q122 := eq_true q122))
                      go_ret
                      exact ⟨by first | rfl | (simp; done) | (simp only [← hji9] <;> (first | rfl | simp)) | (simp [*]; done), by repeat (first | exact Drawn0.refl _ | apply Drawn0.step)⟩
                    · rw [if_neg c12] at H
                      have c12b0 : decide ((rd l0 x9_1) ≤ (rd l0 (ji9))) = false := decide_eq_false c12
                      clear c12
                      have H' := Aside0.mk H
                      clear H
                      have p120 : 0 ≤ (x9_1 : Int) := of_decide_eq_true (by first | (with_reducible assumption) | assumption)
                      have q120 : x9_1 < (l0.length : Int) := of_decide_eq_true (by first | (with_reducible assumption) | assumption)
                      obtain ⟨ad120, e120, hx120_0⟩ := Kd.at_int HR0.out x9_1 p120 q120
                      cases e120
                      replace p120 := eq_true p120
                      replace q120 := eq_true q120
                      go_wp2_with (first | ((with_reducible refine gate_callee (f := 46) rfl ?_); refine goesL_ (some 17) rfl rfl Tryz.func46 (by kernel_rfl) rfl #[.int .i64 (rd l0 x9_1), .int .i64 2, .int .i64 (wrap64 (a1 - 1))] rfl (by (try simp only [List.map_toArray, List.map_cons, List.map_nil]); first | done | rfl | (simp only [List.length_drop, List.length_take]; rfl)) ?_; (with_reducible refine (space_within.calls (rd l0 x9_1) 2 (wrap64 (a1 - 1)) true _ A6.out).mono ?_); rintro e w' ⟨rfl, ⟨nd, rfl⟩⟩; refine ⟨_, rfl, ?_⟩; have p122 : 0 ≤ ((ji9) : Int) := of_decide_eq_true (by first | (with_reducible assumption) | assumption); have q122 : (ji9) < (l0.length : Int) := of_decide_eq_true (by first | (with_reducible assumption) | assumption); obtain ⟨ad122, e122, hx122_0⟩ := Kd.at_int HR0.out (ji9) p122 q122; obtain rfl : ad120 = ad122 := (by injection e122); replace p122 := eq_true p122; replace q122 := eq_true q122))
                      go_roundg k1
                      case measure => have := HK1.out; omega
                      case rel => exact ⟨(wrap64 (x9_1 + 1)), (by first | rfl | (simp; done) | (simp [*]; done)), H', ⟨by have := HK1.out; omega⟩, by repeat (first | exact Drawn0.refl _ | apply Drawn0.step)⟩
                  · rw [if_neg c11] at H
                    exact absurd H (by simp)
                · rw [if_neg c10] at H
                  exact absurd H (by simp)
              · rw [if_neg c8] at H
                have c8b0 : decide (0 < x9_1) = false := decide_eq_false c8
                clear c8
                have H' := Aside0.mk H
                clear H
                have p120 : 0 ≤ (x9_1 : Int) := of_decide_eq_true (by first | (with_reducible assumption) | assumption)
                have q120 : x9_1 < (l0.length : Int) := of_decide_eq_true (by first | (with_reducible assumption) | assumption)
                obtain ⟨ad120, e120, hx120_0⟩ := Kd.at_int HR0.out x9_1 p120 q120
                cases e120
                replace p120 := eq_true p120
                replace q120 := eq_true q120
                go_wp2_with (first | ((with_reducible refine gate_callee (f := 46) rfl ?_); refine goesL_ (some 17) rfl rfl Tryz.func46 (by kernel_rfl) rfl #[.int .i64 (rd l0 x9_1), .int .i64 2, .int .i64 (wrap64 (a1 - 1))] rfl (by (try simp only [List.map_toArray, List.map_cons, List.map_nil]); first | done | rfl | (simp only [List.length_drop, List.length_take]; rfl)) ?_; (with_reducible refine (space_within.calls (rd l0 x9_1) 2 (wrap64 (a1 - 1)) true _ A6.out).mono ?_); rintro e w' ⟨rfl, ⟨nd, rfl⟩⟩; refine ⟨_, rfl, ?_⟩))
                go_roundg k1
                case measure => have := HK1.out; omega
                case rel => exact ⟨(wrap64 (x9_1 + 1)), (by first | rfl | (simp; done) | (simp [*]; done)), H', ⟨by have := HK1.out; omega⟩, by repeat (first | exact Drawn0.refl _ | apply Drawn0.step)⟩
            · replace c7 := Bool.eq_false_iff.mpr c7
              subst c7
              have H1 : (some false) = some r := by rw [if_neg (show ¬ (false = true) by decide)] at H; exact H
              clear H
              have H := H1
              clear H1
              obtain rfl := Option.some.inj H
              have p120 : 0 ≤ (x9_1 : Int) := of_decide_eq_true (by first | (with_reducible assumption) | assumption)
              have q120 : x9_1 < (l0.length : Int) := of_decide_eq_true (by first | (with_reducible assumption) | assumption)
              obtain ⟨ad120, e120, hx120_0⟩ := Kd.at_int HR0.out x9_1 p120 q120
              cases e120
              replace p120 := eq_true p120
              replace q120 := eq_true q120
              go_wp2_with (first | ((with_reducible refine gate_callee (f := 46) rfl ?_); refine goesL_ (some 17) rfl rfl Tryz.func46 (by kernel_rfl) rfl #[.int .i64 (rd l0 x9_1), .int .i64 2, .int .i64 (wrap64 (a1 - 1))] rfl (by (try simp only [List.map_toArray, List.map_cons, List.map_nil]); first | done | rfl | (simp only [List.length_drop, List.length_take]; rfl)) ?_; (with_reducible refine (space_within.calls (rd l0 x9_1) 2 (wrap64 (a1 - 1)) false _ A6.out).mono ?_); rintro e w' ⟨rfl, ⟨nd, rfl⟩⟩; refine ⟨_, rfl, ?_⟩))
              go_ret
              exact ⟨by first | rfl | (simp; done) | (simp [*]; done), by repeat (first | exact Drawn0.refl _ | apply Drawn0.step)⟩
          · rw [if_neg c5] at H
            exact absurd H (by simp)
        · rw [if_neg c4] at H
          exact absurd H (by simp)
      · rw [if_neg c3] at H
        have c3b0 : decide (x9_1 < (l0.length : Int)) = false := decide_eq_false c3
        clear c3
        obtain rfl := Option.some.inj H
        go_wp2
        go_ret
        exact ⟨by first | rfl | (simp; done) | (simp [*]; done), by repeat (first | exact Drawn0.refl _ | apply Drawn0.step)⟩
end Go.Proofs.YtpnhelcemodnmaaGreat.PA
namespace Go.Proofs.YtpnhelcemodnmaaGreat
open Go.RowKit Go.Shelf Go.Proofs.YtpnhelcemodnmaaGreatW.PrintWords Go.Proofs.YtpnhelcemodnmaaGreatW.PrintLast Go.Proofs.YtpnhelcemodnmaaGreatW.PrintMore PA
set_option linter.unusedVariables false
set_option linter.unusedSimpArgs false
def incP (p : Int) (l : List Int) : Prop := (∀ n ∈ l, 2 ≤ n ∧ n ≤ p - 1) ∧ l.Pairwise (· < ·)
instance (p : Int) (l : List Int) : Decidable (incP p l) := by unfold incP; infer_instance
def incB (p : Int) (l : List Int) : Bool := decide (incP p l)
theorem sorted_snoc {xs : List Int} {x : Int} (h : xs.Pairwise (· < ·)) (hl : ∀ y, xs.getLast? = some y → y < x) : (xs ++ [x]).Pairwise (· < ·) := by
  rw [List.pairwise_append]
  refine ⟨h, List.pairwise_singleton _ _, fun a ha b hb => ?_⟩
  obtain rfl : b = x := by simpa using hb
  rcases List.eq_nil_or_concat xs with rfl | ⟨ys, y, rfl⟩
  · cases ha
  · have hy := hl y (by simp)
    rw [List.concat_eq_append, List.pairwise_append] at h
    rw [List.concat_eq_append, List.mem_append] at ha
    rcases ha with ha | ha
    · have := h.2.2 a ha y (by simp); omega
    · obtain rfl : a = y := by simpa using ha
      exact hy
theorem rd_cast (xs : List Int) (k : Nat) (h : k < xs.length) : rd xs (k : Int) = xs[k] := rd_at xs k h
theorem inc_take (p : Int) (l : List Int) (i : Nat) (h : i < l.length) : incP p (l.take (i + 1)) ↔ incP p (l.take i) ∧ (2 ≤ l[i] ∧ l[i] ≤ p - 1) ∧ (∀ j, i = j + 1 → (hj : j < l.length) → l[j] < l[i]) := by
  rw [List.take_succ_eq_append_getElem h]
  unfold incP
  constructor
  · rintro ⟨h1, h2⟩
    have h2' := List.pairwise_append.1 h2
    refine ⟨⟨fun n hn => h1 n (List.mem_append_left _ hn), h2'.1⟩, h1 _ (List.mem_append_right _ List.mem_cons_self), fun j hj hjl => h2'.2.2 _ ?_ _ List.mem_cons_self⟩
    subst hj
    rw [List.take_succ_eq_append_getElem hjl]; exact List.mem_append_right _ List.mem_cons_self
  · rintro ⟨⟨h1, h2⟩, h3, h4⟩
    refine ⟨fun n hn => ?_, sorted_snoc h2 fun y hy => ?_⟩
    · rcases List.mem_append.1 hn with hn | hn
      · exact h1 n hn
      · obtain rfl : n = l[i] := by simpa using hn
        exact h3
    · cases i with
      | zero => simp at hy
      | succ j =>
        have hjl : j < l.length := by omega
        rw [List.take_succ_eq_append_getElem hjl] at hy
        rw [List.getLast?_concat] at hy
        obtain rfl : l[j] = y := Option.some.inj hy
        exact h4 j rfl hjl
theorem inc_of_take (p : Int) (l : List Int) (i : Nat) (h : incP p l) : incP p (l.take i) := ⟨fun n hn => h.1 n (List.mem_of_mem_take hn), h.2.sublist (List.take_sublist _ _)⟩
theorem wrapn (i : Nat) (h : (i : Int) ≤ 9223372036854775807) : wrap64 ((i : Int) - 1) = (i : Int) - 1 := by unfold wrap64; omega
theorem wrapp (i : Nat) (h : (i : Int) < 9223372036854775807) : wrap64 ((i : Int) + 1) = ((i + 1 : Nat) : Int) := by unfold wrap64; omega
theorem within_some (a b c : Int) : space_within.f a b c = some (decide (b ≤ a ∧ a ≤ c)) := by
  unfold space_within.f
  by_cases h : b ≤ a <;> simp [h]
theorem inc_l0 (p : Int) (hp : -9223372036854775808 < p) (hp2 : p ≤ 9223372036854775807) (l : List Int) (hlm : l.length ≤ 9223372036854775807) (d : Nat) : ∀ (k i : Nat), i ≤ l.length → l.length - i = d → d < k → incP p (l.take i) →
    space_increasing.l0 k l p l (l.length : Int) (i : Int) = some (incB p l) := by
  have hw : wrap64 (p - 1) = p - 1 := by unfold wrap64; omega
  induction d with
  | zero =>
    intro k i h1 h2 h3 h4
    obtain ⟨k, rfl⟩ : ∃ m, k = m + 1 := ⟨k - 1, by omega⟩
    obtain rfl : i = l.length := by omega
    rw [List.take_length] at h4
    simp only [space_increasing.l0]
    rw [if_neg (by omega)]
    simp [incB, h4]
  | succ d ih =>
    intro k i h1 h2 h3 h4
    obtain ⟨k, rfl⟩ : ∃ m, k = m + 1 := ⟨k - 1, by omega⟩
    have hlt : i < l.length := by omega
    have hT := inc_take p l i hlt
    simp only [space_increasing.l0]
    rw [if_pos (by omega), if_pos (by omega), if_pos (by omega), rd_at l i hlt, hw, within_some]
    simp only [Option.bind_some]
    by_cases c1 : 2 ≤ l[i] ∧ l[i] ≤ p - 1
    · rw [if_pos (by simpa using c1)]
      cases i with
      | zero =>
        rw [if_neg (by simp)]
        rw [wrapp 0 (by omega)]
        exact ih k 1 (by omega) (by omega) (by omega) (hT.2 ⟨h4, c1, fun j hj => by omega⟩)
      | succ j =>
        have hj : j < l.length := by omega
        rw [if_pos (by omega), wrapn _ (by omega), show ((j + 1 : Nat) : Int) - 1 = (j : Int) by omega, if_pos (by omega), if_pos (by omega), rd_at l j hj]
        by_cases c2 : l[j] ≥ l[j + 1]
        · rw [if_pos c2]
          have : ¬ incP p l := fun h => by
            have := (hT.1 (inc_of_take p l _ h)).2.2 j rfl hj
            omega
          simp [incB, this]
        · rw [if_neg c2, wrapp _ (by omega)]
          refine ih k (j + 1 + 1) (by omega) (by omega) (by omega) (hT.2 ⟨h4, c1, fun j' hj' hl' => ?_⟩)
          obtain rfl : j = j' := by omega
          omega
    · rw [if_neg (by simpa using c1)]
      have : ¬ incP p l := fun h => c1 (hT.1 (inc_of_take p l _ h)).2.1
      simp [incB, this]
theorem inc_some (p : Int) (hp : -9223372036854775808 < p) (hp2 : p ≤ 9223372036854775807) (l : List Int) (hlm : l.length ≤ 9223372036854775807) : space_increasing.f (l.length + 1) l p = some (incB p l) :=
  inc_l0 p hp hp2 l hlm l.length _ 0 (by omega) rfl (by omega) ⟨by simp, by simp⟩
theorem within_any (a b c : Int) (w : World) : Calls Tryz.prog 46 #[.int .i64 a, .int .i64 b, .int .i64 c] w fun e w' => e = .returned (.bool (decide (b ≤ a ∧ a ≤ c))) ∧ Drawn0 w w' :=
  space_within.calls a b c _ w (within_some a b c)
theorem inc_any (p : Int) (hp : -9223372036854775808 < p) (hp2 : p ≤ 9223372036854775807) (l : List Int) (A : Option Addr) (c : Nat) (w : World) (h : (Kd.int .i64).C w A l.length l) (hc : l.length ≤ c) :
    Calls Tryz.prog 48 #[.slice A l.length c, .int .i64 p] w fun e w' => e = .returned (.bool (incB p l)) ∧ Drawn0 w w' :=
  space_increasing.calls _ A c l p _ w h hc (inc_some p hp hp2 l (Kd.C_max h))
def formP (p : Int) (l : List S64) : Prop := (∀ f ∈ l, 0 ≤ f.f0 ∧ f.f0 ≤ 1099511627776 ∧ f.f1 ≠ [] ∧ incP p f.f1) ∧ (l.map (·.f0)).Pairwise (· < ·)
def pagesOf (l : List S64) : List Int := (flat l).map (·.2)
def validP (p : Int) (l : List S64) : Prop := (2 ≤ p ∧ p ≤ 4096) ∧ formP p l ∧ (pagesOf l).Nodup
instance (p : Int) (l : List S64) : Decidable (formP p l) := by unfold formP; infer_instance
instance (p : Int) (l : List S64) : Decidable (validP p l) := by unfold validP; infer_instance
def validB (p : Int) (l : List S64) : Bool := decide (validP p l)
def okAt (p : Int) (l : List S64) (i : Nat) : Prop := (0 ≤ (rd_T64 l i).f0 ∧ (rd_T64 l i).f0 ≤ 1099511627776) ∧ (∀ j, i = j + 1 → (rd_T64 l j).f0 < (rd_T64 l i).f0) ∧ (rd_T64 l i).f1 ≠ [] ∧ incP p (rd_T64 l i).f1
theorem form_take (p : Int) (l : List S64) (i : Nat) (h : i < l.length) : formP p (l.take (i + 1)) ↔ formP p (l.take i) ∧ okAt p l i := by
  unfold formP okAt
  rw [rd_nat l i h, List.take_succ_eq_append_getElem h, List.map_append]
  constructor
  · rintro ⟨h1, h2⟩
    have h2' := List.pairwise_append.1 h2
    have h3 := h1 l[i] (List.mem_append_right _ List.mem_cons_self)
    refine ⟨⟨fun f hf => h1 f (List.mem_append_left _ hf), h2'.1⟩, ⟨h3.1, h3.2.1⟩, fun j hj => h2'.2.2 _ ?_ _ List.mem_cons_self, h3.2.2.1, h3.2.2.2⟩
    subst hj
    have hj : j < l.length := by omega
    rw [rd_nat l j hj, List.take_succ_eq_append_getElem hj, List.map_append]; exact List.mem_append_right _ List.mem_cons_self
  · rintro ⟨⟨h1, h2⟩, h3, h4, h5, h6⟩
    refine ⟨fun f hf => ?_, sorted_snoc h2 fun y hy => ?_⟩
    · rcases List.mem_append.1 hf with hf | hf
      · exact h1 f hf
      · obtain rfl : f = l[i] := by simpa using hf
        exact ⟨h3.1, h3.2, h5, h6⟩
    · cases i with
      | zero => simp at hy
      | succ j =>
        have hjl : j < l.length := by omega
        rw [List.take_succ_eq_append_getElem hjl, List.map_append] at hy
        rw [show List.map (fun x : S64 => x.f0) [l[j]] = [l[j].f0] from rfl, List.getLast?_concat] at hy
        obtain rfl : l[j].f0 = y := Option.some.inj hy
        have := h4 j rfl
        rwa [rd_nat l j hjl] at this
theorem form_of_take (p : Int) (l : List S64) (i : Nat) (h : formP p l) : formP p (l.take i) := ⟨fun n hn => h.1 n (List.mem_of_mem_take hn), by
  have := h.2.sublist (List.Sublist.map (·.f0) (List.take_sublist i l)); exact this⟩
theorem not_form (p : Int) (l : List S64) (i : Nat) (h : i < l.length) (hn : ¬ okAt p l i) : validB p l = false := by
  unfold validB
  rw [decide_eq_false_iff_not]
  exact fun hv => hn ((form_take p l i h).1 (form_of_take p l (i + 1) hv.2.1)).2
theorem form_page {p : Int} {l : List S64} (h : formP p l) (x : Int × Int) (hx : x ∈ flat l) : 2 ≤ x.2 ∧ x.2 ≤ p - 1 := by
  unfold flat at hx
  rw [List.mem_flatMap] at hx
  obtain ⟨f, hf, hx⟩ := hx
  obtain ⟨n, hn, rfl⟩ := List.mem_map.1 hx
  exact (h.1 f hf).2.2.2.1 n hn
end Go.Proofs.YtpnhelcemodnmaaGreat
namespace Go.Proofs.YtpnhelcemodnmaaGreat
open Go.RowKit Go.Shelf Go.Proofs.YtpnhelcemodnmaaGreatW.PrintWords Go.Proofs.YtpnhelcemodnmaaGreatW.PrintLast Go.Proofs.YtpnhelcemodnmaaGreatW.PrintMore PA
set_option linter.unusedVariables false
set_option linter.unusedSimpArgs false
attribute [local go_sem] Oper.semAt_some
def Bits (w : World) (bb : Nat) (S : Nat → Bool) : Prop := ∃ cs, w.heap[bb]? = some (.cells cs 129 (0, 0)) ∧ cs.size = 4096 ∧ ∀ j, j < 4096 → cs[j]? = some (.bool (S j))
def addB (S : Nat → Bool) (n : Nat) : Nat → Bool := fun j => if j = n then true else S j
theorem Bits.cell {w : World} {bb : Nat} {S : Nat → Bool} (h : Bits w bb S) (n : Nat) (hn : n < 4096) : w.cell? ⟨bb, n, none⟩ = some (.bool (S n)) := by
  obtain ⟨cs, h1, h2, h3⟩ := h
  exact (blk_cell h1 n).trans (h3 n hn)
theorem Bits.lt {w : World} {bb : Nat} {S : Nat → Bool} (h : Bits w bb S) : bb < w.heap.size := by
  obtain ⟨cs, h1, h2, h3⟩ := h
  exact (Array.getElem?_eq_some_iff.1 h1).1
theorem Bits.free {w : World} {bb : Nat} {S : Nat → Bool} (h : Bits w bb S) (n : Nat) : w.frozen? ⟨bb, n, none⟩ = false := by
  obtain ⟨cs, h1, h2, h3⟩ := h
  exact blk_frozen h1 n
theorem Bits.add {w : World} {bb : Nat} {S : Nat → Bool} (h : Bits w bb S) (n : Nat) (hn : n < 4096) : Bits (w.setCell ⟨bb, n, none⟩ (.bool true)) bb (addB S n) := by
  obtain ⟨cs, h1, h2, h3⟩ := h
  refine ⟨cs.setIfInBounds n (.bool true), blk_set h1 n _, by simp [h2], fun j hj => ?_⟩
  unfold addB
  by_cases e : j = n
  · subst e; rw [if_pos rfl]; simp [h2, hj]
  · rw [if_neg e, Array.getElem?_setIfInBounds_ne (Ne.symm e)]; exact h3 j hj
theorem add_any (bb n : Nat) (x : Bool) (hn : n < 4096) (w : World) (hc : w.cell? ⟨bb, n, none⟩ = some (.bool x)) (hf : w.frozen? ⟨bb, n, none⟩ = false) :
    Calls Tryz.prog 72 #[.pointer (some ⟨bb, 0, none⟩), .int .i64 (n : Int)] w fun e w' => e = .returned (.bool (!x)) ∧ w' = w.setCell ⟨bb, n, none⟩ (.bool true) := by
  have h0 : (0 : Int) ≤ (n : Int) := by omega
  have h1 : (n : Int) < 4096 := by omega
  go_enter Tryz.func72, Tryz.ntmps72
  go_wp2
  go_ret
  exact ⟨rfl, rfl⟩
theorem quiet0 {P : Program} {f : FuncId} {args : Array Value} {w : World} {n : Nat} {v : Value} (h : Calls P f args (w.drewN n) fun e w' => e = .returned v ∧ Drawn0 (w.drewN n) w') : Calls P f args (w.drewN n) fun e w'' => e = .returned v ∧ ∃ m, w'' = w.drewN m :=
  Calls.quiet_of (h.mono fun _ _ ⟨he, hd⟩ => ⟨he, hd.out⟩)
theorem within_q {a b c : Int} {r : Bool} (h : decide (b ≤ a ∧ a ≤ c) = r) (w : World) (n : Nat) : Calls Tryz.prog 46 #[.int .i64 a, .int .i64 b, .int .i64 c] (w.drewN n) fun e w'' => e = .returned (.bool r) ∧ ∃ m, w'' = w.drewN m := by
  rw [← h]; exact quiet0 (within_any a b c _)
theorem inc_q {p : Int} (hp : -9223372036854775808 < p) (hp2 : p ≤ 9223372036854775807) {l : List Int} {A : Option Addr} {c : Nat} {w : World} {r : Bool} (h : incB p l = r) (hC : (Kd.int .i64).C w A l.length l) (hc : l.length ≤ c) (n : Nat) : Calls Tryz.prog 48 #[.slice A l.length c, .int .i64 p] (w.drewN n) fun e w'' => e = .returned (.bool r) ∧ ∃ m, w'' = w.drewN m := by
  rw [← h]; exact quiet0 (inc_any p hp hp2 l A c _ (Kd.C_drewN hC n) hc)
theorem results_one {P : Program} {fn : Func} {p : Tmp} {ty : TypeId} (h : fn.results = #[.cell p ty]) (tmps : Array Value) (w : World) (g : Nat) (v : Value) (hp : tmps.getD p undef = .pointer (some ⟨g, 0, none⟩)) (hld : (loadVar ty ⟨g, 0, none⟩).run P w = .ok v w) : (results fn tmps).run P w = .ok v w := by
  have hp' : tmps[p]?.getD undef = .pointer (some ⟨g, 0, none⟩) := by simpa [Array.getD_eq_getD_getElem?] using hp
  simp [results, h, asAddr, hp', hld]
theorem load4 {w : World} {g : Nat} {v : Value} (hc : w.cell? ⟨g, 0, none⟩ = some v) : (loadVar 4 ⟨g, 0, none⟩).run Tryz.prog w = .ok v w := by go_simp
theorem below_alloc1 (w : World) (o : Obj) : Below w.heap.size w (w.alloc o) := (Below.refl _ _).alloc (Nat.le_refl _) _
set_option maxRecDepth 100000 in
set_option maxHeartbeats 2000000 in
theorem valid_size (l : List S64) (p : Int) (A : Option Addr) (c : Nat) (w : World) (hp : ¬ (2 ≤ p ∧ p ≤ 4096)) :
    Calls Tryz.prog 47 #[.slice A l.length c, .int .i64 p] w fun e w' => e = .returned (.bool (validB p l)) ∧ Below w.heap.size w w' := by
  have hv : validB p l = false := decide_eq_false_iff_not.2 fun h => hp h.1
  rw [hv]
  have hd : decide (2 ≤ p ∧ p ≤ 4096) = false := decide_eq_false_iff_not.2 hp
  have HD := Lib.hid hd
  clear hd hp hv
  go_enter Tryz.func47, Tryz.ntmps47
  go_wp2_with (go_at_call 46; (with_reducible refine (within_any p 2 4096 _).mono ?_); rintro e w' ⟨rfl, ⟨nd, rfl⟩⟩; rw [HD.out])
  exact bodyPost_ret (v := .bool false) (by simp [results, Tryz.results47, go_sem]) rfl ⟨rfl, (pw_below_drewN (below_alloc1 w _) nd).setCell (p := ⟨w.heap.size, 0, none⟩) (Nat.le_refl _) _⟩
theorem marks_ret {F : Fence} {n : Nat} {P : Program} {fn : Func} {R : Ending → World → Prop} {tmps : Array Value} {w : World} (v : Value) (hres : (results fn tmps).run P w = .ok v w) (h : R (.returned v) w) : bodyPostM F n P fn R .ret { tmps, defers := [] } w := ⟨v, hres, h⟩
theorem zc129 : Tryz.zeroCells129 = Array.replicate 4096 (.bool false) := by kernel_rfl
def setOf (ns : List Int) : Nat → Bool := fun j => ns.contains (j : Int)
theorem setOf_nil : setOf [] = fun _ => false := by funext j; simp [setOf]
theorem setOf_snoc (ns : List Int) (n : Nat) : setOf (ns ++ [(n : Int)]) = addB (setOf ns) n := by
  funext j
  unfold setOf addB
  rw [Bool.eq_iff_iff]
  by_cases e : j = n
  · subst e; simp
  · have : ¬ (j : Int) = (n : Int) := by omega
    simp [e, this]
theorem Bits.zero {w : World} {bb : Nat} (h : w.heap[bb]? = some (.cells Tryz.zeroCells129 129 (0, 0))) : Bits w bb (setOf []) := by
  rw [zc129] at h
  exact ⟨_, h, by simp, fun j hj => by rw [setOf_nil]; simp [hj]⟩
theorem Bits.kept {w w1 : World} {bb : Nat} {S : Nat → Bool} (h : Bits w bb S) (e : w1.heap[bb]? = w.heap[bb]?) : Bits w1 bb S := by
  obtain ⟨cs, h1, h2⟩ := h
  exact ⟨cs, e.trans h1, h2⟩
theorem own_blk {A B : World} {g : Nat} {cs : Array Value} {t : TypeId} {row : Option Nat} (h : A.heap[g]? = some (.cells cs t (0, 0))) (hg : A.grownBy B row) (hr : ∀ r, row = some r → ∃ o : Obj, A.heap[r]? = some o ∧ o.isCells = false) : B.heap[g]? = A.heap[g]? :=
  hg.block g (blk_lt h) (fun e => by
    obtain ⟨o, ho, hc⟩ := hr g e.symm
    rw [h] at ho
    injection ho with ho
    subst ho
    cases hc)
def VI (l : List S64) (w : World) (bb bs : Nat) (pre : List (Pg l)) (W : World) : Prop :=
  (Bits W bb (setOf (pre.map (·.1.2))) ∧ W.heap[w.heap.size]? = some (.cells #[.bool false] 4 (0, 0)) ∧ W.heap[bs]? = some (.cells #[.pointer (some ⟨bb, 0, none⟩)] 127 (0, 0)) ∧ (pre.map (·.1.2)).Nodup) ∧ Below w.heap.size w W
def VX (l : List S64) (w : World) (c : Code) (pre : List (Pg l)) (W : World) : Prop :=
  (c = .ret ∧ W.heap[w.heap.size]? = some (.cells #[.bool false] 4 (0, 0)) ∧ ¬ (pre.map (·.1.2)).Nodup) ∧ Below w.heap.size w W
theorem VI.own (l : List S64) (w : World) (bb bs B : Nat) (h1 : w.heap.size ≤ B) : OwnFrom B (VI l w bb bs) := by
  rintro pre A C row ⟨⟨hb, h2, h3, h4⟩, h5⟩ hg hr
  have hr' := fun r e => (hr r e).2
  refine ⟨⟨?_, (own_blk h2 hg hr').trans h2, (own_blk h3 hg hr').trans h3, h4⟩, h5.grown hg h5.size fun k e => Nat.le_trans h1 (hr k e).1⟩
  obtain ⟨cs, hb1, hb2⟩ := hb
  exact ⟨cs, (own_blk hb1 hg hr').trans hb1, hb2⟩
theorem VX.own (l : List S64) (w : World) (B : Nat) (h1 : w.heap.size ≤ B) (c : Code) : OwnFrom B (VX l w c) := by
  rintro pre A C row ⟨⟨h0, h2, h4⟩, h5⟩ hg hr
  have hr' := fun r e => (hr r e).2
  exact ⟨⟨h0, (own_blk h2 hg hr').trans h2, h4⟩, h5.grown hg h5.size fun k e => Nat.le_trans h1 (hr k e).1⟩
set_option maxRecDepth 100000 in
set_option maxHeartbeats 4000000 in
theorem valid_walk (l : List S64) (p : Int) (A : Option Addr) (c : Nat) (w : World) (hC : k64.C w A l.length l) (hc : l.length ≤ c) (hp0 : 2 ≤ p) (hp1 : p ≤ 4096) :
    Calls Tryz.prog 47 #[.slice A l.length c, .int .i64 p] w fun e w' => e = .returned (.bool (validB p l)) ∧ Below w.heap.size w w' := by
  have hlm := Kd.C_max hC
  have HD := Lib.hid (decide_eq_true (And.intro hp0 hp1))
  refine (callsIn_wide (n := 3)).1 ?_
  refine callsIn_of_wp_marks Tryz.func47 rfl trivial ?_ rfl
  simp only [Tryz.ntmps47, List.size_toArray, List.length_cons, List.length_nil, Nat.reduceAdd, Nat.reduceSub, Array.replicate_succ, Array.replicate_zero, List.push_toArray, List.append_toArray, List.nil_append, List.cons_append]
  refine (wpIn_wide (n := 3)).2 ?_
  go_wp2_with (go_at_call 46; (with_reducible refine (within_any p 2 4096 _).mono ?_); rintro e w' ⟨rfl, ⟨nd, rfl⟩⟩; rw [HD.out])
  obtain ⟨wb, hwb⟩ : ∃ wb, (w.alloc (.cells #[.bool false] 4)).drewN nd = wb := ⟨_, rfl⟩
  rw [hwb]
  have hBb : Below w.heap.size w wb := by rw [← hwb]; exact pw_below_drewN (below_alloc1 w _) nd
  have hres : wb.heap[w.heap.size]? = some (.cells #[.bool false] 4 (0, 0)) := by rw [← hwb]; exact blk_drewN (blk_new w _) nd
  clear hwb HD
  go_loopw [15] (fun i wr => ∃ k : Nat, k ≤ l.length ∧ i = .int .i64 k ∧ Hid (formP p (l.take k)) ∧ wr.heap[w.heap.size]? = some (.cells #[.bool false] 4 (0, 0)) ∧ Below w.heap.size w wr)
    (fun i _ => l.length - (intOf i).toNat)
  case atStart => exact ⟨0, Nat.zero_le _, rfl, Lib.hid ⟨by simp, by simp⟩, hres, hBb⟩
  case round =>
    obtain ⟨k, hk, rfl, HF, hr, hB⟩ := hrel
    clear hres hBb
    have hlt0 := blk_lt hr
    have hcr : wr.cell? ⟨w.heap.size, 0, none⟩ = some (.bool false) := (blk_cell hr 0).trans rfl
    have hfr := blk_frozen hr 0
    by_cases hlt : k < l.length
    · obtain ⟨ad, A1, c1, rfl, hx0, hx1, hl1, hC1⟩ := at_T64 (Kd.C_below hC hB) (k : Int) (by omega) (by omega)
      rw [Int.toNat_natCast] at hx0 hx1
      have hO := not_form p l k hlt
      have HO := Lib.hid hO
      clear hO
      obtain ⟨v, hv⟩ : ∃ v, v = (rd_T64 l (k : Int)).f0 := ⟨_, rfl⟩
      obtain ⟨g, hg⟩ : ∃ g, g = (rd_T64 l (k : Int)).f1 := ⟨_, rfl⟩
      rw [← hv] at hx0
      rw [← hg] at hx1 hl1 hC1
      have HV := Lib.hid hv
      have HG := Lib.hid hg
      clear hv hg
      have hCg : (Kd.int .i64).C (wr.alloc (.cells #[.int .i64 v, .slice A1 g.length c1] 64)) A1 g.length g := Kd.C_below hC1 (below_alloc1 wr _)
      clear hC1
      by_cases cv : 0 ≤ v ∧ v ≤ 1099511627776
      · have HV1 := Lib.hid (decide_eq_true cv)
        have HV2 := Lib.hid cv
        by_cases ck : k = 0
        · have hdk : decide (0 < k) = false := decide_eq_false (by omega)
          have HW := Lib.hid (show ∀ j, k = j + 1 → (rd_T64 l (j : Int)).f0 < v from fun j hj => by omega)
          clear ck
          by_cases cg : g = []
          · have HN := Lib.hid (HO.out fun h => h.2.2.1 (HG.out ▸ cg))
            have hl0 : ((g.length : Int) == 0) = true := by rw [cg]; rfl
            have hln : (g.length == 0) = true := by rw [cg]; rfl
            have HI := Lib.hid (rfl : incB p g = incB p g)
            clear cg
            go_upto_region 6 with (fail)
            repeat (go_quiet ((first | (go_at_call 46; exact within_q HV1.out _ _) | (go_at_call 48; exact inc_q (by omega) (by omega) HI.out hCg hl1 _))))
            go_wp2
            have hr2 := blk_set (blk_drewN (blk_alloc hr (.cells #[.int .i64 v, .slice A1 g.length c1] 64)) nq) 0 (.bool false)
            exact marks_ret (.bool false) (results_one rfl _ _ _ _ rfl (load4 ((blk_cell hr2 0).trans rfl))) ⟨by rw [HN.out], (pw_below_drewN (hB.alloc hB.size _) nq).setCell (p := ⟨w.heap.size, 0, none⟩) (Nat.le_refl _) _⟩
          · have hpos : 0 < g.length := List.length_pos_iff.2 cg
            have hl0 : ((g.length : Int) == 0) = false := beq_eq_false_iff_ne.2 (by omega)
            by_cases ci : incB p g = true
            · have HI := Lib.hid ci
              have HOK := Lib.hid (show okAt p l k from ⟨by rw [← HV.out]; exact HV2.out, by rw [← HV.out]; exact HW.out, by rw [← HG.out]; exact cg, by rw [← HG.out]; exact of_decide_eq_true ci⟩)
              clear cg ci
              go_upto_region 6 with (fail)
              repeat (go_quiet ((first | (go_at_call 46; exact within_q HV1.out _ _) | (go_at_call 48; exact inc_q (by omega) (by omega) HI.out hCg hl1 _))))
              go_wp2
              go_roundw
              case rel => exact ⟨k + 1, by omega, by go_num, Lib.hid ((form_take p l k hlt).2 ⟨HF.out, HOK.out⟩), blk_drewN (blk_alloc hr _) nq, pw_below_drewN (hB.alloc hB.size _) nq⟩
              case measure => simp [intOf]; omega
            · have HI := Lib.hid (Bool.eq_false_iff.2 ci)
              have HN := Lib.hid (HO.out fun h => ci (decide_eq_true (HG.out ▸ h.2.2.2)))
              clear cg ci
              go_upto_region 6 with (fail)
              repeat (go_quiet ((first | (go_at_call 46; exact within_q HV1.out _ _) | (go_at_call 48; exact inc_q (by omega) (by omega) HI.out hCg hl1 _))))
              go_wp2
              have hr2 := blk_set (blk_drewN (blk_alloc hr (.cells #[.int .i64 v, .slice A1 g.length c1] 64)) nq) 0 (.bool false)
              exact marks_ret (.bool false) (results_one rfl _ _ _ _ rfl (load4 ((blk_cell hr2 0).trans rfl))) ⟨by rw [HN.out], (pw_below_drewN (hB.alloc hB.size _) nq).setCell (p := ⟨w.heap.size, 0, none⟩) (Nat.le_refl _) _⟩
        · have hk0 : 0 < k := by omega
          have hdk : decide (0 < k) = true := decide_eq_true hk0
          obtain ⟨ad2, A2, c2, e2, hy0, hy1, hl2, hC2⟩ := at_T64 (Kd.C_below hC hB) ((k : Int) - 1) (by omega) (by omega)
          obtain rfl : ad = ad2 := by injection e2
          rw [show ((k : Int) - 1).toNat = k - 1 by omega, show (k : Int) - 1 = ((k - 1 : Nat) : Int) by omega] at hy0
          clear e2 hy1 hl2 hC2
          obtain ⟨u, hu⟩ : ∃ u, u = (rd_T64 l ((k - 1 : Nat) : Int)).f0 := ⟨_, rfl⟩
          rw [← hu] at hy0
          replace hy0 := cellB (below_alloc1 wr (.cells #[.int .i64 v, .slice A1 g.length c1] 64)) (Nat.le_refl _) hy0
          have HU := Lib.hid hu
          have hkl : k - 1 < l.length := by omega
          have hw : IntKind.i64.wrap ((k : Int) - 1) = ((k - 1 : Nat) : Int) := by rw [IntKind.wrap_i64]; omega
          clear hu ck
          by_cases c2 : v ≤ u
          · have HN := Lib.hid (HO.out fun h => absurd (h.2.1 (k - 1) (by omega)) (by rw [← HU.out, ← HV.out]; omega))
            have hd2 : decide (v ≤ u) = true := decide_eq_true c2
            have HI := Lib.hid (rfl : incB p g = incB p g)
            go_upto_region 6 with (fail)
            repeat (go_quiet ((first | (go_at_call 46; exact within_q HV1.out _ _) | (go_at_call 48; exact inc_q (by omega) (by omega) HI.out hCg hl1 _))))
            go_wp2
            have hr2 := blk_set (blk_drewN (blk_alloc hr (.cells #[.int .i64 v, .slice A1 g.length c1] 64)) nq) 0 (.bool false)
            exact marks_ret (.bool false) (results_one rfl _ _ _ _ rfl (load4 ((blk_cell hr2 0).trans rfl))) ⟨by rw [HN.out], (pw_below_drewN (hB.alloc hB.size _) nq).setCell (p := ⟨w.heap.size, 0, none⟩) (Nat.le_refl _) _⟩
          · have hd2 : decide (v ≤ u) = false := decide_eq_false c2
            have HW : Hid (∀ j, k = j + 1 → (rd_T64 l (j : Int)).f0 < v) := Lib.hid (by
              intro j hj
              obtain rfl : j = k - 1 := by omega
              rw [← HU.out]
              omega)
            by_cases cg : g = []
            · have HN := Lib.hid (HO.out fun h => h.2.2.1 (HG.out ▸ cg))
              have hl0 : ((g.length : Int) == 0) = true := by rw [cg]; rfl
              have hln : (g.length == 0) = true := by rw [cg]; rfl
              have HI := Lib.hid (rfl : incB p g = incB p g)
              clear cg
              go_upto_region 6 with (fail)
              repeat (go_quiet ((first | (go_at_call 46; exact within_q HV1.out _ _) | (go_at_call 48; exact inc_q (by omega) (by omega) HI.out hCg hl1 _))))
              go_wp2
              have hr2 := blk_set (blk_drewN (blk_alloc hr (.cells #[.int .i64 v, .slice A1 g.length c1] 64)) nq) 0 (.bool false)
              exact marks_ret (.bool false) (results_one rfl _ _ _ _ rfl (load4 ((blk_cell hr2 0).trans rfl))) ⟨by rw [HN.out], (pw_below_drewN (hB.alloc hB.size _) nq).setCell (p := ⟨w.heap.size, 0, none⟩) (Nat.le_refl _) _⟩
            · have hpos : 0 < g.length := List.length_pos_iff.2 cg
              have hl0 : ((g.length : Int) == 0) = false := beq_eq_false_iff_ne.2 (by omega)
              by_cases ci : incB p g = true
              · have HI := Lib.hid ci
                have HOK := Lib.hid (show okAt p l k from ⟨by rw [← HV.out]; exact HV2.out, by rw [← HV.out]; exact HW.out, by rw [← HG.out]; exact cg, by rw [← HG.out]; exact of_decide_eq_true ci⟩)
                clear cg ci
                go_upto_region 6 with (fail)
                repeat (go_quiet ((first | (go_at_call 46; exact within_q HV1.out _ _) | (go_at_call 48; exact inc_q (by omega) (by omega) HI.out hCg hl1 _))))
                go_wp2
                go_roundw
                case rel => exact ⟨k + 1, by omega, by go_num, Lib.hid ((form_take p l k hlt).2 ⟨HF.out, HOK.out⟩), blk_drewN (blk_alloc hr _) nq, pw_below_drewN (hB.alloc hB.size _) nq⟩
                case measure => simp [intOf]; omega
              · have HI := Lib.hid (Bool.eq_false_iff.2 ci)
                have HN := Lib.hid (HO.out fun h => ci (decide_eq_true (HG.out ▸ h.2.2.2)))
                clear cg ci
                go_upto_region 6 with (fail)
                repeat (go_quiet ((first | (go_at_call 46; exact within_q HV1.out _ _) | (go_at_call 48; exact inc_q (by omega) (by omega) HI.out hCg hl1 _))))
                go_wp2
                have hr2 := blk_set (blk_drewN (blk_alloc hr (.cells #[.int .i64 v, .slice A1 g.length c1] 64)) nq) 0 (.bool false)
                exact marks_ret (.bool false) (results_one rfl _ _ _ _ rfl (load4 ((blk_cell hr2 0).trans rfl))) ⟨by rw [HN.out], (pw_below_drewN (hB.alloc hB.size _) nq).setCell (p := ⟨w.heap.size, 0, none⟩) (Nat.le_refl _) _⟩
      · have HV1 := Lib.hid (decide_eq_false cv)
        have HN := Lib.hid (HO.out fun h => cv (by rw [HV.out]; exact h.1))
        have HI := Lib.hid (rfl : incB p g = incB p g)
        clear cv
        go_upto_region 6 with (fail)
        repeat (go_quiet ((first | (go_at_call 46; exact within_q HV1.out _ _) | (go_at_call 48; exact inc_q (by omega) (by omega) HI.out hCg hl1 _))))
        go_wp2
        have hr2 := blk_set (blk_drewN (blk_alloc hr (.cells #[.int .i64 v, .slice A1 g.length c1] 64)) nq) 0 (.bool false)
        exact marks_ret (.bool false) (results_one rfl _ _ _ _ rfl (load4 ((blk_cell hr2 0).trans rfl))) ⟨by rw [HN.out], (pw_below_drewN (hB.alloc hB.size _) nq).setCell (p := ⟨w.heap.size, 0, none⟩) (Nat.le_refl _) _⟩
    · obtain rfl : k = l.length := by omega
      rw [List.take_length] at HF
      have hq := And.intro hp0 hp1
      go_wp2_with (go_at_call 68; (with_reducible refine (each_any A l.length c _).mono ?_); rintro e w' ⟨rfl, rfl⟩)
      obtain ⟨W0, hW0⟩ : ∃ W0, (((wr.alloc (.cells Tryz.zeroCells129 129)).alloc (.cells #[.pointer (some ⟨wr.heap.size, 0, none⟩)] 127)).alloc (.cells #[.slice A l.length c] 26)) = W0 := ⟨_, rfl⟩
      have hB0 : Below w.heap.size w W0 := by rw [← hW0]; have := hB.size; exact ((hB.alloc hB.size _).alloc (by simp; omega) _).alloc (by simp; omega) _
      have hs0 : W0.heap.size = wr.heap.size + 3 := by rw [← hW0]; simp
      have hb0 : W0.heap[wr.heap.size]? = some (.cells Tryz.zeroCells129 129 (0, 0)) := by rw [← hW0]; exact blk_alloc (blk_alloc (blk_new wr _) _) _
      have hp0 : W0.heap[wr.heap.size + 1]? = some (.cells #[.pointer (some ⟨wr.heap.size, 0, none⟩)] 127 (0, 0)) := by
        rw [← hW0]
        have := blk_new (wr.alloc (.cells Tryz.zeroCells129 129)) (.cells #[.pointer (some ⟨wr.heap.size, 0, none⟩)] 127)
        rw [World.size_alloc] at this
        exact blk_alloc this _
      have hl0 : W0.heap[wr.heap.size + 2]? = some (.cells #[.slice A l.length c] 26 (0, 0)) := by
        rw [← hW0]
        have := blk_new ((wr.alloc (.cells Tryz.zeroCells129 129)).alloc (.cells #[.pointer (some ⟨wr.heap.size, 0, none⟩)] 127)) (.cells #[.slice A l.length c] 26)
        rw [World.size_alloc, World.size_alloc] at this
        exact this
      have hr0 : W0.heap[w.heap.size]? = some (.cells #[.bool false] 4 (0, 0)) := by rw [← hW0]; exact blk_alloc (blk_alloc (blk_alloc hr _) _) _
      rw [hW0]
      clear hW0
      obtain ⟨bb, hbb⟩ : ∃ bb, wr.heap.size = bb := ⟨_, rfl⟩
      rw [hbb] at hs0 hb0 hp0 hl0 hlt0 ⊢
      clear hbb hr hcr hfr hB
      have hseq := fun (F : Fence) (n : Nat) (h7 : F.fn 112) (hro : F.round = none) (hn : 1 ≤ n) => each_stops F n h7 hro hn l (bb + 2) bb (by omega) A c hc w W0 hB0 hC (by omega) (by omega) hl0
      clear hl0
      refine (wpIn_wide (n := 3)).1 ?_
      refine wpIn_rangeFunc_ownG (gf := 112) (lb := #[.pointer (some ⟨bb + 2, 0, none⟩)]) rfl (by decide) rfl trivial (enters_of Tryz.func112 (by kernel_rfl) rfl)
        (hseq Fence.wide 2 trivial rfl (by decide)) KpE.trans (fun W lo o o' h1 h2 h3 _ => KpE.putObj W lo o o' (Nat.le_trans hB0.size h1) h2 h3) (Below.refl _ _) (fun _ => rfl)
        (VI l w bb (bb + 1)) (VX l w) (VI.own l w bb (bb + 1) _ (by omega)) (VX.own l w _ (by omega)) ⟨⟨Bits.zero hb0, hr0, hp0, List.nodup_nil⟩, hB0⟩ ?a₁ ?assign ?body ?done ?stop
      case assign =>
        intro lo x W K hK
        gi_wp2
        exact hK
      case body =>
        rintro lo pre x W ⟨⟨hb, hr, hp, hn⟩, hB⟩ hlen
        have hx := form_page HF.out x.1 x.2
        obtain ⟨n, hxn⟩ : ∃ n : Nat, x.1.2 = (n : Int) := ⟨x.1.2.toNat, by omega⟩
        have hn4 : n < 4096 := by omega
        have hcp : W.cell? ⟨bb + 1, 0, none⟩ = some (.pointer (some ⟨bb, 0, none⟩)) := (blk_cell hp 0).trans rfl
        have hpre : ((pre ++ [x]).map (·.1.2)) = pre.map (·.1.2) ++ [(n : Int)] := by simp [hxn]
        have HPRE := Lib.hid hpre
        have hadd := add_any bb n _ hn4 W (hb.cell n hn4) (hb.free n)
        obtain ⟨b, hbv⟩ : ∃ b, setOf (pre.map (·.1.2)) n = b := ⟨_, rfl⟩
        rw [hbv] at hadd
        have HBV := Lib.hid hbv
        have hrs : (W.setCell ⟨bb, n, none⟩ (.bool true)).heap[w.heap.size]? = some (.cells #[.bool false] 4 (0, 0)) := blk_far hr (p := ⟨bb, n, none⟩) (by show w.heap.size ≠ bb; omega) _
        have hrc : (W.setCell ⟨bb, n, none⟩ (.bool true)).cell? ⟨w.heap.size, 0, none⟩ = some (.bool false) := (blk_cell hrs 0).trans rfl
        have hrf := blk_frozen hrs 0
        clear hpre hbv
        rw [hxn]
        cases b with
        | true =>
          gi_wp2_with (refine ⟨trivial, ?_⟩; gi_at_call 72; refine (CallsIn.inRound lo (callsIn_wide.2 hadd)).mono ?_; rintro e w' ⟨rfl, rfl⟩)
          refine ⟨((KeepsOthers.setCell _ _ _).trans (KeepsOthers.setCell _ _ _)).from _, ⟨rfl, blk_set hrs 0 _, ?_⟩, (hB.setCell (p := ⟨bb, n, none⟩) (by show w.heap.size ≤ bb; omega) _).setCell (p := ⟨w.heap.size, 0, none⟩) (Nat.le_refl _) _⟩
          rw [HPRE.out]
          intro h
          have h2 := HBV.out
          unfold setOf at h2
          rw [List.contains_iff_mem] at h2
          exact (List.nodup_append.1 h).2.2 _ h2 _ List.mem_cons_self rfl
        | false =>
          gi_wp2_with (refine ⟨trivial, ?_⟩; gi_at_call 72; refine (CallsIn.inRound lo (callsIn_wide.2 hadd)).mono ?_; rintro e w' ⟨rfl, rfl⟩)
          refine ⟨(KeepsOthers.setCell _ _ _).from _, (KpE.refl W).setCell (by omega) n _, ⟨?_, hrs, blk_far hp (p := ⟨bb, n, none⟩) (by show bb + 1 ≠ bb; omega) _, ?_⟩, hB.setCell (p := ⟨bb, n, none⟩) (by show w.heap.size ≤ bb; omega) _⟩
          · rw [HPRE.out, setOf_snoc]
            exact hb.add n hn4
          · rw [HPRE.out, List.nodup_append]
            refine ⟨hn, by simp, fun a ha b hb' e => ?_⟩
            obtain rfl : b = (n : Int) := by simpa using hb'
            subst e
            have h2 := HBV.out
            unfold setOf at h2
            rw [List.contains_eq_any_beq] at h2
            have := List.any_eq_false.1 h2 _ ha
            simp at this
      case done =>
        rintro D xs W hD hS ⟨⟨hb, hr, hp, hn⟩, hB⟩ hK
        have hv : validB p l = true := decide_eq_true ⟨hq, HF.out, by unfold pagesOf; rw [← hS, List.map_map]; exact hn⟩
        have HVT := Lib.hid hv
        clear hv
        have hrc : W.cell? ⟨w.heap.size, 0, none⟩ = some (.bool false) := (blk_cell hr 0).trans rfl
        have hrf := blk_frozen hr 0
        go_wp2
        have hDn : w.heap.size ≠ D := by have := hB0.size; have := blk_lt hr0; omega
        have hK' : (W.setCell ⟨w.heap.size, 0, none⟩ (.bool true)).heap[D]? = some (.deferred (some [])) := (Below.heap_setCell _ _ _ _ (Ne.symm hDn)).trans hK
        refine ⟨by simp, .inl ⟨_, _, rfl, run_takeDeferred hK', ?_⟩⟩
        have hr2 := (World.putObj_heap_other (o := .deferred none) hDn).trans (blk_set hr 0 (.bool true))
        exact ⟨.bool true, results_one rfl _ _ _ _ rfl (load4 ((blk_cell hr2 0).trans rfl)), by rw [HVT.out], (hB.setCell (p := ⟨w.heap.size, 0, none⟩) (Nat.le_refl _) _).trans ⟨rfl, rfl, rfl, by simp, fun k hk => World.putObj_heap_other (by have := hB0.size; omega)⟩⟩
      case stop =>
        rintro D c pre W hD hS ⟨⟨rfl, hr, hn⟩, hB⟩ hK
        have hv : validB p l = false := decide_eq_false fun h => hn (by
          have h2 : (pre.map (·.1.2)).Sublist (pagesOf l) := by
            have := (hS.map (·.2)).sublist
            rw [List.map_map] at this
            exact this
          exact h.2.2.sublist h2)
        have HVT := Lib.hid hv
        clear hv
        refine (wpIn_wide (n := 3)).2 ?_
        go_wp2
        have hDn : w.heap.size ≠ D := by have := hB0.size; have := blk_lt hr0; omega
        refine ⟨by simp, .inl ⟨_, _, rfl, run_takeDeferred hK, ?_⟩⟩
        have hr2 := (World.putObj_heap_other (o := .deferred none) hDn).trans hr
        exact ⟨.bool false, results_one rfl _ _ _ _ rfl (load4 ((blk_cell hr2 0).trans rfl)), by rw [HVT.out], hB.trans ⟨rfl, rfl, rfl, by simp, fun k hk => World.putObj_heap_other (by have := hB0.size; omega)⟩⟩
theorem valid_any (l : List S64) (p : Int) (A : Option Addr) (c : Nat) (w : World) (hC : k64.C w A l.length l) (hc : l.length ≤ c) :
    Calls Tryz.prog 47 #[.slice A l.length c, .int .i64 p] w fun e w' => e = .returned (.bool (validB p l)) ∧ Below w.heap.size w w' := by
  by_cases h : 2 ≤ p ∧ p ≤ 4096
  · exact valid_walk l p A c w hC hc h.1 h.2
  · exact valid_size l p A c w h
end Go.Proofs.YtpnhelcemodnmaaGreat
namespace Go.Proofs
open Go.Shelf
def Tryz.lays122_ren : Go.Shelf.Ren := ⟨fun | 122 => 104 | 215 => 145 | n => n, fun | 3 => 3 | 4 => 4 | n => n, fun | n => n⟩
theorem Tryz.lays122 : Go.Proofs.Lays.n122 Tryz.prog Tryz.lays122_ren := {
  mixed := by kernel_rfl
  f122 := Tryz.func104.trans (congrArg some (by kernel_rfl))
  f215 := Tryz.func145.trans (congrArg some (by kernel_rfl))
  t3 := Tryz.underlying3
  a3 := Tryz.isAgg3
  z3 := Tryz.sizeOf3
  v3 := Tryz.zeroValue3
  t4 := Tryz.underlying4
  a4 := Tryz.isAgg4
  z4 := Tryz.sizeOf4
  v4 := Tryz.zeroValue4 }
open Go.RowKit in
theorem Tryz.cmp_Compare_int (x y : Int) (w : World) :
    Calls Tryz.prog 104 #[.int .i64 x, .int .i64 y] w fun e w' => e = .returned (.int .i64 (Lib.compareInt x y)) ∧ w' = w := Any.cmp_Compare_int Tryz.lays122 x y w
def Tryz.lays189_ren : Go.Shelf.Ren := ⟨fun | 189 => 73 | 125 => 114 | 257 => 113 | 128 => 158 | 129 => 159 | 294 => 149 | 295 => 150 | 296 => 151 | 297 => 152 | 298 => 153 | 299 => 154 | 216 => 155 | 300 => 156 | 301 => 157 | 328 => 172 | 329 => 173 | 330 => 174 | 331 => 175 | 332 => 176 | 215 => 145 | 343 => 193 | n => n, fun | 28 => 23 | 3 => 3 | 46 => 184 | 0 => 0 | 51 => 215 | 53 => 217 | 4 => 4 | 183 => 209 | 182 => 208 | 131 => 172 | 5 => 5 | 9 => 9 | 218 => 232 | 222 => 236 | 228 => 250 | 229 => 251 | n => n, fun | n => n⟩
theorem Tryz.lays189 : Go.Proofs.Lays.n189 Tryz.prog Tryz.lays189_ren := {
  mixed := by kernel_rfl
  f125 := Tryz.func114.trans (congrArg some (by kernel_rfl))
  f128 := Tryz.func158.trans (congrArg some (by kernel_rfl))
  f129 := Tryz.func159.trans (congrArg some (by kernel_rfl))
  f189 := Tryz.func73.trans (congrArg some (by kernel_rfl))
  f215 := Tryz.func145.trans (congrArg some (by kernel_rfl))
  f216 := Tryz.func155.trans (congrArg some (by kernel_rfl))
  f257 := Tryz.func113.trans (congrArg some (by kernel_rfl))
  f294 := Tryz.func149.trans (congrArg some (by kernel_rfl))
  f295 := Tryz.func150.trans (congrArg some (by kernel_rfl))
  f296 := Tryz.func151.trans (congrArg some (by kernel_rfl))
  f297 := Tryz.func152.trans (congrArg some (by kernel_rfl))
  f298 := Tryz.func153.trans (congrArg some (by kernel_rfl))
  f299 := Tryz.func154.trans (congrArg some (by kernel_rfl))
  f300 := Tryz.func156.trans (congrArg some (by kernel_rfl))
  f301 := Tryz.func157.trans (congrArg some (by kernel_rfl))
  f328 := Tryz.func172.trans (congrArg some (by kernel_rfl))
  f329 := Tryz.func173.trans (congrArg some (by kernel_rfl))
  f330 := Tryz.func174.trans (congrArg some (by kernel_rfl))
  f331 := Tryz.func175.trans (congrArg some (by kernel_rfl))
  f332 := Tryz.func176.trans (congrArg some (by kernel_rfl))
  f343 := Tryz.func193.trans (congrArg some (by kernel_rfl))
  t0 := Tryz.underlying0
  a0 := Tryz.isAgg0
  z0 := Tryz.sizeOf0
  v0 := Tryz.zeroValue0
  t3 := Tryz.underlying3
  a3 := Tryz.isAgg3
  z3 := Tryz.sizeOf3
  v3 := Tryz.zeroValue3
  t4 := Tryz.underlying4
  a4 := Tryz.isAgg4
  z4 := Tryz.sizeOf4
  v4 := Tryz.zeroValue4
  t5 := Tryz.underlying5
  a5 := Tryz.isAgg5
  z5 := Tryz.sizeOf5
  v5 := Tryz.zeroValue5
  t9 := Tryz.underlying9
  a9 := Tryz.isAgg9
  z9 := Tryz.sizeOf9
  v9 := Tryz.zeroValue9
  t28 := Tryz.underlying23
  a28 := Tryz.isAgg23
  z28 := Tryz.sizeOf23
  v28 := Tryz.zeroValue23
  t46 := Tryz.underlying184
  a46 := Tryz.isAgg184
  z46 := Tryz.sizeOf184
  v46 := Tryz.zeroValue184
  t51 := Tryz.underlying215
  a51 := Tryz.isAgg215
  z51 := Tryz.sizeOf215
  v51 := Tryz.zeroValue215
  t53 := Tryz.underlying217
  a53 := Tryz.isAgg217
  z53 := Tryz.sizeOf217
  v53 := Tryz.zeroValue217
  t131 := Tryz.underlying172
  a131 := Tryz.isAgg172
  z131 := Tryz.sizeOf172
  v131 := Tryz.zeroValue172
  t182 := Tryz.underlying208
  a182 := Tryz.isAgg208
  z182 := Tryz.sizeOf208
  v182 := Tryz.zeroValue208
  t183 := Tryz.underlying209
  a183 := Tryz.isAgg209
  z183 := Tryz.sizeOf209
  v183 := Tryz.zeroValue209
  t218 := Tryz.underlying232
  a218 := Tryz.isAgg232
  z218 := Tryz.sizeOf232
  v218 := Tryz.zeroValue232
  t222 := Tryz.underlying236
  a222 := Tryz.isAgg236
  z222 := Tryz.sizeOf236
  v222 := Tryz.zeroValue236
  t228 := Tryz.underlying250
  a228 := Tryz.isAgg250
  z228 := Tryz.sizeOf250
  v228 := Tryz.zeroValue250
  t229 := Tryz.underlying251
  a229 := Tryz.isAgg251
  z229 := Tryz.sizeOf251
  v229 := Tryz.zeroValue251 }
open Go.Sort Go.RowKit in
theorem Tryz.slices_Sort_int (blk off cap : Nat) (zs : List Int) (w : World) (hH : Holds (Value.int .i64) w blk off zs.toArray) (hblk : blk < w.heap.size) (hsz : zs.length < 4611686018427387904) :
    Calls Tryz.prog 73 #[.slice (some ⟨blk, off, none⟩) zs.length cap] w fun e w' =>
      e = .returned (.tuple #[]) ∧ ∃ n os, w' = grow (putRow (Value.int .i64) (Sort.ahead w n) blk off (zs.mergeSort fun x y => decide (x ≤ y)).toArray) os := Any.slices_Sort_int Tryz.lays189 blk off cap zs w hH hblk hsz
def Tryz.lays111_ren : Go.Shelf.Ren := ⟨fun | 111 => 126 | n => n, fun | 28 => 23 | 3 => 3 | 4 => 4 | 0 => 0 | n => n, fun | n => n⟩
theorem Tryz.lays111 : Go.Proofs.Lays.n111 Tryz.prog Tryz.lays111_ren := {
  mixed := by kernel_rfl
  f111 := Tryz.func126.trans (congrArg some (by kernel_rfl))
  t0 := Tryz.underlying0
  a0 := Tryz.isAgg0
  z0 := Tryz.sizeOf0
  v0 := Tryz.zeroValue0
  t3 := Tryz.underlying3
  a3 := Tryz.isAgg3
  z3 := Tryz.sizeOf3
  v3 := Tryz.zeroValue3
  t4 := Tryz.underlying4
  a4 := Tryz.isAgg4
  z4 := Tryz.sizeOf4
  v4 := Tryz.zeroValue4
  t28 := Tryz.underlying23
  a28 := Tryz.isAgg23
  z28 := Tryz.sizeOf23
  v28 := Tryz.zeroValue23 }
open Go.RowKit Go.Lib in
theorem Tryz.slices_Equal_int (b1 o1 n c b2 o2 m d : Nat) (xs ys : List Int) (w : World) (hx : n ≤ xs.length) (hy : m ≤ ys.length) (hbig : n ≤ 9223372036854775807) (hbig2 : m ≤ 9223372036854775807) (hc1 : ∀ j, j < xs.length → w.cell? ⟨b1, o1 + j, none⟩ = some (.int .i64 (xs.getD j 0))) (hc2 : ∀ j, j < ys.length → w.cell? ⟨b2, o2 + j, none⟩ = some (.int .i64 (ys.getD j 0))) :
    Calls Tryz.prog 126 #[.slice (some ⟨b1, o1, none⟩) n c, .slice (some ⟨b2, o2, none⟩) m d] w fun e w' => e = .returned (.bool (xs.take n == ys.take m)) ∧ ∃ q, w' = w.drewN q := Any.slices_Equal_int Tryz.lays111 b1 o1 n c b2 o2 m d xs ys w hx hy hbig hbig2 hc1 hc2
open Go.RowKit Go.Lib in
theorem Tryz.slices_Equal_int_empty (a1 a2 : Option Addr) (c m d : Nat) (w : World) (hbig2 : m ≤ 9223372036854775807) :
    Calls Tryz.prog 126 #[.slice a1 0 c, .slice a2 m d] w fun e w' => e = .returned (.bool (decide (m = 0))) ∧ w' = w := Any.slices_Equal_int_empty Tryz.lays111 a1 a2 c m d w hbig2
def Tryz.laysNm220_ren : Go.Shelf.Ren := ⟨fun | 20 => 141 | n => n, fun | 22 => 23 | 3 => 3 | 4 => 4 | 0 => 0 | n => n, fun | n => n⟩
theorem Tryz.laysNm220 : Go.Proofs.Lays2.n20 Tryz.prog Tryz.laysNm220_ren := {
  mixed := by kernel_rfl
  f20 := Tryz.func141.trans (congrArg some (by kernel_rfl))
  t0 := Tryz.underlying0
  a0 := Tryz.isAgg0
  z0 := Tryz.sizeOf0
  v0 := Tryz.zeroValue0
  t3 := Tryz.underlying3
  a3 := Tryz.isAgg3
  z3 := Tryz.sizeOf3
  v3 := Tryz.zeroValue3
  t4 := Tryz.underlying4
  a4 := Tryz.isAgg4
  z4 := Tryz.sizeOf4
  v4 := Tryz.zeroValue4
  t22 := Tryz.underlying23
  a22 := Tryz.isAgg23
  z22 := Tryz.sizeOf23
  v22 := Tryz.zeroValue23
  i3 := by kernel_rfl }
open Go.RowKit Go.Lib Go.Sort in
theorem Tryz.slices_Compact_int (blk off cap : Nat) (zs : List Int) (w : World) (hH : Holds (Value.int .i64) w blk off zs.toArray) (hsz : zs.length ≤ 9223372036854775807) (hcap : zs.length ≤ cap) :
    Calls Tryz.prog 141 #[.slice (some ⟨blk, off, none⟩) zs.length cap] w fun e w' => e = .returned (.slice (some ⟨blk, off, none⟩) (Lib.compact zs).length cap) ∧ ∃ q, w' = putRow (Value.int .i64) (Sort.ahead w q) blk off (Lib.compact zs ++ List.replicate (zs.length - (Lib.compact zs).length) 0).toArray := Any.slices_Compact_int Tryz.laysNm220 blk off cap zs w hH hsz hcap
open Go.RowKit Go.Lib Go.Sort in
theorem Tryz.slices_Compact_int_empty (a : Option Addr) (cap : Nat) (w : World) :
    Calls Tryz.prog 141 #[.slice a 0 cap] w fun e w' => e = .returned (.slice a 0 cap) ∧ w' = w := Any.slices_Compact_int_empty Tryz.laysNm220 a cap w
def Tryz.laysSlE041_f96_ren : Go.Shelf.Ren := ⟨fun | 41 => 96 | n => n, fun | 22 => 23 | 23 => 3 | 4 => 4 | n => n, fun | n => n⟩
theorem Tryz.laysSlE041_f96 : Go.Proofs.SlLaysE0.n41 Tryz.prog Tryz.laysSlE041_f96_ren := {
  mixed := by kernel_rfl
  f41 := ⟨Tryz.f96.name, by decide, Tryz.func96.trans (congrArg some (by kernel_rfl))⟩
  t4 := Tryz.underlying4
  a4 := Tryz.isAgg4
  z4 := Tryz.sizeOf4
  v4 := Tryz.zeroValue4
  t22 := Tryz.underlying23
  a22 := Tryz.isAgg23
  z22 := Tryz.sizeOf23
  v22 := Tryz.zeroValue23 }
open Go.RowKit Go.Lib in
theorem Tryz.slices_Clone96_nil (n c : Nat) (w : World) :
    Calls Tryz.prog 96 #[.slice none n c] w fun e w' => e = .returned (.slice none 0 0) ∧ w' = w := AnyE.slices_Clone_nil Tryz.laysSlE041_f96 n c w
def Tryz.laysSlE041_f98_ren : Go.Shelf.Ren := ⟨fun | 41 => 98 | n => n, fun | 22 => 26 | 23 => 64 | 4 => 4 | n => n, fun | n => n⟩
theorem Tryz.laysSlE041_f98 : Go.Proofs.SlLaysE0.n41 Tryz.prog Tryz.laysSlE041_f98_ren := {
  mixed := by kernel_rfl
  f41 := ⟨Tryz.f98.name, by decide, Tryz.func98.trans (congrArg some (by kernel_rfl))⟩
  t4 := Tryz.underlying4
  a4 := Tryz.isAgg4
  z4 := Tryz.sizeOf4
  v4 := Tryz.zeroValue4
  t22 := Tryz.underlying26
  a22 := Tryz.isAgg26
  z22 := Tryz.sizeOf26
  v22 := Tryz.zeroValue26 }
open Go.RowKit Go.Lib in
theorem Tryz.slices_Clone98_nil (n c : Nat) (w : World) :
    Calls Tryz.prog 98 #[.slice none n c] w fun e w' => e = .returned (.slice none 0 0) ∧ w' = w := AnyE.slices_Clone_nil Tryz.laysSlE041_f98 n c w
def Tryz.laysSlE041_f49_ren : Go.Shelf.Ren := ⟨fun | 41 => 49 | n => n, fun | 22 => 22 | 23 => 89 | 4 => 4 | n => n, fun | n => n⟩
theorem Tryz.laysSlE041_f49 : Go.Proofs.SlLaysE0.n41 Tryz.prog Tryz.laysSlE041_f49_ren := {
  mixed := by kernel_rfl
  f41 := ⟨Tryz.f49.name, by decide, Tryz.func49.trans (congrArg some (by kernel_rfl))⟩
  t4 := Tryz.underlying4
  a4 := Tryz.isAgg4
  z4 := Tryz.sizeOf4
  v4 := Tryz.zeroValue4
  t22 := Tryz.underlying22
  a22 := Tryz.isAgg22
  z22 := Tryz.sizeOf22
  v22 := Tryz.zeroValue22 }
open Go.RowKit Go.Lib in
theorem Tryz.slices_Clone49_nil (n c : Nat) (w : World) :
    Calls Tryz.prog 49 #[.slice none n c] w fun e w' => e = .returned (.slice none 0 0) ∧ w' = w := AnyE.slices_Clone_nil Tryz.laysSlE041_f49 n c w
end Go.Proofs
namespace Go.Proofs.YtpnhelcemodnmaaGreat
open Go.RowKit Go.Shelf Go.Proofs.YtpnhelcemodnmaaGreatW.PrintWords Go.Proofs.YtpnhelcemodnmaaGreatW.PrintLast Go.Proofs.YtpnhelcemodnmaaGreatW.PrintMore PA
set_option linter.unusedVariables false
set_option linter.unusedSimpArgs false
attribute [local go_sem] Oper.semAt_some
theorem R_z {α : Type} (d : Kd α) (e : Nat) (w : World) : d.R e (w.alloc (.cells #[] e)) w.heap.size (fun _ => True) (.slice (some ⟨w.heap.size, 0, none⟩) 0 0) [] :=
  ⟨fun _ _ => trivial, [], World.ownsRow_lit (e := e) (size := d.sz) w #[] 0 (Nat.le_refl _) (Nat.zero_le _) (by simp), Reps.none _ _⟩
theorem none_nil {α : Type} {d : Kd α} {w : World} {l : List α} (hC : d.C w none l.length l) : l = [] := by
  rcases Nat.eq_zero_or_pos l.length with h | h
  · exact List.eq_nil_of_length_eq_zero h
  · obtain ⟨_, e, _⟩ := hC.2.2 h
    cases e
set_option maxRecDepth 100000 in
set_option maxHeartbeats 1000000 in
theorem cloneInt (l : List Int) (A : Option Addr) (c : Nat) (w : World) (hC : (Kd.int .i64).C w A l.length l) (hn : l.length * 8 ≤ 140737488355328) :
    Calls Tryz.prog 96 #[.slice A l.length c] w fun e w' => ∃ v, e = .returned v ∧ (Kd.int .i64).R 3 w' w.heap.size (fun _ => True) v l ∧ Below w.heap.size w w' := by
  cases A with
  | none =>
    obtain rfl := none_nil hC
    refine (Tryz.slices_Clone96_nil _ _ w).mono ?_
    rintro e w' ⟨rfl, rfl⟩
    exact ⟨_, rfl, Kd.R_nil _ _ _ _ _, Below.refl _ _⟩
  | some ad =>
    have hF := Kd.C_alloc hC (.cells #[] 3)
    have hz := R_z (Kd.int .i64) 3 w
    have hsz : w.heap.size ≤ (w.alloc (.cells #[] 3)).heap.size := by simp
    have hn2 : (([] : List Int).length + l.length) * 8 ≤ 140737488355328 := by simpa using hn
    have q : ∀ (w : World) (n c : Nat), (binOp .eql 23 (.slice (some ad) n c) (.slice none 0 0)).run Tryz.prog w = .ok (.bool false) w := fun w n c => Lib.run_eql_slice_nil w 23 3 (some ad) n c 0 0 Tryz.underlying23
    go_enter Tryz.func96, Tryz.ntmps96
    go_wp2_with (at_builtin; refine Kd.R_append_rows (Kd.int .i64) (w0 := w) w.heap.size rfl _ _ 23 3 (.int .i64 0) 8 rfl Tryz.underlying23 info3 rfl (by decide) (by decide) _ _ l (some ad) l.length c (fun _ => True) (fun _ => False) rfl rfl hz hF (fun _ _ h => h) (fun _ h => h.elim) (fun _ _ => trivial) (below_alloc1 w _) hsz hn2 ?_)
    intro v1 w1 hN hb hg hat
    go_wp2
    go_ret
    exact ⟨_, rfl, hN, hb⟩
def sortI (l : List Int) : List Int := l.mergeSort fun x y => decide (x ≤ y)
theorem sortI_length (l : List Int) : (sortI l).length = l.length := List.length_mergeSort l
theorem sort_R {w : World} {base : Nat} {ok : Nat → Prop} {v : Value} {l : List Int} (h : (Kd.int .i64).R 3 w base ok v l) (hl : l.length < 4611686018427387904) :
    Calls Tryz.prog 73 #[v] w fun e w' => e = .returned (.tuple #[]) ∧ (Kd.int .i64).R 3 w' base ok v (sortI l) ∧ Kept w w' (fun k => some k = v.ownBlock) ∧ Below base w w' := by
  have ho := Kd.own_of_R h
  have hok := h.1
  by_cases hv : v = .slice none 0 0
  · subst hv
    have hl0 : l = [] := by
      rcases ho.2 with ⟨_, e⟩ | ⟨g, cap, cur, e, _⟩
      · cases l with
        | nil => rfl
        | cons a t => simp [encs] at e
      · cases e
    subst hl0
    refine (Any.slices_Sort_int_none Tryz.lays189 none 0 w).mono ?_
    rintro e w' ⟨rfl, rfl⟩
    exact ⟨rfl, by rw [show sortI [] = [] by simp [sortI]]; exact Kd.R_nil _ _ _ _ _, Kept.refl _ _, Below.refl _ _⟩
  · obtain ⟨g, cap, rfl, hbg, hlt, hn, hm, hzl, hH⟩ := Lib.holds_of_ownsRow ho hv
    refine (Tryz.slices_Sort_int g 0 cap l w hH hlt hl).mono ?_
    rintro e w' ⟨rfl, n, os, rfl⟩
    have hup := Lib.ownsRow_putRow (q := n) (k := l.length) (ys := sortI l) ho (sortI_length l) (Nat.le_refl _)
    have hbp := Lib.below_putRow (q := n) (d := (sortI l).toArray) (Below.refl base w) hbg (enc := Value.int .i64)
    have hgrow : ∀ (X : World) (k : Nat), k < X.heap.size → (Sort.grow X os).heap[k]? = X.heap[k]? := fun X k hk => by simp [Sort.grow, Array.getElem?_append, hk]
    have hsz : (Sort.putRow (Value.int .i64) (Sort.ahead w n) g 0 (sortI l).toArray).heap.size = w.heap.size := by simp [Sort.putRow, Sort.mapBlock, Sort.ahead]
    have hb2 : Below w.heap.size (Sort.putRow (Value.int .i64) (Sort.ahead w n) g 0 (sortI l).toArray) (Sort.grow (Sort.putRow (Value.int .i64) (Sort.ahead w n) g 0 (sortI l).toArray) os) :=
      ⟨rfl, rfl, rfl, by simp [Sort.grow], fun k hk => hgrow _ k (by rw [hsz]; exact hk)⟩
    refine ⟨rfl, ?_, ⟨by show w.heap.size ≤ ((Sort.putRow (Value.int .i64) (Sort.ahead w n) g 0 (sortI l).toArray).heap ++ os).size; rw [Array.size_append, hsz]; omega, fun k hk hne => ?_⟩, hbp.trans (hb2.mono (Nat.le_trans hbg (Nat.le_of_lt hlt)))⟩
    · refine Kd.R_below (Kd.R_of_own ?_ hok) (by rw [hsz]; exact hb2)
      have hup2 := hup
      rw [List.take_of_length_le (by rw [sortI_length]; exact Nat.le_refl _)] at hup2
      rw [sortI_length]
      exact hup2
    · show (Sort.grow (Sort.putRow (Value.int .i64) (Sort.ahead w n) g 0 (sortI l).toArray) os).heap[k]? = w.heap[k]?
      rw [hgrow _ k (by rw [hsz]; exact hk)]
      have : g ≠ k := fun e => hne (by subst e; rfl)
      simp [Sort.putRow, Sort.mapBlock, Sort.ahead, Array.getElem?_modify, this]
end Go.Proofs.YtpnhelcemodnmaaGreat
namespace Go.Proofs.YtpnhelcemodnmaaGreat
open Go.RowKit Go.Shelf Go.Proofs.YtpnhelcemodnmaaGreatW.PrintWords Go.Proofs.YtpnhelcemodnmaaGreatW.PrintLast Go.Proofs.YtpnhelcemodnmaaGreatW.PrintMore PA
set_option linter.unusedVariables false
set_option linter.unusedSimpArgs false
theorem take_at {P : Program} {md : Region.Mode} {ops : Array Oper} {Q : Exit → Act → World → Prop} {S : World → Prop} {i : Nat} {oi : Oper} {fuel : Nat} {listed : Array Bool} {t : Array Value} {df : List Deferred} {w : World} (d : Nat) (v : Value) (hi : ops[i]? = some oi) (hd : oi.dst = some d)
    (hs : Region.noSelect ops = true) (hf : Region.free md ops listed i = true) (hr : (Region.ready md ops listed).contains i = true)
    (hQ : ∀ c a w, Q (.panic c) (a.put oi.dst v) w → Q (.panic c) a w) (hy : YieldsIf P ops S oi v { tmps := t, defers := df }) (hS : S w)
    (h : wpAnyH P md ops Q S fuel (listed.setIfInBounds i true) { tmps := t.setIfInBounds d v, defers := df } w) : wpAnyH P md ops Q S (fuel + 1) listed { tmps := t, defers := df } w := by
  refine wpAnyH_take hi hs hf hr hQ hy hS ?_
  rw [hd]
  exact h
theorem oper_build1 {P : Program} {o : Oper} {a : Act} {w : World} {K : Act → World → Prop} {Q : Exit → Act → World → Prop} {t e : Nat} (x : Operand) (ho : o.op = .buildSlice t 1 #[(0, x)]) {u : Value} {C : Array Value} (hx : a.eval x = u)
    (hz : (Instr.buildSlice t 1 #[(0, u)]).run P w = .ok (.slice (some ⟨w.heap.size, 0, none⟩) 1 1) (w.alloc (.cells C e)))
    (h : K (a.put o.dst (.slice (some ⟨w.heap.size, 0, none⟩) 1 1)) (w.alloc (.cells C e))) : Oper.wp P o a w K Q := by
  have e : (#[(0, x)].map fun (i, x) => (i, a.eval x)) = #[(0, u)] := by simp [hx]
  unfold Oper.wp execOp
  simp only [ho, Sem.run_bind, e, hz, Result.andThen_ok, Sem.run_pure]
  exact h
theorem one_row {α : Type} {R : α → List Value → Prop} {sz : Nat} {w : World} {n : Nat} {t : TypeId} {C : Array Value} {p : α} (hb : w.heap[n]? = some (.cells C t (0, 0))) (hs : C.size = sz) (hp : R p C.toList) : ReadsRow R sz w (some ⟨n, 0, none⟩) 1 [p] := by
  refine ⟨rfl, by omega, fun _ => ⟨_, rfl, fun j q hj => ?_⟩⟩
  cases j with
  | zero =>
    obtain rfl : p = q := by simpa using hj
    refine ⟨C.toList, by rw [Array.length_toList, hs], hp, fun i u hu => ?_⟩
    rw [Array.getElem?_toList] at hu
    rw [Addr.add_lit]
    exact ((by simp only [Nat.zero_mul, Nat.zero_add]; exact blk_cell hb i) : w.cell? ⟨n, 0 + (0 * sz + i), none⟩ = C[i]?).trans hu
  | succ j => simp at hj
theorem build26 (x : Int) (p : Option Addr) (k c : Nat) (w : World) : (Instr.buildSlice 26 1 #[(0, .agg #[.int .i64 x, .slice p k c])]).run Tryz.prog w = .ok (.slice (some ⟨w.heap.size, 0, none⟩) 1 1) (w.alloc (.cells #[.int .i64 x, .slice p k c] 64)) := by kernel_rfl
theorem build64 (x : Int) (p : Option Addr) (k c : Nat) (w : World) : (Instr.build 64 #[(0, .int .i64 x), (1, .slice p k c)]).run Tryz.prog w = .ok (.agg #[.int .i64 x, .slice p k c]) w := by kernel_rfl
theorem push_ready {w W0 w1 : World} {u r : Value} {us : List Int} {rs : List S64} {cA : Option Addr} {cc : Nat} {v : Int} {g : List Int} (HU : (Kd.int .i64).R 3 W0 w.heap.size (fun _ => True) u us) (HR : k64.R 64 W0 w.heap.size (fun k => True ∧ some k ≠ u.ownBlock) r rs) (HB : Below w.heap.size w W0)
    (hcv : (Kd.int .i64).R 3 w1 W0.heap.size (fun _ => True) (.slice cA g.length cc) g) (hcb : Below W0.heap.size W0 w1) :
    k64.R 64 (w1.alloc (.cells #[.int .i64 v, .slice cA g.length cc] 64)) w.heap.size (fun k => True ∧ some k ≠ u.ownBlock) r rs ∧
    ReadsRow (k64.M (w1.alloc (.cells #[.int .i64 v, .slice cA g.length cc] 64)) w.heap.size (fun k => W0.heap.size ≤ k)) 2 (w1.alloc (.cells #[.int .i64 v, .slice cA g.length cc] 64)) (some ⟨w1.heap.size, 0, none⟩) 1 [⟨v, g⟩] ∧
    (∀ k, W0.heap.size ≤ k → (True ∧ some k ≠ u.ownBlock) ∧ some k ≠ r.ownBlock) ∧ (∀ k, (w1.alloc (.cells #[.int .i64 v, .slice cA g.length cc] 64)).heap.size ≤ k → True ∧ some k ≠ u.ownBlock) ∧
    Below w.heap.size w (w1.alloc (.cells #[.int .i64 v, .slice cA g.length cc] 64)) ∧ (Kd.int .i64).R 3 (w1.alloc (.cells #[.int .i64 v, .slice cA g.length cc] 64)) w.heap.size (fun _ => True) u us := by
  have hs1 := hcb.size
  have hs0 := HB.size
  have hlu := Kd.R_lt HU
  have hlr := Kd.R_lt HR
  have hbb : Below W0.heap.size W0 (w1.alloc (.cells #[.int .i64 v, .slice cA g.length cc] 64)) := hcb.alloc hs1 _
  have hcA := Kd.R_below hcv (below_alloc1 w1 (.cells #[.int .i64 v, .slice cA g.length cc] 64))
  refine ⟨Kd.R_below HR hbb, one_row (blk_new w1 _) rfl (k64_mkM _ _ _ (⟨v, g⟩ : S64) (Kd.R_lower (Kd.R_mono (Kd.R_bound hcA) fun k hk => hk.2.1) hs0)), fun k hk => ⟨⟨trivial, fun e => ?_⟩, fun e => ?_⟩, fun k hk => ⟨trivial, fun e => ?_⟩, HB.trans (hbb.mono hs0), Kd.R_below HU hbb⟩
  · have := hlu k e.symm; omega
  · have := hlr k e.symm; omega
  · have := hlu k e.symm; simp at hk; omega
theorem addr_add0 (a : Addr) : a.add 0 = a := by cases a; rfl
theorem exec_sliceTo {P : Program} {o : Oper} {W : World} (ρ : Operand → Value) (ty e : TypeId) (s : Nat) (x y : Operand) (ho : o.op = .slice ty x none (some y) none) (p : Option Addr) (k c hi : Nat) (hx : ρ x = .slice p k c) (hy : ρ y = .int .i64 (hi : Int))
    (hu : P.underlying ty = some (.slice e)) (hs : (P.info? e).map (·.size) = some s) (hk : hi ≤ c) :
    (execOp ρ o).run P W = .ok (.value (.slice p hi c)) W := by
  have hu' := run_underlying (P := P) (w := W) hu
  obtain ⟨i, hi', hs'⟩ := Option.map_eq_some_iff.1 hs
  have hk2 : (hi : Int) ≤ (c : Int) := by omega
  unfold execOp
  simp [ho, hx, hy, Instr.sliceAt, Instr.slice, Instr.sliceBounds, Instr.sliceBound, hu', sizeOf, typeInfo, hi', hs', asIntOf, hk, go_sem]
  try (intro _; cases p <;> simp [addr_add0])
theorem exec_sliceFrom {P : Program} {o : Oper} {W : World} (ρ : Operand → Value) (ty e : TypeId) (s : Nat) (x y : Operand) (ho : o.op = .slice ty x (some y) none none) (p : Option Addr) (k c lo : Nat) (hx : ρ x = .slice p k c) (hy : ρ y = .int .i64 (lo : Int))
    (hu : P.underlying ty = some (.slice e)) (hs : (P.info? e).map (·.size) = some s) (hk : lo ≤ k) :
    (execOp ρ o).run P W = .ok (.value (.slice (if c = lo then p else p.map (·.add (lo * s))) (k - lo) (c - lo))) W := by
  have hu' := run_underlying (P := P) (w := W) hu
  obtain ⟨i, hi', hs'⟩ := Option.map_eq_some_iff.1 hs
  have hk2 : (lo : Int) ≤ (k : Int) := by omega
  unfold execOp
  simp [ho, hx, hy, Instr.sliceAt, Instr.slice, Instr.sliceBounds, Instr.sliceBound, hu', sizeOf, typeInfo, hi', hs', asIntOf, hk, go_sem]
end Go.Proofs.YtpnhelcemodnmaaGreat
namespace Go.Proofs.YtpnhelcemodnmaaGreat
open Go.RowKit Go.Shelf Go.Proofs.YtpnhelcemodnmaaGreatW.PrintWords Go.Proofs.YtpnhelcemodnmaaGreatW.PrintLast Go.Proofs.YtpnhelcemodnmaaGreatW.PrintMore PA
set_option linter.unusedVariables false
set_option linter.unusedSimpArgs false
attribute [local go_sem] Oper.semAt_some
theorem pages_append (a b : List S64) : pagesOf (a ++ b) = pagesOf a ++ pagesOf b := by simp [pagesOf, flat_append]
theorem pages_one (x : S64) : pagesOf [x] = x.f1 := by simp [pagesOf, flat, List.map_map, Function.comp_def]
def lowL (o : Int) (l : List S64) : List S64 := l.filter fun f => decide (f.f0 < o)
def hiL (o : Int) (l : List S64) : List S64 := l.filter fun f => !decide (f.f0 < o)
theorem low_snoc (o : Int) (l : List S64) (x : S64) : lowL o (l ++ [x]) = lowL o l ++ if x.f0 < o then [x] else [] := by
  unfold lowL; rw [List.filter_append]; by_cases h : x.f0 < o <;> simp [h]
theorem hi_snoc (o : Int) (l : List S64) (x : S64) : hiL o (l ++ [x]) = hiL o l ++ if x.f0 < o then [] else [x] := by
  unfold hiL; rw [List.filter_append]; by_cases h : x.f0 < o <;> simp [h]
theorem take_rd (l : List S64) (i : Nat) (h : i < l.length) : l.take (i + 1) = l.take i ++ [rd_T64 l (i : Int)] := by
  rw [List.take_succ_eq_append_getElem h, rd_nat l i h]
theorem pages_low_le (o : Int) (l : List S64) : (pagesOf (lowL o l)).length ≤ (pagesOf l).length := by
  induction l with
  | nil => simp [lowL]
  | cons a t ih =>
    rw [show a :: t = [a] ++ t from rfl, show lowL o ([a] ++ t) = lowL o [a] ++ lowL o t from List.filter_append .., pages_append, pages_append]
    simp only [List.length_append]
    have : (pagesOf (lowL o [a])).length ≤ (pagesOf [a]).length := by
      unfold lowL
      by_cases h : a.f0 < o <;> simp [h, pagesOf, flat]
    omega
theorem pages_take_le (l : List S64) (k : Nat) : (pagesOf (l.take k)).length ≤ (pagesOf l).length := by
  conv => rhs; rw [← List.take_append_drop k l, pages_append, List.length_append]
  omega
set_option maxRecDepth 100000 in
set_option maxHeartbeats 4000000 in
theorem split_any (l : List S64) (o : Int) (A : Option Addr) (c : Nat) (w : World) (hC : k64.C w A l.length l) (hc : l.length ≤ c) (hl : l.length ≤ 1000000) (hpg : (pagesOf l).length ≤ 1000000) :
    Calls Tryz.prog 69 #[.slice A l.length c, .int .i64 o] w fun e w' => ∃ u r, e = .returned (.tuple #[u, r]) ∧ (Kd.int .i64).R 3 w' w.heap.size (fun _ => True) u (sortI (pagesOf (lowL o l))) ∧
      k64.R 64 w' w.heap.size (fun k => True ∧ some k ≠ u.ownBlock) r (hiL o l) ∧ Below w.heap.size w w' := by
  go_enter Tryz.func69, Tryz.ntmps69
  go_wp2
  go_loopw [4, 5, 10] (fun u r i wr => ∃ k : Nat, k ≤ l.length ∧ i = .int .i64 k ∧ (Kd.int .i64).R 3 wr w.heap.size (fun _ => True) u (pagesOf (lowL o (l.take k))) ∧
      k64.R 64 wr w.heap.size (fun k => True ∧ some k ≠ u.ownBlock) r (hiL o (l.take k)) ∧ Below w.heap.size w wr)
    (fun _ _ i _ => l.length - (intOf i).toNat)
  case atStart => exact ⟨0, Nat.zero_le _, rfl, Kd.R_nil _ _ _ _ _, Kd.R_nil _ _ _ _ _, Below.refl _ _⟩
  case round =>
    obtain ⟨k, hk, rfl, HU, HR, hB⟩ := hrel
    have HU := Aside0.mk HU
    have HR := Aside0.mk HR
    by_cases hlt : k < l.length
    · obtain ⟨ad, A1, c1, rfl, hx0, hx1, hl1, hC1⟩ := at_T64 (Kd.C_below hC hB) (k : Int) (by omega) (by omega)
      rw [Int.toNat_natCast] at hx0 hx1
      have HT := Lib.hid (take_rd l k hlt)
      obtain ⟨v, hv⟩ : ∃ v, v = (rd_T64 l (k : Int)).f0 := ⟨_, rfl⟩
      obtain ⟨g, hg⟩ : ∃ g, g = (rd_T64 l (k : Int)).f1 := ⟨_, rfl⟩
      rw [← hv] at hx0
      rw [← hg] at hx1 hl1 hC1
      have HV := Lib.hid hv
      have HG := Lib.hid hg
      clear hv hg
      by_cases hvo : v < o
      · have HS := Lib.hid (show pagesOf (lowL o (l.take (k + 1))) = pagesOf (lowL o (l.take k)) ++ g by rw [HT.out, low_snoc, pages_append, ← HV.out, if_pos hvo, pages_one, ← HG.out])
        have HS2 := Lib.hid (show hiL o (l.take (k + 1)) = hiL o (l.take k) by rw [HT.out, hi_snoc, ← HV.out, if_pos hvo, List.append_nil])
        have hbd : ((pagesOf (lowL o (l.take k))).length + g.length) * 8 ≤ 140737488355328 := by
          have h1 := pages_low_le o (l.take (k + 1))
          have h2 := pages_take_le l (k + 1)
          rw [HS.out, List.length_append] at h1
          omega
        have HBD := Aside0.mk hbd
        have HCA := Aside0.mk (Kd.C_alloc hC1 (.cells #[.int .i64 v, .slice A1 g.length c1] 64))
        have HUA := Aside0.mk (Kd.R_below HU.out (below_alloc1 wr (.cells #[.int .i64 v, .slice A1 g.length c1] 64)))
        have HRA := Aside0.mk (Kd.R_below HR.out (below_alloc1 wr (.cells #[.int .i64 v, .slice A1 g.length c1] 64)))
        have HBA := Aside0.mk (hB.alloc hB.size (.cells #[.int .i64 v, .slice A1 g.length c1] 64))
        clear hbd hC1
        go_wp2_with (at_builtin; refine Kd.R_append_rows (Kd.int .i64) (w0 := w) w.heap.size rfl (.tmp 18) (.tmp 20) 23 3 (.int .i64 0) 8 rfl Tryz.underlying23 info3 rfl (by decide) (by decide) _ _ g _ _ _ (fun _ => True) (fun _ => False) rfl rfl HUA.out HCA.out (fun _ _ h => h) (fun _ h => h.elim) (fun _ _ => trivial) HBA.out HBA.out.size HBD.out ?_; intro u1 w1 hu1 hb1 hg1 hat1)
        go_roundw
        case rel =>
          refine ⟨k + 1, by omega, by go_num, ?_, ?_, hb1⟩
          · rw [HS.out]; exact hu1
          · rw [HS2.out]; exact Kd.R_after HRA.out hg1 hat1
        case measure => simp [intOf]; omega
      · have HS := Lib.hid (show pagesOf (lowL o (l.take (k + 1))) = pagesOf (lowL o (l.take k)) by rw [HT.out, low_snoc, ← HV.out, if_neg hvo, List.append_nil])
        have HS2 := Lib.hid (show hiL o (l.take (k + 1)) = hiL o (l.take k) ++ [⟨v, g⟩] by rw [HT.out, hi_snoc, ← HV.out, if_neg hvo, HV.out, HG.out])
        go_upto_region 6 with (fail)
        have HCA := Aside0.mk (Kd.C_alloc hC1 (.cells #[.int .i64 v, .slice A1 g.length c1] 64))
        have HUA := Aside0.mk (Kd.R_below HU.out (below_alloc1 wr (.cells #[.int .i64 v, .slice A1 g.length c1] 64)))
        have HRA := Aside0.mk (Kd.R_below HR.out (below_alloc1 wr (.cells #[.int .i64 v, .slice A1 g.length c1] 64)))
        have HBA := Aside0.mk (hB.alloc hB.size (.cells #[.int .i64 v, .slice A1 g.length c1] 64))
        have hfb := blk_new wr (.cells #[.int .i64 v, .slice A1 g.length c1] 64)
        obtain ⟨W0, hW0⟩ : ∃ W0, wr.alloc (.cells #[.int .i64 v, .slice A1 g.length c1] 64) = W0 := ⟨_, rfl⟩
        rw [hW0] at HCA HUA HRA HBA hfb ⊢
        have hcc0 : W0.cell? ⟨wr.heap.size, 0, none⟩ = some (.int .i64 v) := (blk_cell hfb 0).trans rfl
        have hcc1 : W0.cell? ⟨wr.heap.size, 1, none⟩ = some (.slice A1 g.length c1) := (blk_cell hfb 1).trans rfl
        have hsz0 : W0.heap.size = wr.heap.size + 1 := by rw [← hW0]; simp
        obtain ⟨Bf, hBf⟩ : ∃ Bf, wr.heap.size = Bf := ⟨_, rfl⟩
        have HRO := HR
        rw [hBf] at hcc0 hcc1 hsz0 hfb ⊢
        clear hW0 hx0 hx1 hC1 HU HR hB
        have hg8 : g.length * 8 ≤ 140737488355328 := by
          have h1 := pages_take_le l (k + 1)
          rw [HT.out, pages_append, List.length_append, pages_one, ← HG.out] at h1
          omega
        have HG8 := Aside0.mk hg8
        clear hg8
        have hne : some Bf ≠ u5.ownBlock := fun e => by have := Kd.R_lt HRO.out _ e.symm; omega
        have HNE := Aside0.mk hne
        have hrl : ((hiL o (l.take k)).length + 1) * 32 ≤ 140737488355328 := by
          have : (hiL o (l.take k)).length ≤ (l.take k).length := List.length_filter_le _ _
          rw [List.length_take] at this
          omega
        have HRL := Aside0.mk hrl
        clear hne hrl
        refine wp_region_held_drew (S := fun W => W.heap[Bf]? = some (.cells #[.int .i64 v, .slice A1 g.length c1] 64 (0, 0))) (by kernel_rfl) (hfb) (fun hS => ?_)
        simp only [List.size_toArray, List.length_cons, List.length_nil, Nat.reduceAdd, Array.replicate_succ, Array.replicate_zero, List.push_toArray, List.nil_append, List.cons_append]
        refine take_at (i := 0) 22 (u5) rfl rfl (by kernel_rfl) (by kernel_rfl) (by kernel_rfl) (fun _ _ _ h => h) (Or.inl ⟨by rfl, fun W hW => by go_simp⟩) hS ?_
        try simp only [List.setIfInBounds_toArray, List.set_cons_zero, List.set_cons_succ]
        refine take_at (i := 1) 23 (.pointer (some ⟨Bf, 0, none⟩)) rfl rfl (by kernel_rfl) (by kernel_rfl) (by kernel_rfl) (fun _ _ _ h => h) (Or.inl ⟨by rfl, fun W hW => by go_simp⟩) hS ?_
        try simp only [List.setIfInBounds_toArray, List.set_cons_zero, List.set_cons_succ]
        refine take_at (i := 2) 24 (.int .i64 v) rfl rfl (by kernel_rfl) (by kernel_rfl) (by kernel_rfl) (fun _ _ _ h => h) (Or.inl ⟨by rfl, fun W hW => by have h0 : W.cell? ⟨Bf, 0, none⟩ = some (.int .i64 v) := (blk_cell hW 0).trans rfl; go_simp⟩) hS ?_
        try simp only [List.setIfInBounds_toArray, List.set_cons_zero, List.set_cons_succ]
        refine take_at (i := 3) 25 (.pointer (some ⟨Bf, 1, none⟩)) rfl rfl (by kernel_rfl) (by kernel_rfl) (by kernel_rfl) (fun _ _ _ h => h) (Or.inl ⟨by rfl, fun W hW => by go_simp⟩) hS ?_
        try simp only [List.setIfInBounds_toArray, List.set_cons_zero, List.set_cons_succ]
        refine take_at (i := 4) 26 (.slice A1 g.length c1) rfl rfl (by kernel_rfl) (by kernel_rfl) (by kernel_rfl) (fun _ _ _ h => h) (Or.inl ⟨by rfl, fun W hW => by have h0 : W.cell? ⟨Bf, 1, none⟩ = some (.slice A1 g.length c1) := (blk_cell hW 1).trans rfl; go_simp⟩) hS ?_
        try simp only [List.setIfInBounds_toArray, List.set_cons_zero, List.set_cons_succ]
        refine wpAnyH_ready (rs := [5]) (by kernel_rfl) (by simp) ?_
        refine AllReadyH.cons rfl (fun K hK => ?_) AllReadyH.nil
        go_simp
        refine (cloneInt g A1 c1 _ (Kd.C_drew HCA.out) HG8.out).mono ?_
        rintro e w1 ⟨cv, rfl, hcv, hcb⟩
        obtain ⟨cA, cc, rfl⟩ := Kd.R_slice hcv
        refine hK.out _ _ (blk_below hS hcb) (fun hS => ?_)
        clear hK K
        try simp only [Act.put, List.getElem_toArray, List.getElem_cons_succ, List.getElem_cons_zero, List.setIfInBounds_toArray, List.set_cons_zero, List.set_cons_succ]
        refine take_at (i := 6) 28 (.agg #[.int .i64 v, .slice cA g.length cc]) rfl rfl (by kernel_rfl) (by kernel_rfl) (by kernel_rfl) (fun _ _ _ h => h) (Or.inl ⟨by rfl, fun W hW => by have h0 := build64 v cA g.length cc W; go_simp⟩) hS ?_
        try simp only [List.setIfInBounds_toArray, List.set_cons_zero, List.set_cons_succ]
        refine wpAnyH_ready (rs := [7]) (by kernel_rfl) (by simp) ?_
        refine AllReadyH.cons rfl (fun K hK => ?_) AllReadyH.nil
        rw [if_pos (by rfl)]
        refine oper_build1 (.tmp 28) rfl rfl (build26 v cA g.length cc _) ?_
        refine hK.out _ _ (blk_alloc hS _) (fun hS => ?_)
        clear hK K
        try simp only [Act.put, List.getElem_toArray, List.getElem_cons_succ, List.getElem_cons_zero, List.setIfInBounds_toArray, List.set_cons_zero, List.set_cons_succ]
        refine wpAnyH_ready (rs := [8]) (by kernel_rfl) (by simp) ?_
        refine AllReadyH.cons rfl (fun K hK => ?_) AllReadyH.nil
        obtain ⟨p1, p2, p3, p4, p5, p6⟩ := push_ready (w := w) (W0 := W0.drew) (v := v) (Kd.R_drew HUA.out) (Kd.R_drew HRA.out) HBA.out.drew hcv hcb
        refine Kd.R_append_rows_step k64 (w0 := w) w.heap.size (by rfl) (.tmp 22) (.tmp 29) 26 64 (.agg #[.int .i64 0, .slice none 0 0]) 32 rfl Tryz.underlying26 info64 rfl (by decide) (by decide) u5 (hiL o (l.take k)) [⟨v, g⟩] _ 1 1 (fun k => True ∧ some k ≠ u4.ownBlock) (fun k => W0.drew.heap.size ≤ k) rfl rfl p1 p2 (fun _ _ h => h) p3 p4 p5 p5.size HRL.out ?_
        intro r1 w9 hr1 hb1 hg1 hat1
        refine hK.out _ _ (blk_grown hS hg1 HNE.out) (fun hS => ?_)
        clear hK K
        try simp only [Act.put, List.getElem_toArray, List.getElem_cons_succ, List.getElem_cons_zero, List.setIfInBounds_toArray, List.set_cons_zero, List.set_cons_succ]
        refine take_at (i := 9) 5 (r1) rfl rfl (by kernel_rfl) (by kernel_rfl) (by kernel_rfl) (fun _ _ _ h => h) (Or.inl ⟨by rfl, fun W hW => by go_simp⟩) hS ?_
        try simp only [List.setIfInBounds_toArray, List.set_cons_zero, List.set_cons_succ]
        refine wpAnyH_done (by kernel_rfl) ?_ _
        clear hS
        go_wp2
        go_roundw
        case rel => exact ⟨k + 1, by omega, by go_num, by rw [HS.out]; exact Kd.R_grown2 p6 rfl hg1 (fun q e => (p1.1 q e).2), by rw [HS2.out]; exact hr1, hb1⟩
        case measure => simp [intOf]; omega
    · obtain rfl : k = l.length := by omega
      rw [List.take_length] at HU HR
      have hbig : (pagesOf (lowL o l)).length < 4611686018427387904 := by have := pages_low_le o l; omega
      have HS := Lib.hid (sort_R HU.out hbig)
      clear hbig
      go_wp2_with (go_at_call 73; (with_reducible refine HS.out.mono ?_); rintro e w2 ⟨rfl, hu2, hk2, hb2⟩)
      go_ret2
      exact ⟨_, _, rfl, hu2, Kd.R_kept HR.out hk2 (fun k hk => hk.2), hB.trans hb2⟩
end Go.Proofs.YtpnhelcemodnmaaGreat
namespace Go.Proofs.YtpnhelcemodnmaaGreat.PA
open Go.RowKit Go.Proofs.YtpnhelcemodnmaaGreatW.PrintWords Go.Proofs.YtpnhelcemodnmaaGreatW.PrintLast Go.Proofs.YtpnhelcemodnmaaGreatW.PrintMore
attribute [local go_sem] max2_int min2_int max_two min_two max_three min_three max_four min_four
set_option linter.unusedVariables false
set_option linter.unusedSimpArgs false
mutual
def space_tail.j0 : Nat → List (S64) → Int → Bool → Option (Int)
  | 0, _, _, _ => none
  | k + 1, x0, x1, x15 => if x15 = true then (some x1) else (if 0 < (x0.length : Int) then (space_tail.l0 k x0 x1 (wrap64 ((((rd_T64 x0 0).f1).length : Int) - 1))) else (none))
def space_tail.l0 : Nat → List (S64) → Int → Int → Option (Int)
  | 0, _, _, _ => none
  | k + 1, x0, x1, x5 => if x5 ≥ 0 then (if 0 < (x0.length : Int) then (if 0 ≤ x5 then (if x5 < (((rd_T64 x0 0).f1).length : Int) then (if (rd ((rd_T64 x0 0).f1) x5) = (wrap64 (x1 - 1)) then (space_tail.l0 k x0 (wrap64 (x1 - 1)) (wrap64 (x5 - 1))) else (some x1)) else (none)) else (none)) else (none)) else (some x1)
end
def space_tail.f (k : Nat) (l0 : List (S64)) (a1 : Int) : Option (Int) := if (l0.length : Int) = 0 then (space_tail.j0 k l0 a1 true) else (if 0 < (l0.length : Int) then (space_tail.j0 k l0 a1 (((rd_T64 l0 0).f0) != 0)) else (none))
theorem space_tail.mono_l : ∀ k, (∀ y0 y1 y2, LeO (space_tail.j0 k y0 y1 y2) (space_tail.j0 (k + 1) y0 y1 y2)) ∧ (∀ y0 y1 y2, LeO (space_tail.l0 k y0 y1 y2) (space_tail.l0 (k + 1) y0 y1 y2))
  | 0 => ⟨fun _ _ _ r h => by simp [space_tail.j0] at h, fun _ _ _ r h => by simp [space_tail.l0] at h⟩
  | k + 1 => by
    obtain ⟨ih0, ih1⟩ := space_tail.mono_l k
    refine ⟨?_, ?_⟩
    · intro y0 y1 y2
      unfold space_tail.j0
      repeat' first
      | (with_reducible exact ih0 _ _ _)
      | (with_reducible exact ih1 _ _ _)
      | (with_reducible exact LeO.refl _)
      | (with_reducible exact LeO.none _)
      | (with_reducible refine LeO.ite ?_ ?_)
      | (with_reducible refine LeO.bind ?_ (fun _ => ?_))
      | exact ih0 _ _ _
      | exact ih1 _ _ _
      | exact LeO.none _
      | refine LeO.ite ?_ ?_
      | refine LeO.bind ?_ (fun _ => ?_)
    · intro y0 y1 y2
      unfold space_tail.l0
      repeat' first
      | (with_reducible exact ih0 _ _ _)
      | (with_reducible exact ih1 _ _ _)
      | (with_reducible exact LeO.refl _)
      | (with_reducible exact LeO.none _)
      | (with_reducible refine LeO.ite ?_ ?_)
      | (with_reducible refine LeO.bind ?_ (fun _ => ?_))
      | exact ih0 _ _ _
      | exact ih1 _ _ _
      | exact LeO.none _
      | refine LeO.ite ?_ ?_
      | refine LeO.bind ?_ (fun _ => ?_)
theorem space_tail.mono : ∀ a0 a1 k, LeO (space_tail.f k a0 a1) (space_tail.f (k + 1) a0 a1) := by
  intro a0 a1 k
  obtain ⟨ih0, ih1⟩ := space_tail.mono_l k
  unfold space_tail.f
  repeat' first
      | (with_reducible exact ih0 _ _ _)
      | (with_reducible exact ih1 _ _ _)
      | (with_reducible exact LeO.refl _)
      | (with_reducible exact LeO.none _)
      | (with_reducible refine LeO.ite ?_ ?_)
      | (with_reducible refine LeO.bind ?_ (fun _ => ?_))
      | exact ih0 _ _ _
      | exact ih1 _ _ _
      | exact LeO.none _
      | refine LeO.ite ?_ ?_
      | refine LeO.bind ?_ (fun _ => ?_)
set_option maxHeartbeats 8000000 in
set_option maxRecDepth 100000 in
theorem space_tail.calls (k : Nat) (A0 : Option Addr) (c0 : Nat) (l0 : List (S64)) (a1 : Int) (r : Int) (w : World) (hr0 : Kd.C k64 w A0 l0.length l0) (hc0 : l0.length ≤ c0) (h : space_tail.f k l0 a1 = some r) :
    Calls Tryz.prog 51 #[.slice A0 l0.length c0, .int .i64 a1] w fun e w' => e = .returned (.int .i64 r) ∧ Drawn0 w w' := by
  have HR0 := Aside0.mk hr0
  have HC0 := Aside0.mk hc0
  clear hr0 hc0
  have H : (if (l0.length : Int) = 0 then (space_tail.j0 k l0 a1 true) else (if 0 < (l0.length : Int) then (space_tail.j0 k l0 a1 (((rd_T64 l0 0).f0) != 0)) else (none))) = some r := h
  clear h
  have HC3 := Aside0.mk H
  clear H
  go_enter Tryz.func51, Tryz.ntmps51
  go_upto_region 1 with (fail)
  go_cut [15] (fun v15 wc => ∃ (kq : Nat) (x15_2 : Bool), v15 = .bool x15_2 ∧ Aside0 (space_tail.j0 kq l0 a1 x15_2 = some r) ∧ Aside0 (kq ≤ k) ∧ Drawn0 w wc)
  case first =>
    have H := HC3.out
    clear HC3
    by_cases c4 : (l0.length : Int) = 0
    · rw [if_pos c4] at H
      have c4b0 : ((l0.length : Int) == 0) = true := beq_iff_eq.mpr c4
      have c4b1 : ((l0.length : Int) != 0) = false := bne_eq_false_iff_eq.mpr c4
      clear c4
      (first | rw [c4b0] | (simp only [i64_w, i32_w]; rw [c4b0]) | skip)
      have H' := Aside0.mk H
      clear H
      go_wp2
      go_meet
      case rel => exact ⟨_, (true), (by first | rfl | (simp; done) | (simp [*]; done)), H', ⟨by first | omega | exact Nat.le_refl _⟩, by repeat (first | exact Drawn0.refl _ | apply Drawn0.step)⟩
    · rw [if_neg c4] at H
      have c4b0 : ((l0.length : Int) == 0) = false := beq_eq_false_iff_ne.mpr c4
      have c4b1 : ((l0.length : Int) != 0) = true := bne_iff_ne.mpr c4
      have c4b2 : ¬ (l0 = []) := fun h_ => c4 (by rw [h_]; rfl)
      (first | rw [c4b0] | (simp only [i64_w, i32_w]; rw [c4b0]) | skip)
      by_cases c5 : 0 < (l0.length : Int)
      · rw [if_pos c5] at H
        have c5b0 : decide (0 < (l0.length : Int)) = true := decide_eq_true c5
        have c5b1 : decide (0 < l0.length) = true := decide_eq_true (by omega)
        clear c5
        have H' := Aside0.mk H
        clear H
        have p123 : 0 ≤ (0 : Int) := (by omega)
        have q123 : 0 < (l0.length : Int) := of_decide_eq_true (by first | (with_reducible assumption) | assumption)
        obtain ⟨ad123, A123_1, c123_1, e123, hx123_0, hx123_1, hl123_1, hi123_1⟩ := at_T64 HR0.out 0 p123 q123
        cases e123
        have qi123 : (0 < l0.length) = True := eq_true (by omega)
        (try rw [show ((0 : Int)).toNat = 0 from rfl] at hx123_0)
        (try rw [show 0 * 2 = 0 from rfl] at hx123_0)
        (try rw [Addr.add_zero'] at hx123_0)
        (try rw [show ((0 : Int)).toNat = 0 from rfl] at hx123_1)
        (try rw [show 0 * 2 = 0 from rfl] at hx123_1)
        (try rw [Addr.add_zero'] at hx123_1)
        have HR123_1 := Aside0.mk hi123_1
        have HC123_1 := Aside0.mk hl123_1
        clear hi123_1 hl123_1
        replace p123 := eq_true p123
        replace q123 := eq_true q123
        go_wp2
        go_meet
        case rel => exact ⟨_, ((((rd_T64 l0 0).f0) != 0)), (by first | rfl | (simp; done) | (simp [*]; done)), H', ⟨by first | omega | exact Nat.le_refl _⟩, by repeat (first | exact Drawn0.refl _ | apply Drawn0.step)⟩
      · rw [if_neg c5] at H
        exact absurd H (by simp)
  case rest =>
    clear HC3
    try clear c1
    try clear p1
    try clear q1
    try clear hx1
    try clear qi1
    try clear p2
    try clear c4
    try clear c4b0
    try clear c4b1
    try clear c4b2
    try clear c5
    try clear c5b0
    try clear c5b1
    try clear hx123_0
    try clear hx123_1
    try clear p123
    try clear q123
    obtain ⟨kq, x15_2, rfl, HA, HJ2, ⟨mc2, rfl⟩⟩ := hcut
    cases kq with
    | zero => exact absurd HA.out (by simp [space_tail.j0])
    | succ kj2 =>
      have H := HA.out
      clear HA
      simp only [space_tail.j0] at H
      by_cases c6 : x15_2 = true
      · subst c6
        have H1 : (some a1) = some r := by rw [if_pos rfl] at H; exact H
        clear H
        have H := H1
        clear H1
        obtain rfl := Option.some.inj H
        go_wp2
        go_ret
        exact ⟨by first | rfl | (simp; done) | (simp [*]; done), by repeat (first | exact Drawn0.refl _ | apply Drawn0.step)⟩
      · replace c6 := Bool.eq_false_iff.mpr c6
        subst c6
        have H1 : (if 0 < (l0.length : Int) then (space_tail.l0 kj2 l0 a1 (wrap64 ((((rd_T64 l0 0).f1).length : Int) - 1))) else (none)) = some r := by rw [if_neg (show ¬ (false = true) by decide)] at H; exact H
        clear H
        have H := H1
        clear H1
        by_cases c7 : 0 < (l0.length : Int)
        · rw [if_pos c7] at H
          have c7b0 : decide (0 < (l0.length : Int)) = true := decide_eq_true c7
          have c7b1 : decide (0 < l0.length) = true := decide_eq_true (by omega)
          clear c7
          have H' := Aside0.mk H
          clear H
          have p124 : 0 ≤ (0 : Int) := (by omega)
          have q124 : 0 < (l0.length : Int) := of_decide_eq_true (by first | (with_reducible assumption) | assumption)
          obtain ⟨ad124, A124_1, c124_1, e124, hx124_0, hx124_1, hl124_1, hi124_1⟩ := at_T64 HR0.out 0 p124 q124
          cases e124
          have qi124 : (0 < l0.length) = True := eq_true (by omega)
          (try rw [show ((0 : Int)).toNat = 0 from rfl] at hx124_0)
          (try rw [show 0 * 2 = 0 from rfl] at hx124_0)
          (try rw [Addr.add_zero'] at hx124_0)
          (try rw [show ((0 : Int)).toNat = 0 from rfl] at hx124_1)
          (try rw [show 0 * 2 = 0 from rfl] at hx124_1)
          (try rw [Addr.add_zero'] at hx124_1)
          have HR124_1 := Aside0.mk hi124_1
          have HC124_1 := Aside0.mk hl124_1
          clear hi124_1 hl124_1
          replace p124 := eq_true p124
          replace q124 := eq_true q124
          go_wp2
          go_loopg [1, 5] kj2 (fun kq v1 v5 w' => ∃ (x1_2 : Int) (x5_2 : Int), v1 = .int .i64 x1_2 ∧ v5 = .int .i64 x5_2 ∧ Aside0 (space_tail.l0 kq l0 x1_2 x5_2 = some r) ∧ Aside0 (kq ≤ kj2) ∧ Drawn0 w w')
          case atStart => exact ⟨(a1), (wrap64 ((((rd_T64 l0 0).f1).length : Int) - 1)), (by first | rfl | (simp; done) | (simp [*]; done)), (by first | rfl | (simp; done) | (simp [*]; done)), H', ⟨Nat.le_refl _⟩, by repeat (first | exact Drawn0.refl _ | apply Drawn0.step)⟩
          case round =>
            clear H'
            try clear c1
            try clear p1
            try clear q1
            try clear hx1
            try clear qi1
            try clear c2
            try clear p2
            try clear c4
            try clear c4b0
            try clear c4b1
            try clear c4b2
            try clear c5
            try clear c5b0
            try clear c5b1
            try clear c6
            try clear p6
            try clear c7
            try clear c7b0
            try clear c7b1
            try clear hx123_0
            try clear hx123_1
            try clear hx124_0
            try clear hx124_1
            try clear p1
            try clear p123
            try clear p124
            try clear p2
            try clear q1
            try clear q123
            try clear q124
            obtain ⟨x1_2, x5_2, rfl, rfl, HA, HK2, ⟨m2, rfl⟩⟩ := hrel
            cases gk with
            | zero => exact absurd HA.out (by simp [space_tail.l0])
            | succ k2 =>
              have H := HA.out
              clear HA
              simp only [space_tail.l0] at H
              by_cases c8 : x5_2 ≥ 0
              · rw [if_pos c8] at H
                have c8b0 : decide (0 ≤ x5_2) = true := decide_eq_true c8
                clear c8
                by_cases c9 : 0 < (l0.length : Int)
                · rw [if_pos c9] at H
                  have c9b0 : decide (0 < (l0.length : Int)) = true := decide_eq_true c9
                  have c9b1 : decide (0 < l0.length) = true := decide_eq_true (by omega)
                  clear c9
                  by_cases c10 : 0 ≤ x5_2
                  · rw [if_pos c10] at H
                    have c10b0 : decide (0 ≤ x5_2) = true := decide_eq_true c10
                    clear c10
                    by_cases c11 : x5_2 < (((rd_T64 l0 0).f1).length : Int)
                    · rw [if_pos c11] at H
                      have c11b0 : decide (x5_2 < (((rd_T64 l0 0).f1).length : Int)) = true := decide_eq_true c11
                      clear c11
                      by_cases c12 : (rd ((rd_T64 l0 0).f1) x5_2) = (wrap64 (x1_2 - 1))
                      · rw [if_pos c12] at H
                        have c12b0 : ((rd ((rd_T64 l0 0).f1) x5_2) == (wrap64 (x1_2 - 1))) = true := beq_iff_eq.mpr c12
                        have c12b1 : ((rd ((rd_T64 l0 0).f1) x5_2) != (wrap64 (x1_2 - 1))) = false := bne_eq_false_iff_eq.mpr c12
                        clear c12
                        have H' := Aside0.mk H
                        clear H
                        have p125 : 0 ≤ (0 : Int) := (by omega)
                        have q125 : 0 < (l0.length : Int) := of_decide_eq_true (by first | (with_reducible assumption) | assumption)
                        obtain ⟨ad125, A125_1, c125_1, e125, hx125_0, hx125_1, hl125_1, hi125_1⟩ := at_T64 HR0.out 0 p125 q125
                        obtain rfl : ad124 = ad125 := (by injection e125)
                        have qi125 : (0 < l0.length) = True := eq_true (by omega)
                        (try rw [show ((0 : Int)).toNat = 0 from rfl] at hx125_0)
                        (try rw [show 0 * 2 = 0 from rfl] at hx125_0)
                        (try rw [Addr.add_zero'] at hx125_0)
                        (try rw [show ((0 : Int)).toNat = 0 from rfl] at hx125_1)
                        (try rw [show 0 * 2 = 0 from rfl] at hx125_1)
                        (try rw [Addr.add_zero'] at hx125_1)
                        have HR125_1 := Aside0.mk hi125_1
                        have HC125_1 := Aside0.mk hl125_1
                        clear hi125_1 hl125_1
                        replace p125 := eq_true p125
                        replace q125 := eq_true q125
                        have p126 : 0 ≤ (x5_2 : Int) := of_decide_eq_true (by first | (with_reducible assumption) | assumption)
                        have q126 : x5_2 < (((rd_T64 l0 0).f1).length : Int) := of_decide_eq_true (by first | (with_reducible assumption) | assumption)
                        obtain ⟨ad126, e126, hx126_0⟩ := Kd.at_int HR125_1.out x5_2 p126 q126
                        cases e126
                        replace p126 := eq_true p126
                        replace q126 := eq_true q126
                        go_wp2
                        go_roundg k2
                        case measure => have := HJ2.out; have := HK2.out; omega
                        case rel => exact ⟨(wrap64 (x1_2 - 1)), (wrap64 (x5_2 - 1)), (by first | rfl | (simp; done) | (simp [*]; done)), (by first | rfl | (simp; done) | (simp [*]; done)), H', ⟨by have := HJ2.out; have := HK2.out; omega⟩, by repeat (first | exact Drawn0.refl _ | apply Drawn0.step)⟩
                      · rw [if_neg c12] at H
                        have c12b0 : ((rd ((rd_T64 l0 0).f1) x5_2) == (wrap64 (x1_2 - 1))) = false := beq_eq_false_iff_ne.mpr c12
                        have c12b1 : ((rd ((rd_T64 l0 0).f1) x5_2) != (wrap64 (x1_2 - 1))) = true := bne_iff_ne.mpr c12
                        obtain rfl := Option.some.inj H
                        have p125 : 0 ≤ (0 : Int) := (by omega)
                        have q125 : 0 < (l0.length : Int) := of_decide_eq_true (by first | (with_reducible assumption) | assumption)
                        obtain ⟨ad125, A125_1, c125_1, e125, hx125_0, hx125_1, hl125_1, hi125_1⟩ := at_T64 HR0.out 0 p125 q125
                        obtain rfl : ad124 = ad125 := (by injection e125)
                        have qi125 : (0 < l0.length) = True := eq_true (by omega)
                        (try rw [show ((0 : Int)).toNat = 0 from rfl] at hx125_0)
                        (try rw [show 0 * 2 = 0 from rfl] at hx125_0)
                        (try rw [Addr.add_zero'] at hx125_0)
                        (try rw [show ((0 : Int)).toNat = 0 from rfl] at hx125_1)
                        (try rw [show 0 * 2 = 0 from rfl] at hx125_1)
                        (try rw [Addr.add_zero'] at hx125_1)
                        have HR125_1 := Aside0.mk hi125_1
                        have HC125_1 := Aside0.mk hl125_1
                        clear hi125_1 hl125_1
                        replace p125 := eq_true p125
                        replace q125 := eq_true q125
                        have p126 : 0 ≤ (x5_2 : Int) := of_decide_eq_true (by first | (with_reducible assumption) | assumption)
                        have q126 : x5_2 < (((rd_T64 l0 0).f1).length : Int) := of_decide_eq_true (by first | (with_reducible assumption) | assumption)
                        obtain ⟨ad126, e126, hx126_0⟩ := Kd.at_int HR125_1.out x5_2 p126 q126
                        cases e126
                        replace p126 := eq_true p126
                        replace q126 := eq_true q126
                        go_wp2
                        go_ret
                        exact ⟨by first | rfl | (simp; done) | (simp [*]; done), by repeat (first | exact Drawn0.refl _ | apply Drawn0.step)⟩
                    · rw [if_neg c11] at H
                      exact absurd H (by simp)
                  · rw [if_neg c10] at H
                    exact absurd H (by simp)
                · rw [if_neg c9] at H
                  exact absurd H (by simp)
              · rw [if_neg c8] at H
                have c8b0 : decide (0 ≤ x5_2) = false := decide_eq_false c8
                clear c8
                obtain rfl := Option.some.inj H
                go_wp2
                go_ret
                exact ⟨by first | rfl | (simp; done) | (simp [*]; done), by repeat (first | exact Drawn0.refl _ | apply Drawn0.step)⟩
        · rw [if_neg c7] at H
          exact absurd H (by simp)
def cmp_isNaN_int.f (a0 : Int) : Option (Bool) := some (a0 != a0)
def cmp_Less_int.f (a0 : Int) (a1 : Int) : Option (Bool) := (cmp_isNaN_int.f a0).bind fun t127 => (if t127 = true then ((cmp_isNaN_int.f a1).bind fun t128 => (if t128 = true then (some (decide (a0 < a1))) else (some true))) else (some (decide (a0 < a1))))
end Go.Proofs.YtpnhelcemodnmaaGreat.PA
namespace Go.Proofs.YtpnhelcemodnmaaGreat
open Go.RowKit Go.Shelf Go.Proofs.YtpnhelcemodnmaaGreatW.PrintWords Go.Proofs.YtpnhelcemodnmaaGreatW.PrintLast Go.Proofs.YtpnhelcemodnmaaGreatW.PrintMore PA
set_option linter.unusedVariables false
set_option linter.unusedSimpArgs false
attribute [local go_sem] Oper.semAt_some
theorem ret_int {k : IntKind} {a b : Int} (h : a = b) : Ending.returned (.int k a) = .returned (.int k b) := by rw [h]
def checkE (p : Int) (l : List S64) : Int := if 2 ≤ p ∧ p ≤ 4096 then (if validB p l = true then 0 else 2) else 1
set_option maxHeartbeats 1000000 in
theorem check_any (l : List S64) (p : Int) (A : Option Addr) (c : Nat) (w : World) (hC : k64.C w A l.length l) (hc : l.length ≤ c) :
    Calls Tryz.prog 28 #[.slice A l.length c, .int .i64 p] w fun e w' => e = .returned (.int .i64 (checkE p l)) ∧ Below w.heap.size w w' := by
  obtain ⟨n, hn⟩ : ∃ n, n = checkE p l := ⟨_, rfl⟩
  rw [← hn]
  have HN := Lib.hid hn
  clear hn
  by_cases h : 2 ≤ p ∧ p ≤ 4096
  · have HD := Lib.hid (decide_eq_true h)
    have HE := Lib.hid (show n = (if validB p l = true then 0 else 2) by rw [HN.out, checkE, if_pos h])
    have hv := fun (w1 : World) (hb : Below w.heap.size w w1) => valid_any l p A c w1 (Kd.C_below hC hb) hc
    have HV := Lib.hid hv
    obtain ⟨b, hb⟩ : ∃ b, validB p l = b := ⟨_, rfl⟩
    have HB := Lib.hid hb
    clear hv hb h
    cases b
    all_goals
      go_enter Tryz.func28, Tryz.ntmps28
      go_wp2_with (first | (go_at_call 46; (with_reducible refine (within_any p 2 4096 _).mono ?_); rintro e w' ⟨rfl, ⟨nd, rfl⟩⟩; rw [HD.out]) | (go_at_call 47; (refine (HV.out _ (pw_below_drewN (Below.refl _ _) nd)).mono ?_); rintro e w2 ⟨rfl, hb2⟩; rw [HB.out]))
      go_ret
      exact ⟨ret_int (by rw [HE.out, HB.out]; rfl), (pw_below_drewN (Below.refl _ _) nd).trans hb2⟩
  · have HD := Lib.hid (decide_eq_false h)
    have HE := Lib.hid (show n = 1 by rw [HN.out, checkE, if_neg h])
    clear h
    go_enter Tryz.func28, Tryz.ntmps28
    go_wp2_with (first | (go_at_call 46; (with_reducible refine (within_any p 2 4096 _).mono ?_); rintro e w' ⟨rfl, ⟨nd, rfl⟩⟩; rw [HD.out]))
    go_ret
    exact ⟨ret_int HE.out.symm, pw_below_drewN (Below.refl _ _) nd⟩
def tailL : List Int → Int → Int
  | [], p => p
  | x :: t, p => if x = p - 1 then tailL t (p - 1) else p
def tailN (l : List S64) (p : Int) : Int := match l with
  | [] => p
  | f :: _ => if f.f0 = 0 then tailL f.f1.reverse p else p
theorem tail_l0 (l : List S64) (hl : 0 < l.length) (m : Nat) : ∀ (k : Nat) (p : Int), m ≤ (rd_T64 l 0).f1.length → (rd_T64 l 0).f1.length ≤ 9223372036854775807 → m < k → -9223372036854775808 < p - m → p ≤ 9223372036854775807 →
    space_tail.l0 k l p ((m : Int) - 1) = some (tailL ((rd_T64 l 0).f1.take m).reverse p) := by
  induction m with
  | zero =>
    intro k p h1 h2 h3 h4 h5
    obtain ⟨k, rfl⟩ : ∃ m, k = m + 1 := ⟨k - 1, by omega⟩
    simp only [space_tail.l0]
    rw [if_neg (by omega)]
    simp [tailL]
  | succ m ih =>
    intro k p h1 h2 h3 h4 h5
    obtain ⟨k, rfl⟩ : ∃ m, k = m + 1 := ⟨k - 1, by omega⟩
    simp only [space_tail.l0]
    have e : ((m + 1 : Nat) : Int) - 1 = (m : Int) := by omega
    have hw : wrap64 (p - 1) = p - 1 := by unfold wrap64; omega
    rw [e, if_pos (by omega), if_pos (by omega), if_pos (by omega), if_pos (by omega), hw, wrapn m (by omega), rd_at _ m (by omega),
      List.take_succ_eq_append_getElem (show m < (rd_T64 l 0).f1.length by omega), List.reverse_append]
    show _ = some (tailL ((rd_T64 l 0).f1[m] :: _) p)
    rw [tailL]
    by_cases h : (rd_T64 l 0).f1[m] = p - 1
    · rw [if_pos h, if_pos h]
      exact ih k (p - 1) (by omega) h2 (by omega) (by omega) (by omega)
    · rw [if_neg h, if_neg h]
theorem tail_some (l : List S64) (p : Int) (h0 : 2 ≤ p) (h1 : p ≤ 4096) (hm : ∀ f ∈ l, f.f1.length ≤ 1000000) : space_tail.f 1000005 l p = some (tailN l p) := by
  unfold space_tail.f
  cases l with
  | nil => rfl
  | cons f t =>
    have hr : rd_T64 (f :: t) 0 = f := rfl
    have hf := hm f List.mem_cons_self
    rw [if_neg (by simp; omega), if_pos (by simp), hr]
    simp only [space_tail.j0]
    have ht : tailN (f :: t) p = if f.f0 = 0 then tailL f.f1.reverse p else p := rfl
    rw [ht]
    by_cases h : f.f0 = 0
    · rw [if_neg (by simp [h]), if_pos (by simp), if_pos h, hr]
      have := tail_l0 (f :: t) (by simp) f.f1.length 1000004 p (by rw [hr]; exact Nat.le_refl _) (by rw [hr]; omega) (by omega) (by omega) (by omega)
      rw [hr, List.take_length] at this
      rw [wrapn _ (by omega)]
      exact this
    · rw [if_pos (by simp [h]), if_neg h]
theorem tail_any (l : List S64) (p : Int) (A : Option Addr) (c : Nat) (w : World) (hC : k64.C w A l.length l) (hc : l.length ≤ c) (h0 : 2 ≤ p) (h1 : p ≤ 4096) (hm : ∀ f ∈ l, f.f1.length ≤ 1000000) :
    Calls Tryz.prog 51 #[.slice A l.length c, .int .i64 p] w fun e w' => e = .returned (.int .i64 (tailN l p)) ∧ Drawn0 w w' :=
  space_tail.calls _ A c l p _ w hC hc (tail_some l p h0 h1 hm)
def smallL (l : List S64) : Prop := l.length ≤ 1000000 ∧ (pagesOf l).length ≤ 1000000
theorem small_each {l : List S64} (h : smallL l) : ∀ f ∈ l, f.f1.length ≤ 1000000 := by
  intro f hf
  obtain ⟨a, b, rfl⟩ := List.append_of_mem hf
  have h2 := h.2
  rw [show a ++ f :: b = a ++ ([f] ++ b) from rfl, pages_append, pages_append, pages_one, List.length_append, List.length_append] at h2
  omega
set_option maxHeartbeats 1000000 in
theorem Tail_any (l : List S64) (p : Int) (A : Option Addr) (c : Nat) (w : World) (hC : k64.C w A l.length l) (hc : l.length ≤ c) (hs : smallL l) :
    Calls Tryz.prog 19 #[.slice A l.length c, .int .i64 p] w fun e w' => e = .returned (.tuple #[.int .i64 (if checkE p l = 0 then tailN l p else 0), .int .i64 (checkE p l)]) ∧ Below w.heap.size w w' := by
  have HC := Lib.hid (check_any l p A c w hC hc)
  obtain ⟨n, hn⟩ : ∃ n, checkE p l = n := ⟨_, rfl⟩
  by_cases h : n = 0
  · subst h
    have hp : 2 ≤ p ∧ p ≤ 4096 := by
      unfold checkE at hn
      by_cases h : 2 ≤ p ∧ p ≤ 4096
      · exact h
      · rw [if_neg h] at hn; cases hn
    have HT := Lib.hid (fun (w1 : World) (hb : Below w.heap.size w w1) => tail_any l p A c w1 (Kd.C_below hC hb) hc hp.1 hp.2 (small_each hs))
    have HN := Lib.hid hn
    clear hn hp hC hs
    rw [HN.out] at HC
    rw [HN.out, if_pos rfl]
    go_enter Tryz.func19, Tryz.ntmps19
    go_wp2_with (first | (go_at_call 28; (refine HC.out.mono ?_); rintro e w2 ⟨rfl, hb2⟩) | (go_at_call 51; (refine (HT.out _ hb2).mono ?_); rintro e w' ⟨rfl, ⟨nd, rfl⟩⟩))
    go_ret2
    exact ⟨rfl, pw_below_drewN hb2 nd⟩
  · have HN := Lib.hid hn
    have hz : (n == 0) = false := beq_eq_false_iff_ne.2 h
    have hz2 : (n != 0) = true := bne_iff_ne.2 h
    clear hn hC hs
    rw [HN.out] at HC
    rw [HN.out, if_neg h]
    clear h
    go_enter Tryz.func19, Tryz.ntmps19
    go_wp2_with (first | (go_at_call 28; (refine HC.out.mono ?_); rintro e w2 ⟨rfl, hb2⟩))
    go_ret2
    exact ⟨rfl, hb2⟩
def useE (o : Int) (l : List S64) : Int := if validB 4096 l = true then (if 1 ≤ o ∧ o ≤ 1099511627776 then 0 else 1) else 2
set_option maxHeartbeats 1000000 in
theorem usable_yes (l : List S64) (o : Int) (A : Option Addr) (c : Nat) (w : World) (hC : k64.C w A l.length l) (hc : l.length ≤ c) (hs : smallL l) (he : useE o l = 0) :
    Calls Tryz.prog 26 #[.slice A l.length c, .int .i64 o] w fun e w' => ∃ u r, e = .returned (.tuple #[u, r, .int .i64 0]) ∧ (Kd.int .i64).R 3 w' w.heap.size (fun _ => True) u (sortI (pagesOf (lowL o l))) ∧
      k64.R 64 w' w.heap.size (fun k => True ∧ some k ≠ u.ownBlock) r (hiL o l) ∧ Below w.heap.size w w' := by
  have HV := Lib.hid (valid_any l 4096 A c w hC hc)
  unfold useE at he
  have hb : validB 4096 l = true := by
    cases h : validB 4096 l with
    | true => rfl
    | false => rw [h, if_neg (by simp)] at he; cases he
  rw [hb] at he HV
  rw [if_pos rfl] at he
  have h : 1 ≤ o ∧ o ≤ 1099511627776 := by
    by_cases h : 1 ≤ o ∧ o ≤ 1099511627776
    · exact h
    · rw [if_neg h] at he; cases he
  have HD := Lib.hid (decide_eq_true h)
  have HS := Lib.hid (fun (w1 : World) (hb : Below w.heap.size w w1) => split_any l o A c w1 (Kd.C_below hC hb) hc hs.1 hs.2)
  clear he h hb hC hs
  go_enter Tryz.func26, Tryz.ntmps26
  go_wp2_with (first | (go_at_call 47; (refine HV.out.mono ?_); rintro e w2 ⟨rfl, hb2⟩) | (go_at_call 46; (with_reducible refine (within_any o 1 1099511627776 _).mono ?_); rintro e w' ⟨rfl, ⟨nd, rfl⟩⟩; rw [HD.out]) | (go_at_call 69; (refine (HS.out _ (pw_below_drewN hb2 nd)).mono ?_); rintro e w3 ⟨u, r, rfl, hu, hr, hb3⟩))
  go_ret3
  have hsz := (pw_below_drewN hb2 nd).size
  exact ⟨_, _, rfl, Kd.R_lower hu hsz, Kd.R_lower hr hsz, (pw_below_drewN hb2 nd).trans (hb3.mono hsz)⟩
set_option maxRecDepth 100000 in
set_option maxHeartbeats 1000000 in
theorem growInt (n : Nat) (hn : n ≤ 10000000) (w : World) : Calls Tryz.prog 146 #[.slice none 0 0, .int .i64 (n : Int)] w fun e w' => ∃ p c, e = .returned (.slice p 0 c) ∧ (Kd.int .i64).R 3 w' w.heap.size (fun _ => True) (.slice p 0 c) [] ∧ Below w.heap.size w w' := by
  by_cases h0 : n = 0
  · subst h0
    go_enter Tryz.func146, Tryz.ntmps146
    go_wp2
    go_ret
    exact ⟨none, 0, rfl, Kd.R_nil _ _ _ _ _, Below.refl _ _⟩
  · have hp : 0 < n := by omega
    have hp1 : (0 : Int) < (n : Int) := by omega
    have hz := Kd.R_nil (Kd.int .i64) 3 w w.heap.size (fun _ => True)
    have hn2 : (([] : List Int).length + (n : Int).toNat) * 8 ≤ 140737488355328 := by simp; omega
    have h00 : (0 : Int) ≤ (n : Int) := by omega
    go_enter Tryz.func146, Tryz.ntmps146
    go_wp2_with (at_builtin; refine Kd.R_append_zeros (Kd.int .i64) (w0 := w) w.heap.size rfl (.tmp 20) (.tmp 21) 23 3 3 (.int .i64 0) 8 rfl Tryz.underlying23 (k := .i64) Tryz.underlying3 info3 rfl (by decide) (by decide) _ ([] : List Int) (0 : Int) (kx := .i64) (n : Int) (fun _ => True) rfl rfl rfl (fun _ _ => trivial) hz h00 (Below.refl _ _) (Nat.le_refl _) hn2 ?_; intro v1 w1 hv hb hg hat; obtain ⟨vA, vc, rfl⟩ := Kd.R_slice hv)
    go_ret
    exact ⟨_, _, rfl, by simpa using Kd.R_take hv (Nat.zero_le _), hb⟩
theorem zero64F {w : World} {ok : Nat → Prop} : Kd.FK k64 w ok z64 (Value.agg #[.int .i64 0, .slice none 0 0]).cells.toList := k64_mkF w ok z64 (A1 := none) (c1 := 0) (Nat.le_refl _) (Kd.F_nil _ _ _)
set_option maxRecDepth 100000 in
set_option maxHeartbeats 1000000 in
theorem growFreed (n : Nat) (hn : n ≤ 10000000) (w : World) : Calls Tryz.prog 171 #[.slice none 0 0, .int .i64 (n : Int)] w fun e w' => ∃ p c, e = .returned (.slice p 0 c) ∧ Kd.N k64 64 w' w.heap.size (fun _ => True) (.slice p 0 c) [] ∧ Below w.heap.size w w' := by
  by_cases h0 : n = 0
  · subst h0
    go_enter Tryz.func171, Tryz.ntmps171
    go_wp2
    go_ret
    exact ⟨none, 0, rfl, Kd.N_nil _ _ _ _ _, Below.refl _ _⟩
  · have hp : 0 < n := by omega
    have hp1 : (0 : Int) < (n : Int) := by omega
    have hz := Kd.N_nil k64 64 w w.heap.size (fun _ => True)
    have hn2 : (([] : List S64).length + (n : Int).toNat) * 32 ≤ 140737488355328 := by simp; omega
    have h00 : (0 : Int) ≤ (n : Int) := by omega
    go_enter Tryz.func171, Tryz.ntmps171
    go_wp2_with (at_builtin; refine Kd.N_append_zeros k64 (w0 := w) w.heap.size rfl (.tmp 20) (.tmp 21) 26 3 64 (.agg #[.int .i64 0, .slice none 0 0]) 32 rfl Tryz.underlying26 (k := .i64) Tryz.underlying3 info64 rfl (by decide) (by decide) _ ([] : List S64) z64 (kx := .i64) (n : Int) (fun _ => True) rfl rfl zero64F (fun _ _ => trivial) hz h00 (Below.refl _ _) (Nat.le_refl _) hn2 ?_; intro v1 w1 hv hb hg hat; obtain ⟨vA, vc, rfl⟩ := Kd.N_slice hv)
    go_ret
    exact ⟨_, _, rfl, by simpa using Kd.N_take hv (Nat.zero_le _), hb⟩
def cat {α : Type} (ls : List (List α)) (k : Nat) : List α := (ls.take k).flatten
theorem cat_succ {α : Type} (ls : List (List α)) (k : Nat) (h : k < ls.length) : cat ls (k + 1) = cat ls k ++ ls.getD k [] := by
  unfold cat
  rw [List.take_succ_eq_append_getElem h, List.flatten_append, List.getD_eq_getElem?_getD, List.getElem?_eq_getElem h]
  simp
theorem cat_le {α : Type} (ls : List (List α)) (k : Nat) : (cat ls k).length ≤ ls.flatten.length := by
  unfold cat
  conv => rhs; rw [← List.take_append_drop k ls, List.flatten_append, List.length_append]
  omega
set_option maxRecDepth 100000 in
set_option maxHeartbeats 1000000 in
theorem concatInt (ls : List (List Int)) (A : Option Addr) (c : Nat) (w : World) (hC : (Kd.slice 3 (Kd.int .i64)).C w A ls.length ls) (hc : ls.length ≤ c) (hn : ls.flatten.length ≤ 10000000) :
    Calls Tryz.prog 106 #[.slice A ls.length c] w fun e w' => ∃ v, e = .returned v ∧ (Kd.int .i64).R 3 w' w.heap.size (fun _ => True) v ls.flatten ∧ Below w.heap.size w w' := by
  have hlm := Kd.C_max hC
  go_enter Tryz.func106, Tryz.ntmps106
  go_wp2
  go_loop [3, 11] (fun z i => ∃ k : Nat, k ≤ ls.length ∧ i = .int .i64 k ∧ z = .int .i64 ((cat ls k).length : Int)) (fun _ i => ls.length - (intOf i).toNat)
  case atStart => exact ⟨0, Nat.zero_le _, rfl, rfl⟩
  case round =>
    obtain ⟨k, hk, rfl, rfl⟩ := hrel
    have HL := Lib.hid (cat_le ls k)
    by_cases hlt : k < ls.length
    · obtain ⟨ad, A1, c1, rfl, hx0, hl1, hC1⟩ := at_L1 hC (k : Int) (by omega) (by omega)
      rw [Int.toNat_natCast] at hx0
      have HT := Lib.hid (cat_succ ls k hlt)
      have hb1 : (cat ls k).length + (ls.getD k []).length ≤ 10000000 := by
        have := cat_le ls (k + 1)
        rw [HT.out, List.length_append] at this
        omega
      rw [show rd_L1 ls (k : Int) = ls.getD k [] from rfl] at hx0 hl1 hC1
      obtain ⟨g, hg⟩ : ∃ g, ls.getD k [] = g := ⟨_, rfl⟩
      rw [hg] at hx0 hl1 hC1 hb1 HT
      obtain ⟨z, hz⟩ : ∃ z, cat ls k = z := ⟨_, rfl⟩
      rw [hz] at hb1 HT ⊢
      have h0 : (0 : Int) ≤ (z.length : Int) + (g.length : Int) := by omega
      clear hg hz
      go_wp2
      go_round
      case rel => exact ⟨k + 1, by omega, by go_num, by rw [HT.out, List.length_append]; go_num⟩
      case measure => simp [intOf]; omega
    · obtain rfl : k = ls.length := by omega
      have hcl : cat ls ls.length = ls.flatten := by unfold cat; rw [List.take_length]
      obtain ⟨m, hm⟩ : ∃ m, ls.flatten.length = m := ⟨_, rfl⟩
      rw [hcl, hm]
      have hm1 : m ≤ 10000000 := hm ▸ hn
      have hm0 : (0 : Int) ≤ (m : Int) := by omega
      have HG := Lib.hid (growInt m hm1 w)
      have HM := Lib.hid hm
      clear hcl hm hn HL
      go_wp2_with (go_at_call 146; (with_reducible refine HG.out.mono ?_); rintro e w1 ⟨p0, c0, rfl, hv0, hb0⟩)
      have HV0 := Aside0.mk hv0
      have HB0 := Aside0.mk hb0
      clear hv0 hb0
      go_loopw [6, 27] (fun v i wr => ∃ k : Nat, k ≤ ls.length ∧ i = .int .i64 k ∧ Aside0 ((Kd.int .i64).R 3 wr w.heap.size (fun _ => True) v (cat ls k)) ∧ Aside0 (Below w.heap.size w wr))
        (fun _ i _ => ls.length - (intOf i).toNat)
      case atStart => exact ⟨0, Nat.zero_le _, rfl, HV0, HB0⟩
      case round =>
        obtain ⟨k, hk, rfl, HV, HB⟩ := hrel
        clear HV0 HB0
        by_cases hlt : k < ls.length
        · obtain ⟨ad, A1, c1, rfl, hx0, hl1, hC1⟩ := at_L1 hC (k : Int) (by omega) (by omega)
          rw [Int.toNat_natCast] at hx0
          rw [show rd_L1 ls (k : Int) = ls.getD k [] from rfl] at hx0 hl1 hC1
          replace hx0 := cellB HB.out (Nat.le_refl _) hx0
          obtain ⟨g, hg⟩ : ∃ g, ls.getD k [] = g := ⟨_, rfl⟩
          have HT := Lib.hid (cat_succ ls k hlt)
          have hbd : ((cat ls k).length + (ls.getD k []).length) * 8 ≤ 140737488355328 := by
            have := cat_le ls (k + 1)
            rw [HT.out, List.length_append, HM.out] at this
            omega
          rw [hg] at hx0 hl1 hC1 hbd HT
          have HBD := Aside0.mk hbd
          clear hbd hg
          have HE := Aside0.mk (Kd.C_below hC1 HB.out)
          go_wp2_with (at_builtin; refine Kd.R_append_rows (Kd.int .i64) (w0 := w) w.heap.size rfl (.tmp 31) (.tmp 32) 23 3 (.int .i64 0) 8 rfl Tryz.underlying23 info3 rfl (by decide) (by decide) _ _ g _ _ _ (fun _ => True) (fun _ => False) rfl rfl HV.out HE.out (fun _ _ h => h) (fun _ h => h.elim) (fun _ _ => trivial) HB.out HB.out.size HBD.out ?_; intro v1 w2 hv hb hg hat)
          go_roundw
          case rel => exact ⟨k + 1, by omega, by go_num, ⟨by rw [HT.out]; exact hv⟩, ⟨hb⟩⟩
          case measure => simp [intOf]; omega
        · obtain rfl : k = ls.length := by omega
          have HCL := Lib.hid (show cat ls ls.length = ls.flatten by unfold cat; rw [List.take_length])
          go_wp2
          go_ret
          exact ⟨_, rfl, by rw [← HCL.out]; exact HV.out, HB.out⟩
set_option maxRecDepth 100000 in
set_option maxHeartbeats 1000000 in
theorem concatFreed (ls : List (List S64)) (A : Option Addr) (c : Nat) (w : World) (hC : (Kd.slice 64 k64).C w A ls.length ls) (hc : ls.length ≤ c) (hn : ls.flatten.length ≤ 10000000) :
    Calls Tryz.prog 144 #[.slice A ls.length c] w fun e w' => ∃ v, e = .returned v ∧ Kd.N k64 64 w' w.heap.size (fun _ => True) v ls.flatten ∧ Below w.heap.size w w' := by
  have hlm := Kd.C_max hC
  go_enter Tryz.func144, Tryz.ntmps144
  go_wp2
  go_loop [3, 11] (fun z i => ∃ k : Nat, k ≤ ls.length ∧ i = .int .i64 k ∧ z = .int .i64 ((cat ls k).length : Int)) (fun _ i => ls.length - (intOf i).toNat)
  case atStart => exact ⟨0, Nat.zero_le _, rfl, rfl⟩
  case round =>
    obtain ⟨k, hk, rfl, rfl⟩ := hrel
    have HL := Lib.hid (cat_le ls k)
    by_cases hlt : k < ls.length
    · obtain ⟨ad, A1, c1, rfl, hx0, hl1, hC1⟩ := at_L3 hC (k : Int) (by omega) (by omega)
      rw [Int.toNat_natCast] at hx0
      have HT := Lib.hid (cat_succ ls k hlt)
      have hb1 : (cat ls k).length + (ls.getD k []).length ≤ 10000000 := by
        have := cat_le ls (k + 1)
        rw [HT.out, List.length_append] at this
        omega
      rw [show rd_L3 ls (k : Int) = ls.getD k [] from rfl] at hx0 hl1 hC1
      obtain ⟨g, hg⟩ : ∃ g, ls.getD k [] = g := ⟨_, rfl⟩
      rw [hg] at hx0 hl1 hC1 hb1 HT
      obtain ⟨z, hz⟩ : ∃ z, cat ls k = z := ⟨_, rfl⟩
      rw [hz] at hb1 HT ⊢
      have h0 : (0 : Int) ≤ (z.length : Int) + (g.length : Int) := by omega
      clear hg hz
      go_wp2
      go_round
      case rel => exact ⟨k + 1, by omega, by go_num, by rw [HT.out, List.length_append]; go_num⟩
      case measure => simp [intOf]; omega
    · obtain rfl : k = ls.length := by omega
      have hcl : cat ls ls.length = ls.flatten := by unfold cat; rw [List.take_length]
      obtain ⟨m, hm⟩ : ∃ m, ls.flatten.length = m := ⟨_, rfl⟩
      rw [hcl, hm]
      have hm1 : m ≤ 10000000 := hm ▸ hn
      have hm0 : (0 : Int) ≤ (m : Int) := by omega
      have HG := Lib.hid (growFreed m hm1 w)
      have HM := Lib.hid hm
      clear hcl hm hn HL
      go_wp2_with (go_at_call 171; (with_reducible refine HG.out.mono ?_); rintro e w1 ⟨p0, c0, rfl, hv0, hb0⟩)
      have HV0 := Aside0.mk hv0
      have HB0 := Aside0.mk hb0
      clear hv0 hb0
      go_loopw [6, 27] (fun v i wr => ∃ k : Nat, k ≤ ls.length ∧ i = .int .i64 k ∧ Aside0 (Kd.N k64 64 wr w.heap.size (fun _ => True) v (cat ls k)) ∧ Aside0 (Below w.heap.size w wr))
        (fun _ i _ => ls.length - (intOf i).toNat)
      case atStart => exact ⟨0, Nat.zero_le _, rfl, HV0, HB0⟩
      case round =>
        obtain ⟨k, hk, rfl, HV, HB⟩ := hrel
        clear HV0 HB0
        by_cases hlt : k < ls.length
        · obtain ⟨ad, A1, c1, rfl, hx0, hl1, hC1⟩ := at_L3 hC (k : Int) (by omega) (by omega)
          rw [Int.toNat_natCast] at hx0
          rw [show rd_L3 ls (k : Int) = ls.getD k [] from rfl] at hx0 hl1 hC1
          replace hx0 := cellB HB.out (Nat.le_refl _) hx0
          obtain ⟨g, hg⟩ : ∃ g, ls.getD k [] = g := ⟨_, rfl⟩
          have HT := Lib.hid (cat_succ ls k hlt)
          have hbd : ((cat ls k).length + (ls.getD k []).length) * 32 ≤ 140737488355328 := by
            have := cat_le ls (k + 1)
            rw [HT.out, List.length_append, HM.out] at this
            omega
          rw [hg] at hx0 hl1 hC1 hbd HT
          have HBD := Aside0.mk hbd
          clear hbd hg
          have HE := Aside0.mk (Kd.F_below (Kd.C_F k64_heap hC1) HB.out)
          have hkk := fun (q : Nat) (hq : q < w.heap.size) => And.intro trivial (fun e => by have := Kd.N_base HV.out q (Eq.symm e); omega : some q ≠ Value.ownBlock _)
          have HK := Aside0.mk hkk
          clear hkk
          go_wp2_with (at_builtin; refine Kd.N_append_rows k64 (w0 := w) w.heap.size rfl (.tmp 31) (.tmp 32) 26 64 (.agg #[.int .i64 0, .slice none 0 0]) 32 rfl Tryz.underlying26 info64 rfl (by decide) (by decide) _ _ g _ _ _ (fun _ => True) (fun q => q < w.heap.size) rfl rfl HV.out HE.out HK.out (fun _ _ => trivial) HB.out HB.out.size HBD.out ?_; intro v1 w2 hv hb hg hat)
          go_roundw
          case rel => exact ⟨k + 1, by omega, by go_num, ⟨by rw [HT.out]; exact hv⟩, ⟨hb⟩⟩
          case measure => simp [intOf]; omega
        · obtain rfl : k = ls.length := by omega
          have HCL := Lib.hid (show cat ls ls.length = ls.flatten by unfold cat; rw [List.take_length])
          go_wp2
          go_ret
          exact ⟨_, rfl, by rw [← HCL.out]; exact HV.out, HB.out⟩
set_option maxHeartbeats 1000000 in
theorem cmp_any (x y : Int) (A B : Option Addr) (n c m d : Nat) (w : World) : Calls Tryz.prog 103 #[.agg #[.int .i64 x, .slice A n c], .agg #[.int .i64 y, .slice B m d]] w fun e w' => e = .returned (.int .i64 (Lib.compareInt x y)) ∧ Below w.heap.size w w' := by
  have HC := Lib.hid (fun w1 => Tryz.cmp_Compare_int x y w1)
  go_enter Tryz.func103, Tryz.ntmps103
  go_wp2_with (go_at_call 104; (with_reducible refine (HC.out _).mono ?_); rintro e w' ⟨rfl, rfl⟩)
  go_ret
  exact ⟨rfl, (below_alloc1 w _).alloc (by simp) _⟩
theorem block_row {α : Type} {R : α → List Value → Prop} {sz : Nat} {w : World} {n : Nat} {t : TypeId} {C : Array Value} {ps : List α} (hb : w.heap[n]? = some (.cells C t (0, 0))) (hr : Reps R sz ps C.toList) (hm : ps.length ≤ 9223372036854775807) : ReadsRow R sz w (some ⟨n, 0, none⟩) ps.length ps := by
  refine ⟨rfl, hm, fun _ => ⟨_, rfl, fun j q hj => ⟨_, ?_, hr.2 j q hj, fun i u hu => ?_⟩⟩⟩
  · have hjl := (List.getElem?_eq_some_iff.1 hj).1
    have h1 := hr.1
    have : j * sz + sz ≤ ps.length * sz := by rw [← Nat.succ_mul]; exact Nat.mul_le_mul_right _ hjl
    rw [List.length_take, List.length_drop]
    omega
  · rw [List.getElem?_take] at hu
    by_cases hi : i < sz
    · rw [if_pos hi, List.getElem?_drop, Array.getElem?_toList] at hu
      rw [Addr.add_lit, Nat.zero_add]
      exact (blk_cell hb _).trans hu
    · rw [if_neg hi] at hu; cases hu
set_option maxHeartbeats 1000000 in
theorem both_any (x y : Int) (A B : Option Addr) (xs ys : List Int) (c d : Nat) (w : World) (hA : (Kd.int .i64).C w A xs.length xs) (hB : (Kd.int .i64).C w B ys.length ys) (hc : xs.length ≤ c) (hd : ys.length ≤ d) (hn : xs.length + ys.length ≤ 10000000) :
    Calls Tryz.prog 105 #[.agg #[.int .i64 x, .slice A xs.length c], .agg #[.int .i64 y, .slice B ys.length d]] w fun e w' => ∃ v, e = .returned (.agg #[.int .i64 x, v]) ∧ (Kd.int .i64).R 3 w' w.heap.size (fun _ => True) v (sortI (xs ++ ys)) ∧ Below w.heap.size w w' := by
  go_enter Tryz.func105, Tryz.ntmps105
  go_wp2_with fail
  obtain ⟨W0, hW0⟩ : ∃ W0, ((((w.alloc (.cells #[.int .i64 x, .slice A xs.length c] 64)).alloc (.cells #[.int .i64 y, .slice B ys.length d] 64)).alloc (.cells #[.int .i64 0, .slice none 0 0] 64)).alloc (.cells #[.slice A xs.length c, .slice B ys.length d] 23)) = W0 := ⟨_, rfl⟩
  have hs0 : W0.heap.size = w.heap.size + 4 := by rw [← hW0]; simp
  have hb0 : Below w.heap.size w W0 := by rw [← hW0]; exact (((below_alloc1 w _).alloc (by simp) _).alloc (by simp; omega) _).alloc (by simp; omega) _
  have hk0 : W0.heap[w.heap.size]? = some (.cells #[.int .i64 x, .slice A xs.length c] 64 (0, 0)) := by rw [← hW0]; exact blk_alloc (blk_alloc (blk_alloc (blk_new w _) _) _) _
  have hk2 : W0.heap[w.heap.size + 1 + 1]? = some (.cells #[.int .i64 0, .slice none 0 0] 64 (0, 0)) := by
    rw [← hW0]
    have := blk_new ((w.alloc (.cells #[.int .i64 x, .slice A xs.length c] 64)).alloc (.cells #[.int .i64 y, .slice B ys.length d] 64)) (.cells #[.int .i64 0, .slice none 0 0] 64)
    rw [World.size_alloc, World.size_alloc] at this
    exact blk_alloc this _
  have hk3 : W0.heap[w.heap.size + 1 + 1 + 1]? = some (.cells #[.slice A xs.length c, .slice B ys.length d] 23 (0, 0)) := by
    rw [← hW0]
    have := blk_new (((w.alloc (.cells #[.int .i64 x, .slice A xs.length c] 64)).alloc (.cells #[.int .i64 y, .slice B ys.length d] 64)).alloc (.cells #[.int .i64 0, .slice none 0 0] 64)) (.cells #[.slice A xs.length c, .slice B ys.length d] 23)
    rw [World.size_alloc, World.size_alloc, World.size_alloc] at this
    exact this
  rw [hW0]
  clear hW0
  have hrow : (Kd.slice 3 (Kd.int .i64)).C W0 (some ⟨w.heap.size + 1 + 1 + 1, 0, none⟩) [xs, ys].length [xs, ys] := by
    refine block_row hk3 ⟨rfl, fun j q hj => ?_⟩ (by simp)
    match j with
    | 0 => obtain rfl : xs = q := by simpa using hj
           exact ⟨A, c, rfl, hc, Kd.C_below hA hb0⟩
    | 1 => obtain rfl : ys = q := by simpa using hj
           exact ⟨B, d, rfl, hd, Kd.C_below hB hb0⟩
    | j + 2 => simp at hj
  have HCC := Aside0.mk (concatInt [xs, ys] _ 2 W0 hrow (by simp) (by simpa using hn))
  refine HCC.out.mono ?_
  rintro e w2 ⟨v, rfl, hv, hb2⟩
  have hv' : (Kd.int .i64).R 3 w2 W0.heap.size (fun _ => True) v (xs ++ ys) := by simpa using hv
  have hbig : (xs ++ ys).length < 4611686018427387904 := by rw [List.length_append]; omega
  have HS := Aside0.mk (sort_R hv' hbig)
  obtain ⟨B2, hB2⟩ : ∃ B2, w.heap.size + 1 + 1 = B2 := ⟨_, rfl⟩
  have hne : some w.heap.size ≠ v.ownBlock := fun e => by have := Kd.R_base hv' _ e.symm; omega
  have hne2 : some B2 ≠ v.ownBlock := fun e => by have := Kd.R_base hv' _ e.symm; omega
  rw [hB2] at hk2 ⊢
  have HB20 := Aside0.mk hB2
  have HK0 := Aside0.mk (blk_below hk0 hb2)
  have HK2 := Aside0.mk (blk_below hk2 hb2)
  have HB := Aside0.mk (hb0.trans (hb2.mono (by omega)))
  clear hk0 hk2 hk3 hrow HCC hB2 hv hv' hA hB
  go_wp2_with (go_at_call 73; (with_reducible refine HS.out.mono ?_); rintro e w3 ⟨rfl, hv3, hkk3, hb3⟩; have hq0 := blk_kept HK0.out hkk3 hne; have hq2 := blk_kept HK2.out hkk3 hne2; have hx0 : w3.cell? ⟨w.heap.size, 0, none⟩ = some (.int .i64 x) := (blk_cell hq0 0).trans rfl; have hf0 := blk_frozen hq2 0; have hf1 := blk_frozen hq2 1; have hy0 : w3.cell? ⟨B2, 0, none⟩ = some (.int .i64 0) := (blk_cell hq2 0).trans rfl; have hy1 : w3.cell? ⟨B2, 1, none⟩ = some (.slice none 0 0) := (blk_cell hq2 1).trans rfl; obtain ⟨vA, vc, rfl⟩ := Kd.R_slice hv3)
  have hq5 : ((w3.setCell ⟨B2, 0, none⟩ (.int .i64 x)).setCell ⟨B2, 1, none⟩ (.slice vA (sortI (xs ++ ys)).length vc)).heap[B2]? = some (.cells #[.int .i64 x, .slice vA (sortI (xs ++ ys)).length vc] 64 (0, 0)) := blk_set (blk_set hq2 0 _) 1 _
  have hR5 := Kd.R_far (p := ⟨B2, 1, none⟩) (Kd.R_far (p := ⟨B2, 0, none⟩) (Kd.R_far1 hv3 rfl hne2) (fun k hk => hk.2) (.int .i64 x)) (fun k hk => hk.2) (.slice vA (sortI (xs ++ ys)).length vc)
  have hsz := HB.out.size
  have hB2 := HB20.out
  refine bodyPost_ret (v := .agg #[.int .i64 x, .slice vA (sortI (xs ++ ys)).length vc]) (results_single rfl (.cell B2 64 _ (0, 0) _ rfl hq5 Tryz.underlying64 rfl (by kernel_rfl) .nil)) rfl ⟨_, rfl, Kd.R_mono (Kd.R_lower hR5 (by omega)) (fun _ _ => trivial), ?_⟩
  exact ((HB.out.trans (hb3.mono (by omega))).setCell (p := ⟨B2, 0, none⟩) (by show w.heap.size ≤ B2; omega) _).setCell (p := ⟨B2, 1, none⟩) (by show w.heap.size ≤ B2; omega) _
end Go.Proofs.YtpnhelcemodnmaaGreat
