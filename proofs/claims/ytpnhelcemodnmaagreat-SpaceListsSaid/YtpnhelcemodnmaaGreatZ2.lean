/- Texts put together for one claim: part 2. -/
import Derived.Shelf.Small.Wraps
import Derived.Shelf.Sort.Plain
import Derived.Shelf.Slices.Equal
import Derived.Ground.Names2Prog
import Derived.Shelf.Slices.Clone
import Derived.Shelf.Slices.CompactI
import Derived.Shelf.Slices.In.SortNone
import Derived.Shelf.Slices.Empties
import Derived.Shelf.Slices.Empties2
import Derived.Ground.SlgnProg
import Derived.Shelf.SlicesE.Clone
import Derived.Test.YtpnhelcemodnmaaGreatProg
import Derived.Lib.OwnBridge
import Derived.WalkSpells
import Derived.Test.YtpnhelcemodnmaaGreatZ1
-- PRINTED by print.py (a twelfth state) out of the translation. Not trusted: Lean checks it.
namespace Go.Proofs.YtpnhelcemodnmaaGreat.PA
open Go.RowKit Go.Proofs.YtpnhelcemodnmaaGreatW.PrintWords Go.Proofs.YtpnhelcemodnmaaGreatW.PrintLast Go.Proofs.YtpnhelcemodnmaaGreatW.PrintMore
attribute [local go_sem] max2_int min2_int max_two min_two max_three min_three max_four min_four   -- for this text's walks alone
set_option linter.unusedVariables false
set_option linter.unusedSimpArgs false

/-! ### page_within: function 118 -/
def page_within.f (a0 : Int) (a1 : Int) (a2 : Int) : Option (Bool) := if a1 ≤ a0 then (some (decide (a0 ≤ a2))) else (some false)
set_option maxHeartbeats 8000000 in
set_option maxRecDepth 100000 in
theorem page_within.calls (a0 : Int) (a1 : Int) (a2 : Int) (r : Bool) (w : World) (h : page_within.f a0 a1 a2 = some r) :
    Calls Tryz.prog 118 #[.int .i64 a0, .int .i64 a1, .int .i64 a2] w fun e w' => e = .returned (.bool r) ∧ Drawn0 w w' := by
  have H : (if a1 ≤ a0 then (some (decide (a0 ≤ a2))) else (some false)) = some r := h
  clear h
  by_cases c4 : a1 ≤ a0
  · rw [if_pos c4] at H
    have c4b0 : decide (a1 ≤ a0) = true := decide_eq_true c4
    clear c4
    obtain rfl := Option.some.inj H
    go_enter Tryz.func118, Tryz.ntmps118
    go_wp2
    go_ret
    exact ⟨by first | rfl | (simp; done) | (simp [*]; done), by repeat (first | exact Drawn0.refl _ | apply Drawn0.step)⟩
  · rw [if_neg c4] at H
    have c4b0 : decide (a1 ≤ a0) = false := decide_eq_false c4
    clear c4
    obtain rfl := Option.some.inj H
    go_enter Tryz.func118, Tryz.ntmps118
    go_wp2
    go_ret
    exact ⟨by first | rfl | (simp; done) | (simp [*]; done), by repeat (first | exact Drawn0.refl _ | apply Drawn0.step)⟩

/-! ### page_numbered: function 119 -/
def page_numbered.f (a0 : Int) : Option (Bool) := (page_within.f a0 2 4095).bind fun t101 => (some t101)
set_option maxHeartbeats 8000000 in
set_option maxRecDepth 100000 in
theorem page_numbered.calls (a0 : Int) (r : Bool) (w : World) (h : page_numbered.f a0 = some r) :
    Calls Tryz.prog 119 #[.int .i64 a0] w fun e w' => e = .returned (.bool r) ∧ Drawn0 w w' := by
  have H : ((page_within.f a0 2 4095).bind fun t101 => (some t101)) = some r := h
  clear h
  replace H := Option.bind_eq_some_iff.mp H
  obtain ⟨t101, A20, H⟩ := H
  replace H : (some t101) = some r := H
  have A2 := Aside0.mk A20
  clear A20
  obtain rfl := Option.some.inj H
  go_enter Tryz.func119, Tryz.ntmps119
  go_wp2_with (first | ((with_reducible refine gate_callee (f := 118) rfl ?_); refine goesL_ (some 4) rfl rfl Tryz.func118 (by kernel_rfl) rfl #[.int .i64 a0, .int .i64 2, .int .i64 4095] rfl (by (try simp only [List.map_toArray, List.map_cons, List.map_nil]); first | done | rfl | (simp only [List.length_drop, List.length_take]; rfl)) ?_; (with_reducible refine (page_within.calls a0 2 4095 t101 _ A2.out).mono ?_); rintro e w' ⟨rfl, ⟨nd, rfl⟩⟩; refine ⟨_, rfl, ?_⟩))
  go_ret
  exact ⟨by first | rfl | (simp; done) | (simp [*]; done), by repeat (first | exact Drawn0.refl _ | apply Drawn0.step)⟩

/-! ### page_freed: function 75 -/
mutual
def page_freed.l0 : Nat → List (S64) → List (S64) → Int → Int → Option (Bool)
  | 0, _, _, _, _ => none
  | k + 1, x0, x7, x8, x9 => if x9 < x8 then (if 0 ≤ x9 then (if x9 < (x7.length : Int) then ((page_within.f ((rd_T64 x7 x9).f0) 0 1099511627776).bind fun t104 => (if t104 = true then (if (((rd_T64 x7 x9).f1).length : Int) = 0 then (page_freed.j1 k x0 x7 x8 x9 true ((rd_T64 x7 x9).f0) ((rd_T64 x7 x9).f1)) else (if x9 > 0 then (if 0 ≤ (wrap64 (x9 - 1)) then (if (wrap64 (x9 - 1)) < (x0.length : Int) then (page_freed.j1 k x0 x7 x8 x9 (decide (((rd_T64 x0 (wrap64 (x9 - 1))).f0) ≥ ((rd_T64 x7 x9).f0))) ((rd_T64 x7 x9).f0) ((rd_T64 x7 x9).f1)) else (none)) else (none)) else (page_freed.j1 k x0 x7 x8 x9 false ((rd_T64 x7 x9).f0) ((rd_T64 x7 x9).f1)))) else (page_freed.j1 k x0 x7 x8 x9 true ((rd_T64 x7 x9).f0) ((rd_T64 x7 x9).f1)))) else (none)) else (none)) else (some true)
def page_freed.j1 : Nat → List (S64) → List (S64) → Int → Int → Bool → Int → List Int → Option (Bool)
  | 0, _, _, _, _, _, _, _ => none
  | k + 1, x0, x7, x8, x9, x38, x104000, x104001 => if x38 = true then (some false) else (page_freed.l1 k x0 x7 x8 x9 x104001 (x104001.length : Int) 0 x104000 x104001)
def page_freed.l1 : Nat → List (S64) → List (S64) → Int → Int → List Int → Int → Int → Int → List Int → Option (Bool)
  | 0, _, _, _, _, _, _, _, _, _ => none
  | k + 1, x0, x7, x8, x9, x40, x41, x42, x104000, x104001 => if x42 < x41 then (if 0 ≤ x42 then (if x42 < (x40.length : Int) then ((page_numbered.f (rd x40 x42)).bind fun t107 => (if t107 = true then (if x42 > 0 then (if 0 ≤ (wrap64 (x42 - 1)) then (if (wrap64 (x42 - 1)) < (x104001.length : Int) then (if (rd x104001 (wrap64 (x42 - 1))) ≥ (rd x40 x42) then (some false) else (page_freed.l1 k x0 x7 x8 x9 x40 x41 (wrap64 (x42 + 1)) x104000 x104001)) else (none)) else (none)) else (page_freed.l1 k x0 x7 x8 x9 x40 x41 (wrap64 (x42 + 1)) x104000 x104001)) else (some false))) else (none)) else (none)) else (page_freed.l0 k x0 x7 x8 (wrap64 (x9 + 1)))
end
def page_freed.f (k : Nat) (l0 : List (S64)) : Option (Bool) := page_freed.l0 k l0 l0 (l0.length : Int) 0
theorem page_freed.mono_l : ∀ k, (∀ y0 y1 y2 y3, LeO (page_freed.l0 k y0 y1 y2 y3) (page_freed.l0 (k + 1) y0 y1 y2 y3)) ∧ (∀ y0 y1 y2 y3 y4 y5 y6, LeO (page_freed.j1 k y0 y1 y2 y3 y4 y5 y6) (page_freed.j1 (k + 1) y0 y1 y2 y3 y4 y5 y6)) ∧ (∀ y0 y1 y2 y3 y4 y5 y6 y7 y8, LeO (page_freed.l1 k y0 y1 y2 y3 y4 y5 y6 y7 y8) (page_freed.l1 (k + 1) y0 y1 y2 y3 y4 y5 y6 y7 y8))
  | 0 => ⟨fun _ _ _ _ r h => by simp [page_freed.l0] at h, fun _ _ _ _ _ _ _ r h => by simp [page_freed.j1] at h, fun _ _ _ _ _ _ _ _ _ r h => by simp [page_freed.l1] at h⟩
  | k + 1 => by
    obtain ⟨ih0, ih1, ih2⟩ := page_freed.mono_l k
    refine ⟨?_, ?_, ?_⟩
    · intro y0 y1 y2 y3
      unfold page_freed.l0
      repeat' first
      | (with_reducible exact ih0 _ _ _ _)
      | (with_reducible exact ih1 _ _ _ _ _ _ _)
      | (with_reducible exact ih2 _ _ _ _ _ _ _ _ _)
      | (with_reducible exact LeO.refl _)
      | (with_reducible exact LeO.none _)
      | (with_reducible refine LeO.ite ?_ ?_)
      | (with_reducible refine LeO.bind ?_ (fun _ => ?_))
      | exact ih0 _ _ _ _
      | exact ih1 _ _ _ _ _ _ _
      | exact ih2 _ _ _ _ _ _ _ _ _
      | exact LeO.none _
      | refine LeO.ite ?_ ?_
      | refine LeO.bind ?_ (fun _ => ?_)
    · intro y0 y1 y2 y3 y4 y5 y6
      unfold page_freed.j1
      repeat' first
      | (with_reducible exact ih0 _ _ _ _)
      | (with_reducible exact ih1 _ _ _ _ _ _ _)
      | (with_reducible exact ih2 _ _ _ _ _ _ _ _ _)
      | (with_reducible exact LeO.refl _)
      | (with_reducible exact LeO.none _)
      | (with_reducible refine LeO.ite ?_ ?_)
      | (with_reducible refine LeO.bind ?_ (fun _ => ?_))
      | exact ih0 _ _ _ _
      | exact ih1 _ _ _ _ _ _ _
      | exact ih2 _ _ _ _ _ _ _ _ _
      | exact LeO.none _
      | refine LeO.ite ?_ ?_
      | refine LeO.bind ?_ (fun _ => ?_)
    · intro y0 y1 y2 y3 y4 y5 y6 y7 y8
      unfold page_freed.l1
      repeat' first
      | (with_reducible exact ih0 _ _ _ _)
      | (with_reducible exact ih1 _ _ _ _ _ _ _)
      | (with_reducible exact ih2 _ _ _ _ _ _ _ _ _)
      | (with_reducible exact LeO.refl _)
      | (with_reducible exact LeO.none _)
      | (with_reducible refine LeO.ite ?_ ?_)
      | (with_reducible refine LeO.bind ?_ (fun _ => ?_))
      | exact ih0 _ _ _ _
      | exact ih1 _ _ _ _ _ _ _
      | exact ih2 _ _ _ _ _ _ _ _ _
      | exact LeO.none _
      | refine LeO.ite ?_ ?_
      | refine LeO.bind ?_ (fun _ => ?_)
theorem page_freed.mono : ∀ a0 k, LeO (page_freed.f k a0) (page_freed.f (k + 1) a0) := by
  intro a0 k
  obtain ⟨ih0, ih1, ih2⟩ := page_freed.mono_l k
  unfold page_freed.f
  repeat' first
      | (with_reducible exact ih0 _ _ _ _)
      | (with_reducible exact ih1 _ _ _ _ _ _ _)
      | (with_reducible exact ih2 _ _ _ _ _ _ _ _ _)
      | (with_reducible exact LeO.refl _)
      | (with_reducible exact LeO.none _)
      | (with_reducible refine LeO.ite ?_ ?_)
      | (with_reducible refine LeO.bind ?_ (fun _ => ?_))
      | exact ih0 _ _ _ _
      | exact ih1 _ _ _ _ _ _ _
      | exact ih2 _ _ _ _ _ _ _ _ _
      | exact LeO.none _
      | refine LeO.ite ?_ ?_
      | refine LeO.bind ?_ (fun _ => ?_)
set_option maxHeartbeats 8000000 in
set_option maxRecDepth 100000 in
theorem page_freed.calls (k : Nat) (A0 : Option Addr) (c0 : Nat) (l0 : List (S64)) (r : Bool) (w : World) (hr0 : Kd.C k64 w A0 l0.length l0) (hc0 : l0.length ≤ c0) (h : page_freed.f k l0 = some r) :
    Calls Tryz.prog 75 #[.slice A0 l0.length c0] w fun e w' => e = .returned (.bool r) ∧ Below w.heap.size w w' := by
  have hu64 := Tryz.underlying64
  have HR0 := Aside0.mk hr0
  have HC0 := Aside0.mk hc0
  clear hr0 hc0
  have HB := Aside0.mk (Below.refl w.heap.size w)
  have H : (page_freed.l0 k l0 l0 (l0.length : Int) 0) = some r := h
  clear h
  have H' := Aside0.mk H
  clear H
  go_enter Tryz.func75, Tryz.ntmps75
  go_wp2
  repeat (go_quiet (fail); try go_wp2)
  go_loopg [9] k (fun kq v9 w' => ∃ (x9_1 : Int), v9 = .int .i64 x9_1 ∧ Aside0 (page_freed.l0 kq l0 l0 (l0.length : Int) x9_1 = some r) ∧ Aside0 (kq ≤ k) ∧ Aside0 (Below w.heap.size w w'))
  case atStart => exact ⟨(0), (by first | rfl | (simp; done) | (simp [*]; done)), H', ⟨Nat.le_refl _⟩, ⟨by repeat (first | (with_reducible first | exact HB.out | apply below_alloc | apply pw_below_drewN | apply below_drew1) | exact HB.out)⟩⟩
  case round =>
    clear H'
    obtain ⟨x9_1, rfl, HA, HK1, HB⟩ := hrel
    cases gk with
    | zero => exact absurd HA.out (by simp [page_freed.l0])
    | succ k1 =>
      have H := HA.out
      clear HA
      simp only [page_freed.l0] at H
      by_cases c2 : x9_1 < (l0.length : Int)
      · rw [if_pos c2] at H
        have c2b0 : decide (x9_1 < (l0.length : Int)) = true := decide_eq_true c2
        clear c2
        by_cases c3 : 0 ≤ x9_1
        · rw [if_pos c3] at H
          have c3b0 : decide (0 ≤ x9_1) = true := decide_eq_true c3
          clear c3
          by_cases c4 : x9_1 < (l0.length : Int)
          · rw [if_pos c4] at H
            have c4b0 : decide (x9_1 < (l0.length : Int)) = true := decide_eq_true c4
            clear c4
            have HC5 := Aside0.mk H
            clear H
            have p102 : 0 ≤ (x9_1 : Int) := of_decide_eq_true (by first | (with_reducible assumption) | assumption)
            have q102 : x9_1 < (l0.length : Int) := of_decide_eq_true (by first | (with_reducible assumption) | assumption)
            obtain ⟨ad102, A102_1, c102_1, e102, hx102_0, hx102_1, hl102_1, hi102_1⟩ := at_T64 HR0.out x9_1 p102 q102
            cases e102
            replace hx102_0 := (HB.out.cell (World.block_lt_of_cell? w _ hx102_0)).trans hx102_0
            replace hx102_1 := (HB.out.cell (World.block_lt_of_cell? w _ hx102_1)).trans hx102_1
            have HR102_1 := Aside0.mk hi102_1
            have HC102_1 := Aside0.mk hl102_1
            clear hi102_1 hl102_1
            replace p102 := eq_true p102
            replace q102 := eq_true q102
            go_upto_region 4 with (first | ((with_reducible refine gate_dst (N := 4) rfl ?_); (try (refine gate_guard (by rfl) ?_; dsimp only)); refine box_event ?hg (N := 4) ?hd (cs := #[.int .i64 0, .slice none 0 0]) (t := 64) ?hr ?_; (case hd => rfl); (case hg => rfl); (case hr => first | (go_simp; done) | (go_simp; rfl)); intro gb103 hg w6 hbox hb; have n0_ := Aside0.mk (below_step (by repeat (first | (with_reducible first | exact HB.out | apply below_alloc | apply pw_below_drewN | apply below_drew1) | exact HB.out)) hb); have n1_ := Aside0.mk (hbox); have n2_ := Aside0.mk ((by rw [hg]; exact (below_size (by repeat (first | (with_reducible first | exact HB.out | apply below_alloc | apply pw_below_drewN | apply below_drew1) | exact HB.out))) : w.heap.size ≤ gb103)); have n3_ := Aside0.mk ((by rw [hg]; exact (below_size (by repeat (first | (with_reducible first | exact HB.out | apply below_alloc | apply pw_below_drewN | apply below_drew1) | exact HB.out))) : w.heap.size ≤ gb103)); clear HB; have HB := n0_; have BK103 := n1_; have GW103 := n2_; have GE103 := n3_; clear n0_ n1_ n2_ n3_; clear hb hbox hg; have hcz7_0 : w6.cell? ⟨gb103, 0, none⟩ = some (.int .i64 0) := (blk_cell BK103.out 0).trans rfl; have hcz7_1 : w6.cell? ⟨gb103, 1, none⟩ = some (.slice none 0 0) := (blk_cell BK103.out 1).trans rfl; have hfz7_0 := blk_frozen BK103.out 0; have hfz7_1 := blk_frozen BK103.out 1))
            repeat (go_quiet (first | ((with_reducible refine gate_dst (N := 4) rfl ?_); (try (refine gate_guard (by rfl) ?_; dsimp only)); refine box_event ?hg (N := 4) ?hd (cs := #[.int .i64 0, .slice none 0 0]) (t := 64) ?hr ?_; (case hd => rfl); (case hg => rfl); (case hr => first | (go_simp; done) | (go_simp; rfl)); intro gb103 hg w6 hbox hb; have n0_ := Aside0.mk (below_step (by repeat (first | (with_reducible first | exact HB.out | apply below_alloc | apply pw_below_drewN | apply below_drew1) | exact HB.out)) hb); have n1_ := Aside0.mk (hbox); have n2_ := Aside0.mk ((by rw [hg]; exact (below_size (by repeat (first | (with_reducible first | exact HB.out | apply below_alloc | apply pw_below_drewN | apply below_drew1) | exact HB.out))) : w.heap.size ≤ gb103)); have n3_ := Aside0.mk ((by rw [hg]; exact (below_size (by repeat (first | (with_reducible first | exact HB.out | apply below_alloc | apply pw_below_drewN | apply below_drew1) | exact HB.out))) : w.heap.size ≤ gb103)); clear HB; have HB := n0_; have BK103 := n1_; have GW103 := n2_; have GE103 := n3_; clear n0_ n1_ n2_ n3_; clear hb hbox hg; have hcz7_0 : w6.cell? ⟨gb103, 0, none⟩ = some (.int .i64 0) := (blk_cell BK103.out 0).trans rfl; have hcz7_1 : w6.cell? ⟨gb103, 1, none⟩ = some (.slice none 0 0) := (blk_cell BK103.out 1).trans rfl; have hfz7_0 := blk_frozen BK103.out 0; have hfz7_1 := blk_frozen BK103.out 1)); go_upto_region 4 with (first | ((with_reducible refine gate_dst (N := 4) rfl ?_); (try (refine gate_guard (by rfl) ?_; dsimp only)); refine box_event ?hg (N := 4) ?hd (cs := #[.int .i64 0, .slice none 0 0]) (t := 64) ?hr ?_; (case hd => rfl); (case hg => rfl); (case hr => first | (go_simp; done) | (go_simp; rfl)); intro gb103 hg w6 hbox hb; have n0_ := Aside0.mk (below_step (by repeat (first | (with_reducible first | exact HB.out | apply below_alloc | apply pw_below_drewN | apply below_drew1) | exact HB.out)) hb); have n1_ := Aside0.mk (hbox); have n2_ := Aside0.mk ((by rw [hg]; exact (below_size (by repeat (first | (with_reducible first | exact HB.out | apply below_alloc | apply pw_below_drewN | apply below_drew1) | exact HB.out))) : w.heap.size ≤ gb103)); have n3_ := Aside0.mk ((by rw [hg]; exact (below_size (by repeat (first | (with_reducible first | exact HB.out | apply below_alloc | apply pw_below_drewN | apply below_drew1) | exact HB.out))) : w.heap.size ≤ gb103)); clear HB; have HB := n0_; have BK103 := n1_; have GW103 := n2_; have GE103 := n3_; clear n0_ n1_ n2_ n3_; clear hb hbox hg; have hcz7_0 : w6.cell? ⟨gb103, 0, none⟩ = some (.int .i64 0) := (blk_cell BK103.out 0).trans rfl; have hcz7_1 : w6.cell? ⟨gb103, 1, none⟩ = some (.slice none 0 0) := (blk_cell BK103.out 1).trans rfl; have hfz7_0 := blk_frozen BK103.out 0; have hfz7_1 := blk_frozen BK103.out 1)))
            (try simp only [Act.put, List.setIfInBounds_toArray, List.set_cons_zero, List.set_cons_succ])
            go_cut [38] (fun v38 wc => ∃ (kq : Nat) (x38_4 : Bool), v38 = .bool x38_4 ∧ Aside0 (page_freed.j1 kq l0 l0 (l0.length : Int) x9_1 x38_4 ((rd_T64 l0 x9_1).f0) ((rd_T64 l0 x9_1).f1) = some r) ∧ Aside0 (kq ≤ k1) ∧ Aside0 (wc.heap[gb103]? = some (.cells #[.int .i64 ((rd_T64 l0 x9_1).f0), (.slice A102_1 ((rd_T64 l0 x9_1).f1).length c102_1)] 64 (0, 0))) ∧ Aside0 (Below w.heap.size w wc))
            case first =>
              have H := HC5.out
              clear HC5
              replace H := Option.bind_eq_some_iff.mp H
              obtain ⟨t104, A80, H⟩ := H
              replace H : (if t104 = true then (if (((rd_T64 l0 x9_1).f1).length : Int) = 0 then (page_freed.j1 k1 l0 l0 (l0.length : Int) x9_1 true ((rd_T64 l0 x9_1).f0) ((rd_T64 l0 x9_1).f1)) else (if x9_1 > 0 then (if 0 ≤ (wrap64 (x9_1 - 1)) then (if (wrap64 (x9_1 - 1)) < (l0.length : Int) then (page_freed.j1 k1 l0 l0 (l0.length : Int) x9_1 (decide (((rd_T64 l0 (wrap64 (x9_1 - 1))).f0) ≥ ((rd_T64 l0 x9_1).f0))) ((rd_T64 l0 x9_1).f0) ((rd_T64 l0 x9_1).f1)) else (none)) else (none)) else (page_freed.j1 k1 l0 l0 (l0.length : Int) x9_1 false ((rd_T64 l0 x9_1).f0) ((rd_T64 l0 x9_1).f1)))) else (page_freed.j1 k1 l0 l0 (l0.length : Int) x9_1 true ((rd_T64 l0 x9_1).f0) ((rd_T64 l0 x9_1).f1))) = some r := H
              have A8 := Aside0.mk A80
              clear A80
              by_cases c9 : t104 = true
              · subst c9
                have H1 : (if (((rd_T64 l0 x9_1).f1).length : Int) = 0 then (page_freed.j1 k1 l0 l0 (l0.length : Int) x9_1 true ((rd_T64 l0 x9_1).f0) ((rd_T64 l0 x9_1).f1)) else (if x9_1 > 0 then (if 0 ≤ (wrap64 (x9_1 - 1)) then (if (wrap64 (x9_1 - 1)) < (l0.length : Int) then (page_freed.j1 k1 l0 l0 (l0.length : Int) x9_1 (decide (((rd_T64 l0 (wrap64 (x9_1 - 1))).f0) ≥ ((rd_T64 l0 x9_1).f0))) ((rd_T64 l0 x9_1).f0) ((rd_T64 l0 x9_1).f1)) else (none)) else (none)) else (page_freed.j1 k1 l0 l0 (l0.length : Int) x9_1 false ((rd_T64 l0 x9_1).f0) ((rd_T64 l0 x9_1).f1)))) = some r := by rw [if_pos rfl] at H; exact H
                clear H
                have H := H1
                clear H1
                by_cases c10 : (((rd_T64 l0 x9_1).f1).length : Int) = 0
                · rw [if_pos c10] at H
                  have c10b0 : ((((rd_T64 l0 x9_1).f1).length : Int) == 0) = true := beq_iff_eq.mpr c10
                  have c10b1 : ((((rd_T64 l0 x9_1).f1).length : Int) != 0) = false := bne_eq_false_iff_eq.mpr c10
                  clear c10
                  (first | rw [c10b0] | (simp only [i64_w, i32_w]; rw [c10b0]) | skip)
                  have H' := Aside0.mk H
                  clear H
                  have hcz11_0 : w6.cell? ⟨gb103, 0, none⟩ = some (.int .i64 0) := (blk_cell BK103.out 0).trans rfl
                  have hcz11_1 : w6.cell? ⟨gb103, 1, none⟩ = some (.slice none 0 0) := (blk_cell BK103.out 1).trans rfl
                  have hfz11_0 := blk_frozen BK103.out 0
                  have hfz11_1 := blk_frozen BK103.out 1
                  go_wp2_with (first | (go_at_call 118; (with_reducible refine (page_within.calls ((rd_T64 l0 x9_1).f0) 0 1099511627776 true _ A8.out).mono ?_); rintro e w' ⟨rfl, ⟨nd, rfl⟩⟩; (try first | exact ⟨rfl, _, World.drewN_drewN _ _ _⟩ | exact ⟨rfl, _, Eq.trans (World.drewN_drewN _ _ _) (congrArg (World.drewN _) (Nat.add_assoc _ _ _))⟩)))
                  repeat (go_quiet (first | (go_at_call 118; (with_reducible refine (page_within.calls ((rd_T64 l0 x9_1).f0) 0 1099511627776 true _ A8.out).mono ?_); rintro e w' ⟨rfl, ⟨nd, rfl⟩⟩; (try first | exact ⟨rfl, _, World.drewN_drewN _ _ _⟩ | exact ⟨rfl, _, Eq.trans (World.drewN_drewN _ _ _) (congrArg (World.drewN _) (Nat.add_assoc _ _ _))⟩))); try go_wp2_with (first | (go_at_call 118; (with_reducible refine (page_within.calls ((rd_T64 l0 x9_1).f0) 0 1099511627776 true _ A8.out).mono ?_); rintro e w' ⟨rfl, ⟨nd, rfl⟩⟩; (try first | exact ⟨rfl, _, World.drewN_drewN _ _ _⟩ | exact ⟨rfl, _, Eq.trans (World.drewN_drewN _ _ _) (congrArg (World.drewN _) (Nat.add_assoc _ _ _))⟩))))
                  go_meet
                  case rel => exact ⟨_, (true), (by first | rfl | (simp; done) | (simp [*]; done)), H', ⟨by have := HK1.out; first | omega | exact Nat.le_refl _⟩, ⟨by (with_reducible repeat (first | refine blk_drewN ?_ _ | refine blk_drew ?_ | refine blk_alloc ?_ _)); refine blk_put (cs := #[.int .i64 ((rd_T64 l0 x9_1).f0), .slice none 0 0]) ?_ 1 _ rfl; (with_reducible repeat (first | refine blk_drewN ?_ _ | refine blk_drew ?_ | refine blk_alloc ?_ _)); refine blk_put (cs := #[.int .i64 0, .slice none 0 0]) ?_ 0 _ rfl; (with_reducible repeat (first | refine blk_drewN ?_ _ | refine blk_drew ?_ | refine blk_alloc ?_ _)); exact BK103.out⟩, ⟨by repeat (first | (with_reducible first | exact HB.out | apply below_alloc | apply pw_below_drewN | apply below_drew1 | refine below_set ?_ GE103.out) | exact HB.out)⟩⟩
                · rw [if_neg c10] at H
                  have c10b0 : ((((rd_T64 l0 x9_1).f1).length : Int) == 0) = false := beq_eq_false_iff_ne.mpr c10
                  have c10b1 : ((((rd_T64 l0 x9_1).f1).length : Int) != 0) = true := bne_iff_ne.mpr c10
                  have c10b2 : ¬ (((rd_T64 l0 x9_1).f1) = []) := fun h_ => c10 (by rw [h_]; rfl)
                  (first | rw [c10b0] | (simp only [i64_w, i32_w]; rw [c10b0]) | skip)
                  by_cases c12 : x9_1 > 0
                  · rw [if_pos c12] at H
                    have c12b0 : decide (0 < x9_1) = true := decide_eq_true c12
                    clear c12
                    obtain ⟨ji13, hji13⟩ : ∃ j_ : Int, (wrap64 (x9_1 - 1)) = j_ := ⟨_, rfl⟩
                    replace H : (if 0 ≤ (ji13) then (if (ji13) < (l0.length : Int) then (page_freed.j1 k1 l0 l0 (l0.length : Int) x9_1 (decide (((rd_T64 l0 (ji13)).f0) ≥ ((rd_T64 l0 x9_1).f0))) ((rd_T64 l0 x9_1).f0) ((rd_T64 l0 x9_1).f1)) else (none)) else (none)) = some r := by first | (rw [hji13] at H; exact H) | (simp only [hji13] at H ⊢; exact H)
                    (try rw [hji13] at A8)
                    have hji13w : (IntKind.i64.wrap (x9_1 - 1)) = ji13 := (i64_w _).trans hji13
                    by_cases c14 : 0 ≤ (ji13)
                    · rw [if_pos c14] at H
                      have c14b0 : decide (0 ≤ (ji13)) = true := decide_eq_true c14
                      clear c14
                      by_cases c15 : (ji13) < (l0.length : Int)
                      · rw [if_pos c15] at H
                        have c15b0 : decide ((ji13) < (l0.length : Int)) = true := decide_eq_true c15
                        clear c15
                        have H' := Aside0.mk H
                        clear H
                        have hcz16_0 : w6.cell? ⟨gb103, 0, none⟩ = some (.int .i64 0) := (blk_cell BK103.out 0).trans rfl
                        have hcz16_1 : w6.cell? ⟨gb103, 1, none⟩ = some (.slice none 0 0) := (blk_cell BK103.out 1).trans rfl
                        have hfz16_0 := blk_frozen BK103.out 0
                        have hfz16_1 := blk_frozen BK103.out 1
                        go_wp2_with (first | (go_at_call 118; (with_reducible refine (page_within.calls ((rd_T64 l0 x9_1).f0) 0 1099511627776 true _ A8.out).mono ?_); rintro e w' ⟨rfl, ⟨nd, rfl⟩⟩; (try first | exact ⟨rfl, _, World.drewN_drewN _ _ _⟩ | exact ⟨rfl, _, Eq.trans (World.drewN_drewN _ _ _) (congrArg (World.drewN _) (Nat.add_assoc _ _ _))⟩); have p105 : 0 ≤ ((ji13) : Int) := of_decide_eq_true (by first | (with_reducible assumption) | assumption); have q105 : (ji13) < (l0.length : Int) := of_decide_eq_true (by first | (with_reducible assumption) | assumption); obtain ⟨ad105, A105_1, c105_1, e105, hx105_0, hx105_1, hl105_1, hi105_1⟩ := at_T64 HR0.out (ji13) p105 q105; obtain rfl : ad102 = ad105 := (by injection e105); have hn105_0 : ad102.block ≠ gb103 := Nat.ne_of_lt (Nat.lt_of_lt_of_le (by have := World.block_lt_of_cell? _ _ hx105_0; first | rwa [add_block] at this | exact this) GW103.out); have hn105_1 : ad102.block ≠ gb103 := Nat.ne_of_lt (Nat.lt_of_lt_of_le (by have := World.block_lt_of_cell? _ _ hx105_0; first | rwa [add_block] at this | exact this) GW103.out); replace hx105_0 := (HB.out.cell (World.block_lt_of_cell? w _ hx105_0)).trans hx105_0; replace hx105_1 := (HB.out.cell (World.block_lt_of_cell? w _ hx105_1)).trans hx105_1; have HR105_1 := Aside0.mk hi105_1; have HC105_1 := Aside0.mk hl105_1; clear hi105_1 hl105_1; replace hx105_0 := (cell_far (p := ⟨gb103, 0, none⟩) (by first | (rw [add_block]; exact hn105_0) | (show (Addr.add _ _).block ≠ _; rw [add_block]; exact hn105_0) | exact hn105_0) (.int .i64 ((rd_T64 l0 x9_1).f0))).trans hx105_0; replace hx105_1 := (cell_far (p := ⟨gb103, 0, none⟩) (by first | (rw [add_block]; exact hn105_0) | (show (Addr.add _ _).block ≠ _; rw [add_block]; exact hn105_0) | exact hn105_0) (.int .i64 ((rd_T64 l0 x9_1).f0))).trans hx105_1; replace hx105_0 := (cell_far (p := ⟨gb103, 1, none⟩) (by first | (rw [add_block]; exact hn105_1) | (show (Addr.add _ _).block ≠ _; rw [add_block]; exact hn105_1) | exact hn105_1) (.slice A102_1 ((rd_T64 l0 x9_1).f1).length c102_1)).trans hx105_0; replace hx105_1 := (cell_far (p := ⟨gb103, 1, none⟩) (by first | (rw [add_block]; exact hn105_1) | (show (Addr.add _ _).block ≠ _; rw [add_block]; exact hn105_1) | exact hn105_1) (.slice A102_1 ((rd_T64 l0 x9_1).f1).length c102_1)).trans hx105_1; (try have hy105_0 := fun (n_ : Nat) => (show ((((w6.drewN n_).setCell ⟨gb103, 0, none⟩ (.int .i64 ((rd_T64 l0 x9_1).f0))).setCell ⟨gb103, 1, none⟩ (.slice A102_1 ((rd_T64 l0 x9_1).f1).length c102_1))).cell? _ = some _ from hx105_0)); (try have hy105_1 := fun (n_ : Nat) => (show ((((w6.drewN n_).setCell ⟨gb103, 0, none⟩ (.int .i64 ((rd_T64 l0 x9_1).f0))).setCell ⟨gb103, 1, none⟩ (.slice A102_1 ((rd_T64 l0 x9_1).f1).length c102_1))).cell? _ = some _ from hx105_1)); clear hn105_0; clear hn105_1; replace p105 := eq_true p105; replace q105 := eq_true q105))
                        repeat (go_quiet (first | (go_at_call 118; (with_reducible refine (page_within.calls ((rd_T64 l0 x9_1).f0) 0 1099511627776 true _ A8.out).mono ?_); rintro e w' ⟨rfl, ⟨nd, rfl⟩⟩; (try first | exact ⟨rfl, _, World.drewN_drewN _ _ _⟩ | exact ⟨rfl, _, Eq.trans (World.drewN_drewN _ _ _) (congrArg (World.drewN _) (Nat.add_assoc _ _ _))⟩); have p105 : 0 ≤ ((ji13) : Int) := of_decide_eq_true (by first | (with_reducible assumption) | assumption); have q105 : (ji13) < (l0.length : Int) := of_decide_eq_true (by first | (with_reducible assumption) | assumption); obtain ⟨ad105, A105_1, c105_1, e105, hx105_0, hx105_1, hl105_1, hi105_1⟩ := at_T64 HR0.out (ji13) p105 q105; obtain rfl : ad102 = ad105 := (by injection e105); have hn105_0 : ad102.block ≠ gb103 := Nat.ne_of_lt (Nat.lt_of_lt_of_le (by have := World.block_lt_of_cell? _ _ hx105_0; first | rwa [add_block] at this | exact this) GW103.out); have hn105_1 : ad102.block ≠ gb103 := Nat.ne_of_lt (Nat.lt_of_lt_of_le (by have := World.block_lt_of_cell? _ _ hx105_0; first | rwa [add_block] at this | exact this) GW103.out); replace hx105_0 := (HB.out.cell (World.block_lt_of_cell? w _ hx105_0)).trans hx105_0; replace hx105_1 := (HB.out.cell (World.block_lt_of_cell? w _ hx105_1)).trans hx105_1; have HR105_1 := Aside0.mk hi105_1; have HC105_1 := Aside0.mk hl105_1; clear hi105_1 hl105_1; replace hx105_0 := (cell_far (p := ⟨gb103, 0, none⟩) (by first | (rw [add_block]; exact hn105_0) | (show (Addr.add _ _).block ≠ _; rw [add_block]; exact hn105_0) | exact hn105_0) (.int .i64 ((rd_T64 l0 x9_1).f0))).trans hx105_0; replace hx105_1 := (cell_far (p := ⟨gb103, 0, none⟩) (by first | (rw [add_block]; exact hn105_0) | (show (Addr.add _ _).block ≠ _; rw [add_block]; exact hn105_0) | exact hn105_0) (.int .i64 ((rd_T64 l0 x9_1).f0))).trans hx105_1; replace hx105_0 := (cell_far (p := ⟨gb103, 1, none⟩) (by first | (rw [add_block]; exact hn105_1) | (show (Addr.add _ _).block ≠ _; rw [add_block]; exact hn105_1) | exact hn105_1) (.slice A102_1 ((rd_T64 l0 x9_1).f1).length c102_1)).trans hx105_0; replace hx105_1 := (cell_far (p := ⟨gb103, 1, none⟩) (by first | (rw [add_block]; exact hn105_1) | (show (Addr.add _ _).block ≠ _; rw [add_block]; exact hn105_1) | exact hn105_1) (.slice A102_1 ((rd_T64 l0 x9_1).f1).length c102_1)).trans hx105_1; (try have hy105_0 := fun (n_ : Nat) => (show ((((w6.drewN n_).setCell ⟨gb103, 0, none⟩ (.int .i64 ((rd_T64 l0 x9_1).f0))).setCell ⟨gb103, 1, none⟩ (.slice A102_1 ((rd_T64 l0 x9_1).f1).length c102_1))).cell? _ = some _ from hx105_0)); (try have hy105_1 := fun (n_ : Nat) => (show ((((w6.drewN n_).setCell ⟨gb103, 0, none⟩ (.int .i64 ((rd_T64 l0 x9_1).f0))).setCell ⟨gb103, 1, none⟩ (.slice A102_1 ((rd_T64 l0 x9_1).f1).length c102_1))).cell? _ = some _ from hx105_1)); clear hn105_0; clear hn105_1; replace p105 := eq_true p105; replace q105 := eq_true q105)); try go_wp2_with (first | (go_at_call 118; (with_reducible refine (page_within.calls ((rd_T64 l0 x9_1).f0) 0 1099511627776 true _ A8.out).mono ?_); rintro e w' ⟨rfl, ⟨nd, rfl⟩⟩; (try first | exact ⟨rfl, _, World.drewN_drewN _ _ _⟩ | exact ⟨rfl, _, Eq.trans (World.drewN_drewN _ _ _) (congrArg (World.drewN _) (Nat.add_assoc _ _ _))⟩); have p105 : 0 ≤ ((ji13) : Int) := of_decide_eq_true (by first | (with_reducible assumption) | assumption); have q105 : (ji13) < (l0.length : Int) := of_decide_eq_true (by first | (with_reducible assumption) | assumption); obtain ⟨ad105, A105_1, c105_1, e105, hx105_0, hx105_1, hl105_1, hi105_1⟩ := at_T64 HR0.out (ji13) p105 q105; obtain rfl : ad102 = ad105 := (by injection e105); have hn105_0 : ad102.block ≠ gb103 := Nat.ne_of_lt (Nat.lt_of_lt_of_le (by have := World.block_lt_of_cell? _ _ hx105_0; first | rwa [add_block] at this | exact this) GW103.out); have hn105_1 : ad102.block ≠ gb103 := Nat.ne_of_lt (Nat.lt_of_lt_of_le (by have := World.block_lt_of_cell? _ _ hx105_0; first | rwa [add_block] at this | exact this) GW103.out); replace hx105_0 := (HB.out.cell (World.block_lt_of_cell? w _ hx105_0)).trans hx105_0; replace hx105_1 := (HB.out.cell (World.block_lt_of_cell? w _ hx105_1)).trans hx105_1; have HR105_1 := Aside0.mk hi105_1; have HC105_1 := Aside0.mk hl105_1; clear hi105_1 hl105_1; replace hx105_0 := (cell_far (p := ⟨gb103, 0, none⟩) (by first | (rw [add_block]; exact hn105_0) | (show (Addr.add _ _).block ≠ _; rw [add_block]; exact hn105_0) | exact hn105_0) (.int .i64 ((rd_T64 l0 x9_1).f0))).trans hx105_0; replace hx105_1 := (cell_far (p := ⟨gb103, 0, none⟩) (by first | (rw [add_block]; exact hn105_0) | (show (Addr.add _ _).block ≠ _; rw [add_block]; exact hn105_0) | exact hn105_0) (.int .i64 ((rd_T64 l0 x9_1).f0))).trans hx105_1; replace hx105_0 := (cell_far (p := ⟨gb103, 1, none⟩) (by first | (rw [add_block]; exact hn105_1) | (show (Addr.add _ _).block ≠ _; rw [add_block]; exact hn105_1) | exact hn105_1) (.slice A102_1 ((rd_T64 l0 x9_1).f1).length c102_1)).trans hx105_0; replace hx105_1 := (cell_far (p := ⟨gb103, 1, none⟩) (by first | (rw [add_block]; exact hn105_1) | (show (Addr.add _ _).block ≠ _; rw [add_block]; exact hn105_1) | exact hn105_1) (.slice A102_1 ((rd_T64 l0 x9_1).f1).length c102_1)).trans hx105_1; (try have hy105_0 := fun (n_ : Nat) => (show ((((w6.drewN n_).setCell ⟨gb103, 0, none⟩ (.int .i64 ((rd_T64 l0 x9_1).f0))).setCell ⟨gb103, 1, none⟩ (.slice A102_1 ((rd_T64 l0 x9_1).f1).length c102_1))).cell? _ = some _ from hx105_0)); (try have hy105_1 := fun (n_ : Nat) => (show ((((w6.drewN n_).setCell ⟨gb103, 0, none⟩ (.int .i64 ((rd_T64 l0 x9_1).f0))).setCell ⟨gb103, 1, none⟩ (.slice A102_1 ((rd_T64 l0 x9_1).f1).length c102_1))).cell? _ = some _ from hx105_1)); clear hn105_0; clear hn105_1; replace p105 := eq_true p105; replace q105 := eq_true q105)))
                        go_meet
                        case rel => exact ⟨_, (decide (((rd_T64 l0 (ji13)).f0) ≥ ((rd_T64 l0 x9_1).f0))), (by first | rfl | (simp; done) | (simp only [← hji13] <;> (first | rfl | simp)) | (simp [*]; done)), H', ⟨by have := HK1.out; first | omega | exact Nat.le_refl _⟩, ⟨by (with_reducible repeat (first | refine blk_drewN ?_ _ | refine blk_drew ?_ | refine blk_alloc ?_ _)); refine blk_put (cs := #[.int .i64 ((rd_T64 l0 x9_1).f0), .slice none 0 0]) ?_ 1 _ rfl; (with_reducible repeat (first | refine blk_drewN ?_ _ | refine blk_drew ?_ | refine blk_alloc ?_ _)); refine blk_put (cs := #[.int .i64 0, .slice none 0 0]) ?_ 0 _ rfl; (with_reducible repeat (first | refine blk_drewN ?_ _ | refine blk_drew ?_ | refine blk_alloc ?_ _)); exact BK103.out⟩, ⟨by repeat (first | (with_reducible first | exact HB.out | apply below_alloc | apply pw_below_drewN | apply below_drew1 | refine below_set ?_ GE103.out) | exact HB.out)⟩⟩
                      · rw [if_neg c15] at H
                        exact absurd H (by simp)
                    · rw [if_neg c14] at H
                      exact absurd H (by simp)
                  · rw [if_neg c12] at H
                    have c12b0 : decide (0 < x9_1) = false := decide_eq_false c12
                    clear c12
                    have H' := Aside0.mk H
                    clear H
                    have hcz17_0 : w6.cell? ⟨gb103, 0, none⟩ = some (.int .i64 0) := (blk_cell BK103.out 0).trans rfl
                    have hcz17_1 : w6.cell? ⟨gb103, 1, none⟩ = some (.slice none 0 0) := (blk_cell BK103.out 1).trans rfl
                    have hfz17_0 := blk_frozen BK103.out 0
                    have hfz17_1 := blk_frozen BK103.out 1
                    go_wp2_with (first | (go_at_call 118; (with_reducible refine (page_within.calls ((rd_T64 l0 x9_1).f0) 0 1099511627776 true _ A8.out).mono ?_); rintro e w' ⟨rfl, ⟨nd, rfl⟩⟩; (try first | exact ⟨rfl, _, World.drewN_drewN _ _ _⟩ | exact ⟨rfl, _, Eq.trans (World.drewN_drewN _ _ _) (congrArg (World.drewN _) (Nat.add_assoc _ _ _))⟩)))
                    repeat (go_quiet (first | (go_at_call 118; (with_reducible refine (page_within.calls ((rd_T64 l0 x9_1).f0) 0 1099511627776 true _ A8.out).mono ?_); rintro e w' ⟨rfl, ⟨nd, rfl⟩⟩; (try first | exact ⟨rfl, _, World.drewN_drewN _ _ _⟩ | exact ⟨rfl, _, Eq.trans (World.drewN_drewN _ _ _) (congrArg (World.drewN _) (Nat.add_assoc _ _ _))⟩))); try go_wp2_with (first | (go_at_call 118; (with_reducible refine (page_within.calls ((rd_T64 l0 x9_1).f0) 0 1099511627776 true _ A8.out).mono ?_); rintro e w' ⟨rfl, ⟨nd, rfl⟩⟩; (try first | exact ⟨rfl, _, World.drewN_drewN _ _ _⟩ | exact ⟨rfl, _, Eq.trans (World.drewN_drewN _ _ _) (congrArg (World.drewN _) (Nat.add_assoc _ _ _))⟩))))
                    go_meet
                    case rel => exact ⟨_, (false), (by first | rfl | (simp; done) | (simp [*]; done)), H', ⟨by have := HK1.out; first | omega | exact Nat.le_refl _⟩, ⟨by (with_reducible repeat (first | refine blk_drewN ?_ _ | refine blk_drew ?_ | refine blk_alloc ?_ _)); refine blk_put (cs := #[.int .i64 ((rd_T64 l0 x9_1).f0), .slice none 0 0]) ?_ 1 _ rfl; (with_reducible repeat (first | refine blk_drewN ?_ _ | refine blk_drew ?_ | refine blk_alloc ?_ _)); refine blk_put (cs := #[.int .i64 0, .slice none 0 0]) ?_ 0 _ rfl; (with_reducible repeat (first | refine blk_drewN ?_ _ | refine blk_drew ?_ | refine blk_alloc ?_ _)); exact BK103.out⟩, ⟨by repeat (first | (with_reducible first | exact HB.out | apply below_alloc | apply pw_below_drewN | apply below_drew1 | refine below_set ?_ GE103.out) | exact HB.out)⟩⟩
              · replace c9 := Bool.eq_false_iff.mpr c9
                subst c9
                have H1 : (page_freed.j1 k1 l0 l0 (l0.length : Int) x9_1 true ((rd_T64 l0 x9_1).f0) ((rd_T64 l0 x9_1).f1)) = some r := by rw [if_neg (show ¬ (false = true) by decide)] at H; exact H
                clear H
                have H := H1
                clear H1
                have H' := Aside0.mk H
                clear H
                have hcz18_0 : w6.cell? ⟨gb103, 0, none⟩ = some (.int .i64 0) := (blk_cell BK103.out 0).trans rfl
                have hcz18_1 : w6.cell? ⟨gb103, 1, none⟩ = some (.slice none 0 0) := (blk_cell BK103.out 1).trans rfl
                have hfz18_0 := blk_frozen BK103.out 0
                have hfz18_1 := blk_frozen BK103.out 1
                go_wp2_with (first | (go_at_call 118; (with_reducible refine (page_within.calls ((rd_T64 l0 x9_1).f0) 0 1099511627776 false _ A8.out).mono ?_); rintro e w' ⟨rfl, ⟨nd, rfl⟩⟩; (try first | exact ⟨rfl, _, World.drewN_drewN _ _ _⟩ | exact ⟨rfl, _, Eq.trans (World.drewN_drewN _ _ _) (congrArg (World.drewN _) (Nat.add_assoc _ _ _))⟩)))
                repeat (go_quiet (first | (go_at_call 118; (with_reducible refine (page_within.calls ((rd_T64 l0 x9_1).f0) 0 1099511627776 false _ A8.out).mono ?_); rintro e w' ⟨rfl, ⟨nd, rfl⟩⟩; (try first | exact ⟨rfl, _, World.drewN_drewN _ _ _⟩ | exact ⟨rfl, _, Eq.trans (World.drewN_drewN _ _ _) (congrArg (World.drewN _) (Nat.add_assoc _ _ _))⟩))); try go_wp2_with (first | (go_at_call 118; (with_reducible refine (page_within.calls ((rd_T64 l0 x9_1).f0) 0 1099511627776 false _ A8.out).mono ?_); rintro e w' ⟨rfl, ⟨nd, rfl⟩⟩; (try first | exact ⟨rfl, _, World.drewN_drewN _ _ _⟩ | exact ⟨rfl, _, Eq.trans (World.drewN_drewN _ _ _) (congrArg (World.drewN _) (Nat.add_assoc _ _ _))⟩))))
                go_meet
                case rel => exact ⟨_, (true), (by first | rfl | (simp; done) | (simp [*]; done)), H', ⟨by have := HK1.out; first | omega | exact Nat.le_refl _⟩, ⟨by (with_reducible repeat (first | refine blk_drewN ?_ _ | refine blk_drew ?_ | refine blk_alloc ?_ _)); refine blk_put (cs := #[.int .i64 ((rd_T64 l0 x9_1).f0), .slice none 0 0]) ?_ 1 _ rfl; (with_reducible repeat (first | refine blk_drewN ?_ _ | refine blk_drew ?_ | refine blk_alloc ?_ _)); refine blk_put (cs := #[.int .i64 0, .slice none 0 0]) ?_ 0 _ rfl; (with_reducible repeat (first | refine blk_drewN ?_ _ | refine blk_drew ?_ | refine blk_alloc ?_ _)); exact BK103.out⟩, ⟨by repeat (first | (with_reducible first | exact HB.out | apply below_alloc | apply pw_below_drewN | apply below_drew1 | refine below_set ?_ GE103.out) | exact HB.out)⟩⟩
            case rest =>
              clear HC5
              try clear c1
              try clear p1
              try clear q1
              try clear hx1
              try clear c2
              try clear c2b0
              try clear p2
              try clear c3
              try clear c3b0
              try clear c4
              try clear c4b0
              try clear p6
              try clear c7
              try clear c9
              try clear c10
              try clear c10b0
              try clear c10b1
              try clear c10b2
              try clear p10
              try clear q10
              try clear hx10
              try clear c12
              try clear c12b0
              try clear c14
              try clear c14b0
              try clear c15
              try clear c15b0
              try clear hcz11_0
              try clear hcz11_1
              try clear hcz16_0
              try clear hcz16_1
              try clear hcz17_0
              try clear hcz17_1
              try clear hcz18_0
              try clear hcz18_1
              try clear hcz7_0
              try clear hcz7_1
              try clear hfz11_0
              try clear hfz11_1
              try clear hfz16_0
              try clear hfz16_1
              try clear hfz17_0
              try clear hfz17_1
              try clear hfz18_0
              try clear hfz18_1
              try clear hfz7_0
              try clear hfz7_1
              try clear hx102_0
              try clear hx102_1
              try clear hx105_0
              try clear hx105_1
              try clear p102
              try clear p105
              try clear q102
              try clear q105
              obtain ⟨kq, x38_4, rfl, HA, HJ4, BK103, HB⟩ := hcut
              cases kq with
              | zero => exact absurd HA.out (by simp [page_freed.j1])
              | succ kj4 =>
                have H := HA.out
                clear HA
                simp only [page_freed.j1] at H
                by_cases c19 : x38_4 = true
                · subst c19
                  have H1 : (some false) = some r := by rw [if_pos rfl] at H; exact H
                  clear H
                  have H := H1
                  clear H1
                  obtain rfl := Option.some.inj H
                  go_wp2
                  repeat (go_quiet (fail); try go_wp2)
                  go_ret
                  exact ⟨by first | rfl | (simp [errW_none, errW_some] <;> rfl) | (simp [*, errW_none, errW_some] <;> rfl), by repeat (first | (with_reducible first | exact HB.out | apply below_alloc | apply pw_below_drewN | apply below_drew1 | refine below_set ?_ GE103.out) | exact HB.out)⟩
                · replace c19 := Bool.eq_false_iff.mpr c19
                  subst c19
                  have H1 : (page_freed.l1 kj4 l0 l0 (l0.length : Int) x9_1 ((rd_T64 l0 x9_1).f1) (((rd_T64 l0 x9_1).f1).length : Int) 0 ((rd_T64 l0 x9_1).f0) ((rd_T64 l0 x9_1).f1)) = some r := by rw [if_neg (show ¬ (false = true) by decide)] at H; exact H
                  clear H
                  have H := H1
                  clear H1
                  have H' := Aside0.mk H
                  clear H
                  have hcz20_0 : wc.cell? ⟨gb103, 0, none⟩ = some (.int .i64 ((rd_T64 l0 x9_1).f0)) := (blk_cell BK103.out 0).trans rfl
                  have hcz20_1 : wc.cell? ⟨gb103, 1, none⟩ = some (.slice A102_1 ((rd_T64 l0 x9_1).f1).length c102_1) := (blk_cell BK103.out 1).trans rfl
                  have hfz20_0 := blk_frozen BK103.out 0
                  have hfz20_1 := blk_frozen BK103.out 1
                  go_wp2
                  repeat (go_quiet (fail); try go_wp2)
                  go_loopg [42] kj4 (fun kq v42 w' => ∃ (x42_3 : Int), v42 = .int .i64 x42_3 ∧ Aside0 (page_freed.l1 kq l0 l0 (l0.length : Int) x9_1 ((rd_T64 l0 x9_1).f1) (((rd_T64 l0 x9_1).f1).length : Int) x42_3 ((rd_T64 l0 x9_1).f0) ((rd_T64 l0 x9_1).f1) = some r) ∧ Aside0 (kq ≤ kj4) ∧ Aside0 (w'.heap[gb103]? = some (.cells #[.int .i64 ((rd_T64 l0 x9_1).f0), (.slice A102_1 ((rd_T64 l0 x9_1).f1).length c102_1)] 64 (0, 0))) ∧ Aside0 (Below w.heap.size w w'))
                  case atStart => exact ⟨(0), (by first | rfl | (simp; done) | (simp [*]; done)), H', ⟨Nat.le_refl _⟩, ⟨by (with_reducible repeat (first | refine blk_drewN ?_ _ | refine blk_drew ?_ | refine blk_alloc ?_ _)); exact BK103.out⟩, ⟨by repeat (first | (with_reducible first | exact HB.out | apply below_alloc | apply pw_below_drewN | apply below_drew1 | refine below_set ?_ GE103.out) | exact HB.out)⟩⟩
                  case round =>
                    clear H'
                    try clear c1
                    try clear p1
                    try clear q1
                    try clear hx1
                    try clear c2
                    try clear c2b0
                    try clear p2
                    try clear c3
                    try clear c3b0
                    try clear c4
                    try clear c4b0
                    try clear p6
                    try clear c7
                    try clear c9
                    try clear c10
                    try clear c10b0
                    try clear c10b1
                    try clear c10b2
                    try clear p10
                    try clear q10
                    try clear hx10
                    try clear c12
                    try clear c12b0
                    try clear c14
                    try clear c14b0
                    try clear c15
                    try clear c15b0
                    try clear c19
                    try clear hcz11_0
                    try clear hcz11_1
                    try clear hcz16_0
                    try clear hcz16_1
                    try clear hcz17_0
                    try clear hcz17_1
                    try clear hcz18_0
                    try clear hcz18_1
                    try clear hcz20_0
                    try clear hcz20_1
                    try clear hcz7_0
                    try clear hcz7_1
                    try clear hfz11_0
                    try clear hfz11_1
                    try clear hfz16_0
                    try clear hfz16_1
                    try clear hfz17_0
                    try clear hfz17_1
                    try clear hfz18_0
                    try clear hfz18_1
                    try clear hfz20_0
                    try clear hfz20_1
                    try clear hfz7_0
                    try clear hfz7_1
                    try clear hx102_0
                    try clear hx102_1
                    try clear hx105_0
                    try clear hx105_1
                    try clear p1
                    try clear p10
                    try clear p102
                    try clear p105
                    try clear p2
                    try clear p6
                    try clear q1
                    try clear q10
                    try clear q102
                    try clear q105
                    obtain ⟨x42_3, rfl, HA, HK3, BK103, HB⟩ := hrel
                    cases gk with
                    | zero => exact absurd HA.out (by simp [page_freed.l1])
                    | succ k3 =>
                      have H := HA.out
                      clear HA
                      simp only [page_freed.l1] at H
                      by_cases c21 : x42_3 < (((rd_T64 l0 x9_1).f1).length : Int)
                      · rw [if_pos c21] at H
                        have c21b0 : decide (x42_3 < (((rd_T64 l0 x9_1).f1).length : Int)) = true := decide_eq_true c21
                        clear c21
                        by_cases c22 : 0 ≤ x42_3
                        · rw [if_pos c22] at H
                          have c22b0 : decide (0 ≤ x42_3) = true := decide_eq_true c22
                          clear c22
                          by_cases c23 : x42_3 < (((rd_T64 l0 x9_1).f1).length : Int)
                          · rw [if_pos c23] at H
                            have c23b0 : decide (x42_3 < (((rd_T64 l0 x9_1).f1).length : Int)) = true := decide_eq_true c23
                            clear c23
                            replace H := Option.bind_eq_some_iff.mp H
                            obtain ⟨t107, A240, H⟩ := H
                            replace H : (if t107 = true then (if x42_3 > 0 then (if 0 ≤ (wrap64 (x42_3 - 1)) then (if (wrap64 (x42_3 - 1)) < (((rd_T64 l0 x9_1).f1).length : Int) then (if (rd ((rd_T64 l0 x9_1).f1) (wrap64 (x42_3 - 1))) ≥ (rd ((rd_T64 l0 x9_1).f1) x42_3) then (some false) else (page_freed.l1 k3 l0 l0 (l0.length : Int) x9_1 ((rd_T64 l0 x9_1).f1) (((rd_T64 l0 x9_1).f1).length : Int) (wrap64 (x42_3 + 1)) ((rd_T64 l0 x9_1).f0) ((rd_T64 l0 x9_1).f1))) else (none)) else (none)) else (page_freed.l1 k3 l0 l0 (l0.length : Int) x9_1 ((rd_T64 l0 x9_1).f1) (((rd_T64 l0 x9_1).f1).length : Int) (wrap64 (x42_3 + 1)) ((rd_T64 l0 x9_1).f0) ((rd_T64 l0 x9_1).f1))) else (some false)) = some r := H
                            have A24 := Aside0.mk A240
                            clear A240
                            by_cases c25 : t107 = true
                            · subst c25
                              have H1 : (if x42_3 > 0 then (if 0 ≤ (wrap64 (x42_3 - 1)) then (if (wrap64 (x42_3 - 1)) < (((rd_T64 l0 x9_1).f1).length : Int) then (if (rd ((rd_T64 l0 x9_1).f1) (wrap64 (x42_3 - 1))) ≥ (rd ((rd_T64 l0 x9_1).f1) x42_3) then (some false) else (page_freed.l1 k3 l0 l0 (l0.length : Int) x9_1 ((rd_T64 l0 x9_1).f1) (((rd_T64 l0 x9_1).f1).length : Int) (wrap64 (x42_3 + 1)) ((rd_T64 l0 x9_1).f0) ((rd_T64 l0 x9_1).f1))) else (none)) else (none)) else (page_freed.l1 k3 l0 l0 (l0.length : Int) x9_1 ((rd_T64 l0 x9_1).f1) (((rd_T64 l0 x9_1).f1).length : Int) (wrap64 (x42_3 + 1)) ((rd_T64 l0 x9_1).f0) ((rd_T64 l0 x9_1).f1))) = some r := by rw [if_pos rfl] at H; exact H
                              clear H
                              have H := H1
                              clear H1
                              by_cases c26 : x42_3 > 0
                              · rw [if_pos c26] at H
                                have c26b0 : decide (0 < x42_3) = true := decide_eq_true c26
                                clear c26
                                obtain ⟨ji27, hji27⟩ : ∃ j_ : Int, (wrap64 (x42_3 - 1)) = j_ := ⟨_, rfl⟩
                                replace H : (if 0 ≤ (ji27) then (if (ji27) < (((rd_T64 l0 x9_1).f1).length : Int) then (if (rd ((rd_T64 l0 x9_1).f1) (ji27)) ≥ (rd ((rd_T64 l0 x9_1).f1) x42_3) then (some false) else (page_freed.l1 k3 l0 l0 (l0.length : Int) x9_1 ((rd_T64 l0 x9_1).f1) (((rd_T64 l0 x9_1).f1).length : Int) (wrap64 (x42_3 + 1)) ((rd_T64 l0 x9_1).f0) ((rd_T64 l0 x9_1).f1))) else (none)) else (none)) = some r := by first | (rw [hji27] at H; exact H) | (simp only [hji27] at H ⊢; exact H)
                                (try rw [hji27] at A24)
                                have hji27w : (IntKind.i64.wrap (x42_3 - 1)) = ji27 := (i64_w _).trans hji27
                                by_cases c28 : 0 ≤ (ji27)
                                · rw [if_pos c28] at H
                                  have c28b0 : decide (0 ≤ (ji27)) = true := decide_eq_true c28
                                  clear c28
                                  by_cases c29 : (ji27) < (((rd_T64 l0 x9_1).f1).length : Int)
                                  · rw [if_pos c29] at H
                                    have c29b0 : decide ((ji27) < (((rd_T64 l0 x9_1).f1).length : Int)) = true := decide_eq_true c29
                                    clear c29
                                    by_cases c30 : (rd ((rd_T64 l0 x9_1).f1) (ji27)) ≥ (rd ((rd_T64 l0 x9_1).f1) x42_3)
                                    · rw [if_pos c30] at H
                                      have c30b0 : decide ((rd ((rd_T64 l0 x9_1).f1) x42_3) ≤ (rd ((rd_T64 l0 x9_1).f1) (ji27))) = true := decide_eq_true c30
                                      clear c30
                                      obtain rfl := Option.some.inj H
                                      have p106 : 0 ≤ (x42_3 : Int) := of_decide_eq_true (by first | (with_reducible assumption) | assumption)
                                      have q106 : x42_3 < (((rd_T64 l0 x9_1).f1).length : Int) := of_decide_eq_true (by first | (with_reducible assumption) | assumption)
                                      obtain ⟨ad106, e106, hx106_0⟩ := Kd.at_int HR102_1.out x42_3 p106 q106
                                      cases e106
                                      replace hx106_0 := (HB.out.cell (World.block_lt_of_cell? w _ hx106_0)).trans hx106_0
                                      replace p106 := eq_true p106
                                      replace q106 := eq_true q106
                                      go_wp2_with (first | (go_at_call 119; (with_reducible refine (page_numbered.calls (rd ((rd_T64 l0 x9_1).f1) x42_3) true _ A24.out).mono ?_); rintro e w' ⟨rfl, ⟨nd, rfl⟩⟩; (try first | exact ⟨rfl, _, World.drewN_drewN _ _ _⟩ | exact ⟨rfl, _, Eq.trans (World.drewN_drewN _ _ _) (congrArg (World.drewN _) (Nat.add_assoc _ _ _))⟩); have hcz31_0 : wr.cell? ⟨gb103, 0, none⟩ = some (.int .i64 ((rd_T64 l0 x9_1).f0)) := (blk_cell BK103.out 0).trans rfl; have hcz31_1 : wr.cell? ⟨gb103, 1, none⟩ = some (.slice (some ad106) ((rd_T64 l0 x9_1).f1).length c102_1) := (blk_cell BK103.out 1).trans rfl; have hfz31_0 := blk_frozen BK103.out 0; have hfz31_1 := blk_frozen BK103.out 1; have p108 : 0 ≤ ((ji27) : Int) := of_decide_eq_true (by first | (with_reducible assumption) | assumption); have q108 : (ji27) < (((rd_T64 l0 x9_1).f1).length : Int) := of_decide_eq_true (by first | (with_reducible assumption) | assumption); obtain ⟨ad108, e108, hx108_0⟩ := Kd.at_int HR102_1.out (ji27) p108 q108; obtain rfl : ad106 = ad108 := (by injection e108); replace hx108_0 := (HB.out.cell (World.block_lt_of_cell? w _ hx108_0)).trans hx108_0; replace p108 := eq_true p108; replace q108 := eq_true q108))
                                      repeat (go_quiet (first | (go_at_call 119; (with_reducible refine (page_numbered.calls (rd ((rd_T64 l0 x9_1).f1) x42_3) true _ A24.out).mono ?_); rintro e w' ⟨rfl, ⟨nd, rfl⟩⟩; (try first | exact ⟨rfl, _, World.drewN_drewN _ _ _⟩ | exact ⟨rfl, _, Eq.trans (World.drewN_drewN _ _ _) (congrArg (World.drewN _) (Nat.add_assoc _ _ _))⟩); have hcz31_0 : wr.cell? ⟨gb103, 0, none⟩ = some (.int .i64 ((rd_T64 l0 x9_1).f0)) := (blk_cell BK103.out 0).trans rfl; have hcz31_1 : wr.cell? ⟨gb103, 1, none⟩ = some (.slice (some ad106) ((rd_T64 l0 x9_1).f1).length c102_1) := (blk_cell BK103.out 1).trans rfl; have hfz31_0 := blk_frozen BK103.out 0; have hfz31_1 := blk_frozen BK103.out 1; have p108 : 0 ≤ ((ji27) : Int) := of_decide_eq_true (by first | (with_reducible assumption) | assumption); have q108 : (ji27) < (((rd_T64 l0 x9_1).f1).length : Int) := of_decide_eq_true (by first | (with_reducible assumption) | assumption); obtain ⟨ad108, e108, hx108_0⟩ := Kd.at_int HR102_1.out (ji27) p108 q108; obtain rfl : ad106 = ad108 := (by injection e108); replace hx108_0 := (HB.out.cell (World.block_lt_of_cell? w _ hx108_0)).trans hx108_0; replace p108 := eq_true p108; replace q108 := eq_true q108)); try go_wp2_with (first | (go_at_call 119; (with_reducible refine (page_numbered.calls (rd ((rd_T64 l0 x9_1).f1) x42_3) true _ A24.out).mono ?_); rintro e w' ⟨rfl, ⟨nd, rfl⟩⟩; (try first | exact ⟨rfl, _, World.drewN_drewN _ _ _⟩ | exact ⟨rfl, _, Eq.trans (World.drewN_drewN _ _ _) (congrArg (World.drewN _) (Nat.add_assoc _ _ _))⟩); have hcz31_0 : wr.cell? ⟨gb103, 0, none⟩ = some (.int .i64 ((rd_T64 l0 x9_1).f0)) := (blk_cell BK103.out 0).trans rfl; have hcz31_1 : wr.cell? ⟨gb103, 1, none⟩ = some (.slice (some ad106) ((rd_T64 l0 x9_1).f1).length c102_1) := (blk_cell BK103.out 1).trans rfl; have hfz31_0 := blk_frozen BK103.out 0; have hfz31_1 := blk_frozen BK103.out 1; have p108 : 0 ≤ ((ji27) : Int) := of_decide_eq_true (by first | (with_reducible assumption) | assumption); have q108 : (ji27) < (((rd_T64 l0 x9_1).f1).length : Int) := of_decide_eq_true (by first | (with_reducible assumption) | assumption); obtain ⟨ad108, e108, hx108_0⟩ := Kd.at_int HR102_1.out (ji27) p108 q108; obtain rfl : ad106 = ad108 := (by injection e108); replace hx108_0 := (HB.out.cell (World.block_lt_of_cell? w _ hx108_0)).trans hx108_0; replace p108 := eq_true p108; replace q108 := eq_true q108)))
                                      go_ret
                                      exact ⟨by first | rfl | (simp [errW_none, errW_some] <;> rfl) | (simp only [← hji27]; first | rfl | (simp [errW_none, errW_some] <;> rfl)) | (simp [*, errW_none, errW_some] <;> rfl), by repeat (first | (with_reducible first | exact HB.out | apply below_alloc | apply pw_below_drewN | apply below_drew1 | refine below_set ?_ GE103.out) | exact HB.out)⟩
                                    · rw [if_neg c30] at H
                                      have c30b0 : decide ((rd ((rd_T64 l0 x9_1).f1) x42_3) ≤ (rd ((rd_T64 l0 x9_1).f1) (ji27))) = false := decide_eq_false c30
                                      clear c30
                                      have H' := Aside0.mk H
                                      clear H
                                      have p106 : 0 ≤ (x42_3 : Int) := of_decide_eq_true (by first | (with_reducible assumption) | assumption)
                                      have q106 : x42_3 < (((rd_T64 l0 x9_1).f1).length : Int) := of_decide_eq_true (by first | (with_reducible assumption) | assumption)
                                      obtain ⟨ad106, e106, hx106_0⟩ := Kd.at_int HR102_1.out x42_3 p106 q106
                                      cases e106
                                      replace hx106_0 := (HB.out.cell (World.block_lt_of_cell? w _ hx106_0)).trans hx106_0
                                      replace p106 := eq_true p106
                                      replace q106 := eq_true q106
                                      go_wp2_with (first | (go_at_call 119; (with_reducible refine (page_numbered.calls (rd ((rd_T64 l0 x9_1).f1) x42_3) true _ A24.out).mono ?_); rintro e w' ⟨rfl, ⟨nd, rfl⟩⟩; (try first | exact ⟨rfl, _, World.drewN_drewN _ _ _⟩ | exact ⟨rfl, _, Eq.trans (World.drewN_drewN _ _ _) (congrArg (World.drewN _) (Nat.add_assoc _ _ _))⟩); have hcz32_0 : wr.cell? ⟨gb103, 0, none⟩ = some (.int .i64 ((rd_T64 l0 x9_1).f0)) := (blk_cell BK103.out 0).trans rfl; have hcz32_1 : wr.cell? ⟨gb103, 1, none⟩ = some (.slice (some ad106) ((rd_T64 l0 x9_1).f1).length c102_1) := (blk_cell BK103.out 1).trans rfl; have hfz32_0 := blk_frozen BK103.out 0; have hfz32_1 := blk_frozen BK103.out 1; have p108 : 0 ≤ ((ji27) : Int) := of_decide_eq_true (by first | (with_reducible assumption) | assumption); have q108 : (ji27) < (((rd_T64 l0 x9_1).f1).length : Int) := of_decide_eq_true (by first | (with_reducible assumption) | assumption); obtain ⟨ad108, e108, hx108_0⟩ := Kd.at_int HR102_1.out (ji27) p108 q108; obtain rfl : ad106 = ad108 := (by injection e108); replace hx108_0 := (HB.out.cell (World.block_lt_of_cell? w _ hx108_0)).trans hx108_0; replace p108 := eq_true p108; replace q108 := eq_true q108))
                                      repeat (go_quiet (first | (go_at_call 119; (with_reducible refine (page_numbered.calls (rd ((rd_T64 l0 x9_1).f1) x42_3) true _ A24.out).mono ?_); rintro e w' ⟨rfl, ⟨nd, rfl⟩⟩; (try first | exact ⟨rfl, _, World.drewN_drewN _ _ _⟩ | exact ⟨rfl, _, Eq.trans (World.drewN_drewN _ _ _) (congrArg (World.drewN _) (Nat.add_assoc _ _ _))⟩); have hcz32_0 : wr.cell? ⟨gb103, 0, none⟩ = some (.int .i64 ((rd_T64 l0 x9_1).f0)) := (blk_cell BK103.out 0).trans rfl; have hcz32_1 : wr.cell? ⟨gb103, 1, none⟩ = some (.slice (some ad106) ((rd_T64 l0 x9_1).f1).length c102_1) := (blk_cell BK103.out 1).trans rfl; have hfz32_0 := blk_frozen BK103.out 0; have hfz32_1 := blk_frozen BK103.out 1; have p108 : 0 ≤ ((ji27) : Int) := of_decide_eq_true (by first | (with_reducible assumption) | assumption); have q108 : (ji27) < (((rd_T64 l0 x9_1).f1).length : Int) := of_decide_eq_true (by first | (with_reducible assumption) | assumption); obtain ⟨ad108, e108, hx108_0⟩ := Kd.at_int HR102_1.out (ji27) p108 q108; obtain rfl : ad106 = ad108 := (by injection e108); replace hx108_0 := (HB.out.cell (World.block_lt_of_cell? w _ hx108_0)).trans hx108_0; replace p108 := eq_true p108; replace q108 := eq_true q108)); try go_wp2_with (first | (go_at_call 119; (with_reducible refine (page_numbered.calls (rd ((rd_T64 l0 x9_1).f1) x42_3) true _ A24.out).mono ?_); rintro e w' ⟨rfl, ⟨nd, rfl⟩⟩; (try first | exact ⟨rfl, _, World.drewN_drewN _ _ _⟩ | exact ⟨rfl, _, Eq.trans (World.drewN_drewN _ _ _) (congrArg (World.drewN _) (Nat.add_assoc _ _ _))⟩); have hcz32_0 : wr.cell? ⟨gb103, 0, none⟩ = some (.int .i64 ((rd_T64 l0 x9_1).f0)) := (blk_cell BK103.out 0).trans rfl; have hcz32_1 : wr.cell? ⟨gb103, 1, none⟩ = some (.slice (some ad106) ((rd_T64 l0 x9_1).f1).length c102_1) := (blk_cell BK103.out 1).trans rfl; have hfz32_0 := blk_frozen BK103.out 0; have hfz32_1 := blk_frozen BK103.out 1; have p108 : 0 ≤ ((ji27) : Int) := of_decide_eq_true (by first | (with_reducible assumption) | assumption); have q108 : (ji27) < (((rd_T64 l0 x9_1).f1).length : Int) := of_decide_eq_true (by first | (with_reducible assumption) | assumption); obtain ⟨ad108, e108, hx108_0⟩ := Kd.at_int HR102_1.out (ji27) p108 q108; obtain rfl : ad106 = ad108 := (by injection e108); replace hx108_0 := (HB.out.cell (World.block_lt_of_cell? w _ hx108_0)).trans hx108_0; replace p108 := eq_true p108; replace q108 := eq_true q108)))
                                      go_roundg k3
                                      case measure => have := HK1.out; have := HJ4.out; have := HK3.out; omega
                                      case rel => exact ⟨(wrap64 (x42_3 + 1)), (by first | rfl | (simp; done) | (simp [*]; done)), H', ⟨by have := HK1.out; have := HJ4.out; have := HK3.out; omega⟩, ⟨by (with_reducible repeat (first | refine blk_drewN ?_ _ | refine blk_drew ?_ | refine blk_alloc ?_ _)); exact BK103.out⟩, ⟨by repeat (first | (with_reducible first | exact HB.out | apply below_alloc | apply pw_below_drewN | apply below_drew1 | refine below_set ?_ GE103.out) | exact HB.out)⟩⟩
                                  · rw [if_neg c29] at H
                                    exact absurd H (by simp)
                                · rw [if_neg c28] at H
                                  exact absurd H (by simp)
                              · rw [if_neg c26] at H
                                have c26b0 : decide (0 < x42_3) = false := decide_eq_false c26
                                clear c26
                                have H' := Aside0.mk H
                                clear H
                                have p106 : 0 ≤ (x42_3 : Int) := of_decide_eq_true (by first | (with_reducible assumption) | assumption)
                                have q106 : x42_3 < (((rd_T64 l0 x9_1).f1).length : Int) := of_decide_eq_true (by first | (with_reducible assumption) | assumption)
                                obtain ⟨ad106, e106, hx106_0⟩ := Kd.at_int HR102_1.out x42_3 p106 q106
                                cases e106
                                replace hx106_0 := (HB.out.cell (World.block_lt_of_cell? w _ hx106_0)).trans hx106_0
                                replace p106 := eq_true p106
                                replace q106 := eq_true q106
                                go_wp2_with (first | (go_at_call 119; (with_reducible refine (page_numbered.calls (rd ((rd_T64 l0 x9_1).f1) x42_3) true _ A24.out).mono ?_); rintro e w' ⟨rfl, ⟨nd, rfl⟩⟩; (try first | exact ⟨rfl, _, World.drewN_drewN _ _ _⟩ | exact ⟨rfl, _, Eq.trans (World.drewN_drewN _ _ _) (congrArg (World.drewN _) (Nat.add_assoc _ _ _))⟩)))
                                repeat (go_quiet (first | (go_at_call 119; (with_reducible refine (page_numbered.calls (rd ((rd_T64 l0 x9_1).f1) x42_3) true _ A24.out).mono ?_); rintro e w' ⟨rfl, ⟨nd, rfl⟩⟩; (try first | exact ⟨rfl, _, World.drewN_drewN _ _ _⟩ | exact ⟨rfl, _, Eq.trans (World.drewN_drewN _ _ _) (congrArg (World.drewN _) (Nat.add_assoc _ _ _))⟩))); try go_wp2_with (first | (go_at_call 119; (with_reducible refine (page_numbered.calls (rd ((rd_T64 l0 x9_1).f1) x42_3) true _ A24.out).mono ?_); rintro e w' ⟨rfl, ⟨nd, rfl⟩⟩; (try first | exact ⟨rfl, _, World.drewN_drewN _ _ _⟩ | exact ⟨rfl, _, Eq.trans (World.drewN_drewN _ _ _) (congrArg (World.drewN _) (Nat.add_assoc _ _ _))⟩))))
                                go_roundg k3
                                case measure => have := HK1.out; have := HJ4.out; have := HK3.out; omega
                                case rel => exact ⟨(wrap64 (x42_3 + 1)), (by first | rfl | (simp; done) | (simp [*]; done)), H', ⟨by have := HK1.out; have := HJ4.out; have := HK3.out; omega⟩, ⟨by (with_reducible repeat (first | refine blk_drewN ?_ _ | refine blk_drew ?_ | refine blk_alloc ?_ _)); exact BK103.out⟩, ⟨by repeat (first | (with_reducible first | exact HB.out | apply below_alloc | apply pw_below_drewN | apply below_drew1 | refine below_set ?_ GE103.out) | exact HB.out)⟩⟩
                            · replace c25 := Bool.eq_false_iff.mpr c25
                              subst c25
                              have H1 : (some false) = some r := by rw [if_neg (show ¬ (false = true) by decide)] at H; exact H
                              clear H
                              have H := H1
                              clear H1
                              obtain rfl := Option.some.inj H
                              have p106 : 0 ≤ (x42_3 : Int) := of_decide_eq_true (by first | (with_reducible assumption) | assumption)
                              have q106 : x42_3 < (((rd_T64 l0 x9_1).f1).length : Int) := of_decide_eq_true (by first | (with_reducible assumption) | assumption)
                              obtain ⟨ad106, e106, hx106_0⟩ := Kd.at_int HR102_1.out x42_3 p106 q106
                              cases e106
                              replace hx106_0 := (HB.out.cell (World.block_lt_of_cell? w _ hx106_0)).trans hx106_0
                              replace p106 := eq_true p106
                              replace q106 := eq_true q106
                              go_wp2_with (first | (go_at_call 119; (with_reducible refine (page_numbered.calls (rd ((rd_T64 l0 x9_1).f1) x42_3) false _ A24.out).mono ?_); rintro e w' ⟨rfl, ⟨nd, rfl⟩⟩; (try first | exact ⟨rfl, _, World.drewN_drewN _ _ _⟩ | exact ⟨rfl, _, Eq.trans (World.drewN_drewN _ _ _) (congrArg (World.drewN _) (Nat.add_assoc _ _ _))⟩)))
                              repeat (go_quiet (first | (go_at_call 119; (with_reducible refine (page_numbered.calls (rd ((rd_T64 l0 x9_1).f1) x42_3) false _ A24.out).mono ?_); rintro e w' ⟨rfl, ⟨nd, rfl⟩⟩; (try first | exact ⟨rfl, _, World.drewN_drewN _ _ _⟩ | exact ⟨rfl, _, Eq.trans (World.drewN_drewN _ _ _) (congrArg (World.drewN _) (Nat.add_assoc _ _ _))⟩))); try go_wp2_with (first | (go_at_call 119; (with_reducible refine (page_numbered.calls (rd ((rd_T64 l0 x9_1).f1) x42_3) false _ A24.out).mono ?_); rintro e w' ⟨rfl, ⟨nd, rfl⟩⟩; (try first | exact ⟨rfl, _, World.drewN_drewN _ _ _⟩ | exact ⟨rfl, _, Eq.trans (World.drewN_drewN _ _ _) (congrArg (World.drewN _) (Nat.add_assoc _ _ _))⟩))))
                              go_ret
                              exact ⟨by first | rfl | (simp [errW_none, errW_some] <;> rfl) | (simp [*, errW_none, errW_some] <;> rfl), by repeat (first | (with_reducible first | exact HB.out | apply below_alloc | apply pw_below_drewN | apply below_drew1 | refine below_set ?_ GE103.out) | exact HB.out)⟩
                          · rw [if_neg c23] at H
                            exact absurd H (by simp)
                        · rw [if_neg c22] at H
                          exact absurd H (by simp)
                      · rw [if_neg c21] at H
                        have c21b0 : decide (x42_3 < (((rd_T64 l0 x9_1).f1).length : Int)) = false := decide_eq_false c21
                        clear c21
                        have H' := Aside0.mk H
                        clear H
                        go_wp2
                        repeat (go_quiet (fail); try go_wp2)
                        go_roundg k3
                        case measure => have := HK1.out; have := HJ4.out; have := HK3.out; omega
                        case rel => exact ⟨(wrap64 (x9_1 + 1)), (by first | rfl | (simp; done) | (simp [*]; done)), H', ⟨by have := HK1.out; have := HJ4.out; have := HK3.out; omega⟩, ⟨by repeat (first | (with_reducible first | exact HB.out | apply below_alloc | apply pw_below_drewN | apply below_drew1 | refine below_set ?_ GE103.out) | exact HB.out)⟩⟩
          · rw [if_neg c4] at H
            exact absurd H (by simp)
        · rw [if_neg c3] at H
          exact absurd H (by simp)
      · rw [if_neg c2] at H
        have c2b0 : decide (x9_1 < (l0.length : Int)) = false := decide_eq_false c2
        clear c2
        obtain rfl := Option.some.inj H
        go_wp2
        repeat (go_quiet (fail); try go_wp2)
        go_ret
        exact ⟨by first | rfl | (simp [errW_none, errW_some] <;> rfl) | (simp [*, errW_none, errW_some] <;> rfl), by repeat (first | (with_reducible first | exact HB.out | apply below_alloc | apply pw_below_drewN | apply below_drew1) | exact HB.out)⟩

-- NOT PRINTED: function 120 (api_Freed_120)

-- NOT PRINTED: function 96 (slices_Clone_int_int)

-- NOT PRINTED: function 122 (page_cutPage)

-- NOT PRINTED: function 76 (page_listParts)

-- NOT PRINTED: function 33 (page_ListNeeds)

-- NOT PRINTED: function 43 (space_caught)

-- NOT PRINTED: function 45 (space_need)

/-! ### space_within: function 46 -/
def space_within.f (a0 : Int) (a1 : Int) (a2 : Int) : Option (Bool) := if a1 ≤ a0 then (some (decide (a0 ≤ a2))) else (some false)
set_option maxHeartbeats 8000000 in
set_option maxRecDepth 100000 in
theorem space_within.calls (a0 : Int) (a1 : Int) (a2 : Int) (r : Bool) (w : World) (h : space_within.f a0 a1 a2 = some r) :
    Calls Tryz.prog 46 #[.int .i64 a0, .int .i64 a1, .int .i64 a2] w fun e w' => e = .returned (.bool r) ∧ Drawn0 w w' := by
  have H : (if a1 ≤ a0 then (some (decide (a0 ≤ a2))) else (some false)) = some r := h
  clear h
  by_cases c4 : a1 ≤ a0
  · rw [if_pos c4] at H
    have c4b0 : decide (a1 ≤ a0) = true := decide_eq_true c4
    clear c4
    obtain rfl := Option.some.inj H
    go_enter Tryz.func46, Tryz.ntmps46
    go_wp2
    go_ret
    exact ⟨by first | rfl | (simp; done) | (simp [*]; done), by repeat (first | exact Drawn0.refl _ | apply Drawn0.step)⟩
  · rw [if_neg c4] at H
    have c4b0 : decide (a1 ≤ a0) = false := decide_eq_false c4
    clear c4
    obtain rfl := Option.some.inj H
    go_enter Tryz.func46, Tryz.ntmps46
    go_wp2
    go_ret
    exact ⟨by first | rfl | (simp; done) | (simp [*]; done), by repeat (first | exact Drawn0.refl _ | apply Drawn0.step)⟩

/-! ### space_increasing: function 48 -/
def space_increasing.l0 : Nat → List Int → Int → List Int → Int → Int → Option (Bool)
  | 0, _, _, _, _, _ => none
  | k + 1, x0, x1, x7, x8, x9 => if x9 < x8 then (if 0 ≤ x9 then (if x9 < (x7.length : Int) then ((space_within.f (rd x7 x9) 2 (wrap64 (x1 - 1))).bind fun t121 => (if t121 = true then (if x9 > 0 then (if 0 ≤ (wrap64 (x9 - 1)) then (if (wrap64 (x9 - 1)) < (x0.length : Int) then (if (rd x0 (wrap64 (x9 - 1))) ≥ (rd x7 x9) then (some false) else (space_increasing.l0 k x0 x1 x7 x8 (wrap64 (x9 + 1)))) else (none)) else (none)) else (space_increasing.l0 k x0 x1 x7 x8 (wrap64 (x9 + 1)))) else (some false))) else (none)) else (none)) else (some true)
def space_increasing.f (k : Nat) (l0 : List Int) (a1 : Int) : Option (Bool) := space_increasing.l0 k l0 a1 l0 (l0.length : Int) 0
theorem space_increasing.mono_l : ∀ k, (∀ y0 y1 y2 y3 y4, LeO (space_increasing.l0 k y0 y1 y2 y3 y4) (space_increasing.l0 (k + 1) y0 y1 y2 y3 y4))
  | 0 => fun _ _ _ _ _ r h => by simp [space_increasing.l0] at h
  | k + 1 => by
    have ih0 := space_increasing.mono_l k
    · intro y0 y1 y2 y3 y4
      unfold space_increasing.l0
      repeat' first
      | (with_reducible exact ih0 _ _ _ _ _)
      | (with_reducible exact LeO.refl _)
      | (with_reducible exact LeO.none _)
      | (with_reducible refine LeO.ite ?_ ?_)
      | (with_reducible refine LeO.bind ?_ (fun _ => ?_))
      | exact ih0 _ _ _ _ _
      | exact LeO.none _
      | refine LeO.ite ?_ ?_
      | refine LeO.bind ?_ (fun _ => ?_)
theorem space_increasing.mono : ∀ a0 a1 k, LeO (space_increasing.f k a0 a1) (space_increasing.f (k + 1) a0 a1) := by
  intro a0 a1 k
  have ih0 := space_increasing.mono_l k
  unfold space_increasing.f
  repeat' first
      | (with_reducible exact ih0 _ _ _ _ _)
      | (with_reducible exact LeO.refl _)
      | (with_reducible exact LeO.none _)
      | (with_reducible refine LeO.ite ?_ ?_)
      | (with_reducible refine LeO.bind ?_ (fun _ => ?_))
      | exact ih0 _ _ _ _ _
      | exact LeO.none _
      | refine LeO.ite ?_ ?_
      | refine LeO.bind ?_ (fun _ => ?_)
set_option maxHeartbeats 8000000 in
set_option maxRecDepth 100000 in
theorem space_increasing.calls (k : Nat) (A0 : Option Addr) (c0 : Nat) (l0 : List Int) (a1 : Int) (r : Bool) (w : World) (hr0 : Kd.C (Kd.int .i64) w A0 l0.length l0) (hc0 : l0.length ≤ c0) (h : space_increasing.f k l0 a1 = some r) :
    Calls Tryz.prog 48 #[.slice A0 l0.length c0, .int .i64 a1] w fun e w' => e = .returned (.bool r) ∧ Drawn0 w w' := by
  have HR0 := Aside0.mk hr0
  have HC0 := Aside0.mk hc0
  clear hr0 hc0
  have H : (space_increasing.l0 k l0 a1 l0 (l0.length : Int) 0) = some r := h
  clear h
  have H' := Aside0.mk H
  clear H
  go_enter Tryz.func48, Tryz.ntmps48
  go_wp2
  go_loopg [9] k (fun kq v9 w' => ∃ (x9_1 : Int), v9 = .int .i64 x9_1 ∧ Aside0 (space_increasing.l0 kq l0 a1 l0 (l0.length : Int) x9_1 = some r) ∧ Aside0 (kq ≤ k) ∧ Drawn0 w w')
  case atStart => exact ⟨(0), (by first | rfl | (simp; done) | (simp [*]; done)), H', ⟨Nat.le_refl _⟩, by repeat (first | exact Drawn0.refl _ | apply Drawn0.step)⟩
  case round =>
    clear H'
    try clear p2
    obtain ⟨x9_1, rfl, HA, HK1, ⟨m1, rfl⟩⟩ := hrel
    cases gk with
    | zero => exact absurd HA.out (by simp [space_increasing.l0])
    | succ k1 =>
      have H := HA.out
      clear HA
      simp only [space_increasing.l0] at H
      by_cases c3 : x9_1 < (l0.length : Int)
      · rw [if_pos c3] at H
        have c3b0 : decide (x9_1 < (l0.length : Int)) = true := decide_eq_true c3
        clear c3
        by_cases c4 : 0 ≤ x9_1
        · rw [if_pos c4] at H
          have c4b0 : decide (0 ≤ x9_1) = true := decide_eq_true c4
          clear c4
          by_cases c5 : x9_1 < (l0.length : Int)
          · rw [if_pos c5] at H
            have c5b0 : decide (x9_1 < (l0.length : Int)) = true := decide_eq_true c5
            clear c5
            replace H := Option.bind_eq_some_iff.mp H
            obtain ⟨t121, A60, H⟩ := H
            replace H : (if t121 = true then (if x9_1 > 0 then (if 0 ≤ (wrap64 (x9_1 - 1)) then (if (wrap64 (x9_1 - 1)) < (l0.length : Int) then (if (rd l0 (wrap64 (x9_1 - 1))) ≥ (rd l0 x9_1) then (some false) else (space_increasing.l0 k1 l0 a1 l0 (l0.length : Int) (wrap64 (x9_1 + 1)))) else (none)) else (none)) else (space_increasing.l0 k1 l0 a1 l0 (l0.length : Int) (wrap64 (x9_1 + 1)))) else (some false)) = some r := H
            have A6 := Aside0.mk A60
            clear A60
            by_cases c7 : t121 = true
            · subst c7
              have H1 : (if x9_1 > 0 then (if 0 ≤ (wrap64 (x9_1 - 1)) then (if (wrap64 (x9_1 - 1)) < (l0.length : Int) then (if (rd l0 (wrap64 (x9_1 - 1))) ≥ (rd l0 x9_1) then (some false) else (space_increasing.l0 k1 l0 a1 l0 (l0.length : Int) (wrap64 (x9_1 + 1)))) else (none)) else (none)) else (space_increasing.l0 k1 l0 a1 l0 (l0.length : Int) (wrap64 (x9_1 + 1)))) = some r := by rw [if_pos rfl] at H; exact H
              clear H
              have H := H1
              clear H1
              by_cases c8 : x9_1 > 0
              · rw [if_pos c8] at H
                have c8b0 : decide (0 < x9_1) = true := decide_eq_true c8
                clear c8
                obtain ⟨ji9, hji9⟩ : ∃ j_ : Int, (wrap64 (x9_1 - 1)) = j_ := ⟨_, rfl⟩
                replace H : (if 0 ≤ (ji9) then (if (ji9) < (l0.length : Int) then (if (rd l0 (ji9)) ≥ (rd l0 x9_1) then (some false) else (space_increasing.l0 k1 l0 a1 l0 (l0.length : Int) (wrap64 (x9_1 + 1)))) else (none)) else (none)) = some r := by first | (rw [hji9] at H; exact H) | (simp only [hji9] at H ⊢; exact H)
                (try rw [hji9] at A6)
                have hji9w : (IntKind.i64.wrap (x9_1 - 1)) = ji9 := (i64_w _).trans hji9
                by_cases c10 : 0 ≤ (ji9)
                · rw [if_pos c10] at H
                  have c10b0 : decide (0 ≤ (ji9)) = true := decide_eq_true c10
                  clear c10
                  by_cases c11 : (ji9) < (l0.length : Int)
                  · rw [if_pos c11] at H
                    have c11b0 : decide ((ji9) < (l0.length : Int)) = true := decide_eq_true c11
                    clear c11
                    by_cases c12 : (rd l0 (ji9)) ≥ (rd l0 x9_1)
                    · rw [if_pos c12] at H
                      have c12b0 : decide ((rd l0 x9_1) ≤ (rd l0 (ji9))) = true := decide_eq_true c12
                      clear c12
                      obtain rfl := Option.some.inj H
                      have p120 : 0 ≤ (x9_1 : Int) := of_decide_eq_true (by first | (with_reducible assumption) | assumption)
                      have q120 : x9_1 < (l0.length : Int) := of_decide_eq_true (by first | (with_reducible assumption) | assumption)
                      obtain ⟨ad120, e120, hx120_0⟩ := Kd.at_int HR0.out x9_1 p120 q120
                      cases e120
                      replace p120 := eq_true p120
                      replace q120 := eq_true q120
                      go_wp2_with (first | ((with_reducible refine gate_callee (f := 46) rfl ?_); refine goesL_ (some 17) rfl rfl Tryz.func46 (by kernel_rfl) rfl #[.int .i64 (rd l0 x9_1), .int .i64 2, .int .i64 (wrap64 (a1 - 1))] rfl (by (try simp only [List.map_toArray, List.map_cons, List.map_nil]); first | done | rfl | (simp only [List.length_drop, List.length_take]; rfl)) ?_; (with_reducible refine (space_within.calls (rd l0 x9_1) 2 (wrap64 (a1 - 1)) true _ A6.out).mono ?_); rintro e w' ⟨rfl, ⟨nd, rfl⟩⟩; refine ⟨_, rfl, ?_⟩; have p122 : 0 ≤ ((ji9) : Int) := of_decide_eq_true (by first | (with_reducible assumption) | assumption); have q122 : (ji9) < (l0.length : Int) := of_decide_eq_true (by first | (with_reducible assumption) | assumption); obtain ⟨ad122, e122, hx122_0⟩ := Kd.at_int HR0.out (ji9) p122 q122; obtain rfl : ad120 = ad122 := (by injection e122); replace p122 := eq_true p122; replace q122 := eq_true q122))
                      go_ret
                      exact ⟨by first | rfl | (simp; done) | (simp only [← hji9] <;> (first | rfl | simp)) | (simp [*]; done), by repeat (first | exact Drawn0.refl _ | apply Drawn0.step)⟩
                    · rw [if_neg c12] at H
                      have c12b0 : decide ((rd l0 x9_1) ≤ (rd l0 (ji9))) = false := decide_eq_false c12
                      clear c12
                      have H' := Aside0.mk H
                      clear H
                      have p120 : 0 ≤ (x9_1 : Int) := of_decide_eq_true (by first | (with_reducible assumption) | assumption)
                      have q120 : x9_1 < (l0.length : Int) := of_decide_eq_true (by first | (with_reducible assumption) | assumption)
                      obtain ⟨ad120, e120, hx120_0⟩ := Kd.at_int HR0.out x9_1 p120 q120
                      cases e120
                      replace p120 := eq_true p120
                      replace q120 := eq_true q120
                      go_wp2_with (first | ((with_reducible refine gate_callee (f := 46) rfl ?_); refine goesL_ (some 17) rfl rfl Tryz.func46 (by kernel_rfl) rfl #[.int .i64 (rd l0 x9_1), .int .i64 2, .int .i64 (wrap64 (a1 - 1))] rfl (by (try simp only [List.map_toArray, List.map_cons, List.map_nil]); first | done | rfl | (simp only [List.length_drop, List.length_take]; rfl)) ?_; (with_reducible refine (space_within.calls (rd l0 x9_1) 2 (wrap64 (a1 - 1)) true _ A6.out).mono ?_); rintro e w' ⟨rfl, ⟨nd, rfl⟩⟩; refine ⟨_, rfl, ?_⟩; have p122 : 0 ≤ ((ji9) : Int) := of_decide_eq_true (by first | (with_reducible assumption) | assumption); have q122 : (ji9) < (l0.length : Int) := of_decide_eq_true (by first | (with_reducible assumption) | assumption); obtain ⟨ad122, e122, hx122_0⟩ := Kd.at_int HR0.out (ji9) p122 q122; obtain rfl : ad120 = ad122 := (by injection e122); replace p122 := eq_true p122; replace q122 := eq_true q122))
                      go_roundg k1
                      case measure => have := HK1.out; omega
                      case rel => exact ⟨(wrap64 (x9_1 + 1)), (by first | rfl | (simp; done) | (simp [*]; done)), H', ⟨by have := HK1.out; omega⟩, by repeat (first | exact Drawn0.refl _ | apply Drawn0.step)⟩
                  · rw [if_neg c11] at H
                    exact absurd H (by simp)
                · rw [if_neg c10] at H
                  exact absurd H (by simp)
              · rw [if_neg c8] at H
                have c8b0 : decide (0 < x9_1) = false := decide_eq_false c8
                clear c8
                have H' := Aside0.mk H
                clear H
                have p120 : 0 ≤ (x9_1 : Int) := of_decide_eq_true (by first | (with_reducible assumption) | assumption)
                have q120 : x9_1 < (l0.length : Int) := of_decide_eq_true (by first | (with_reducible assumption) | assumption)
                obtain ⟨ad120, e120, hx120_0⟩ := Kd.at_int HR0.out x9_1 p120 q120
                cases e120
                replace p120 := eq_true p120
                replace q120 := eq_true q120
                go_wp2_with (first | ((with_reducible refine gate_callee (f := 46) rfl ?_); refine goesL_ (some 17) rfl rfl Tryz.func46 (by kernel_rfl) rfl #[.int .i64 (rd l0 x9_1), .int .i64 2, .int .i64 (wrap64 (a1 - 1))] rfl (by (try simp only [List.map_toArray, List.map_cons, List.map_nil]); first | done | rfl | (simp only [List.length_drop, List.length_take]; rfl)) ?_; (with_reducible refine (space_within.calls (rd l0 x9_1) 2 (wrap64 (a1 - 1)) true _ A6.out).mono ?_); rintro e w' ⟨rfl, ⟨nd, rfl⟩⟩; refine ⟨_, rfl, ?_⟩))
                go_roundg k1
                case measure => have := HK1.out; omega
                case rel => exact ⟨(wrap64 (x9_1 + 1)), (by first | rfl | (simp; done) | (simp [*]; done)), H', ⟨by have := HK1.out; omega⟩, by repeat (first | exact Drawn0.refl _ | apply Drawn0.step)⟩
            · replace c7 := Bool.eq_false_iff.mpr c7
              subst c7
              have H1 : (some false) = some r := by rw [if_neg (show ¬ (false = true) by decide)] at H; exact H
              clear H
              have H := H1
              clear H1
              obtain rfl := Option.some.inj H
              have p120 : 0 ≤ (x9_1 : Int) := of_decide_eq_true (by first | (with_reducible assumption) | assumption)
              have q120 : x9_1 < (l0.length : Int) := of_decide_eq_true (by first | (with_reducible assumption) | assumption)
              obtain ⟨ad120, e120, hx120_0⟩ := Kd.at_int HR0.out x9_1 p120 q120
              cases e120
              replace p120 := eq_true p120
              replace q120 := eq_true q120
              go_wp2_with (first | ((with_reducible refine gate_callee (f := 46) rfl ?_); refine goesL_ (some 17) rfl rfl Tryz.func46 (by kernel_rfl) rfl #[.int .i64 (rd l0 x9_1), .int .i64 2, .int .i64 (wrap64 (a1 - 1))] rfl (by (try simp only [List.map_toArray, List.map_cons, List.map_nil]); first | done | rfl | (simp only [List.length_drop, List.length_take]; rfl)) ?_; (with_reducible refine (space_within.calls (rd l0 x9_1) 2 (wrap64 (a1 - 1)) false _ A6.out).mono ?_); rintro e w' ⟨rfl, ⟨nd, rfl⟩⟩; refine ⟨_, rfl, ?_⟩))
              go_ret
              exact ⟨by first | rfl | (simp; done) | (simp [*]; done), by repeat (first | exact Drawn0.refl _ | apply Drawn0.step)⟩
          · rw [if_neg c5] at H
            exact absurd H (by simp)
        · rw [if_neg c4] at H
          exact absurd H (by simp)
      · rw [if_neg c3] at H
        have c3b0 : decide (x9_1 < (l0.length : Int)) = false := decide_eq_false c3
        clear c3
        obtain rfl := Option.some.inj H
        go_wp2
        go_ret
        exact ⟨by first | rfl | (simp; done) | (simp [*]; done), by repeat (first | exact Drawn0.refl _ | apply Drawn0.step)⟩

-- NOT PRINTED: function 68 (space_each)

-- NOT PRINTED: function 72 (space_bits_add)

-- NOT PRINTED: function 47 (space_valid)

-- NOT PRINTED: function 49 (api_Page_49)

end Go.Proofs.YtpnhelcemodnmaaGreat.PA

/- Increasing numbers of pages, and valid lists of freed pages, in plain. -/
namespace Go.Proofs.YtpnhelcemodnmaaGreat
open Go.RowKit Go.Shelf Go.Proofs.YtpnhelcemodnmaaGreatW.PrintWords Go.Proofs.YtpnhelcemodnmaaGreatW.PrintLast Go.Proofs.YtpnhelcemodnmaaGreatW.PrintMore PA
set_option linter.unusedVariables false
set_option linter.unusedSimpArgs false

/-- Pages of a file, strictly increasing. -/
def incP (p : Int) (l : List Int) : Prop := (∀ n ∈ l, 2 ≤ n ∧ n ≤ p - 1) ∧ l.Pairwise (· < ·)
instance (p : Int) (l : List Int) : Decidable (incP p l) := by unfold incP; infer_instance
def incB (p : Int) (l : List Int) : Bool := decide (incP p l)
theorem sorted_snoc {xs : List Int} {x : Int} (h : xs.Pairwise (· < ·)) (hl : ∀ y, xs.getLast? = some y → y < x) : (xs ++ [x]).Pairwise (· < ·) := by
  rw [List.pairwise_append]
  refine ⟨h, List.pairwise_singleton _ _, fun a ha b hb => ?_⟩
  obtain rfl : b = x := by simpa using hb
  rcases List.eq_nil_or_concat xs with rfl | ⟨ys, y, rfl⟩
  · cases ha
  · have hy := hl y (by simp)
    rw [List.concat_eq_append, List.pairwise_append] at h
    rw [List.concat_eq_append, List.mem_append] at ha
    rcases ha with ha | ha
    · have := h.2.2 a ha y (by simp); omega
    · obtain rfl : a = y := by simpa using ha
      exact hy
theorem inc_take (p : Int) (l : List Int) (i : Nat) (h : i < l.length) : incP p (l.take (i + 1)) ↔ incP p (l.take i) ∧ (2 ≤ l[i] ∧ l[i] ≤ p - 1) ∧ (∀ j, i = j + 1 → (hj : j < l.length) → l[j] < l[i]) := by
  rw [List.take_succ_eq_append_getElem h]
  unfold incP
  constructor
  · rintro ⟨h1, h2⟩
    have h2' := List.pairwise_append.1 h2
    refine ⟨⟨fun n hn => h1 n (List.mem_append_left _ hn), h2'.1⟩, h1 _ (List.mem_append_right _ List.mem_cons_self), fun j hj hjl => h2'.2.2 _ ?_ _ List.mem_cons_self⟩
    subst hj
    rw [List.take_succ_eq_append_getElem hjl]; exact List.mem_append_right _ List.mem_cons_self
  · rintro ⟨⟨h1, h2⟩, h3, h4⟩
    refine ⟨fun n hn => ?_, sorted_snoc h2 fun y hy => ?_⟩
    · rcases List.mem_append.1 hn with hn | hn
      · exact h1 n hn
      · obtain rfl : n = l[i] := by simpa using hn
        exact h3
    · cases i with
      | zero => simp at hy
      | succ j =>
        have hjl : j < l.length := by omega
        rw [List.take_succ_eq_append_getElem hjl] at hy
        rw [List.getLast?_concat] at hy
        obtain rfl : l[j] = y := Option.some.inj hy
        exact h4 j rfl hjl
theorem inc_of_take (p : Int) (l : List Int) (i : Nat) (h : incP p l) : incP p (l.take i) := ⟨fun n hn => h.1 n (List.mem_of_mem_take hn), h.2.sublist (List.take_sublist _ _)⟩
theorem wrapn (i : Nat) (h : (i : Int) ≤ 9223372036854775807) : wrap64 ((i : Int) - 1) = (i : Int) - 1 := by unfold wrap64; omega
theorem wrapp (i : Nat) (h : (i : Int) < 9223372036854775807) : wrap64 ((i : Int) + 1) = ((i + 1 : Nat) : Int) := by unfold wrap64; omega
theorem within_some (a b c : Int) : space_within.f a b c = some (decide (b ≤ a ∧ a ≤ c)) := by
  unfold space_within.f
  by_cases h : b ≤ a <;> simp [h]
theorem inc_l0 (p : Int) (hp : -9223372036854775808 < p) (hp2 : p ≤ 9223372036854775807) (l : List Int) (hlm : l.length ≤ 9223372036854775807) (d : Nat) : ∀ (k i : Nat), i ≤ l.length → l.length - i = d → d < k → incP p (l.take i) →
    space_increasing.l0 k l p l (l.length : Int) (i : Int) = some (incB p l) := by
  have hw : wrap64 (p - 1) = p - 1 := by unfold wrap64; omega
  induction d with
  | zero =>
    intro k i h1 h2 h3 h4
    obtain ⟨k, rfl⟩ : ∃ m, k = m + 1 := ⟨k - 1, by omega⟩
    obtain rfl : i = l.length := by omega
    rw [List.take_length] at h4
    simp only [space_increasing.l0]
    rw [if_neg (by omega)]
    simp [incB, h4]
  | succ d ih =>
    intro k i h1 h2 h3 h4
    obtain ⟨k, rfl⟩ : ∃ m, k = m + 1 := ⟨k - 1, by omega⟩
    have hlt : i < l.length := by omega
    have hT := inc_take p l i hlt
    simp only [space_increasing.l0]
    rw [if_pos (by omega), if_pos (by omega), if_pos (by omega), rd_at l i hlt, hw, within_some]
    simp only [Option.bind_some]
    by_cases c1 : 2 ≤ l[i] ∧ l[i] ≤ p - 1
    · rw [if_pos (by simpa using c1)]
      cases i with
      | zero =>
        rw [if_neg (by simp)]
        rw [wrapp 0 (by omega)]
        exact ih k 1 (by omega) (by omega) (by omega) (hT.2 ⟨h4, c1, fun j hj => by omega⟩)
      | succ j =>
        have hj : j < l.length := by omega
        rw [if_pos (by omega), wrapn _ (by omega), show ((j + 1 : Nat) : Int) - 1 = (j : Int) by omega, if_pos (by omega), if_pos (by omega), rd_at l j hj]
        by_cases c2 : l[j] ≥ l[j + 1]
        · rw [if_pos c2]
          have : ¬ incP p l := fun h => by
            have := (hT.1 (inc_of_take p l _ h)).2.2 j rfl hj
            omega
          simp [incB, this]
        · rw [if_neg c2, wrapp _ (by omega)]
          refine ih k (j + 1 + 1) (by omega) (by omega) (by omega) (hT.2 ⟨h4, c1, fun j' hj' hl' => ?_⟩)
          obtain rfl : j = j' := by omega
          omega
    · rw [if_neg (by simpa using c1)]
      have : ¬ incP p l := fun h => c1 (hT.1 (inc_of_take p l _ h)).2.1
      simp [incB, this]
theorem inc_some (p : Int) (hp : -9223372036854775808 < p) (hp2 : p ≤ 9223372036854775807) (l : List Int) (hlm : l.length ≤ 9223372036854775807) : space_increasing.f (l.length + 1) l p = some (incB p l) :=
  inc_l0 p hp hp2 l hlm l.length _ 0 (by omega) rfl (by omega) ⟨by simp, by simp⟩
theorem within_any (a b c : Int) (w : World) : Calls Tryz.prog 46 #[.int .i64 a, .int .i64 b, .int .i64 c] w fun e w' => e = .returned (.bool (decide (b ≤ a ∧ a ≤ c))) ∧ Drawn0 w w' :=
  space_within.calls a b c _ w (within_some a b c)
theorem inc_any (p : Int) (hp : -9223372036854775808 < p) (hp2 : p ≤ 9223372036854775807) (l : List Int) (A : Option Addr) (c : Nat) (w : World) (h : (Kd.int .i64).C w A l.length l) (hc : l.length ≤ c) :
    Calls Tryz.prog 48 #[.slice A l.length c, .int .i64 p] w fun e w' => e = .returned (.bool (incB p l)) ∧ Drawn0 w w' :=
  space_increasing.calls _ A c l p _ w h hc (inc_some p hp hp2 l (Kd.C_max h))
/-- A list of freed pages, but for pages that are there twice. -/
def formP (p : Int) (l : List S64) : Prop := (∀ f ∈ l, 0 ≤ f.f0 ∧ f.f0 ≤ 1099511627776 ∧ f.f1 ≠ [] ∧ incP p f.f1) ∧ (l.map (·.f0)).Pairwise (· < ·)
def pagesOf (l : List S64) : List Int := (flat l).map (·.2)
/-- A valid list for a file of p pages. -/
def validP (p : Int) (l : List S64) : Prop := (2 ≤ p ∧ p ≤ 4096) ∧ formP p l ∧ (pagesOf l).Nodup
instance (p : Int) (l : List S64) : Decidable (formP p l) := by unfold formP; infer_instance
instance (p : Int) (l : List S64) : Decidable (validP p l) := by unfold validP; infer_instance
def validB (p : Int) (l : List S64) : Bool := decide (validP p l)
/-- What a round of valid's first loop asks. -/
def okAt (p : Int) (l : List S64) (i : Nat) : Prop := (0 ≤ (rd_T64 l i).f0 ∧ (rd_T64 l i).f0 ≤ 1099511627776) ∧ (∀ j, i = j + 1 → (rd_T64 l j).f0 < (rd_T64 l i).f0) ∧ (rd_T64 l i).f1 ≠ [] ∧ incP p (rd_T64 l i).f1
theorem form_take (p : Int) (l : List S64) (i : Nat) (h : i < l.length) : formP p (l.take (i + 1)) ↔ formP p (l.take i) ∧ okAt p l i := by
  unfold formP okAt
  rw [rd_nat l i h, List.take_succ_eq_append_getElem h, List.map_append]
  constructor
  · rintro ⟨h1, h2⟩
    have h2' := List.pairwise_append.1 h2
    have h3 := h1 l[i] (List.mem_append_right _ List.mem_cons_self)
    refine ⟨⟨fun f hf => h1 f (List.mem_append_left _ hf), h2'.1⟩, ⟨h3.1, h3.2.1⟩, fun j hj => h2'.2.2 _ ?_ _ List.mem_cons_self, h3.2.2.1, h3.2.2.2⟩
    subst hj
    have hj : j < l.length := by omega
    rw [rd_nat l j hj, List.take_succ_eq_append_getElem hj, List.map_append]; exact List.mem_append_right _ List.mem_cons_self
  · rintro ⟨⟨h1, h2⟩, h3, h4, h5, h6⟩
    refine ⟨fun f hf => ?_, sorted_snoc h2 fun y hy => ?_⟩
    · rcases List.mem_append.1 hf with hf | hf
      · exact h1 f hf
      · obtain rfl : f = l[i] := by simpa using hf
        exact ⟨h3.1, h3.2, h5, h6⟩
    · cases i with
      | zero => simp at hy
      | succ j =>
        have hjl : j < l.length := by omega
        rw [List.take_succ_eq_append_getElem hjl, List.map_append] at hy
        rw [show List.map (fun x : S64 => x.f0) [l[j]] = [l[j].f0] from rfl, List.getLast?_concat] at hy
        obtain rfl : l[j].f0 = y := Option.some.inj hy
        have := h4 j rfl
        rwa [rd_nat l j hjl] at this
theorem form_of_take (p : Int) (l : List S64) (i : Nat) (h : formP p l) : formP p (l.take i) := ⟨fun n hn => h.1 n (List.mem_of_mem_take hn), by
  have := h.2.sublist (List.Sublist.map (·.f0) (List.take_sublist i l)); exact this⟩
theorem not_form (p : Int) (l : List S64) (i : Nat) (h : i < l.length) (hn : ¬ okAt p l i) : validB p l = false := by
  unfold validB
  rw [decide_eq_false_iff_not]
  exact fun hv => hn ((form_take p l i h).1 (form_of_take p l (i + 1) hv.2.1)).2
theorem form_page {p : Int} {l : List S64} (h : formP p l) (x : Int × Int) (hx : x ∈ flat l) : 2 ≤ x.2 ∧ x.2 ≤ p - 1 := by
  unfold flat at hx
  rw [List.mem_flatMap] at hx
  obtain ⟨f, hf, hx⟩ := hx
  obtain ⟨n, hn, rfl⟩ := List.mem_map.1 hx
  exact (h.1 f hf).2.2.2.1 n hn
end Go.Proofs.YtpnhelcemodnmaaGreat

-- PRINTED by print.py (a twelfth state) out of the translation. Not trusted: Lean checks it.
namespace Go.Proofs.YtpnhelcemodnmaaGreat.PA
open Go.RowKit Go.Proofs.YtpnhelcemodnmaaGreatW.PrintWords Go.Proofs.YtpnhelcemodnmaaGreatW.PrintLast Go.Proofs.YtpnhelcemodnmaaGreatW.PrintMore
attribute [local go_sem] max2_int min2_int max_two min_two max_three min_three max_four min_four   -- for this text's walks alone
set_option linter.unusedVariables false
set_option linter.unusedSimpArgs false

/-! ### understoryref12_Is: function 58 -/
mutual
def understoryref12_Is.l0 : Nat → List (S64) → Int → List Bool → Int → Option (Bool)
  | 0, _, _, _, _ => none
  | k + 1, x0, x1, x5, x6 => if x6 < (x0.length : Int) then (if 0 ≤ x6 then (if ((rd_T64 x0 x6).f0) < 0 then (understoryref12_Is.j1 k x0 x1 x5 x6 true ((rd_T64 x0 x6).f0) ((rd_T64 x0 x6).f1)) else (if ((rd_T64 x0 x6).f0) > 1099511627776 then (understoryref12_Is.j1 k x0 x1 x5 x6 true ((rd_T64 x0 x6).f0) ((rd_T64 x0 x6).f1)) else (if x6 > 0 then (if 0 ≤ (wrap64 (x6 - 1)) then (if (wrap64 (x6 - 1)) < (x0.length : Int) then (if ((rd_T64 x0 x6).f0) ≤ ((rd_T64 x0 (wrap64 (x6 - 1))).f0) then (understoryref12_Is.j1 k x0 x1 x5 x6 true ((rd_T64 x0 x6).f0) ((rd_T64 x0 x6).f1)) else (understoryref12_Is.j1 k x0 x1 x5 x6 ((((rd_T64 x0 x6).f1).length : Int) == 0) ((rd_T64 x0 x6).f0) ((rd_T64 x0 x6).f1))) else (none)) else (none)) else (understoryref12_Is.j1 k x0 x1 x5 x6 ((((rd_T64 x0 x6).f1).length : Int) == 0) ((rd_T64 x0 x6).f0) ((rd_T64 x0 x6).f1))))) else (none)) else (some true)
def understoryref12_Is.j1 : Nat → List (S64) → Int → List Bool → Int → Bool → Int → List Int → Option (Bool)
  | 0, _, _, _, _, _, _, _ => none
  | k + 1, x0, x1, x5, x6, x50, x304000, x304001 => if x50 = true then (some false) else (understoryref12_Is.l1 k x0 x1 x5 x6 0 x304000 x304001)
def understoryref12_Is.l1 : Nat → List (S64) → Int → List Bool → Int → Int → Int → List Int → Option (Bool)
  | 0, _, _, _, _, _, _, _ => none
  | k + 1, x0, x1, x5, x6, x8, x304000, x304001 => if x8 < (x304001.length : Int) then (if 0 ≤ x8 then (if (rd x304001 x8) < 2 then (some false) else (if (rd x304001 x8) ≥ x1 then (some false) else (if 0 ≤ (rd x304001 x8) then (if (rd x304001 x8) < (x5.length : Int) then (if rdOf false x5 (rd x304001 x8) = true then (some false) else (if x8 > 0 then (if 0 ≤ (wrap64 (x8 - 1)) then (if (wrap64 (x8 - 1)) < (x304001.length : Int) then (if (rd x304001 x8) ≤ (rd x304001 (wrap64 (x8 - 1))) then (some false) else (understoryref12_Is.l1 k x0 x1 (x5.set ((rd x304001 x8) : Int).toNat true) x6 (wrap64 (x8 + 1)) x304000 x304001)) else (none)) else (none)) else (understoryref12_Is.l1 k x0 x1 (x5.set ((rd x304001 x8) : Int).toNat true) x6 (wrap64 (x8 + 1)) x304000 x304001))) else (none)) else (none)))) else (none)) else (understoryref12_Is.l0 k x0 x1 x5 (wrap64 (x6 + 1)))
end
def understoryref12_Is.f (k : Nat) (l0 : List (S64)) (a1 : Int) : Option (Bool) := if 0 ≤ a1 then (if (a1 : Int).toNat ≤ 281474976710656 then (understoryref12_Is.l0 k l0 a1 (List.replicate (a1 : Int).toNat false) 0) else (none)) else (none)
theorem understoryref12_Is.mono_l : ∀ k, (∀ y0 y1 y2 y3, LeO (understoryref12_Is.l0 k y0 y1 y2 y3) (understoryref12_Is.l0 (k + 1) y0 y1 y2 y3)) ∧ (∀ y0 y1 y2 y3 y4 y5 y6, LeO (understoryref12_Is.j1 k y0 y1 y2 y3 y4 y5 y6) (understoryref12_Is.j1 (k + 1) y0 y1 y2 y3 y4 y5 y6)) ∧ (∀ y0 y1 y2 y3 y4 y5 y6, LeO (understoryref12_Is.l1 k y0 y1 y2 y3 y4 y5 y6) (understoryref12_Is.l1 (k + 1) y0 y1 y2 y3 y4 y5 y6))
  | 0 => ⟨fun _ _ _ _ r h => by simp [understoryref12_Is.l0] at h, fun _ _ _ _ _ _ _ r h => by simp [understoryref12_Is.j1] at h, fun _ _ _ _ _ _ _ r h => by simp [understoryref12_Is.l1] at h⟩
  | k + 1 => by
    obtain ⟨ih0, ih1, ih2⟩ := understoryref12_Is.mono_l k
    refine ⟨?_, ?_, ?_⟩
    · intro y0 y1 y2 y3
      unfold understoryref12_Is.l0
      repeat' first
      | (with_reducible exact ih0 _ _ _ _)
      | (with_reducible exact ih1 _ _ _ _ _ _ _)
      | (with_reducible exact ih2 _ _ _ _ _ _ _)
      | (with_reducible exact LeO.refl _)
      | (with_reducible exact LeO.none _)
      | (with_reducible refine LeO.ite ?_ ?_)
      | (with_reducible refine LeO.bind ?_ (fun _ => ?_))
      | exact ih0 _ _ _ _
      | exact ih1 _ _ _ _ _ _ _
      | exact ih2 _ _ _ _ _ _ _
      | exact LeO.none _
      | refine LeO.ite ?_ ?_
      | refine LeO.bind ?_ (fun _ => ?_)
    · intro y0 y1 y2 y3 y4 y5 y6
      unfold understoryref12_Is.j1
      repeat' first
      | (with_reducible exact ih0 _ _ _ _)
      | (with_reducible exact ih1 _ _ _ _ _ _ _)
      | (with_reducible exact ih2 _ _ _ _ _ _ _)
      | (with_reducible exact LeO.refl _)
      | (with_reducible exact LeO.none _)
      | (with_reducible refine LeO.ite ?_ ?_)
      | (with_reducible refine LeO.bind ?_ (fun _ => ?_))
      | exact ih0 _ _ _ _
      | exact ih1 _ _ _ _ _ _ _
      | exact ih2 _ _ _ _ _ _ _
      | exact LeO.none _
      | refine LeO.ite ?_ ?_
      | refine LeO.bind ?_ (fun _ => ?_)
    · intro y0 y1 y2 y3 y4 y5 y6
      unfold understoryref12_Is.l1
      repeat' first
      | (with_reducible exact ih0 _ _ _ _)
      | (with_reducible exact ih1 _ _ _ _ _ _ _)
      | (with_reducible exact ih2 _ _ _ _ _ _ _)
      | (with_reducible exact LeO.refl _)
      | (with_reducible exact LeO.none _)
      | (with_reducible refine LeO.ite ?_ ?_)
      | (with_reducible refine LeO.bind ?_ (fun _ => ?_))
      | exact ih0 _ _ _ _
      | exact ih1 _ _ _ _ _ _ _
      | exact ih2 _ _ _ _ _ _ _
      | exact LeO.none _
      | refine LeO.ite ?_ ?_
      | refine LeO.bind ?_ (fun _ => ?_)
theorem understoryref12_Is.mono : ∀ a0 a1 k, LeO (understoryref12_Is.f k a0 a1) (understoryref12_Is.f (k + 1) a0 a1) := by
  intro a0 a1 k
  obtain ⟨ih0, ih1, ih2⟩ := understoryref12_Is.mono_l k
  unfold understoryref12_Is.f
  repeat' first
      | (with_reducible exact ih0 _ _ _ _)
      | (with_reducible exact ih1 _ _ _ _ _ _ _)
      | (with_reducible exact ih2 _ _ _ _ _ _ _)
      | (with_reducible exact LeO.refl _)
      | (with_reducible exact LeO.none _)
      | (with_reducible refine LeO.ite ?_ ?_)
      | (with_reducible refine LeO.bind ?_ (fun _ => ?_))
      | exact ih0 _ _ _ _
      | exact ih1 _ _ _ _ _ _ _
      | exact ih2 _ _ _ _ _ _ _
      | exact LeO.none _
      | refine LeO.ite ?_ ?_
      | refine LeO.bind ?_ (fun _ => ?_)
set_option maxHeartbeats 8000000 in
set_option maxRecDepth 100000 in
theorem understoryref12_Is.calls (k : Nat) (A0 : Option Addr) (c0 : Nat) (l0 : List (S64)) (a1 : Int) (r : Bool) (w : World) (hr0 : Kd.C k64 w A0 l0.length l0) (hc0 : l0.length ≤ c0) (h : understoryref12_Is.f k l0 a1 = some r) :
    Calls Tryz.prog 58 #[.slice A0 l0.length c0, .int .i64 a1] w fun e w' => e = .returned (.bool r) ∧ Below w.heap.size w w' := by
  have hu64 := Tryz.underlying64
  have HR0 := Aside0.mk hr0
  have HC0 := Aside0.mk hc0
  clear hr0 hc0
  have HB := Aside0.mk (Below.refl w.heap.size w)
  have H : (if 0 ≤ a1 then (if (a1 : Int).toNat ≤ 281474976710656 then (understoryref12_Is.l0 k l0 a1 (List.replicate (a1 : Int).toNat false) 0) else (none)) else (none)) = some r := h
  clear h
  by_cases c3 : 0 ≤ a1
  · rw [if_pos c3] at H
    have c3b0 := eq_true c3
    have c3b1 : decide (0 ≤ a1) = true := decide_eq_true c3
    clear c3
    by_cases c4 : (a1 : Int).toNat ≤ 281474976710656
    · rw [if_pos c4] at H
      have c4b0 := eq_true c4
      have c4b1 : decide ((a1 : Int).toNat ≤ 281474976710656) = true := decide_eq_true c4
      clear c4
      obtain ⟨y299, hy299⟩ : ∃ y_ : List Bool, y_ = (List.replicate (a1 : Int).toNat false) := ⟨_, rfl⟩
      replace H : (understoryref12_Is.l0 k l0 a1 y299 0) = some r := by first | (rw [hy299]; with_reducible exact H) | (have H2_ := (Option.bind_some _ _).symm.trans H; rw [hy299]; with_reducible exact H2_) | (have H2_ := (Option.bind_some _ _).symm.trans H; with_reducible exact H2_) | with_reducible exact H | (rw [hy299]; exact H) | exact H
      have Ny299 := Aside0.mk hy299
      clear hy299
      have H' := Aside0.mk H
      clear H
      go_enter Tryz.func58, Tryz.ntmps58
      go_wp2_with (first | ((with_reducible refine gate_dst (N := 11) rfl ?_); (try (refine gate_guard (by rfl) ?_; dsimp only)); refine Kd.R_make Kd.bool _ 4 rfl (N := 11) rfl 123 _ _ rfl a1 rfl rfl Tryz.underlying123 (.bool false) 1 info4 rfl (by decide) (by omega) false (ok := fun _ => True) (okp := fun _ => True) rfl (fun _ hk => hk) trivial (of_decide_eq_true (by first | (with_reducible assumption) | assumption)) (Nat.le_trans (Nat.mul_le_mul_right _ (of_decide_eq_true (by first | (with_reducible assumption) | assumption) : a1.toNat ≤ 281474976710656)) (by omega)) (Below.refl _ _) (Nat.le_refl _) ?_; intro v300 w5 ho6 hb hg_ hnew_; clear hg_ hnew_; (first | rw [← Ny299.out] at ho6 | (simp only [Int.reduceToNat] at ho6; rw [← Ny299.out] at ho6)); have n0_ := Aside0.mk (Kd.R_lower ho6 (below_size (by repeat (first | (with_reducible first | exact HB.out | apply below_alloc | apply pw_below_drewN | apply below_drew1) | exact HB.out)))); have n1_ := Aside0.mk (below_step (by repeat (first | (with_reducible first | exact HB.out | apply below_alloc | apply pw_below_drewN | apply below_drew1) | exact HB.out)) hb); clear HB; have HO301 := n0_; have HB := n1_; clear n0_ n1_; clear hb ho6))
      repeat (go_quiet (first | ((with_reducible refine gate_dst (N := 11) rfl ?_); (try (refine gate_guard (by rfl) ?_; dsimp only)); refine Kd.R_make Kd.bool _ 4 rfl (N := 11) rfl 123 _ _ rfl a1 rfl rfl Tryz.underlying123 (.bool false) 1 info4 rfl (by decide) (by omega) false (ok := fun _ => True) (okp := fun _ => True) rfl (fun _ hk => hk) trivial (of_decide_eq_true (by first | (with_reducible assumption) | assumption)) (Nat.le_trans (Nat.mul_le_mul_right _ (of_decide_eq_true (by first | (with_reducible assumption) | assumption) : a1.toNat ≤ 281474976710656)) (by omega)) (Below.refl _ _) (Nat.le_refl _) ?_; intro v300 w5 ho6 hb hg_ hnew_; clear hg_ hnew_; (first | rw [← Ny299.out] at ho6 | (simp only [Int.reduceToNat] at ho6; rw [← Ny299.out] at ho6)); have n0_ := Aside0.mk (Kd.R_lower ho6 (below_size (by repeat (first | (with_reducible first | exact HB.out | apply below_alloc | apply pw_below_drewN | apply below_drew1) | exact HB.out)))); have n1_ := Aside0.mk (below_step (by repeat (first | (with_reducible first | exact HB.out | apply below_alloc | apply pw_below_drewN | apply below_drew1) | exact HB.out)) hb); clear HB; have HO301 := n0_; have HB := n1_; clear n0_ n1_; clear hb ho6)); try go_wp2_with (first | ((with_reducible refine gate_dst (N := 11) rfl ?_); (try (refine gate_guard (by rfl) ?_; dsimp only)); refine Kd.R_make Kd.bool _ 4 rfl (N := 11) rfl 123 _ _ rfl a1 rfl rfl Tryz.underlying123 (.bool false) 1 info4 rfl (by decide) (by omega) false (ok := fun _ => True) (okp := fun _ => True) rfl (fun _ hk => hk) trivial (of_decide_eq_true (by first | (with_reducible assumption) | assumption)) (Nat.le_trans (Nat.mul_le_mul_right _ (of_decide_eq_true (by first | (with_reducible assumption) | assumption) : a1.toNat ≤ 281474976710656)) (by omega)) (Below.refl _ _) (Nat.le_refl _) ?_; intro v300 w5 ho6 hb hg_ hnew_; clear hg_ hnew_; (first | rw [← Ny299.out] at ho6 | (simp only [Int.reduceToNat] at ho6; rw [← Ny299.out] at ho6)); have n0_ := Aside0.mk (Kd.R_lower ho6 (below_size (by repeat (first | (with_reducible first | exact HB.out | apply below_alloc | apply pw_below_drewN | apply below_drew1) | exact HB.out)))); have n1_ := Aside0.mk (below_step (by repeat (first | (with_reducible first | exact HB.out | apply below_alloc | apply pw_below_drewN | apply below_drew1) | exact HB.out)) hb); clear HB; have HO301 := n0_; have HB := n1_; clear n0_ n1_; clear hb ho6)))
      go_loopg [6] k (fun kq v6 w' => ∃ (x5_1 : List Bool) (x6_1 : Int), v6 = .int .i64 x6_1 ∧ Aside0 (understoryref12_Is.l0 kq l0 a1 x5_1 x6_1 = some r) ∧ Aside0 (kq ≤ k) ∧ Aside0 (Kd.R Kd.bool 4 w' w.heap.size (fun _ => True) v300 x5_1) ∧ Aside0 (Below w.heap.size w w'))
      case atStart => exact ⟨(y299), (0), (by first | rfl | (simp; done) | (simp [*]; done)), H', ⟨Nat.le_refl _⟩, ⟨by (with_reducible repeat (first | apply Kd.R_alloc | apply Kd.R_drewN | apply Kd.R_drew)); exact HO301.out⟩, ⟨by repeat (first | (with_reducible first | exact HB.out | apply below_alloc | apply pw_below_drewN | apply below_drew1) | exact HB.out)⟩⟩
      case round =>
        clear H'
        try clear p2
        try clear c3
        try clear c3b0
        try clear c3b1
        try clear c4
        try clear c4b0
        try clear c4b1
        try clear c5
        obtain ⟨x5_1, x6_1, rfl, HA, HK1, HO_5, HB⟩ := hrel
        cases gk with
        | zero => exact absurd HA.out (by simp [understoryref12_Is.l0])
        | succ k1 =>
          have H := HA.out
          clear HA
          simp only [understoryref12_Is.l0] at H
          by_cases c7 : x6_1 < (l0.length : Int)
          · rw [if_pos c7] at H
            have c7b0 : decide (x6_1 < (l0.length : Int)) = true := decide_eq_true c7
            clear c7
            by_cases c8 : 0 ≤ x6_1
            · rw [if_pos c8] at H
              have c8b0 : decide (0 ≤ x6_1) = true := decide_eq_true c8
              clear c8
              have HC9 := Aside0.mk H
              clear H
              have p302 : 0 ≤ (x6_1 : Int) := of_decide_eq_true (by first | (with_reducible assumption) | assumption)
              have q302 : x6_1 < (l0.length : Int) := of_decide_eq_true (by first | (with_reducible assumption) | assumption)
              obtain ⟨ad302, A302_1, c302_1, e302, hx302_0, hx302_1, hl302_1, hi302_1⟩ := at_T64 HR0.out x6_1 p302 q302
              cases e302
              replace hx302_0 := (HB.out.cell (World.block_lt_of_cell? w _ hx302_0)).trans hx302_0
              replace hx302_1 := (HB.out.cell (World.block_lt_of_cell? w _ hx302_1)).trans hx302_1
              have HR302_1 := Aside0.mk hi302_1
              have HC302_1 := Aside0.mk hl302_1
              clear hi302_1 hl302_1
              replace p302 := eq_true p302
              replace q302 := eq_true q302
              go_upto_region 6 with (first | ((with_reducible refine gate_dst (N := 7) rfl ?_); (try (refine gate_guard (by rfl) ?_; dsimp only)); refine box_event ?hg (N := 7) ?hd (cs := #[.int .i64 0, .slice none 0 0]) (t := 64) ?hr ?_; (case hd => rfl); (case hg => rfl); (case hr => first | (go_simp; done) | (go_simp; rfl)); intro gb303 hg w10 hbox hb; have n0_ := Aside0.mk (Kd.R_below (by (with_reducible repeat (first | apply Kd.R_alloc | apply Kd.R_drewN | apply Kd.R_drew)); exact HO_5.out) hb); have n1_ := Aside0.mk (below_step (by repeat (first | (with_reducible first | exact HB.out | apply below_alloc | apply pw_below_drewN | apply below_drew1) | exact HB.out)) hb); have n2_ := Aside0.mk (hbox); have n3_ := Aside0.mk ((by rw [hg]; exact (below_size (by repeat (first | (with_reducible first | exact HB.out | apply below_alloc | apply pw_below_drewN | apply below_drew1) | exact HB.out))) : w.heap.size ≤ gb303)); have n4_ := Aside0.mk ((by rw [hg]; exact (below_size (by repeat (first | (with_reducible first | exact HB.out | apply below_alloc | apply pw_below_drewN | apply below_drew1) | exact HB.out))) : w.heap.size ≤ gb303)); clear HO_5; clear HB; have HO_5 := n0_; have HB := n1_; have BK303 := n2_; have GW303 := n3_; have GE303 := n4_; clear n0_ n1_ n2_ n3_ n4_; clear hb hbox hg; have hcz11_0 : w10.cell? ⟨gb303, 0, none⟩ = some (.int .i64 0) := (blk_cell BK303.out 0).trans rfl; have hcz11_1 : w10.cell? ⟨gb303, 1, none⟩ = some (.slice none 0 0) := (blk_cell BK303.out 1).trans rfl; have hfz11_0 := blk_frozen BK303.out 0; have hfz11_1 := blk_frozen BK303.out 1))
              repeat (go_quiet (first | ((with_reducible refine gate_dst (N := 7) rfl ?_); (try (refine gate_guard (by rfl) ?_; dsimp only)); refine box_event ?hg (N := 7) ?hd (cs := #[.int .i64 0, .slice none 0 0]) (t := 64) ?hr ?_; (case hd => rfl); (case hg => rfl); (case hr => first | (go_simp; done) | (go_simp; rfl)); intro gb303 hg w10 hbox hb; have n0_ := Aside0.mk (Kd.R_below (by (with_reducible repeat (first | apply Kd.R_alloc | apply Kd.R_drewN | apply Kd.R_drew)); exact HO_5.out) hb); have n1_ := Aside0.mk (below_step (by repeat (first | (with_reducible first | exact HB.out | apply below_alloc | apply pw_below_drewN | apply below_drew1) | exact HB.out)) hb); have n2_ := Aside0.mk (hbox); have n3_ := Aside0.mk ((by rw [hg]; exact (below_size (by repeat (first | (with_reducible first | exact HB.out | apply below_alloc | apply pw_below_drewN | apply below_drew1) | exact HB.out))) : w.heap.size ≤ gb303)); have n4_ := Aside0.mk ((by rw [hg]; exact (below_size (by repeat (first | (with_reducible first | exact HB.out | apply below_alloc | apply pw_below_drewN | apply below_drew1) | exact HB.out))) : w.heap.size ≤ gb303)); clear HO_5; clear HB; have HO_5 := n0_; have HB := n1_; have BK303 := n2_; have GW303 := n3_; have GE303 := n4_; clear n0_ n1_ n2_ n3_ n4_; clear hb hbox hg; have hcz11_0 : w10.cell? ⟨gb303, 0, none⟩ = some (.int .i64 0) := (blk_cell BK303.out 0).trans rfl; have hcz11_1 : w10.cell? ⟨gb303, 1, none⟩ = some (.slice none 0 0) := (blk_cell BK303.out 1).trans rfl; have hfz11_0 := blk_frozen BK303.out 0; have hfz11_1 := blk_frozen BK303.out 1)); go_upto_region 6 with (first | ((with_reducible refine gate_dst (N := 7) rfl ?_); (try (refine gate_guard (by rfl) ?_; dsimp only)); refine box_event ?hg (N := 7) ?hd (cs := #[.int .i64 0, .slice none 0 0]) (t := 64) ?hr ?_; (case hd => rfl); (case hg => rfl); (case hr => first | (go_simp; done) | (go_simp; rfl)); intro gb303 hg w10 hbox hb; have n0_ := Aside0.mk (Kd.R_below (by (with_reducible repeat (first | apply Kd.R_alloc | apply Kd.R_drewN | apply Kd.R_drew)); exact HO_5.out) hb); have n1_ := Aside0.mk (below_step (by repeat (first | (with_reducible first | exact HB.out | apply below_alloc | apply pw_below_drewN | apply below_drew1) | exact HB.out)) hb); have n2_ := Aside0.mk (hbox); have n3_ := Aside0.mk ((by rw [hg]; exact (below_size (by repeat (first | (with_reducible first | exact HB.out | apply below_alloc | apply pw_below_drewN | apply below_drew1) | exact HB.out))) : w.heap.size ≤ gb303)); have n4_ := Aside0.mk ((by rw [hg]; exact (below_size (by repeat (first | (with_reducible first | exact HB.out | apply below_alloc | apply pw_below_drewN | apply below_drew1) | exact HB.out))) : w.heap.size ≤ gb303)); clear HO_5; clear HB; have HO_5 := n0_; have HB := n1_; have BK303 := n2_; have GW303 := n3_; have GE303 := n4_; clear n0_ n1_ n2_ n3_ n4_; clear hb hbox hg; have hcz11_0 : w10.cell? ⟨gb303, 0, none⟩ = some (.int .i64 0) := (blk_cell BK303.out 0).trans rfl; have hcz11_1 : w10.cell? ⟨gb303, 1, none⟩ = some (.slice none 0 0) := (blk_cell BK303.out 1).trans rfl; have hfz11_0 := blk_frozen BK303.out 0; have hfz11_1 := blk_frozen BK303.out 1)))
              (try simp only [Act.put, List.setIfInBounds_toArray, List.set_cons_zero, List.set_cons_succ])
              go_cut [50] (fun v50 wc => ∃ (kq : Nat) (x50_8 : Bool), v50 = .bool x50_8 ∧ Aside0 (understoryref12_Is.j1 kq l0 a1 x5_1 x6_1 x50_8 ((rd_T64 l0 x6_1).f0) ((rd_T64 l0 x6_1).f1) = some r) ∧ Aside0 (kq ≤ k1) ∧ Aside0 (Kd.R Kd.bool 4 wc w.heap.size (fun _ => True) v300 x5_1) ∧ Aside0 (wc.heap[gb303]? = some (.cells #[.int .i64 ((rd_T64 l0 x6_1).f0), (.slice A302_1 ((rd_T64 l0 x6_1).f1).length c302_1)] 64 (0, 0))) ∧ Aside0 (Below w.heap.size w wc))
              case first =>
                have H := HC9.out
                clear HC9
                by_cases c12 : ((rd_T64 l0 x6_1).f0) < 0
                · rw [if_pos c12] at H
                  have c12b0 : decide (((rd_T64 l0 x6_1).f0) < 0) = true := decide_eq_true c12
                  clear c12
                  (first | rw [c12b0] | (simp only [i64_w, i32_w]; rw [c12b0]) | skip)
                  have H' := Aside0.mk H
                  clear H
                  have hcz13_0 : w10.cell? ⟨gb303, 0, none⟩ = some (.int .i64 0) := (blk_cell BK303.out 0).trans rfl
                  have hcz13_1 : w10.cell? ⟨gb303, 1, none⟩ = some (.slice none 0 0) := (blk_cell BK303.out 1).trans rfl
                  have hfz13_0 := blk_frozen BK303.out 0
                  have hfz13_1 := blk_frozen BK303.out 1
                  go_wp2
                  repeat (go_quiet (fail); try go_wp2)
                  go_meet
                  case rel => exact ⟨_, (true), (by first | rfl | (simp; done) | (simp [*]; done)), H', ⟨by have := HK1.out; first | omega | exact Nat.le_refl _⟩, ⟨by (with_reducible repeat (first | apply Kd.R_alloc | apply Kd.R_drewN | apply Kd.R_drew)); exact Kd.R_mono (Kd.R_far (p := ⟨gb303, 1, none⟩) (Kd.R_far (p := ⟨gb303, 0, none⟩) (Kd.R_types HO_5.out BK303.out (by decide)) (fun _ hk => hk.2) (.int .i64 ((rd_T64 l0 x6_1).f0))) (fun _ hk => hk.2) (.slice A302_1 ((rd_T64 l0 x6_1).f1).length c302_1)) (fun _ hk => trivial)⟩, ⟨by (with_reducible repeat (first | refine blk_drewN ?_ _ | refine blk_drew ?_ | refine blk_alloc ?_ _)); refine blk_put (cs := #[.int .i64 ((rd_T64 l0 x6_1).f0), .slice none 0 0]) ?_ 1 _ rfl; (with_reducible repeat (first | refine blk_drewN ?_ _ | refine blk_drew ?_ | refine blk_alloc ?_ _)); refine blk_put (cs := #[.int .i64 0, .slice none 0 0]) ?_ 0 _ rfl; (with_reducible repeat (first | refine blk_drewN ?_ _ | refine blk_drew ?_ | refine blk_alloc ?_ _)); exact BK303.out⟩, ⟨by repeat (first | (with_reducible first | exact HB.out | apply below_alloc | apply pw_below_drewN | apply below_drew1 | refine below_set ?_ GE303.out) | exact HB.out)⟩⟩
                · rw [if_neg c12] at H
                  have c12b0 : decide (((rd_T64 l0 x6_1).f0) < 0) = false := decide_eq_false c12
                  clear c12
                  (first | rw [c12b0] | (simp only [i64_w, i32_w]; rw [c12b0]) | skip)
                  by_cases c14 : ((rd_T64 l0 x6_1).f0) > 1099511627776
                  · rw [if_pos c14] at H
                    have c14b0 : decide (1099511627776 < ((rd_T64 l0 x6_1).f0)) = true := decide_eq_true c14
                    clear c14
                    have H' := Aside0.mk H
                    clear H
                    have hcz15_0 : w10.cell? ⟨gb303, 0, none⟩ = some (.int .i64 0) := (blk_cell BK303.out 0).trans rfl
                    have hcz15_1 : w10.cell? ⟨gb303, 1, none⟩ = some (.slice none 0 0) := (blk_cell BK303.out 1).trans rfl
                    have hfz15_0 := blk_frozen BK303.out 0
                    have hfz15_1 := blk_frozen BK303.out 1
                    go_wp2
                    repeat (go_quiet (fail); try go_wp2)
                    go_meet
                    case rel => exact ⟨_, (true), (by first | rfl | (simp; done) | (simp [*]; done)), H', ⟨by have := HK1.out; first | omega | exact Nat.le_refl _⟩, ⟨by (with_reducible repeat (first | apply Kd.R_alloc | apply Kd.R_drewN | apply Kd.R_drew)); exact Kd.R_mono (Kd.R_far (p := ⟨gb303, 1, none⟩) (Kd.R_far (p := ⟨gb303, 0, none⟩) (Kd.R_types HO_5.out BK303.out (by decide)) (fun _ hk => hk.2) (.int .i64 ((rd_T64 l0 x6_1).f0))) (fun _ hk => hk.2) (.slice A302_1 ((rd_T64 l0 x6_1).f1).length c302_1)) (fun _ hk => trivial)⟩, ⟨by (with_reducible repeat (first | refine blk_drewN ?_ _ | refine blk_drew ?_ | refine blk_alloc ?_ _)); refine blk_put (cs := #[.int .i64 ((rd_T64 l0 x6_1).f0), .slice none 0 0]) ?_ 1 _ rfl; (with_reducible repeat (first | refine blk_drewN ?_ _ | refine blk_drew ?_ | refine blk_alloc ?_ _)); refine blk_put (cs := #[.int .i64 0, .slice none 0 0]) ?_ 0 _ rfl; (with_reducible repeat (first | refine blk_drewN ?_ _ | refine blk_drew ?_ | refine blk_alloc ?_ _)); exact BK303.out⟩, ⟨by repeat (first | (with_reducible first | exact HB.out | apply below_alloc | apply pw_below_drewN | apply below_drew1 | refine below_set ?_ GE303.out) | exact HB.out)⟩⟩
                  · rw [if_neg c14] at H
                    have c14b0 : decide (1099511627776 < ((rd_T64 l0 x6_1).f0)) = false := decide_eq_false c14
                    clear c14
                    by_cases c16 : x6_1 > 0
                    · rw [if_pos c16] at H
                      have c16b0 : decide (0 < x6_1) = true := decide_eq_true c16
                      clear c16
                      obtain ⟨ji17, hji17⟩ : ∃ j_ : Int, (wrap64 (x6_1 - 1)) = j_ := ⟨_, rfl⟩
                      replace H : (if 0 ≤ (ji17) then (if (ji17) < (l0.length : Int) then (if ((rd_T64 l0 x6_1).f0) ≤ ((rd_T64 l0 (ji17)).f0) then (understoryref12_Is.j1 k1 l0 a1 x5_1 x6_1 true ((rd_T64 l0 x6_1).f0) ((rd_T64 l0 x6_1).f1)) else (understoryref12_Is.j1 k1 l0 a1 x5_1 x6_1 ((((rd_T64 l0 x6_1).f1).length : Int) == 0) ((rd_T64 l0 x6_1).f0) ((rd_T64 l0 x6_1).f1))) else (none)) else (none)) = some r := by first | (rw [hji17] at H; exact H) | (simp only [hji17] at H ⊢; exact H)
                      have hji17w : (IntKind.i64.wrap (x6_1 - 1)) = ji17 := (i64_w _).trans hji17
                      by_cases c18 : 0 ≤ (ji17)
                      · rw [if_pos c18] at H
                        have c18b0 : decide (0 ≤ (ji17)) = true := decide_eq_true c18
                        clear c18
                        by_cases c19 : (ji17) < (l0.length : Int)
                        · rw [if_pos c19] at H
                          have c19b0 : decide ((ji17) < (l0.length : Int)) = true := decide_eq_true c19
                          clear c19
                          by_cases c20 : ((rd_T64 l0 x6_1).f0) ≤ ((rd_T64 l0 (ji17)).f0)
                          · rw [if_pos c20] at H
                            have c20b0 : decide (((rd_T64 l0 x6_1).f0) ≤ ((rd_T64 l0 (ji17)).f0)) = true := decide_eq_true c20
                            clear c20
                            have H' := Aside0.mk H
                            clear H
                            have hcz21_0 : w10.cell? ⟨gb303, 0, none⟩ = some (.int .i64 0) := (blk_cell BK303.out 0).trans rfl
                            have hcz21_1 : w10.cell? ⟨gb303, 1, none⟩ = some (.slice none 0 0) := (blk_cell BK303.out 1).trans rfl
                            have hfz21_0 := blk_frozen BK303.out 0
                            have hfz21_1 := blk_frozen BK303.out 1
                            have p304 : 0 ≤ ((ji17) : Int) := of_decide_eq_true (by first | (with_reducible assumption) | assumption)
                            have q304 : (ji17) < (l0.length : Int) := of_decide_eq_true (by first | (with_reducible assumption) | assumption)
                            obtain ⟨ad304, A304_1, c304_1, e304, hx304_0, hx304_1, hl304_1, hi304_1⟩ := at_T64 HR0.out (ji17) p304 q304
                            obtain rfl : ad302 = ad304 := (by injection e304)
                            have hn304_0 : ad302.block ≠ gb303 := Nat.ne_of_lt (Nat.lt_of_lt_of_le (by have := World.block_lt_of_cell? _ _ hx304_0; first | rwa [add_block] at this | exact this) GW303.out)
                            have hn304_1 : ad302.block ≠ gb303 := Nat.ne_of_lt (Nat.lt_of_lt_of_le (by have := World.block_lt_of_cell? _ _ hx304_0; first | rwa [add_block] at this | exact this) GW303.out)
                            replace hx304_0 := (HB.out.cell (World.block_lt_of_cell? w _ hx304_0)).trans hx304_0
                            replace hx304_1 := (HB.out.cell (World.block_lt_of_cell? w _ hx304_1)).trans hx304_1
                            have HR304_1 := Aside0.mk hi304_1
                            have HC304_1 := Aside0.mk hl304_1
                            clear hi304_1 hl304_1
                            replace hx304_0 := (cell_far (p := ⟨gb303, 0, none⟩) (by first | (rw [add_block]; exact hn304_0) | (show (Addr.add _ _).block ≠ _; rw [add_block]; exact hn304_0) | exact hn304_0) (.int .i64 ((rd_T64 l0 x6_1).f0))).trans hx304_0
                            replace hx304_1 := (cell_far (p := ⟨gb303, 0, none⟩) (by first | (rw [add_block]; exact hn304_0) | (show (Addr.add _ _).block ≠ _; rw [add_block]; exact hn304_0) | exact hn304_0) (.int .i64 ((rd_T64 l0 x6_1).f0))).trans hx304_1
                            replace hx304_0 := (cell_far (p := ⟨gb303, 1, none⟩) (by first | (rw [add_block]; exact hn304_1) | (show (Addr.add _ _).block ≠ _; rw [add_block]; exact hn304_1) | exact hn304_1) (.slice A302_1 ((rd_T64 l0 x6_1).f1).length c302_1)).trans hx304_0
                            replace hx304_1 := (cell_far (p := ⟨gb303, 1, none⟩) (by first | (rw [add_block]; exact hn304_1) | (show (Addr.add _ _).block ≠ _; rw [add_block]; exact hn304_1) | exact hn304_1) (.slice A302_1 ((rd_T64 l0 x6_1).f1).length c302_1)).trans hx304_1
                            (try have hy304_0 := fun (n_ : Nat) => (show ((((w10.drewN n_).setCell ⟨gb303, 0, none⟩ (.int .i64 ((rd_T64 l0 x6_1).f0))).setCell ⟨gb303, 1, none⟩ (.slice A302_1 ((rd_T64 l0 x6_1).f1).length c302_1))).cell? _ = some _ from hx304_0))
                            (try have hy304_1 := fun (n_ : Nat) => (show ((((w10.drewN n_).setCell ⟨gb303, 0, none⟩ (.int .i64 ((rd_T64 l0 x6_1).f0))).setCell ⟨gb303, 1, none⟩ (.slice A302_1 ((rd_T64 l0 x6_1).f1).length c302_1))).cell? _ = some _ from hx304_1))
                            clear hn304_0
                            clear hn304_1
                            replace p304 := eq_true p304
                            replace q304 := eq_true q304
                            go_wp2
                            repeat (go_quiet (fail); try go_wp2)
                            go_meet
                            case rel => exact ⟨_, (true), (by first | rfl | (simp; done) | (simp [*]; done)), H', ⟨by have := HK1.out; first | omega | exact Nat.le_refl _⟩, ⟨by (with_reducible repeat (first | apply Kd.R_alloc | apply Kd.R_drewN | apply Kd.R_drew)); exact Kd.R_mono (Kd.R_far (p := ⟨gb303, 1, none⟩) (Kd.R_far (p := ⟨gb303, 0, none⟩) (Kd.R_types HO_5.out BK303.out (by decide)) (fun _ hk => hk.2) (.int .i64 ((rd_T64 l0 x6_1).f0))) (fun _ hk => hk.2) (.slice A302_1 ((rd_T64 l0 x6_1).f1).length c302_1)) (fun _ hk => trivial)⟩, ⟨by (with_reducible repeat (first | refine blk_drewN ?_ _ | refine blk_drew ?_ | refine blk_alloc ?_ _)); refine blk_put (cs := #[.int .i64 ((rd_T64 l0 x6_1).f0), .slice none 0 0]) ?_ 1 _ rfl; (with_reducible repeat (first | refine blk_drewN ?_ _ | refine blk_drew ?_ | refine blk_alloc ?_ _)); refine blk_put (cs := #[.int .i64 0, .slice none 0 0]) ?_ 0 _ rfl; (with_reducible repeat (first | refine blk_drewN ?_ _ | refine blk_drew ?_ | refine blk_alloc ?_ _)); exact BK303.out⟩, ⟨by repeat (first | (with_reducible first | exact HB.out | apply below_alloc | apply pw_below_drewN | apply below_drew1 | refine below_set ?_ GE303.out) | exact HB.out)⟩⟩
                          · rw [if_neg c20] at H
                            have c20b0 : decide (((rd_T64 l0 x6_1).f0) ≤ ((rd_T64 l0 (ji17)).f0)) = false := decide_eq_false c20
                            clear c20
                            have H' := Aside0.mk H
                            clear H
                            have hcz22_0 : w10.cell? ⟨gb303, 0, none⟩ = some (.int .i64 0) := (blk_cell BK303.out 0).trans rfl
                            have hcz22_1 : w10.cell? ⟨gb303, 1, none⟩ = some (.slice none 0 0) := (blk_cell BK303.out 1).trans rfl
                            have hfz22_0 := blk_frozen BK303.out 0
                            have hfz22_1 := blk_frozen BK303.out 1
                            have p304 : 0 ≤ ((ji17) : Int) := of_decide_eq_true (by first | (with_reducible assumption) | assumption)
                            have q304 : (ji17) < (l0.length : Int) := of_decide_eq_true (by first | (with_reducible assumption) | assumption)
                            obtain ⟨ad304, A304_1, c304_1, e304, hx304_0, hx304_1, hl304_1, hi304_1⟩ := at_T64 HR0.out (ji17) p304 q304
                            obtain rfl : ad302 = ad304 := (by injection e304)
                            have hn304_0 : ad302.block ≠ gb303 := Nat.ne_of_lt (Nat.lt_of_lt_of_le (by have := World.block_lt_of_cell? _ _ hx304_0; first | rwa [add_block] at this | exact this) GW303.out)
                            have hn304_1 : ad302.block ≠ gb303 := Nat.ne_of_lt (Nat.lt_of_lt_of_le (by have := World.block_lt_of_cell? _ _ hx304_0; first | rwa [add_block] at this | exact this) GW303.out)
                            replace hx304_0 := (HB.out.cell (World.block_lt_of_cell? w _ hx304_0)).trans hx304_0
                            replace hx304_1 := (HB.out.cell (World.block_lt_of_cell? w _ hx304_1)).trans hx304_1
                            have HR304_1 := Aside0.mk hi304_1
                            have HC304_1 := Aside0.mk hl304_1
                            clear hi304_1 hl304_1
                            replace hx304_0 := (cell_far (p := ⟨gb303, 0, none⟩) (by first | (rw [add_block]; exact hn304_0) | (show (Addr.add _ _).block ≠ _; rw [add_block]; exact hn304_0) | exact hn304_0) (.int .i64 ((rd_T64 l0 x6_1).f0))).trans hx304_0
                            replace hx304_1 := (cell_far (p := ⟨gb303, 0, none⟩) (by first | (rw [add_block]; exact hn304_0) | (show (Addr.add _ _).block ≠ _; rw [add_block]; exact hn304_0) | exact hn304_0) (.int .i64 ((rd_T64 l0 x6_1).f0))).trans hx304_1
                            replace hx304_0 := (cell_far (p := ⟨gb303, 1, none⟩) (by first | (rw [add_block]; exact hn304_1) | (show (Addr.add _ _).block ≠ _; rw [add_block]; exact hn304_1) | exact hn304_1) (.slice A302_1 ((rd_T64 l0 x6_1).f1).length c302_1)).trans hx304_0
                            replace hx304_1 := (cell_far (p := ⟨gb303, 1, none⟩) (by first | (rw [add_block]; exact hn304_1) | (show (Addr.add _ _).block ≠ _; rw [add_block]; exact hn304_1) | exact hn304_1) (.slice A302_1 ((rd_T64 l0 x6_1).f1).length c302_1)).trans hx304_1
                            (try have hy304_0 := fun (n_ : Nat) => (show ((((w10.drewN n_).setCell ⟨gb303, 0, none⟩ (.int .i64 ((rd_T64 l0 x6_1).f0))).setCell ⟨gb303, 1, none⟩ (.slice A302_1 ((rd_T64 l0 x6_1).f1).length c302_1))).cell? _ = some _ from hx304_0))
                            (try have hy304_1 := fun (n_ : Nat) => (show ((((w10.drewN n_).setCell ⟨gb303, 0, none⟩ (.int .i64 ((rd_T64 l0 x6_1).f0))).setCell ⟨gb303, 1, none⟩ (.slice A302_1 ((rd_T64 l0 x6_1).f1).length c302_1))).cell? _ = some _ from hx304_1))
                            clear hn304_0
                            clear hn304_1
                            replace p304 := eq_true p304
                            replace q304 := eq_true q304
                            go_wp2
                            repeat (go_quiet (fail); try go_wp2)
                            go_meet
                            case rel => exact ⟨_, (((((rd_T64 l0 x6_1).f1).length : Int) == 0)), (by first | rfl | (simp; done) | (simp [*]; done)), H', ⟨by have := HK1.out; first | omega | exact Nat.le_refl _⟩, ⟨by (with_reducible repeat (first | apply Kd.R_alloc | apply Kd.R_drewN | apply Kd.R_drew)); exact Kd.R_mono (Kd.R_far (p := ⟨gb303, 1, none⟩) (Kd.R_far (p := ⟨gb303, 0, none⟩) (Kd.R_types HO_5.out BK303.out (by decide)) (fun _ hk => hk.2) (.int .i64 ((rd_T64 l0 x6_1).f0))) (fun _ hk => hk.2) (.slice A302_1 ((rd_T64 l0 x6_1).f1).length c302_1)) (fun _ hk => trivial)⟩, ⟨by (with_reducible repeat (first | refine blk_drewN ?_ _ | refine blk_drew ?_ | refine blk_alloc ?_ _)); refine blk_put (cs := #[.int .i64 ((rd_T64 l0 x6_1).f0), .slice none 0 0]) ?_ 1 _ rfl; (with_reducible repeat (first | refine blk_drewN ?_ _ | refine blk_drew ?_ | refine blk_alloc ?_ _)); refine blk_put (cs := #[.int .i64 0, .slice none 0 0]) ?_ 0 _ rfl; (with_reducible repeat (first | refine blk_drewN ?_ _ | refine blk_drew ?_ | refine blk_alloc ?_ _)); exact BK303.out⟩, ⟨by repeat (first | (with_reducible first | exact HB.out | apply below_alloc | apply pw_below_drewN | apply below_drew1 | refine below_set ?_ GE303.out) | exact HB.out)⟩⟩
                        · rw [if_neg c19] at H
                          exact absurd H (by simp)
                      · rw [if_neg c18] at H
                        exact absurd H (by simp)
                    · rw [if_neg c16] at H
                      have c16b0 : decide (0 < x6_1) = false := decide_eq_false c16
                      clear c16
                      have H' := Aside0.mk H
                      clear H
                      have hcz23_0 : w10.cell? ⟨gb303, 0, none⟩ = some (.int .i64 0) := (blk_cell BK303.out 0).trans rfl
                      have hcz23_1 : w10.cell? ⟨gb303, 1, none⟩ = some (.slice none 0 0) := (blk_cell BK303.out 1).trans rfl
                      have hfz23_0 := blk_frozen BK303.out 0
                      have hfz23_1 := blk_frozen BK303.out 1
                      go_wp2
                      repeat (go_quiet (fail); try go_wp2)
                      go_meet
                      case rel => exact ⟨_, (((((rd_T64 l0 x6_1).f1).length : Int) == 0)), (by first | rfl | (simp; done) | (simp [*]; done)), H', ⟨by have := HK1.out; first | omega | exact Nat.le_refl _⟩, ⟨by (with_reducible repeat (first | apply Kd.R_alloc | apply Kd.R_drewN | apply Kd.R_drew)); exact Kd.R_mono (Kd.R_far (p := ⟨gb303, 1, none⟩) (Kd.R_far (p := ⟨gb303, 0, none⟩) (Kd.R_types HO_5.out BK303.out (by decide)) (fun _ hk => hk.2) (.int .i64 ((rd_T64 l0 x6_1).f0))) (fun _ hk => hk.2) (.slice A302_1 ((rd_T64 l0 x6_1).f1).length c302_1)) (fun _ hk => trivial)⟩, ⟨by (with_reducible repeat (first | refine blk_drewN ?_ _ | refine blk_drew ?_ | refine blk_alloc ?_ _)); refine blk_put (cs := #[.int .i64 ((rd_T64 l0 x6_1).f0), .slice none 0 0]) ?_ 1 _ rfl; (with_reducible repeat (first | refine blk_drewN ?_ _ | refine blk_drew ?_ | refine blk_alloc ?_ _)); refine blk_put (cs := #[.int .i64 0, .slice none 0 0]) ?_ 0 _ rfl; (with_reducible repeat (first | refine blk_drewN ?_ _ | refine blk_drew ?_ | refine blk_alloc ?_ _)); exact BK303.out⟩, ⟨by repeat (first | (with_reducible first | exact HB.out | apply below_alloc | apply pw_below_drewN | apply below_drew1 | refine below_set ?_ GE303.out) | exact HB.out)⟩⟩
              case rest =>
                clear HC9
                try clear c1
                try clear c2
                try clear p2
                try clear c3
                try clear c3b0
                try clear c3b1
                try clear p3
                try clear q3
                try clear hx3
                try clear c4
                try clear c4b0
                try clear c4b1
                try clear c5
                try clear p6
                try clear c7
                try clear c7b0
                try clear c8
                try clear c8b0
                try clear c12
                try clear c12b0
                try clear c14
                try clear c14b0
                try clear c16
                try clear c16b0
                try clear c18
                try clear c18b0
                try clear c19
                try clear c19b0
                try clear c20
                try clear c20b0
                try clear hcz11_0
                try clear hcz11_1
                try clear hcz13_0
                try clear hcz13_1
                try clear hcz15_0
                try clear hcz15_1
                try clear hcz21_0
                try clear hcz21_1
                try clear hcz22_0
                try clear hcz22_1
                try clear hcz23_0
                try clear hcz23_1
                try clear hfz11_0
                try clear hfz11_1
                try clear hfz13_0
                try clear hfz13_1
                try clear hfz15_0
                try clear hfz15_1
                try clear hfz21_0
                try clear hfz21_1
                try clear hfz22_0
                try clear hfz22_1
                try clear hfz23_0
                try clear hfz23_1
                try clear hx302_0
                try clear hx302_1
                try clear hx304_0
                try clear hx304_1
                try clear p2
                try clear p302
                try clear p304
                try clear q302
                try clear q304
                obtain ⟨kq, x50_8, rfl, HA, HJ8, HO_5, BK303, HB⟩ := hcut
                cases kq with
                | zero => exact absurd HA.out (by simp [understoryref12_Is.j1])
                | succ kj8 =>
                  have H := HA.out
                  clear HA
                  simp only [understoryref12_Is.j1] at H
                  by_cases c24 : x50_8 = true
                  · subst c24
                    have H1 : (some false) = some r := by rw [if_pos rfl] at H; exact H
                    clear H
                    have H := H1
                    clear H1
                    obtain rfl := Option.some.inj H
                    go_wp2
                    repeat (go_quiet (fail); try go_wp2)
                    go_ret
                    exact ⟨by first | rfl | (simp [errW_none, errW_some] <;> rfl) | (simp [*, errW_none, errW_some] <;> rfl), by repeat (first | (with_reducible first | exact HB.out | apply below_alloc | apply pw_below_drewN | apply below_drew1 | refine below_set ?_ GE303.out) | exact HB.out)⟩
                  · replace c24 := Bool.eq_false_iff.mpr c24
                    subst c24
                    have H1 : (understoryref12_Is.l1 kj8 l0 a1 x5_1 x6_1 0 ((rd_T64 l0 x6_1).f0) ((rd_T64 l0 x6_1).f1)) = some r := by rw [if_neg (show ¬ (false = true) by decide)] at H; exact H
                    clear H
                    have H := H1
                    clear H1
                    have H' := Aside0.mk H
                    clear H
                    go_wp2
                    repeat (go_quiet (fail); try go_wp2)
                    go_loopg [8] kj8 (fun kq v8 w' => ∃ (x5_3 : List Bool) (x8_3 : Int), v8 = .int .i64 x8_3 ∧ Aside0 (understoryref12_Is.l1 kq l0 a1 x5_3 x6_1 x8_3 ((rd_T64 l0 x6_1).f0) ((rd_T64 l0 x6_1).f1) = some r) ∧ Aside0 (kq ≤ kj8) ∧ Aside0 (Kd.R Kd.bool 4 w' w.heap.size (fun _ => True) v300 x5_3) ∧ Aside0 (w'.heap[gb303]? = some (.cells #[.int .i64 ((rd_T64 l0 x6_1).f0), (.slice A302_1 ((rd_T64 l0 x6_1).f1).length c302_1)] 64 (0, 0))) ∧ Aside0 (Below w.heap.size w w'))
                    case atStart => exact ⟨(x5_1), (0), (by first | rfl | (simp; done) | (simp [*]; done)), H', ⟨Nat.le_refl _⟩, ⟨by (with_reducible repeat (first | apply Kd.R_alloc | apply Kd.R_drewN | apply Kd.R_drew)); exact HO_5.out⟩, ⟨by (with_reducible repeat (first | refine blk_drewN ?_ _ | refine blk_drew ?_ | refine blk_alloc ?_ _)); exact BK303.out⟩, ⟨by repeat (first | (with_reducible first | exact HB.out | apply below_alloc | apply pw_below_drewN | apply below_drew1 | refine below_set ?_ GE303.out) | exact HB.out)⟩⟩
                    case round =>
                      clear H'
                      try clear c1
                      try clear c2
                      try clear p2
                      try clear c3
                      try clear c3b0
                      try clear c3b1
                      try clear p3
                      try clear q3
                      try clear hx3
                      try clear c4
                      try clear c4b0
                      try clear c4b1
                      try clear c5
                      try clear p6
                      try clear c7
                      try clear c7b0
                      try clear c8
                      try clear c8b0
                      try clear c12
                      try clear c12b0
                      try clear c14
                      try clear c14b0
                      try clear c16
                      try clear c16b0
                      try clear c18
                      try clear c18b0
                      try clear c19
                      try clear c19b0
                      try clear c20
                      try clear c20b0
                      try clear c24
                      try clear hcz11_0
                      try clear hcz11_1
                      try clear hcz13_0
                      try clear hcz13_1
                      try clear hcz15_0
                      try clear hcz15_1
                      try clear hcz21_0
                      try clear hcz21_1
                      try clear hcz22_0
                      try clear hcz22_1
                      try clear hcz23_0
                      try clear hcz23_1
                      try clear hfz11_0
                      try clear hfz11_1
                      try clear hfz13_0
                      try clear hfz13_1
                      try clear hfz15_0
                      try clear hfz15_1
                      try clear hfz21_0
                      try clear hfz21_1
                      try clear hfz22_0
                      try clear hfz22_1
                      try clear hfz23_0
                      try clear hfz23_1
                      try clear hx302_0
                      try clear hx302_1
                      try clear hx304_0
                      try clear hx304_1
                      try clear p2
                      try clear p3
                      try clear p302
                      try clear p304
                      try clear p6
                      try clear q3
                      try clear q302
                      try clear q304
                      obtain ⟨x5_3, x8_3, rfl, HA, HK3, HO_5, BK303, HB⟩ := hrel
                      cases gk with
                      | zero => exact absurd HA.out (by simp [understoryref12_Is.l1])
                      | succ k3 =>
                        have H := HA.out
                        clear HA
                        simp only [understoryref12_Is.l1] at H
                        by_cases c25 : x8_3 < (((rd_T64 l0 x6_1).f1).length : Int)
                        · rw [if_pos c25] at H
                          have c25b0 : decide (x8_3 < (((rd_T64 l0 x6_1).f1).length : Int)) = true := decide_eq_true c25
                          clear c25
                          by_cases c26 : 0 ≤ x8_3
                          · rw [if_pos c26] at H
                            have c26b0 : decide (0 ≤ x8_3) = true := decide_eq_true c26
                            clear c26
                            by_cases c27 : (rd ((rd_T64 l0 x6_1).f1) x8_3) < 2
                            · rw [if_pos c27] at H
                              have c27b0 : decide ((rd ((rd_T64 l0 x6_1).f1) x8_3) < 2) = true := decide_eq_true c27
                              clear c27
                              obtain rfl := Option.some.inj H
                              have hcz28_0 : wr.cell? ⟨gb303, 0, none⟩ = some (.int .i64 ((rd_T64 l0 x6_1).f0)) := (blk_cell BK303.out 0).trans rfl
                              have hcz28_1 : wr.cell? ⟨gb303, 1, none⟩ = some (.slice A302_1 ((rd_T64 l0 x6_1).f1).length c302_1) := (blk_cell BK303.out 1).trans rfl
                              have hfz28_0 := blk_frozen BK303.out 0
                              have hfz28_1 := blk_frozen BK303.out 1
                              have p305 : 0 ≤ (x8_3 : Int) := of_decide_eq_true (by first | (with_reducible assumption) | assumption)
                              have q305 : x8_3 < (((rd_T64 l0 x6_1).f1).length : Int) := of_decide_eq_true (by first | (with_reducible assumption) | assumption)
                              obtain ⟨ad305, e305, hx305_0⟩ := Kd.at_int HR302_1.out x8_3 p305 q305
                              cases e305
                              replace hx305_0 := (HB.out.cell (World.block_lt_of_cell? w _ hx305_0)).trans hx305_0
                              replace p305 := eq_true p305
                              replace q305 := eq_true q305
                              go_wp2
                              repeat (go_quiet (fail); try go_wp2)
                              go_ret
                              exact ⟨by first | rfl | (simp [errW_none, errW_some] <;> rfl) | (simp [*, errW_none, errW_some] <;> rfl), by repeat (first | (with_reducible first | exact HB.out | apply below_alloc | apply pw_below_drewN | apply below_drew1 | refine below_set ?_ GE303.out) | exact HB.out)⟩
                            · rw [if_neg c27] at H
                              have c27b0 : decide ((rd ((rd_T64 l0 x6_1).f1) x8_3) < 2) = false := decide_eq_false c27
                              clear c27
                              by_cases c29 : (rd ((rd_T64 l0 x6_1).f1) x8_3) ≥ a1
                              · rw [if_pos c29] at H
                                have c29b0 : decide (a1 ≤ (rd ((rd_T64 l0 x6_1).f1) x8_3)) = true := decide_eq_true c29
                                clear c29
                                obtain rfl := Option.some.inj H
                                have hcz30_0 : wr.cell? ⟨gb303, 0, none⟩ = some (.int .i64 ((rd_T64 l0 x6_1).f0)) := (blk_cell BK303.out 0).trans rfl
                                have hcz30_1 : wr.cell? ⟨gb303, 1, none⟩ = some (.slice A302_1 ((rd_T64 l0 x6_1).f1).length c302_1) := (blk_cell BK303.out 1).trans rfl
                                have hfz30_0 := blk_frozen BK303.out 0
                                have hfz30_1 := blk_frozen BK303.out 1
                                have p305 : 0 ≤ (x8_3 : Int) := of_decide_eq_true (by first | (with_reducible assumption) | assumption)
                                have q305 : x8_3 < (((rd_T64 l0 x6_1).f1).length : Int) := of_decide_eq_true (by first | (with_reducible assumption) | assumption)
                                obtain ⟨ad305, e305, hx305_0⟩ := Kd.at_int HR302_1.out x8_3 p305 q305
                                cases e305
                                replace hx305_0 := (HB.out.cell (World.block_lt_of_cell? w _ hx305_0)).trans hx305_0
                                replace p305 := eq_true p305
                                replace q305 := eq_true q305
                                go_wp2
                                repeat (go_quiet (fail); try go_wp2)
                                go_ret
                                exact ⟨by first | rfl | (simp [errW_none, errW_some] <;> rfl) | (simp [*, errW_none, errW_some] <;> rfl), by repeat (first | (with_reducible first | exact HB.out | apply below_alloc | apply pw_below_drewN | apply below_drew1 | refine below_set ?_ GE303.out) | exact HB.out)⟩
                              · rw [if_neg c29] at H
                                have c29b0 : decide (a1 ≤ (rd ((rd_T64 l0 x6_1).f1) x8_3)) = false := decide_eq_false c29
                                clear c29
                                by_cases c31 : 0 ≤ (rd ((rd_T64 l0 x6_1).f1) x8_3)
                                · rw [if_pos c31] at H
                                  have c31b0 : decide (0 ≤ (rd ((rd_T64 l0 x6_1).f1) x8_3)) = true := decide_eq_true c31
                                  clear c31
                                  by_cases c32 : (rd ((rd_T64 l0 x6_1).f1) x8_3) < (x5_3.length : Int)
                                  · rw [if_pos c32] at H
                                    have c32b0 : decide ((rd ((rd_T64 l0 x6_1).f1) x8_3) < (x5_3.length : Int)) = true := decide_eq_true c32
                                    clear c32
                                    obtain ⟨bq33, hbq33⟩ : ∃ b_ : Bool, b_ = (rdOf false x5_3 (rd ((rd_T64 l0 x6_1).f1) x8_3)) := ⟨_, rfl⟩
                                    replace H : (if bq33 = true then (some false) else (if x8_3 > 0 then (if 0 ≤ (wrap64 (x8_3 - 1)) then (if (wrap64 (x8_3 - 1)) < (((rd_T64 l0 x6_1).f1).length : Int) then (if (rd ((rd_T64 l0 x6_1).f1) x8_3) ≤ (rd ((rd_T64 l0 x6_1).f1) (wrap64 (x8_3 - 1))) then (some false) else (understoryref12_Is.l1 k3 l0 a1 (x5_3.set ((rd ((rd_T64 l0 x6_1).f1) x8_3) : Int).toNat true) x6_1 (wrap64 (x8_3 + 1)) ((rd_T64 l0 x6_1).f0) ((rd_T64 l0 x6_1).f1))) else (none)) else (none)) else (understoryref12_Is.l1 k3 l0 a1 (x5_3.set ((rd ((rd_T64 l0 x6_1).f1) x8_3) : Int).toNat true) x6_1 (wrap64 (x8_3 + 1)) ((rd_T64 l0 x6_1).f0) ((rd_T64 l0 x6_1).f1)))) = some r := by rw [← hbq33] at H; exact H
                                    have Nbq33 := Aside0.mk hbq33
                                    clear hbq33
                                    by_cases c34 : bq33 = true
                                    · subst c34
                                      have H1 : (some false) = some r := by rw [if_pos rfl] at H; exact H
                                      clear H
                                      have H := H1
                                      clear H1
                                      obtain rfl := Option.some.inj H
                                      have hcz35_0 : wr.cell? ⟨gb303, 0, none⟩ = some (.int .i64 ((rd_T64 l0 x6_1).f0)) := (blk_cell BK303.out 0).trans rfl
                                      have hcz35_1 : wr.cell? ⟨gb303, 1, none⟩ = some (.slice A302_1 ((rd_T64 l0 x6_1).f1).length c302_1) := (blk_cell BK303.out 1).trans rfl
                                      have hfz35_0 := blk_frozen BK303.out 0
                                      have hfz35_1 := blk_frozen BK303.out 1
                                      have p305 : 0 ≤ (x8_3 : Int) := of_decide_eq_true (by first | (with_reducible assumption) | assumption)
                                      have q305 : x8_3 < (((rd_T64 l0 x6_1).f1).length : Int) := of_decide_eq_true (by first | (with_reducible assumption) | assumption)
                                      obtain ⟨ad305, e305, hx305_0⟩ := Kd.at_int HR302_1.out x8_3 p305 q305
                                      cases e305
                                      replace hx305_0 := (HB.out.cell (World.block_lt_of_cell? w _ hx305_0)).trans hx305_0
                                      replace p305 := eq_true p305
                                      replace q305 := eq_true q305
                                      obtain ⟨Ao36, co36, eo36⟩ := Kd.R_slice HO_5.out
                                      subst eo36
                                      have p306 : 0 ≤ ((rd ((rd_T64 l0 x6_1).f1) x8_3) : Int) := of_decide_eq_true (by first | (with_reducible assumption) | assumption)
                                      have q306 : (rd ((rd_T64 l0 x6_1).f1) x8_3) < (x5_3.length : Int) := of_decide_eq_true (by first | (with_reducible assumption) | assumption)
                                      obtain ⟨ad306, e306, hx306_0⟩ := Kd.at_bool (Kd.R_reads' HO_5.out).2.2 (rd ((rd_T64 l0 x6_1).f1) x8_3) p306 q306
                                      (try rw [← Nbq33.out] at hx306_0)
                                      cases e306
                                      replace p306 := eq_true p306
                                      replace q306 := eq_true q306
                                      go_wp2
                                      repeat (go_quiet (fail); try go_wp2)
                                      go_ret
                                      exact ⟨by first | rfl | (simp [errW_none, errW_some] <;> rfl) | (simp [*, errW_none, errW_some] <;> rfl), by repeat (first | (with_reducible first | exact HB.out | apply below_alloc | apply pw_below_drewN | apply below_drew1 | refine below_set ?_ GE303.out) | exact HB.out)⟩
                                    · replace c34 := Bool.eq_false_iff.mpr c34
                                      subst c34
                                      have H1 : (if x8_3 > 0 then (if 0 ≤ (wrap64 (x8_3 - 1)) then (if (wrap64 (x8_3 - 1)) < (((rd_T64 l0 x6_1).f1).length : Int) then (if (rd ((rd_T64 l0 x6_1).f1) x8_3) ≤ (rd ((rd_T64 l0 x6_1).f1) (wrap64 (x8_3 - 1))) then (some false) else (understoryref12_Is.l1 k3 l0 a1 (x5_3.set ((rd ((rd_T64 l0 x6_1).f1) x8_3) : Int).toNat true) x6_1 (wrap64 (x8_3 + 1)) ((rd_T64 l0 x6_1).f0) ((rd_T64 l0 x6_1).f1))) else (none)) else (none)) else (understoryref12_Is.l1 k3 l0 a1 (x5_3.set ((rd ((rd_T64 l0 x6_1).f1) x8_3) : Int).toNat true) x6_1 (wrap64 (x8_3 + 1)) ((rd_T64 l0 x6_1).f0) ((rd_T64 l0 x6_1).f1))) = some r := by rw [if_neg (show ¬ (false = true) by decide)] at H; exact H
                                      clear H
                                      have H := H1
                                      clear H1
                                      by_cases c37 : x8_3 > 0
                                      · rw [if_pos c37] at H
                                        have c37b0 : decide (0 < x8_3) = true := decide_eq_true c37
                                        clear c37
                                        obtain ⟨ji38, hji38⟩ : ∃ j_ : Int, (wrap64 (x8_3 - 1)) = j_ := ⟨_, rfl⟩
                                        replace H : (if 0 ≤ (ji38) then (if (ji38) < (((rd_T64 l0 x6_1).f1).length : Int) then (if (rd ((rd_T64 l0 x6_1).f1) x8_3) ≤ (rd ((rd_T64 l0 x6_1).f1) (ji38)) then (some false) else (understoryref12_Is.l1 k3 l0 a1 (x5_3.set ((rd ((rd_T64 l0 x6_1).f1) x8_3) : Int).toNat true) x6_1 (wrap64 (x8_3 + 1)) ((rd_T64 l0 x6_1).f0) ((rd_T64 l0 x6_1).f1))) else (none)) else (none)) = some r := by first | (rw [hji38] at H; exact H) | (simp only [hji38] at H ⊢; exact H)
                                        have hji38w : (IntKind.i64.wrap (x8_3 - 1)) = ji38 := (i64_w _).trans hji38
                                        by_cases c39 : 0 ≤ (ji38)
                                        · rw [if_pos c39] at H
                                          have c39b0 : decide (0 ≤ (ji38)) = true := decide_eq_true c39
                                          clear c39
                                          by_cases c40 : (ji38) < (((rd_T64 l0 x6_1).f1).length : Int)
                                          · rw [if_pos c40] at H
                                            have c40b0 : decide ((ji38) < (((rd_T64 l0 x6_1).f1).length : Int)) = true := decide_eq_true c40
                                            clear c40
                                            by_cases c41 : (rd ((rd_T64 l0 x6_1).f1) x8_3) ≤ (rd ((rd_T64 l0 x6_1).f1) (ji38))
                                            · rw [if_pos c41] at H
                                              have c41b0 : decide ((rd ((rd_T64 l0 x6_1).f1) x8_3) ≤ (rd ((rd_T64 l0 x6_1).f1) (ji38))) = true := decide_eq_true c41
                                              clear c41
                                              obtain rfl := Option.some.inj H
                                              have hcz42_0 : wr.cell? ⟨gb303, 0, none⟩ = some (.int .i64 ((rd_T64 l0 x6_1).f0)) := (blk_cell BK303.out 0).trans rfl
                                              have hcz42_1 : wr.cell? ⟨gb303, 1, none⟩ = some (.slice A302_1 ((rd_T64 l0 x6_1).f1).length c302_1) := (blk_cell BK303.out 1).trans rfl
                                              have hfz42_0 := blk_frozen BK303.out 0
                                              have hfz42_1 := blk_frozen BK303.out 1
                                              have p305 : 0 ≤ (x8_3 : Int) := of_decide_eq_true (by first | (with_reducible assumption) | assumption)
                                              have q305 : x8_3 < (((rd_T64 l0 x6_1).f1).length : Int) := of_decide_eq_true (by first | (with_reducible assumption) | assumption)
                                              obtain ⟨ad305, e305, hx305_0⟩ := Kd.at_int HR302_1.out x8_3 p305 q305
                                              cases e305
                                              replace hx305_0 := (HB.out.cell (World.block_lt_of_cell? w _ hx305_0)).trans hx305_0
                                              replace p305 := eq_true p305
                                              replace q305 := eq_true q305
                                              obtain ⟨Ao43, co43, eo43⟩ := Kd.R_slice HO_5.out
                                              subst eo43
                                              have p306 : 0 ≤ ((rd ((rd_T64 l0 x6_1).f1) x8_3) : Int) := of_decide_eq_true (by first | (with_reducible assumption) | assumption)
                                              have q306 : (rd ((rd_T64 l0 x6_1).f1) x8_3) < (x5_3.length : Int) := of_decide_eq_true (by first | (with_reducible assumption) | assumption)
                                              obtain ⟨ad306, e306, hx306_0⟩ := Kd.at_bool (Kd.R_reads' HO_5.out).2.2 (rd ((rd_T64 l0 x6_1).f1) x8_3) p306 q306
                                              (try rw [← Nbq33.out] at hx306_0)
                                              cases e306
                                              replace p306 := eq_true p306
                                              replace q306 := eq_true q306
                                              have p307 : 0 ≤ ((ji38) : Int) := of_decide_eq_true (by first | (with_reducible assumption) | assumption)
                                              have q307 : (ji38) < (((rd_T64 l0 x6_1).f1).length : Int) := of_decide_eq_true (by first | (with_reducible assumption) | assumption)
                                              obtain ⟨ad307, e307, hx307_0⟩ := Kd.at_int HR302_1.out (ji38) p307 q307
                                              obtain rfl : ad305 = ad307 := (by injection e307)
                                              replace hx307_0 := (HB.out.cell (World.block_lt_of_cell? w _ hx307_0)).trans hx307_0
                                              replace p307 := eq_true p307
                                              replace q307 := eq_true q307
                                              go_wp2
                                              repeat (go_quiet (fail); try go_wp2)
                                              go_ret
                                              exact ⟨by first | rfl | (simp [errW_none, errW_some] <;> rfl) | (simp only [← hji38]; first | rfl | (simp [errW_none, errW_some] <;> rfl)) | (simp [*, errW_none, errW_some] <;> rfl), by repeat (first | (with_reducible first | exact HB.out | apply below_alloc | apply pw_below_drewN | apply below_drew1 | refine below_set ?_ GE303.out) | exact HB.out)⟩
                                            · rw [if_neg c41] at H
                                              have c41b0 : decide ((rd ((rd_T64 l0 x6_1).f1) x8_3) ≤ (rd ((rd_T64 l0 x6_1).f1) (ji38))) = false := decide_eq_false c41
                                              clear c41
                                              obtain ⟨y308, hy308⟩ : ∃ y_ : List Bool, y_ = (x5_3.set ((rd ((rd_T64 l0 x6_1).f1) x8_3) : Int).toNat true) := ⟨_, rfl⟩
                                              replace H : (understoryref12_Is.l1 k3 l0 a1 y308 x6_1 (wrap64 (x8_3 + 1)) ((rd_T64 l0 x6_1).f0) ((rd_T64 l0 x6_1).f1)) = some r := by first | (rw [hy308]; with_reducible exact H) | (have H2_ := (Option.bind_some _ _).symm.trans H; rw [hy308]; with_reducible exact H2_) | (have H2_ := (Option.bind_some _ _).symm.trans H; with_reducible exact H2_) | with_reducible exact H | (rw [hy308]; exact H) | exact H
                                              have Ny308 := Aside0.mk hy308
                                              clear hy308
                                              have H' := Aside0.mk H
                                              clear H
                                              have hcz45_0 : wr.cell? ⟨gb303, 0, none⟩ = some (.int .i64 ((rd_T64 l0 x6_1).f0)) := (blk_cell BK303.out 0).trans rfl
                                              have hcz45_1 : wr.cell? ⟨gb303, 1, none⟩ = some (.slice A302_1 ((rd_T64 l0 x6_1).f1).length c302_1) := (blk_cell BK303.out 1).trans rfl
                                              have hfz45_0 := blk_frozen BK303.out 0
                                              have hfz45_1 := blk_frozen BK303.out 1
                                              have p305 : 0 ≤ (x8_3 : Int) := of_decide_eq_true (by first | (with_reducible assumption) | assumption)
                                              have q305 : x8_3 < (((rd_T64 l0 x6_1).f1).length : Int) := of_decide_eq_true (by first | (with_reducible assumption) | assumption)
                                              obtain ⟨ad305, e305, hx305_0⟩ := Kd.at_int HR302_1.out x8_3 p305 q305
                                              cases e305
                                              replace hx305_0 := (HB.out.cell (World.block_lt_of_cell? w _ hx305_0)).trans hx305_0
                                              replace p305 := eq_true p305
                                              replace q305 := eq_true q305
                                              obtain ⟨Ao46, co46, eo46⟩ := Kd.R_slice HO_5.out
                                              subst eo46
                                              have p306 : 0 ≤ ((rd ((rd_T64 l0 x6_1).f1) x8_3) : Int) := of_decide_eq_true (by first | (with_reducible assumption) | assumption)
                                              have q306 : (rd ((rd_T64 l0 x6_1).f1) x8_3) < (x5_3.length : Int) := of_decide_eq_true (by first | (with_reducible assumption) | assumption)
                                              obtain ⟨ad306, e306, hx306_0⟩ := Kd.at_bool (Kd.R_reads' HO_5.out).2.2 (rd ((rd_T64 l0 x6_1).f1) x8_3) p306 q306
                                              (try rw [← Nbq33.out] at hx306_0)
                                              cases e306
                                              replace p306 := eq_true p306
                                              replace q306 := eq_true q306
                                              have p307 : 0 ≤ ((ji38) : Int) := of_decide_eq_true (by first | (with_reducible assumption) | assumption)
                                              have q307 : (ji38) < (((rd_T64 l0 x6_1).f1).length : Int) := of_decide_eq_true (by first | (with_reducible assumption) | assumption)
                                              obtain ⟨ad307, e307, hx307_0⟩ := Kd.at_int HR302_1.out (ji38) p307 q307
                                              obtain rfl : ad305 = ad307 := (by injection e307)
                                              replace hx307_0 := (HB.out.cell (World.block_lt_of_cell? w _ hx307_0)).trans hx307_0
                                              replace p307 := eq_true p307
                                              replace q307 := eq_true q307
                                              have p44 : 0 ≤ ((rd ((rd_T64 l0 x6_1).f1) x8_3) : Int) := of_decide_eq_true (by first | (with_reducible assumption) | assumption)
                                              have q44 : ((rd ((rd_T64 l0 x6_1).f1) x8_3) : Int) < ((x5_3.length : Int) : Int) := of_decide_eq_true (by first | (with_reducible assumption) | assumption)
                                              obtain ⟨go44, co44, eo44, gb44, gl44, cl44, HG44⟩ := Kd.R_form HO_5.out (by omega)
                                              (first | cases eo44 | (injection eo44 with ea_ en_ ec_; (first | subst ea_ | (injection ea_ with ea_; subst ea_)); subst ec_; clear en_))
                                              have GB44 := Aside0.mk gb44
                                              have GG44 := Aside0.mk HG44
                                              clear gb44 gl44 HG44
                                              (first | simp only [add_plain] at hx306_0 | skip)
                                              obtain ⟨hx44_0, hf44_0⟩ := Kd.R_celln false HO_5.out ((rd ((rd_T64 l0 x6_1).f1) x8_3) : Int) p44 q44
                                              replace p44 := eq_true p44
                                              replace q44 := eq_true q44
                                              have HP47 := Kd.R_putg HO_5.out ((rd ((rd_T64 l0 x6_1).f1) x8_3) : Int) true
                                              go_wp2_with (first | ((with_reducible refine gate_store (t := 4) (p := 92) rfl ?_); (try (rw [drewN_self wr]; generalize hq_ : World.drewN wr _ = wr; have n0_ := Aside0.mk (Kd.R_at hq_ HO_5.out); have n1_ := Aside0.mk (blk_at hq_ BK303.out); have n2_ := Aside0.mk (below_at hq_ HB.out); clear hq_ HO_5 BK303 HB; have HO_5 := n0_; have BK303 := n1_; have HB := n2_; clear n0_ n1_ n2_; (try (have HP47 := Kd.R_putg HO_5.out ((rd ((rd_T64 l0 x6_1).f1) x8_3) : Int) true)))); refine store_event (t := 4) (p := 92) (v := ?vo_w48) (w1 := (wr.setCell ⟨go44, ((rd ((rd_T64 l0 x6_1).f1) x8_3) : Int).toNat, none⟩ (.bool true))) ?hg ?ho ?hn ?hr ?_; (case ho => rfl); (case hg => rfl); (case hn => rfl); (case hr => first | (go_simp; done) | (go_simp; rfl)); intro w48 hw; have hg : wr.grownBy w48 (some go44) := (by rw [hw]; exact HP47.2); have hp_ : Kd.R Kd.bool 4 w48 w.heap.size (fun _ => True) (.slice (some ⟨go44, 0, none⟩) x5_3.length co46) y308 := (by rw [hw, Ny308.out]; exact HP47.1); clear HP47; have n0_ := Aside0.mk (hp_); have n1_ := Aside0.mk (blk_grown (g := gb303) (o := .cells #[.int .i64 ((rd_T64 l0 x6_1).f0), .slice (some ad305) ((rd_T64 l0 x6_1).f1).length c302_1] 64 (0, 0)) (by (with_reducible repeat (first | refine blk_drewN ?_ _ | refine blk_drew ?_ | refine blk_alloc ?_ _)); exact BK303.out) hg (Kd.R_ne HO_5.out BK303.out (by decide))); have n2_ := Aside0.mk ((by rw [hw]; exact below_set (HB.out) GB44.out : Below w.heap.size w w48)); clear HO_5; clear BK303; clear HB; have HO_5 := n0_; have BK303 := n1_; have HB := n2_; clear n0_ n1_ n2_; clear hg hw hp_))
                                              repeat (go_quiet (first | ((with_reducible refine gate_store (t := 4) (p := 92) rfl ?_); (try (rw [drewN_self wr]; generalize hq_ : World.drewN wr _ = wr; have n0_ := Aside0.mk (Kd.R_at hq_ HO_5.out); have n1_ := Aside0.mk (blk_at hq_ BK303.out); have n2_ := Aside0.mk (below_at hq_ HB.out); clear hq_ HO_5 BK303 HB; have HO_5 := n0_; have BK303 := n1_; have HB := n2_; clear n0_ n1_ n2_; (try (have HP47 := Kd.R_putg HO_5.out ((rd ((rd_T64 l0 x6_1).f1) x8_3) : Int) true)))); refine store_event (t := 4) (p := 92) (v := ?vo_w48) (w1 := (wr.setCell ⟨go44, ((rd ((rd_T64 l0 x6_1).f1) x8_3) : Int).toNat, none⟩ (.bool true))) ?hg ?ho ?hn ?hr ?_; (case ho => rfl); (case hg => rfl); (case hn => rfl); (case hr => first | (go_simp; done) | (go_simp; rfl)); intro w48 hw; have hg : wr.grownBy w48 (some go44) := (by rw [hw]; exact HP47.2); have hp_ : Kd.R Kd.bool 4 w48 w.heap.size (fun _ => True) (.slice (some ⟨go44, 0, none⟩) x5_3.length co46) y308 := (by rw [hw, Ny308.out]; exact HP47.1); clear HP47; have n0_ := Aside0.mk (hp_); have n1_ := Aside0.mk (blk_grown (g := gb303) (o := .cells #[.int .i64 ((rd_T64 l0 x6_1).f0), .slice (some ad305) ((rd_T64 l0 x6_1).f1).length c302_1] 64 (0, 0)) (by (with_reducible repeat (first | refine blk_drewN ?_ _ | refine blk_drew ?_ | refine blk_alloc ?_ _)); exact BK303.out) hg (Kd.R_ne HO_5.out BK303.out (by decide))); have n2_ := Aside0.mk ((by rw [hw]; exact below_set (HB.out) GB44.out : Below w.heap.size w w48)); clear HO_5; clear BK303; clear HB; have HO_5 := n0_; have BK303 := n1_; have HB := n2_; clear n0_ n1_ n2_; clear hg hw hp_)); try go_wp2_with (first | ((with_reducible refine gate_store (t := 4) (p := 92) rfl ?_); (try (rw [drewN_self wr]; generalize hq_ : World.drewN wr _ = wr; have n0_ := Aside0.mk (Kd.R_at hq_ HO_5.out); have n1_ := Aside0.mk (blk_at hq_ BK303.out); have n2_ := Aside0.mk (below_at hq_ HB.out); clear hq_ HO_5 BK303 HB; have HO_5 := n0_; have BK303 := n1_; have HB := n2_; clear n0_ n1_ n2_; (try (have HP47 := Kd.R_putg HO_5.out ((rd ((rd_T64 l0 x6_1).f1) x8_3) : Int) true)))); refine store_event (t := 4) (p := 92) (v := ?vo_w48) (w1 := (wr.setCell ⟨go44, ((rd ((rd_T64 l0 x6_1).f1) x8_3) : Int).toNat, none⟩ (.bool true))) ?hg ?ho ?hn ?hr ?_; (case ho => rfl); (case hg => rfl); (case hn => rfl); (case hr => first | (go_simp; done) | (go_simp; rfl)); intro w48 hw; have hg : wr.grownBy w48 (some go44) := (by rw [hw]; exact HP47.2); have hp_ : Kd.R Kd.bool 4 w48 w.heap.size (fun _ => True) (.slice (some ⟨go44, 0, none⟩) x5_3.length co46) y308 := (by rw [hw, Ny308.out]; exact HP47.1); clear HP47; have n0_ := Aside0.mk (hp_); have n1_ := Aside0.mk (blk_grown (g := gb303) (o := .cells #[.int .i64 ((rd_T64 l0 x6_1).f0), .slice (some ad305) ((rd_T64 l0 x6_1).f1).length c302_1] 64 (0, 0)) (by (with_reducible repeat (first | refine blk_drewN ?_ _ | refine blk_drew ?_ | refine blk_alloc ?_ _)); exact BK303.out) hg (Kd.R_ne HO_5.out BK303.out (by decide))); have n2_ := Aside0.mk ((by rw [hw]; exact below_set (HB.out) GB44.out : Below w.heap.size w w48)); clear HO_5; clear BK303; clear HB; have HO_5 := n0_; have BK303 := n1_; have HB := n2_; clear n0_ n1_ n2_; clear hg hw hp_)))
                                              go_roundg k3
                                              case measure => have := HK1.out; have := HJ8.out; have := HK3.out; omega
                                              case rel => exact ⟨(y308), (wrap64 (x8_3 + 1)), (by first | rfl | (simp; done) | (simp [*]; done)), H', ⟨by have := HK1.out; have := HJ8.out; have := HK3.out; omega⟩, ⟨by (with_reducible repeat (first | apply Kd.R_alloc | apply Kd.R_drewN | apply Kd.R_drew)); exact HO_5.out⟩, ⟨by (with_reducible repeat (first | refine blk_drewN ?_ _ | refine blk_drew ?_ | refine blk_alloc ?_ _)); exact BK303.out⟩, ⟨by repeat (first | (with_reducible first | exact HB.out | apply below_alloc | apply pw_below_drewN | apply below_drew1 | refine below_set ?_ GE303.out) | exact HB.out)⟩⟩
                                          · rw [if_neg c40] at H
                                            exact absurd H (by simp)
                                        · rw [if_neg c39] at H
                                          exact absurd H (by simp)
                                      · rw [if_neg c37] at H
                                        have c37b0 : decide (0 < x8_3) = false := decide_eq_false c37
                                        clear c37
                                        obtain ⟨y309, hy309⟩ : ∃ y_ : List Bool, y_ = (x5_3.set ((rd ((rd_T64 l0 x6_1).f1) x8_3) : Int).toNat true) := ⟨_, rfl⟩
                                        replace H : (understoryref12_Is.l1 k3 l0 a1 y309 x6_1 (wrap64 (x8_3 + 1)) ((rd_T64 l0 x6_1).f0) ((rd_T64 l0 x6_1).f1)) = some r := by first | (rw [hy309]; with_reducible exact H) | (have H2_ := (Option.bind_some _ _).symm.trans H; rw [hy309]; with_reducible exact H2_) | (have H2_ := (Option.bind_some _ _).symm.trans H; with_reducible exact H2_) | with_reducible exact H | (rw [hy309]; exact H) | exact H
                                        have Ny309 := Aside0.mk hy309
                                        clear hy309
                                        have H' := Aside0.mk H
                                        clear H
                                        have hcz50_0 : wr.cell? ⟨gb303, 0, none⟩ = some (.int .i64 ((rd_T64 l0 x6_1).f0)) := (blk_cell BK303.out 0).trans rfl
                                        have hcz50_1 : wr.cell? ⟨gb303, 1, none⟩ = some (.slice A302_1 ((rd_T64 l0 x6_1).f1).length c302_1) := (blk_cell BK303.out 1).trans rfl
                                        have hfz50_0 := blk_frozen BK303.out 0
                                        have hfz50_1 := blk_frozen BK303.out 1
                                        have p305 : 0 ≤ (x8_3 : Int) := of_decide_eq_true (by first | (with_reducible assumption) | assumption)
                                        have q305 : x8_3 < (((rd_T64 l0 x6_1).f1).length : Int) := of_decide_eq_true (by first | (with_reducible assumption) | assumption)
                                        obtain ⟨ad305, e305, hx305_0⟩ := Kd.at_int HR302_1.out x8_3 p305 q305
                                        cases e305
                                        replace hx305_0 := (HB.out.cell (World.block_lt_of_cell? w _ hx305_0)).trans hx305_0
                                        replace p305 := eq_true p305
                                        replace q305 := eq_true q305
                                        obtain ⟨Ao51, co51, eo51⟩ := Kd.R_slice HO_5.out
                                        subst eo51
                                        have p306 : 0 ≤ ((rd ((rd_T64 l0 x6_1).f1) x8_3) : Int) := of_decide_eq_true (by first | (with_reducible assumption) | assumption)
                                        have q306 : (rd ((rd_T64 l0 x6_1).f1) x8_3) < (x5_3.length : Int) := of_decide_eq_true (by first | (with_reducible assumption) | assumption)
                                        obtain ⟨ad306, e306, hx306_0⟩ := Kd.at_bool (Kd.R_reads' HO_5.out).2.2 (rd ((rd_T64 l0 x6_1).f1) x8_3) p306 q306
                                        (try rw [← Nbq33.out] at hx306_0)
                                        cases e306
                                        replace p306 := eq_true p306
                                        replace q306 := eq_true q306
                                        have p49 : 0 ≤ ((rd ((rd_T64 l0 x6_1).f1) x8_3) : Int) := of_decide_eq_true (by first | (with_reducible assumption) | assumption)
                                        have q49 : ((rd ((rd_T64 l0 x6_1).f1) x8_3) : Int) < ((x5_3.length : Int) : Int) := of_decide_eq_true (by first | (with_reducible assumption) | assumption)
                                        obtain ⟨go49, co49, eo49, gb49, gl49, cl49, HG49⟩ := Kd.R_form HO_5.out (by omega)
                                        (first | cases eo49 | (injection eo49 with ea_ en_ ec_; (first | subst ea_ | (injection ea_ with ea_; subst ea_)); subst ec_; clear en_))
                                        have GB49 := Aside0.mk gb49
                                        have GG49 := Aside0.mk HG49
                                        clear gb49 gl49 HG49
                                        (first | simp only [add_plain] at hx306_0 | skip)
                                        obtain ⟨hx49_0, hf49_0⟩ := Kd.R_celln false HO_5.out ((rd ((rd_T64 l0 x6_1).f1) x8_3) : Int) p49 q49
                                        replace p49 := eq_true p49
                                        replace q49 := eq_true q49
                                        have HP52 := Kd.R_putg HO_5.out ((rd ((rd_T64 l0 x6_1).f1) x8_3) : Int) true
                                        go_wp2_with (first | ((with_reducible refine gate_store (t := 4) (p := 92) rfl ?_); (try (rw [drewN_self wr]; generalize hq_ : World.drewN wr _ = wr; have n0_ := Aside0.mk (Kd.R_at hq_ HO_5.out); have n1_ := Aside0.mk (blk_at hq_ BK303.out); have n2_ := Aside0.mk (below_at hq_ HB.out); clear hq_ HO_5 BK303 HB; have HO_5 := n0_; have BK303 := n1_; have HB := n2_; clear n0_ n1_ n2_; (try (have HP52 := Kd.R_putg HO_5.out ((rd ((rd_T64 l0 x6_1).f1) x8_3) : Int) true)))); refine store_event (t := 4) (p := 92) (v := ?vo_w53) (w1 := (wr.setCell ⟨go49, ((rd ((rd_T64 l0 x6_1).f1) x8_3) : Int).toNat, none⟩ (.bool true))) ?hg ?ho ?hn ?hr ?_; (case ho => rfl); (case hg => rfl); (case hn => rfl); (case hr => first | (go_simp; done) | (go_simp; rfl)); intro w53 hw; have hg : wr.grownBy w53 (some go49) := (by rw [hw]; exact HP52.2); have hp_ : Kd.R Kd.bool 4 w53 w.heap.size (fun _ => True) (.slice (some ⟨go49, 0, none⟩) x5_3.length co51) y309 := (by rw [hw, Ny309.out]; exact HP52.1); clear HP52; have n0_ := Aside0.mk (hp_); have n1_ := Aside0.mk (blk_grown (g := gb303) (o := .cells #[.int .i64 ((rd_T64 l0 x6_1).f0), .slice (some ad305) ((rd_T64 l0 x6_1).f1).length c302_1] 64 (0, 0)) (by (with_reducible repeat (first | refine blk_drewN ?_ _ | refine blk_drew ?_ | refine blk_alloc ?_ _)); exact BK303.out) hg (Kd.R_ne HO_5.out BK303.out (by decide))); have n2_ := Aside0.mk ((by rw [hw]; exact below_set (HB.out) GB49.out : Below w.heap.size w w53)); clear HO_5; clear BK303; clear HB; have HO_5 := n0_; have BK303 := n1_; have HB := n2_; clear n0_ n1_ n2_; clear hg hw hp_))
                                        repeat (go_quiet (first | ((with_reducible refine gate_store (t := 4) (p := 92) rfl ?_); (try (rw [drewN_self wr]; generalize hq_ : World.drewN wr _ = wr; have n0_ := Aside0.mk (Kd.R_at hq_ HO_5.out); have n1_ := Aside0.mk (blk_at hq_ BK303.out); have n2_ := Aside0.mk (below_at hq_ HB.out); clear hq_ HO_5 BK303 HB; have HO_5 := n0_; have BK303 := n1_; have HB := n2_; clear n0_ n1_ n2_; (try (have HP52 := Kd.R_putg HO_5.out ((rd ((rd_T64 l0 x6_1).f1) x8_3) : Int) true)))); refine store_event (t := 4) (p := 92) (v := ?vo_w53) (w1 := (wr.setCell ⟨go49, ((rd ((rd_T64 l0 x6_1).f1) x8_3) : Int).toNat, none⟩ (.bool true))) ?hg ?ho ?hn ?hr ?_; (case ho => rfl); (case hg => rfl); (case hn => rfl); (case hr => first | (go_simp; done) | (go_simp; rfl)); intro w53 hw; have hg : wr.grownBy w53 (some go49) := (by rw [hw]; exact HP52.2); have hp_ : Kd.R Kd.bool 4 w53 w.heap.size (fun _ => True) (.slice (some ⟨go49, 0, none⟩) x5_3.length co51) y309 := (by rw [hw, Ny309.out]; exact HP52.1); clear HP52; have n0_ := Aside0.mk (hp_); have n1_ := Aside0.mk (blk_grown (g := gb303) (o := .cells #[.int .i64 ((rd_T64 l0 x6_1).f0), .slice (some ad305) ((rd_T64 l0 x6_1).f1).length c302_1] 64 (0, 0)) (by (with_reducible repeat (first | refine blk_drewN ?_ _ | refine blk_drew ?_ | refine blk_alloc ?_ _)); exact BK303.out) hg (Kd.R_ne HO_5.out BK303.out (by decide))); have n2_ := Aside0.mk ((by rw [hw]; exact below_set (HB.out) GB49.out : Below w.heap.size w w53)); clear HO_5; clear BK303; clear HB; have HO_5 := n0_; have BK303 := n1_; have HB := n2_; clear n0_ n1_ n2_; clear hg hw hp_)); try go_wp2_with (first | ((with_reducible refine gate_store (t := 4) (p := 92) rfl ?_); (try (rw [drewN_self wr]; generalize hq_ : World.drewN wr _ = wr; have n0_ := Aside0.mk (Kd.R_at hq_ HO_5.out); have n1_ := Aside0.mk (blk_at hq_ BK303.out); have n2_ := Aside0.mk (below_at hq_ HB.out); clear hq_ HO_5 BK303 HB; have HO_5 := n0_; have BK303 := n1_; have HB := n2_; clear n0_ n1_ n2_; (try (have HP52 := Kd.R_putg HO_5.out ((rd ((rd_T64 l0 x6_1).f1) x8_3) : Int) true)))); refine store_event (t := 4) (p := 92) (v := ?vo_w53) (w1 := (wr.setCell ⟨go49, ((rd ((rd_T64 l0 x6_1).f1) x8_3) : Int).toNat, none⟩ (.bool true))) ?hg ?ho ?hn ?hr ?_; (case ho => rfl); (case hg => rfl); (case hn => rfl); (case hr => first | (go_simp; done) | (go_simp; rfl)); intro w53 hw; have hg : wr.grownBy w53 (some go49) := (by rw [hw]; exact HP52.2); have hp_ : Kd.R Kd.bool 4 w53 w.heap.size (fun _ => True) (.slice (some ⟨go49, 0, none⟩) x5_3.length co51) y309 := (by rw [hw, Ny309.out]; exact HP52.1); clear HP52; have n0_ := Aside0.mk (hp_); have n1_ := Aside0.mk (blk_grown (g := gb303) (o := .cells #[.int .i64 ((rd_T64 l0 x6_1).f0), .slice (some ad305) ((rd_T64 l0 x6_1).f1).length c302_1] 64 (0, 0)) (by (with_reducible repeat (first | refine blk_drewN ?_ _ | refine blk_drew ?_ | refine blk_alloc ?_ _)); exact BK303.out) hg (Kd.R_ne HO_5.out BK303.out (by decide))); have n2_ := Aside0.mk ((by rw [hw]; exact below_set (HB.out) GB49.out : Below w.heap.size w w53)); clear HO_5; clear BK303; clear HB; have HO_5 := n0_; have BK303 := n1_; have HB := n2_; clear n0_ n1_ n2_; clear hg hw hp_)))
                                        go_roundg k3
                                        case measure => have := HK1.out; have := HJ8.out; have := HK3.out; omega
                                        case rel => exact ⟨(y309), (wrap64 (x8_3 + 1)), (by first | rfl | (simp; done) | (simp [*]; done)), H', ⟨by have := HK1.out; have := HJ8.out; have := HK3.out; omega⟩, ⟨by (with_reducible repeat (first | apply Kd.R_alloc | apply Kd.R_drewN | apply Kd.R_drew)); exact HO_5.out⟩, ⟨by (with_reducible repeat (first | refine blk_drewN ?_ _ | refine blk_drew ?_ | refine blk_alloc ?_ _)); exact BK303.out⟩, ⟨by repeat (first | (with_reducible first | exact HB.out | apply below_alloc | apply pw_below_drewN | apply below_drew1 | refine below_set ?_ GE303.out) | exact HB.out)⟩⟩
                                  · rw [if_neg c32] at H
                                    exact absurd H (by simp)
                                · rw [if_neg c31] at H
                                  exact absurd H (by simp)
                          · rw [if_neg c26] at H
                            exact absurd H (by simp)
                        · rw [if_neg c25] at H
                          have c25b0 : decide (x8_3 < (((rd_T64 l0 x6_1).f1).length : Int)) = false := decide_eq_false c25
                          clear c25
                          have H' := Aside0.mk H
                          clear H
                          have hcz54_0 : wr.cell? ⟨gb303, 0, none⟩ = some (.int .i64 ((rd_T64 l0 x6_1).f0)) := (blk_cell BK303.out 0).trans rfl
                          have hcz54_1 : wr.cell? ⟨gb303, 1, none⟩ = some (.slice A302_1 ((rd_T64 l0 x6_1).f1).length c302_1) := (blk_cell BK303.out 1).trans rfl
                          have hfz54_0 := blk_frozen BK303.out 0
                          have hfz54_1 := blk_frozen BK303.out 1
                          go_wp2
                          repeat (go_quiet (fail); try go_wp2)
                          go_roundg k3
                          case measure => have := HK1.out; have := HJ8.out; have := HK3.out; omega
                          case rel => exact ⟨(x5_3), (wrap64 (x6_1 + 1)), (by first | rfl | (simp; done) | (simp [*]; done)), H', ⟨by have := HK1.out; have := HJ8.out; have := HK3.out; omega⟩, ⟨by (with_reducible repeat (first | apply Kd.R_alloc | apply Kd.R_drewN | apply Kd.R_drew)); exact HO_5.out⟩, ⟨by repeat (first | (with_reducible first | exact HB.out | apply below_alloc | apply pw_below_drewN | apply below_drew1 | refine below_set ?_ GE303.out) | exact HB.out)⟩⟩
            · rw [if_neg c8] at H
              exact absurd H (by simp)
          · rw [if_neg c7] at H
            have c7b0 : decide (x6_1 < (l0.length : Int)) = false := decide_eq_false c7
            clear c7
            obtain rfl := Option.some.inj H
            go_wp2
            repeat (go_quiet (fail); try go_wp2)
            go_ret
            exact ⟨by first | rfl | (simp [errW_none, errW_some] <;> rfl) | (simp [*, errW_none, errW_some] <;> rfl), by repeat (first | (with_reducible first | exact HB.out | apply below_alloc | apply pw_below_drewN | apply below_drew1) | exact HB.out)⟩
    · rw [if_neg c4] at H
      exact absurd H (by simp)
  · rw [if_neg c3] at H
    exact absurd H (by simp)

end Go.Proofs.YtpnhelcemodnmaaGreat.PA

/- The reference's Is in plain: its marks are the pages met; one element's pages. -/
namespace Go.Proofs.YtpnhelcemodnmaaGreat
open Go.RowKit Go.Shelf Go.Proofs.YtpnhelcemodnmaaGreatW.PrintWords Go.Proofs.YtpnhelcemodnmaaGreatW.PrintLast Go.Proofs.YtpnhelcemodnmaaGreatW.PrintMore PA
set_option linter.unusedVariables false
set_option linter.unusedSimpArgs false
/-- The marks of the pages met. -/
def metOf (p : Int) (S : List Int) : List Bool := (List.range p.toNat).map fun i : Nat => decide ((i : Int) ∈ S)
theorem metOf_length (p : Int) (S : List Int) : (metOf p S).length = p.toNat := by simp [metOf]
theorem metOf_nil (p : Int) : metOf p [] = List.replicate p.toNat false := by
  refine List.ext_getElem (by simp [metOf]) fun i h1 h2 => ?_
  simp [metOf]
theorem metOf_at (p : Int) (S : List Int) (n : Int) (h0 : 0 ≤ n) (h1 : n < p) : rdOf false (metOf p S) n = decide (n ∈ S) := by
  have hlt : n.toNat < p.toNat := by omega
  have e : ((n.toNat : Nat) : Int) = n := by omega
  simp [rdOf, metOf, hlt, e]
theorem metOf_set (p : Int) (S : List Int) (n : Int) (h0 : 0 ≤ n) (h1 : n < p) : (metOf p S).set n.toNat true = metOf p (S ++ [n]) := by
  refine List.ext_getElem (by simp [metOf]) fun i h1 h2 => ?_
  simp only [List.getElem_set, metOf, List.getElem_map, List.getElem_range, List.mem_append, List.mem_singleton]
  by_cases e : n.toNat = i
  · have : (i : Int) = n := by omega
    rw [if_pos e]
    simp [this]
  · have : ¬ (i : Int) = n := by omega
    rw [if_neg e]
    simp [this]
theorem is_l1 (l : List S64) (p : Int) (i : Nat) (v : Int) (xs S : List Int) (hlm : xs.length ≤ 9223372036854775806) (hp : 0 ≤ p) (d : Nat) : ∀ (k q : Nat), q ≤ xs.length → xs.length - q = d → incP p (xs.take q) → (S ++ xs.take q).Nodup →
    understoryref12_Is.l1 (d + 1 + k) l p (metOf p (S ++ xs.take q)) (i : Int) (q : Int) v xs = if incP p xs ∧ (S ++ xs).Nodup then understoryref12_Is.l0 k l p (metOf p (S ++ xs)) (wrap64 ((i : Int) + 1)) else some false := by
  induction d with
  | zero =>
    intro k q h1 h2 h3 h4
    obtain rfl : q = xs.length := by omega
    rw [List.take_length] at h3 h4 ⊢
    rw [if_pos ⟨h3, h4⟩, show 0 + 1 + k = k + 1 by omega]
    simp only [understoryref12_Is.l1]
    rw [if_neg (by omega)]
  | succ d ih =>
    intro k q h1 h2 h3 h4
    have hlt : q < xs.length := by omega
    have hT := inc_take p xs q hlt
    have htk : xs.take (q + 1) = xs.take q ++ [xs[q]] := List.take_succ_eq_append_getElem hlt
    have hno : ∀ (h : (S ++ xs).Nodup), xs[q] ∉ S ++ xs.take q := by
      intro h hm
      have h5 : (S ++ xs.take (q + 1)).Nodup := h.sublist (List.Sublist.append_left (List.take_sublist _ _) _)
      rw [htk, ← List.append_assoc, List.nodup_append] at h5
      exact h5.2.2 _ hm _ (List.mem_singleton.2 rfl) rfl
    rw [show d + 1 + 1 + k = (d + 1 + k) + 1 by omega]
    simp only [understoryref12_Is.l1]
    rw [if_pos (by omega), if_pos (by omega), rd_at xs q hlt]
    by_cases c1 : xs[q] < 2
    · rw [if_pos c1, if_neg]
      intro h
      have := (hT.1 (inc_of_take p xs _ h.1)).2.1
      omega
    · rw [if_neg c1]
      by_cases c2 : xs[q] ≥ p
      · rw [if_pos c2, if_neg]
        intro h
        have := (hT.1 (inc_of_take p xs _ h.1)).2.1
        omega
      · rw [if_neg c2, if_pos (by omega), if_pos (by rw [metOf_length]; omega), metOf_at p _ _ (by omega) (by omega)]
        by_cases c3 : xs[q] ∈ S ++ xs.take q
        · rw [if_pos (by simpa using c3), if_neg]
          exact fun h => hno h.2 c3
        · rw [if_neg (by simpa using c3)]
          have h4' : (S ++ xs.take (q + 1)).Nodup := by
            rw [htk, ← List.append_assoc, List.nodup_append]
            exact ⟨h4, by simp, fun a ha b hb e => c3 (by rw [← List.mem_singleton.1 hb, ← e]; exact ha)⟩
          have hset : (metOf p (S ++ xs.take q)).set (xs[q]).toNat true = metOf p (S ++ xs.take (q + 1)) := by
            rw [metOf_set p _ _ (by omega) (by omega), htk, List.append_assoc]
          rw [hset]
          cases q with
          | zero =>
            rw [if_neg (by simp), wrapp 0 (by omega)]
            exact ih k 1 (by omega) (by omega) (hT.2 ⟨h3, by omega, fun j hj => by omega⟩) h4'
          | succ j =>
            have hj : j < xs.length := by omega
            rw [if_pos (by omega), wrapn _ (by omega), show ((j + 1 : Nat) : Int) - 1 = (j : Int) by omega, if_pos (by omega), if_pos (by omega), rd_at xs j hj]
            by_cases c4 : xs[j + 1] ≤ xs[j]
            · rw [if_pos c4, if_neg]
              intro h
              have := (hT.1 (inc_of_take p xs _ h.1)).2.2 j rfl hj
              omega
            · rw [if_neg c4, wrapp _ (by omega)]
              refine ih k (j + 1 + 1) (by omega) (by omega) (hT.2 ⟨h3, by omega, fun j' hj' hl' => ?_⟩) h4'
              obtain rfl : j = j' := by omega
              omega
end Go.Proofs.YtpnhelcemodnmaaGreat

/- A set of pages as an array of truth values; a list of freed pages is valid. -/
namespace Go.Proofs.YtpnhelcemodnmaaGreat
open Go.RowKit Go.Shelf Go.Proofs.YtpnhelcemodnmaaGreatW.PrintWords Go.Proofs.YtpnhelcemodnmaaGreatW.PrintLast Go.Proofs.YtpnhelcemodnmaaGreatW.PrintMore PA
set_option linter.unusedVariables false
set_option linter.unusedSimpArgs false
attribute [local go_sem] Oper.semAt_some

/-- Block bb holds the set S of pages. -/
def Bits (w : World) (bb : Nat) (S : Nat → Bool) : Prop := ∃ cs, w.heap[bb]? = some (.cells cs 129 (0, 0)) ∧ cs.size = 4096 ∧ ∀ j, j < 4096 → cs[j]? = some (.bool (S j))
def addB (S : Nat → Bool) (n : Nat) : Nat → Bool := fun j => if j = n then true else S j
theorem Bits.cell {w : World} {bb : Nat} {S : Nat → Bool} (h : Bits w bb S) (n : Nat) (hn : n < 4096) : w.cell? ⟨bb, n, none⟩ = some (.bool (S n)) := by
  obtain ⟨cs, h1, h2, h3⟩ := h
  exact (blk_cell h1 n).trans (h3 n hn)
theorem Bits.lt {w : World} {bb : Nat} {S : Nat → Bool} (h : Bits w bb S) : bb < w.heap.size := by
  obtain ⟨cs, h1, h2, h3⟩ := h
  exact (Array.getElem?_eq_some_iff.1 h1).1
theorem Bits.free {w : World} {bb : Nat} {S : Nat → Bool} (h : Bits w bb S) (n : Nat) : w.frozen? ⟨bb, n, none⟩ = false := by
  obtain ⟨cs, h1, h2, h3⟩ := h
  exact blk_frozen h1 n
theorem Bits.add {w : World} {bb : Nat} {S : Nat → Bool} (h : Bits w bb S) (n : Nat) (hn : n < 4096) : Bits (w.setCell ⟨bb, n, none⟩ (.bool true)) bb (addB S n) := by
  obtain ⟨cs, h1, h2, h3⟩ := h
  refine ⟨cs.setIfInBounds n (.bool true), blk_set h1 n _, by simp [h2], fun j hj => ?_⟩
  unfold addB
  by_cases e : j = n
  · subst e; rw [if_pos rfl]; simp [h2, hj]
  · rw [if_neg e, Array.getElem?_setIfInBounds_ne (Ne.symm e)]; exact h3 j hj
theorem add_any (bb n : Nat) (x : Bool) (hn : n < 4096) (w : World) (hc : w.cell? ⟨bb, n, none⟩ = some (.bool x)) (hf : w.frozen? ⟨bb, n, none⟩ = false) :
    Calls Tryz.prog 72 #[.pointer (some ⟨bb, 0, none⟩), .int .i64 (n : Int)] w fun e w' => e = .returned (.bool (!x)) ∧ w' = w.setCell ⟨bb, n, none⟩ (.bool true) := by
  have h0 : (0 : Int) ≤ (n : Int) := by omega
  have h1 : (n : Int) < 4096 := by omega
  go_enter Tryz.func72, Tryz.ntmps72
  go_wp2
  go_ret
  exact ⟨rfl, rfl⟩

theorem quiet0 {P : Program} {f : FuncId} {args : Array Value} {w : World} {n : Nat} {v : Value} (h : Calls P f args (w.drewN n) fun e w' => e = .returned v ∧ Drawn0 (w.drewN n) w') : Calls P f args (w.drewN n) fun e w'' => e = .returned v ∧ ∃ m, w'' = w.drewN m :=
  Calls.quiet_of (h.mono fun _ _ ⟨he, hd⟩ => ⟨he, hd.out⟩)
theorem within_q {a b c : Int} {r : Bool} (h : decide (b ≤ a ∧ a ≤ c) = r) (w : World) (n : Nat) : Calls Tryz.prog 46 #[.int .i64 a, .int .i64 b, .int .i64 c] (w.drewN n) fun e w'' => e = .returned (.bool r) ∧ ∃ m, w'' = w.drewN m := by
  rw [← h]; exact quiet0 (within_any a b c _)
theorem inc_q {p : Int} (hp : -9223372036854775808 < p) (hp2 : p ≤ 9223372036854775807) {l : List Int} {A : Option Addr} {c : Nat} {w : World} {r : Bool} (h : incB p l = r) (hC : (Kd.int .i64).C w A l.length l) (hc : l.length ≤ c) (n : Nat) : Calls Tryz.prog 48 #[.slice A l.length c, .int .i64 p] (w.drewN n) fun e w'' => e = .returned (.bool r) ∧ ∃ m, w'' = w.drewN m := by
  rw [← h]; exact quiet0 (inc_any p hp hp2 l A c _ (Kd.C_drewN hC n) hc)
theorem results_one {P : Program} {fn : Func} {p : Tmp} {ty : TypeId} (h : fn.results = #[.cell p ty]) (tmps : Array Value) (w : World) (g : Nat) (v : Value) (hp : tmps.getD p undef = .pointer (some ⟨g, 0, none⟩)) (hld : (loadVar ty ⟨g, 0, none⟩).run P w = .ok v w) : (results fn tmps).run P w = .ok v w := by
  have hp' : tmps[p]?.getD undef = .pointer (some ⟨g, 0, none⟩) := by simpa [Array.getD_eq_getD_getElem?] using hp
  simp [results, h, asAddr, hp', hld]
theorem load4 {w : World} {g : Nat} {v : Value} (hc : w.cell? ⟨g, 0, none⟩ = some v) : (loadVar 4 ⟨g, 0, none⟩).run Tryz.prog w = .ok v w := by go_simp
theorem below_alloc1 (w : World) (o : Obj) : Below w.heap.size w (w.alloc o) := (Below.refl _ _).alloc (Nat.le_refl _) _
set_option maxRecDepth 100000 in
set_option maxHeartbeats 2000000 in
theorem valid_size (l : List S64) (p : Int) (A : Option Addr) (c : Nat) (w : World) (hp : ¬ (2 ≤ p ∧ p ≤ 4096)) :
    Calls Tryz.prog 47 #[.slice A l.length c, .int .i64 p] w fun e w' => e = .returned (.bool (validB p l)) ∧ Below w.heap.size w w' := by
  have hv : validB p l = false := decide_eq_false_iff_not.2 fun h => hp h.1
  rw [hv]
  have hd : decide (2 ≤ p ∧ p ≤ 4096) = false := decide_eq_false_iff_not.2 hp
  have HD := Lib.hid hd
  clear hd hp hv
  go_enter Tryz.func47, Tryz.ntmps47
  go_wp2_with (go_at_call 46; (with_reducible refine (within_any p 2 4096 _).mono ?_); rintro e w' ⟨rfl, ⟨nd, rfl⟩⟩; rw [HD.out])
  exact bodyPost_ret (v := .bool false) (by simp [results, Tryz.results47, go_sem]) rfl ⟨rfl, (pw_below_drewN (below_alloc1 w _) nd).setCell (p := ⟨w.heap.size, 0, none⟩) (Nat.le_refl _) _⟩

theorem marks_ret {F : Fence} {n : Nat} {P : Program} {fn : Func} {R : Ending → World → Prop} {tmps : Array Value} {w : World} (v : Value) (hres : (results fn tmps).run P w = .ok v w) (h : R (.returned v) w) : bodyPostM F n P fn R .ret { tmps, defers := [] } w := ⟨v, hres, h⟩
theorem zc129 : Tryz.zeroCells129 = Array.replicate 4096 (.bool false) := by kernel_rfl
/-- The set of some numbers. -/
def setOf (ns : List Int) : Nat → Bool := fun j => ns.contains (j : Int)
theorem setOf_nil : setOf [] = fun _ => false := by funext j; simp [setOf]
theorem setOf_snoc (ns : List Int) (n : Nat) : setOf (ns ++ [(n : Int)]) = addB (setOf ns) n := by
  funext j
  unfold setOf addB
  rw [Bool.eq_iff_iff]
  by_cases e : j = n
  · subst e; simp
  · have : ¬ (j : Int) = (n : Int) := by omega
    simp [e, this]
theorem Bits.zero {w : World} {bb : Nat} (h : w.heap[bb]? = some (.cells Tryz.zeroCells129 129 (0, 0))) : Bits w bb (setOf []) := by
  rw [zc129] at h
  exact ⟨_, h, by simp, fun j hj => by rw [setOf_nil]; simp [hj]⟩
theorem Bits.kept {w w1 : World} {bb : Nat} {S : Nat → Bool} (h : Bits w bb S) (e : w1.heap[bb]? = w.heap[bb]?) : Bits w1 bb S := by
  obtain ⟨cs, h1, h2⟩ := h
  exact ⟨cs, e.trans h1, h2⟩
theorem own_blk {A B : World} {g : Nat} {cs : Array Value} {t : TypeId} {row : Option Nat} (h : A.heap[g]? = some (.cells cs t (0, 0))) (hg : A.grownBy B row) (hr : ∀ r, row = some r → ∃ o : Obj, A.heap[r]? = some o ∧ o.isCells = false) : B.heap[g]? = A.heap[g]? :=
  hg.block g (blk_lt h) (fun e => by
    obtain ⟨o, ho, hc⟩ := hr g e.symm
    rw [h] at ho
    injection ho with ho
    subst ho
    cases hc)
/-- What lies behind the rounds of valid's second loop. -/
def VI (l : List S64) (w : World) (bb bs : Nat) (pre : List (Pg l)) (W : World) : Prop :=
  (Bits W bb (setOf (pre.map (·.1.2))) ∧ W.heap[w.heap.size]? = some (.cells #[.bool false] 4 (0, 0)) ∧ W.heap[bs]? = some (.cells #[.pointer (some ⟨bb, 0, none⟩)] 127 (0, 0)) ∧ (pre.map (·.1.2)).Nodup) ∧ Below w.heap.size w W
def VX (l : List S64) (w : World) (c : Code) (pre : List (Pg l)) (W : World) : Prop :=
  (c = .ret ∧ W.heap[w.heap.size]? = some (.cells #[.bool false] 4 (0, 0)) ∧ ¬ (pre.map (·.1.2)).Nodup) ∧ Below w.heap.size w W
theorem VI.own (l : List S64) (w : World) (bb bs B : Nat) (h1 : w.heap.size ≤ B) : OwnFrom B (VI l w bb bs) := by
  rintro pre A C row ⟨⟨hb, h2, h3, h4⟩, h5⟩ hg hr
  have hr' := fun r e => (hr r e).2
  refine ⟨⟨?_, (own_blk h2 hg hr').trans h2, (own_blk h3 hg hr').trans h3, h4⟩, h5.grown hg h5.size fun k e => Nat.le_trans h1 (hr k e).1⟩
  obtain ⟨cs, hb1, hb2⟩ := hb
  exact ⟨cs, (own_blk hb1 hg hr').trans hb1, hb2⟩
theorem VX.own (l : List S64) (w : World) (B : Nat) (h1 : w.heap.size ≤ B) (c : Code) : OwnFrom B (VX l w c) := by
  rintro pre A C row ⟨⟨h0, h2, h4⟩, h5⟩ hg hr
  have hr' := fun r e => (hr r e).2
  exact ⟨⟨h0, (own_blk h2 hg hr').trans h2, h4⟩, h5.grown hg h5.size fun k e => Nat.le_trans h1 (hr k e).1⟩
set_option maxRecDepth 100000 in
set_option maxHeartbeats 4000000 in
theorem valid_walk (l : List S64) (p : Int) (A : Option Addr) (c : Nat) (w : World) (hC : k64.C w A l.length l) (hc : l.length ≤ c) (hp0 : 2 ≤ p) (hp1 : p ≤ 4096) :
    Calls Tryz.prog 47 #[.slice A l.length c, .int .i64 p] w fun e w' => e = .returned (.bool (validB p l)) ∧ Below w.heap.size w w' := by
  have hlm := Kd.C_max hC
  have HD := Lib.hid (decide_eq_true (And.intro hp0 hp1))
  refine (callsIn_wide (n := 3)).1 ?_
  refine callsIn_of_wp_marks Tryz.func47 rfl trivial ?_ rfl
  simp only [Tryz.ntmps47, List.size_toArray, List.length_cons, List.length_nil, Nat.reduceAdd, Nat.reduceSub, Array.replicate_succ, Array.replicate_zero, List.push_toArray, List.append_toArray, List.nil_append, List.cons_append]
  refine (wpIn_wide (n := 3)).2 ?_
  go_wp2_with (go_at_call 46; (with_reducible refine (within_any p 2 4096 _).mono ?_); rintro e w' ⟨rfl, ⟨nd, rfl⟩⟩; rw [HD.out])
  obtain ⟨wb, hwb⟩ : ∃ wb, (w.alloc (.cells #[.bool false] 4)).drewN nd = wb := ⟨_, rfl⟩
  rw [hwb]
  have hBb : Below w.heap.size w wb := by rw [← hwb]; exact pw_below_drewN (below_alloc1 w _) nd
  have hres : wb.heap[w.heap.size]? = some (.cells #[.bool false] 4 (0, 0)) := by rw [← hwb]; exact blk_drewN (blk_new w _) nd
  clear hwb HD
  go_loopw [15] (fun i wr => ∃ k : Nat, k ≤ l.length ∧ i = .int .i64 k ∧ Hid (formP p (l.take k)) ∧ wr.heap[w.heap.size]? = some (.cells #[.bool false] 4 (0, 0)) ∧ Below w.heap.size w wr)
    (fun i _ => l.length - (intOf i).toNat)
  case atStart => exact ⟨0, Nat.zero_le _, rfl, Lib.hid ⟨by simp, by simp⟩, hres, hBb⟩
  case round =>
    obtain ⟨k, hk, rfl, HF, hr, hB⟩ := hrel
    clear hres hBb
    have hlt0 := blk_lt hr
    have hcr : wr.cell? ⟨w.heap.size, 0, none⟩ = some (.bool false) := (blk_cell hr 0).trans rfl
    have hfr := blk_frozen hr 0
    by_cases hlt : k < l.length
    · obtain ⟨ad, A1, c1, rfl, hx0, hx1, hl1, hC1⟩ := at_T64 (Kd.C_below hC hB) (k : Int) (by omega) (by omega)
      rw [Int.toNat_natCast] at hx0 hx1
      have hO := not_form p l k hlt
      have HO := Lib.hid hO
      clear hO
      obtain ⟨v, hv⟩ : ∃ v, v = (rd_T64 l (k : Int)).f0 := ⟨_, rfl⟩
      obtain ⟨g, hg⟩ : ∃ g, g = (rd_T64 l (k : Int)).f1 := ⟨_, rfl⟩
      rw [← hv] at hx0
      rw [← hg] at hx1 hl1 hC1
      have HV := Lib.hid hv
      have HG := Lib.hid hg
      clear hv hg
      have hCg : (Kd.int .i64).C (wr.alloc (.cells #[.int .i64 v, .slice A1 g.length c1] 64)) A1 g.length g := Kd.C_below hC1 (below_alloc1 wr _)
      clear hC1
      by_cases cv : 0 ≤ v ∧ v ≤ 1099511627776
      · have HV1 := Lib.hid (decide_eq_true cv)
        have HV2 := Lib.hid cv
        by_cases ck : k = 0
        · have hdk : decide (0 < k) = false := decide_eq_false (by omega)
          have HW := Lib.hid (show ∀ j, k = j + 1 → (rd_T64 l (j : Int)).f0 < v from fun j hj => by omega)
          clear ck
          by_cases cg : g = []
          · have HN := Lib.hid (HO.out fun h => h.2.2.1 (HG.out ▸ cg))
            have hl0 : ((g.length : Int) == 0) = true := by rw [cg]; rfl
            have hln : (g.length == 0) = true := by rw [cg]; rfl
            have HI := Lib.hid (rfl : incB p g = incB p g)
            clear cg
            go_upto_region 6 with (fail)
            repeat (go_quiet ((first | (go_at_call 46; exact within_q HV1.out _ _) | (go_at_call 48; exact inc_q (by omega) (by omega) HI.out hCg hl1 _))))
            go_wp2
            have hr2 := blk_set (blk_drewN (blk_alloc hr (.cells #[.int .i64 v, .slice A1 g.length c1] 64)) nq) 0 (.bool false)
            exact marks_ret (.bool false) (results_one rfl _ _ _ _ rfl (load4 ((blk_cell hr2 0).trans rfl))) ⟨by rw [HN.out], (pw_below_drewN (hB.alloc hB.size _) nq).setCell (p := ⟨w.heap.size, 0, none⟩) (Nat.le_refl _) _⟩
          · have hpos : 0 < g.length := List.length_pos_iff.2 cg
            have hl0 : ((g.length : Int) == 0) = false := beq_eq_false_iff_ne.2 (by omega)
            by_cases ci : incB p g = true
            · have HI := Lib.hid ci
              have HOK := Lib.hid (show okAt p l k from ⟨by rw [← HV.out]; exact HV2.out, by rw [← HV.out]; exact HW.out, by rw [← HG.out]; exact cg, by rw [← HG.out]; exact of_decide_eq_true ci⟩)
              clear cg ci
              go_upto_region 6 with (fail)
              repeat (go_quiet ((first | (go_at_call 46; exact within_q HV1.out _ _) | (go_at_call 48; exact inc_q (by omega) (by omega) HI.out hCg hl1 _))))
              go_wp2
              go_roundw
              case rel => exact ⟨k + 1, by omega, by go_num, Lib.hid ((form_take p l k hlt).2 ⟨HF.out, HOK.out⟩), blk_drewN (blk_alloc hr _) nq, pw_below_drewN (hB.alloc hB.size _) nq⟩
              case measure => simp [intOf]; omega
            · have HI := Lib.hid (Bool.eq_false_iff.2 ci)
              have HN := Lib.hid (HO.out fun h => ci (decide_eq_true (HG.out ▸ h.2.2.2)))
              clear cg ci
              go_upto_region 6 with (fail)
              repeat (go_quiet ((first | (go_at_call 46; exact within_q HV1.out _ _) | (go_at_call 48; exact inc_q (by omega) (by omega) HI.out hCg hl1 _))))
              go_wp2
              have hr2 := blk_set (blk_drewN (blk_alloc hr (.cells #[.int .i64 v, .slice A1 g.length c1] 64)) nq) 0 (.bool false)
              exact marks_ret (.bool false) (results_one rfl _ _ _ _ rfl (load4 ((blk_cell hr2 0).trans rfl))) ⟨by rw [HN.out], (pw_below_drewN (hB.alloc hB.size _) nq).setCell (p := ⟨w.heap.size, 0, none⟩) (Nat.le_refl _) _⟩
        · have hk0 : 0 < k := by omega
          have hdk : decide (0 < k) = true := decide_eq_true hk0
          obtain ⟨ad2, A2, c2, e2, hy0, hy1, hl2, hC2⟩ := at_T64 (Kd.C_below hC hB) ((k : Int) - 1) (by omega) (by omega)
          obtain rfl : ad = ad2 := by injection e2
          rw [show ((k : Int) - 1).toNat = k - 1 by omega, show (k : Int) - 1 = ((k - 1 : Nat) : Int) by omega] at hy0
          clear e2 hy1 hl2 hC2
          obtain ⟨u, hu⟩ : ∃ u, u = (rd_T64 l ((k - 1 : Nat) : Int)).f0 := ⟨_, rfl⟩
          rw [← hu] at hy0
          replace hy0 := cellB (below_alloc1 wr (.cells #[.int .i64 v, .slice A1 g.length c1] 64)) (Nat.le_refl _) hy0
          have HU := Lib.hid hu
          have hkl : k - 1 < l.length := by omega
          have hw : IntKind.i64.wrap ((k : Int) - 1) = ((k - 1 : Nat) : Int) := by rw [IntKind.wrap_i64]; omega
          clear hu ck
          by_cases c2 : v ≤ u
          · have HN := Lib.hid (HO.out fun h => absurd (h.2.1 (k - 1) (by omega)) (by rw [← HU.out, ← HV.out]; omega))
            have hd2 : decide (v ≤ u) = true := decide_eq_true c2
            have HI := Lib.hid (rfl : incB p g = incB p g)
            go_upto_region 6 with (fail)
            repeat (go_quiet ((first | (go_at_call 46; exact within_q HV1.out _ _) | (go_at_call 48; exact inc_q (by omega) (by omega) HI.out hCg hl1 _))))
            go_wp2
            have hr2 := blk_set (blk_drewN (blk_alloc hr (.cells #[.int .i64 v, .slice A1 g.length c1] 64)) nq) 0 (.bool false)
            exact marks_ret (.bool false) (results_one rfl _ _ _ _ rfl (load4 ((blk_cell hr2 0).trans rfl))) ⟨by rw [HN.out], (pw_below_drewN (hB.alloc hB.size _) nq).setCell (p := ⟨w.heap.size, 0, none⟩) (Nat.le_refl _) _⟩
          · have hd2 : decide (v ≤ u) = false := decide_eq_false c2
            have HW : Hid (∀ j, k = j + 1 → (rd_T64 l (j : Int)).f0 < v) := Lib.hid (by
              intro j hj
              obtain rfl : j = k - 1 := by omega
              rw [← HU.out]
              omega)
            by_cases cg : g = []
            · have HN := Lib.hid (HO.out fun h => h.2.2.1 (HG.out ▸ cg))
              have hl0 : ((g.length : Int) == 0) = true := by rw [cg]; rfl
              have hln : (g.length == 0) = true := by rw [cg]; rfl
              have HI := Lib.hid (rfl : incB p g = incB p g)
              clear cg
              go_upto_region 6 with (fail)
              repeat (go_quiet ((first | (go_at_call 46; exact within_q HV1.out _ _) | (go_at_call 48; exact inc_q (by omega) (by omega) HI.out hCg hl1 _))))
              go_wp2
              have hr2 := blk_set (blk_drewN (blk_alloc hr (.cells #[.int .i64 v, .slice A1 g.length c1] 64)) nq) 0 (.bool false)
              exact marks_ret (.bool false) (results_one rfl _ _ _ _ rfl (load4 ((blk_cell hr2 0).trans rfl))) ⟨by rw [HN.out], (pw_below_drewN (hB.alloc hB.size _) nq).setCell (p := ⟨w.heap.size, 0, none⟩) (Nat.le_refl _) _⟩
            · have hpos : 0 < g.length := List.length_pos_iff.2 cg
              have hl0 : ((g.length : Int) == 0) = false := beq_eq_false_iff_ne.2 (by omega)
              by_cases ci : incB p g = true
              · have HI := Lib.hid ci
                have HOK := Lib.hid (show okAt p l k from ⟨by rw [← HV.out]; exact HV2.out, by rw [← HV.out]; exact HW.out, by rw [← HG.out]; exact cg, by rw [← HG.out]; exact of_decide_eq_true ci⟩)
                clear cg ci
                go_upto_region 6 with (fail)
                repeat (go_quiet ((first | (go_at_call 46; exact within_q HV1.out _ _) | (go_at_call 48; exact inc_q (by omega) (by omega) HI.out hCg hl1 _))))
                go_wp2
                go_roundw
                case rel => exact ⟨k + 1, by omega, by go_num, Lib.hid ((form_take p l k hlt).2 ⟨HF.out, HOK.out⟩), blk_drewN (blk_alloc hr _) nq, pw_below_drewN (hB.alloc hB.size _) nq⟩
                case measure => simp [intOf]; omega
              · have HI := Lib.hid (Bool.eq_false_iff.2 ci)
                have HN := Lib.hid (HO.out fun h => ci (decide_eq_true (HG.out ▸ h.2.2.2)))
                clear cg ci
                go_upto_region 6 with (fail)
                repeat (go_quiet ((first | (go_at_call 46; exact within_q HV1.out _ _) | (go_at_call 48; exact inc_q (by omega) (by omega) HI.out hCg hl1 _))))
                go_wp2
                have hr2 := blk_set (blk_drewN (blk_alloc hr (.cells #[.int .i64 v, .slice A1 g.length c1] 64)) nq) 0 (.bool false)
                exact marks_ret (.bool false) (results_one rfl _ _ _ _ rfl (load4 ((blk_cell hr2 0).trans rfl))) ⟨by rw [HN.out], (pw_below_drewN (hB.alloc hB.size _) nq).setCell (p := ⟨w.heap.size, 0, none⟩) (Nat.le_refl _) _⟩
      · have HV1 := Lib.hid (decide_eq_false cv)
        have HN := Lib.hid (HO.out fun h => cv (by rw [HV.out]; exact h.1))
        have HI := Lib.hid (rfl : incB p g = incB p g)
        clear cv
        go_upto_region 6 with (fail)
        repeat (go_quiet ((first | (go_at_call 46; exact within_q HV1.out _ _) | (go_at_call 48; exact inc_q (by omega) (by omega) HI.out hCg hl1 _))))
        go_wp2
        have hr2 := blk_set (blk_drewN (blk_alloc hr (.cells #[.int .i64 v, .slice A1 g.length c1] 64)) nq) 0 (.bool false)
        exact marks_ret (.bool false) (results_one rfl _ _ _ _ rfl (load4 ((blk_cell hr2 0).trans rfl))) ⟨by rw [HN.out], (pw_below_drewN (hB.alloc hB.size _) nq).setCell (p := ⟨w.heap.size, 0, none⟩) (Nat.le_refl _) _⟩
    · obtain rfl : k = l.length := by omega
      rw [List.take_length] at HF
      have hq := And.intro hp0 hp1
      go_wp2_with (go_at_call 68; (with_reducible refine (each_any A l.length c _).mono ?_); rintro e w' ⟨rfl, rfl⟩)
      obtain ⟨W0, hW0⟩ : ∃ W0, (((wr.alloc (.cells Tryz.zeroCells129 129)).alloc (.cells #[.pointer (some ⟨wr.heap.size, 0, none⟩)] 127)).alloc (.cells #[.slice A l.length c] 26)) = W0 := ⟨_, rfl⟩
      have hB0 : Below w.heap.size w W0 := by rw [← hW0]; have := hB.size; exact ((hB.alloc hB.size _).alloc (by simp; omega) _).alloc (by simp; omega) _
      have hs0 : W0.heap.size = wr.heap.size + 3 := by rw [← hW0]; simp
      have hb0 : W0.heap[wr.heap.size]? = some (.cells Tryz.zeroCells129 129 (0, 0)) := by rw [← hW0]; exact blk_alloc (blk_alloc (blk_new wr _) _) _
      have hp0 : W0.heap[wr.heap.size + 1]? = some (.cells #[.pointer (some ⟨wr.heap.size, 0, none⟩)] 127 (0, 0)) := by
        rw [← hW0]
        have := blk_new (wr.alloc (.cells Tryz.zeroCells129 129)) (.cells #[.pointer (some ⟨wr.heap.size, 0, none⟩)] 127)
        rw [World.size_alloc] at this
        exact blk_alloc this _
      have hl0 : W0.heap[wr.heap.size + 2]? = some (.cells #[.slice A l.length c] 26 (0, 0)) := by
        rw [← hW0]
        have := blk_new ((wr.alloc (.cells Tryz.zeroCells129 129)).alloc (.cells #[.pointer (some ⟨wr.heap.size, 0, none⟩)] 127)) (.cells #[.slice A l.length c] 26)
        rw [World.size_alloc, World.size_alloc] at this
        exact this
      have hr0 : W0.heap[w.heap.size]? = some (.cells #[.bool false] 4 (0, 0)) := by rw [← hW0]; exact blk_alloc (blk_alloc (blk_alloc hr _) _) _
      rw [hW0]
      clear hW0
      obtain ⟨bb, hbb⟩ : ∃ bb, wr.heap.size = bb := ⟨_, rfl⟩
      rw [hbb] at hs0 hb0 hp0 hl0 hlt0 ⊢
      clear hbb hr hcr hfr hB
      have hseq := fun (F : Fence) (n : Nat) (h7 : F.fn 112) (hro : F.round = none) (hn : 1 ≤ n) => each_stops F n h7 hro hn l (bb + 2) bb (by omega) A c hc w W0 hB0 hC (by omega) (by omega) hl0
      clear hl0
      refine (wpIn_wide (n := 3)).1 ?_
      refine wpIn_rangeFunc_ownG (gf := 112) (lb := #[.pointer (some ⟨bb + 2, 0, none⟩)]) rfl (by decide) rfl trivial (enters_of Tryz.func112 (by kernel_rfl) rfl)
        (hseq Fence.wide 2 trivial rfl (by decide)) KpE.trans (fun W lo o o' h1 h2 h3 _ => KpE.putObj W lo o o' (Nat.le_trans hB0.size h1) h2 h3) (Below.refl _ _) (fun _ => rfl)
        (VI l w bb (bb + 1)) (VX l w) (VI.own l w bb (bb + 1) _ (by omega)) (VX.own l w _ (by omega)) ⟨⟨Bits.zero hb0, hr0, hp0, List.nodup_nil⟩, hB0⟩ ?a₁ ?assign ?body ?done ?stop
      case assign =>
        intro lo x W K hK
        gi_wp2
        exact hK
      case body =>
        rintro lo pre x W ⟨⟨hb, hr, hp, hn⟩, hB⟩ hlen
        have hx := form_page HF.out x.1 x.2
        obtain ⟨n, hxn⟩ : ∃ n : Nat, x.1.2 = (n : Int) := ⟨x.1.2.toNat, by omega⟩
        have hn4 : n < 4096 := by omega
        have hcp : W.cell? ⟨bb + 1, 0, none⟩ = some (.pointer (some ⟨bb, 0, none⟩)) := (blk_cell hp 0).trans rfl
        have hpre : ((pre ++ [x]).map (·.1.2)) = pre.map (·.1.2) ++ [(n : Int)] := by simp [hxn]
        have HPRE := Lib.hid hpre
        have hadd := add_any bb n _ hn4 W (hb.cell n hn4) (hb.free n)
        obtain ⟨b, hbv⟩ : ∃ b, setOf (pre.map (·.1.2)) n = b := ⟨_, rfl⟩
        rw [hbv] at hadd
        have HBV := Lib.hid hbv
        have hrs : (W.setCell ⟨bb, n, none⟩ (.bool true)).heap[w.heap.size]? = some (.cells #[.bool false] 4 (0, 0)) := blk_far hr (p := ⟨bb, n, none⟩) (by show w.heap.size ≠ bb; omega) _
        have hrc : (W.setCell ⟨bb, n, none⟩ (.bool true)).cell? ⟨w.heap.size, 0, none⟩ = some (.bool false) := (blk_cell hrs 0).trans rfl
        have hrf := blk_frozen hrs 0
        clear hpre hbv
        rw [hxn]
        cases b with
        | true =>
          gi_wp2_with (refine ⟨trivial, ?_⟩; gi_at_call 72; refine (CallsIn.inRound lo (callsIn_wide.2 hadd)).mono ?_; rintro e w' ⟨rfl, rfl⟩)
          refine ⟨((KeepsOthers.setCell _ _ _).trans (KeepsOthers.setCell _ _ _)).from _, ⟨rfl, blk_set hrs 0 _, ?_⟩, (hB.setCell (p := ⟨bb, n, none⟩) (by show w.heap.size ≤ bb; omega) _).setCell (p := ⟨w.heap.size, 0, none⟩) (Nat.le_refl _) _⟩
          rw [HPRE.out]
          intro h
          have h2 := HBV.out
          unfold setOf at h2
          rw [List.contains_iff_mem] at h2
          exact (List.nodup_append.1 h).2.2 _ h2 _ List.mem_cons_self rfl
        | false =>
          gi_wp2_with (refine ⟨trivial, ?_⟩; gi_at_call 72; refine (CallsIn.inRound lo (callsIn_wide.2 hadd)).mono ?_; rintro e w' ⟨rfl, rfl⟩)
          refine ⟨(KeepsOthers.setCell _ _ _).from _, (KpE.refl W).setCell (by omega) n _, ⟨?_, hrs, blk_far hp (p := ⟨bb, n, none⟩) (by show bb + 1 ≠ bb; omega) _, ?_⟩, hB.setCell (p := ⟨bb, n, none⟩) (by show w.heap.size ≤ bb; omega) _⟩
          · rw [HPRE.out, setOf_snoc]
            exact hb.add n hn4
          · rw [HPRE.out, List.nodup_append]
            refine ⟨hn, by simp, fun a ha b hb' e => ?_⟩
            obtain rfl : b = (n : Int) := by simpa using hb'
            subst e
            have h2 := HBV.out
            unfold setOf at h2
            rw [List.contains_eq_any_beq] at h2
            have := List.any_eq_false.1 h2 _ ha
            simp at this
      case done =>
        rintro D xs W hD hS ⟨⟨hb, hr, hp, hn⟩, hB⟩ hK
        have hv : validB p l = true := decide_eq_true ⟨hq, HF.out, by unfold pagesOf; rw [← hS, List.map_map]; exact hn⟩
        have HVT := Lib.hid hv
        clear hv
        have hrc : W.cell? ⟨w.heap.size, 0, none⟩ = some (.bool false) := (blk_cell hr 0).trans rfl
        have hrf := blk_frozen hr 0
        go_wp2
        have hDn : w.heap.size ≠ D := by have := hB0.size; have := blk_lt hr0; omega
        have hK' : (W.setCell ⟨w.heap.size, 0, none⟩ (.bool true)).heap[D]? = some (.deferred (some [])) := (Below.heap_setCell _ _ _ _ (Ne.symm hDn)).trans hK
        refine ⟨by simp, .inl ⟨_, _, rfl, run_takeDeferred hK', ?_⟩⟩
        have hr2 := (World.putObj_heap_other (o := .deferred none) hDn).trans (blk_set hr 0 (.bool true))
        exact ⟨.bool true, results_one rfl _ _ _ _ rfl (load4 ((blk_cell hr2 0).trans rfl)), by rw [HVT.out], (hB.setCell (p := ⟨w.heap.size, 0, none⟩) (Nat.le_refl _) _).trans ⟨rfl, rfl, rfl, by simp, fun k hk => World.putObj_heap_other (by have := hB0.size; omega)⟩⟩
      case stop =>
        rintro D c pre W hD hS ⟨⟨rfl, hr, hn⟩, hB⟩ hK
        have hv : validB p l = false := decide_eq_false fun h => hn (by
          have h2 : (pre.map (·.1.2)).Sublist (pagesOf l) := by
            have := (hS.map (·.2)).sublist
            rw [List.map_map] at this
            exact this
          exact h.2.2.sublist h2)
        have HVT := Lib.hid hv
        clear hv
        refine (wpIn_wide (n := 3)).2 ?_
        go_wp2
        have hDn : w.heap.size ≠ D := by have := hB0.size; have := blk_lt hr0; omega
        refine ⟨by simp, .inl ⟨_, _, rfl, run_takeDeferred hK, ?_⟩⟩
        have hr2 := (World.putObj_heap_other (o := .deferred none) hDn).trans hr
        exact ⟨.bool false, results_one rfl _ _ _ _ rfl (load4 ((blk_cell hr2 0).trans rfl)), by rw [HVT.out], hB.trans ⟨rfl, rfl, rfl, by simp, fun k hk => World.putObj_heap_other (by have := hB0.size; omega)⟩⟩
theorem valid_any (l : List S64) (p : Int) (A : Option Addr) (c : Nat) (w : World) (hC : k64.C w A l.length l) (hc : l.length ≤ c) :
    Calls Tryz.prog 47 #[.slice A l.length c, .int .i64 p] w fun e w' => e = .returned (.bool (validB p l)) ∧ Below w.heap.size w w' := by
  by_cases h : 2 ≤ p ∧ p ≤ 4096
  · exact valid_walk l p A c w hC hc h.1 h.2
  · exact valid_size l p A c w h
end Go.Proofs.YtpnhelcemodnmaaGreat

/-
  DERIVED: THE SHELF's CONTRACTS AT THIS DUMP, IN PLAIN WORDS (tools/lay-plain.mjs out of 'TryzShelf.lean', which tools/lay-shelf.mjs wrote): THE SAME DECLARATIONS UNDER THE SAME NAMES: 'import', 'namespace', 'open', 'def', 'theorem' AND NOTHING ELSE: no command of the shelf's: FOR A HAND-IN. Each laying: the table of numbers ('.._ren') and one theorem, a field a fact of the dump's own or the kernel's comparison; each contract: ONE APPLICATION.
-/
namespace Go.Proofs
open Go.Shelf
def Tryz.lays122_ren : Go.Shelf.Ren := ⟨fun | 122 => 104 | 215 => 145 | n => n, fun | 3 => 3 | 4 => 4 | n => n, fun | n => n⟩
theorem Tryz.lays122 : Go.Proofs.Lays.n122 Tryz.prog Tryz.lays122_ren := {
  mixed := by kernel_rfl
  f122 := Tryz.func104.trans (congrArg some (by kernel_rfl))
  f215 := Tryz.func145.trans (congrArg some (by kernel_rfl))
  t3 := Tryz.underlying3
  a3 := Tryz.isAgg3
  z3 := Tryz.sizeOf3
  v3 := Tryz.zeroValue3
  t4 := Tryz.underlying4
  a4 := Tryz.isAgg4
  z4 := Tryz.sizeOf4
  v4 := Tryz.zeroValue4 }
open Go.RowKit in
/-- cmp.Compare at int: "Compare returns -1 if x is less than y, 0 if x equals y, +1 if x is greater than y.": IT RETURNS 'Lib.compareInt x y'; the world is as it was. (LAID: no walk: one application.) -/
theorem Tryz.cmp_Compare_int (x y : Int) (w : World) :
    Calls Tryz.prog 104 #[.int .i64 x, .int .i64 y] w fun e w' => e = .returned (.int .i64 (Lib.compareInt x y)) ∧ w' = w := Any.cmp_Compare_int Tryz.lays122 x y w
def Tryz.lays189_ren : Go.Shelf.Ren := ⟨fun | 189 => 73 | 125 => 114 | 257 => 113 | 128 => 158 | 129 => 159 | 294 => 149 | 295 => 150 | 296 => 151 | 297 => 152 | 298 => 153 | 299 => 154 | 216 => 155 | 300 => 156 | 301 => 157 | 328 => 172 | 329 => 173 | 330 => 174 | 331 => 175 | 332 => 176 | 215 => 145 | 343 => 193 | n => n, fun | 28 => 23 | 3 => 3 | 46 => 184 | 0 => 0 | 51 => 215 | 53 => 217 | 4 => 4 | 183 => 209 | 182 => 208 | 131 => 172 | 5 => 5 | 9 => 9 | 218 => 232 | 222 => 236 | 228 => 250 | 229 => 251 | n => n, fun | n => n⟩
theorem Tryz.lays189 : Go.Proofs.Lays.n189 Tryz.prog Tryz.lays189_ren := {
  mixed := by kernel_rfl
  f125 := Tryz.func114.trans (congrArg some (by kernel_rfl))
  f128 := Tryz.func158.trans (congrArg some (by kernel_rfl))
  f129 := Tryz.func159.trans (congrArg some (by kernel_rfl))
  f189 := Tryz.func73.trans (congrArg some (by kernel_rfl))
  f215 := Tryz.func145.trans (congrArg some (by kernel_rfl))
  f216 := Tryz.func155.trans (congrArg some (by kernel_rfl))
  f257 := Tryz.func113.trans (congrArg some (by kernel_rfl))
  f294 := Tryz.func149.trans (congrArg some (by kernel_rfl))
  f295 := Tryz.func150.trans (congrArg some (by kernel_rfl))
  f296 := Tryz.func151.trans (congrArg some (by kernel_rfl))
  f297 := Tryz.func152.trans (congrArg some (by kernel_rfl))
  f298 := Tryz.func153.trans (congrArg some (by kernel_rfl))
  f299 := Tryz.func154.trans (congrArg some (by kernel_rfl))
  f300 := Tryz.func156.trans (congrArg some (by kernel_rfl))
  f301 := Tryz.func157.trans (congrArg some (by kernel_rfl))
  f328 := Tryz.func172.trans (congrArg some (by kernel_rfl))
  f329 := Tryz.func173.trans (congrArg some (by kernel_rfl))
  f330 := Tryz.func174.trans (congrArg some (by kernel_rfl))
  f331 := Tryz.func175.trans (congrArg some (by kernel_rfl))
  f332 := Tryz.func176.trans (congrArg some (by kernel_rfl))
  f343 := Tryz.func193.trans (congrArg some (by kernel_rfl))
  t0 := Tryz.underlying0
  a0 := Tryz.isAgg0
  z0 := Tryz.sizeOf0
  v0 := Tryz.zeroValue0
  t3 := Tryz.underlying3
  a3 := Tryz.isAgg3
  z3 := Tryz.sizeOf3
  v3 := Tryz.zeroValue3
  t4 := Tryz.underlying4
  a4 := Tryz.isAgg4
  z4 := Tryz.sizeOf4
  v4 := Tryz.zeroValue4
  t5 := Tryz.underlying5
  a5 := Tryz.isAgg5
  z5 := Tryz.sizeOf5
  v5 := Tryz.zeroValue5
  t9 := Tryz.underlying9
  a9 := Tryz.isAgg9
  z9 := Tryz.sizeOf9
  v9 := Tryz.zeroValue9
  t28 := Tryz.underlying23
  a28 := Tryz.isAgg23
  z28 := Tryz.sizeOf23
  v28 := Tryz.zeroValue23
  t46 := Tryz.underlying184
  a46 := Tryz.isAgg184
  z46 := Tryz.sizeOf184
  v46 := Tryz.zeroValue184
  t51 := Tryz.underlying215
  a51 := Tryz.isAgg215
  z51 := Tryz.sizeOf215
  v51 := Tryz.zeroValue215
  t53 := Tryz.underlying217
  a53 := Tryz.isAgg217
  z53 := Tryz.sizeOf217
  v53 := Tryz.zeroValue217
  t131 := Tryz.underlying172
  a131 := Tryz.isAgg172
  z131 := Tryz.sizeOf172
  v131 := Tryz.zeroValue172
  t182 := Tryz.underlying208
  a182 := Tryz.isAgg208
  z182 := Tryz.sizeOf208
  v182 := Tryz.zeroValue208
  t183 := Tryz.underlying209
  a183 := Tryz.isAgg209
  z183 := Tryz.sizeOf209
  v183 := Tryz.zeroValue209
  t218 := Tryz.underlying232
  a218 := Tryz.isAgg232
  z218 := Tryz.sizeOf232
  v218 := Tryz.zeroValue232
  t222 := Tryz.underlying236
  a222 := Tryz.isAgg236
  z222 := Tryz.sizeOf236
  v222 := Tryz.zeroValue236
  t228 := Tryz.underlying250
  a228 := Tryz.isAgg250
  z228 := Tryz.sizeOf250
  v228 := Tryz.zeroValue250
  t229 := Tryz.underlying251
  a229 := Tryz.isAgg251
  z229 := Tryz.sizeOf251
  v229 := Tryz.zeroValue251 }
open Go.Sort Go.RowKit in
theorem Tryz.slices_Sort_int (blk off cap : Nat) (zs : List Int) (w : World) (hH : Holds (Value.int .i64) w blk off zs.toArray) (hblk : blk < w.heap.size) (hsz : zs.length < 4611686018427387904) :
    Calls Tryz.prog 73 #[.slice (some ⟨blk, off, none⟩) zs.length cap] w fun e w' =>
      e = .returned (.tuple #[]) ∧ ∃ n os, w' = grow (putRow (Value.int .i64) (Sort.ahead w n) blk off (zs.mergeSort fun x y => decide (x ≤ y)).toArray) os := Any.slices_Sort_int Tryz.lays189 blk off cap zs w hH hblk hsz
def Tryz.laysNm220_ren : Go.Shelf.Ren := ⟨fun | 20 => 141 | n => n, fun | 22 => 23 | 3 => 3 | 4 => 4 | 0 => 0 | n => n, fun | n => n⟩
theorem Tryz.laysNm220 : Go.Proofs.Lays2.n20 Tryz.prog Tryz.laysNm220_ren := {
  mixed := by kernel_rfl
  f20 := Tryz.func141.trans (congrArg some (by kernel_rfl))
  t0 := Tryz.underlying0
  a0 := Tryz.isAgg0
  z0 := Tryz.sizeOf0
  v0 := Tryz.zeroValue0
  t3 := Tryz.underlying3
  a3 := Tryz.isAgg3
  z3 := Tryz.sizeOf3
  v3 := Tryz.zeroValue3
  t4 := Tryz.underlying4
  a4 := Tryz.isAgg4
  z4 := Tryz.sizeOf4
  v4 := Tryz.zeroValue4
  t22 := Tryz.underlying23
  a22 := Tryz.isAgg23
  z22 := Tryz.sizeOf23
  v22 := Tryz.zeroValue23
  i3 := by kernel_rfl }
open Go.RowKit Go.Lib Go.Sort in
/-- slices.Compact at []int: "Compact replaces consecutive runs of equal elements with a single copy. This is like the uniq command found on Unix. Compact modifies the contents of the slice s and returns the modified slice, which may have a smaller length. Compact zeroes the elements between the new length and the original length. The result preserves the nilness of s.": IT RETURNS THE SLICE CUT TO 'Lib.compact zs'; ITS CELLS HOLD 'Lib.compact zs', THEN ZERO VALUES up to the old length; all else is as it was, but for the count of draws. IN THE WORDS OF slices.Sort's CONTRACT ('Holds', 'putRow'): so the everyday 'slices.Sort(xs); xs = slices.Compact(xs)' goes from the one contract to the other. It asks 'zs.length ≤ cap' (every slice's: the reslicing 's[:k]' looks at it). Length 0, nil: '.._empty'. (LAID: no walk: one application.) -/
theorem Tryz.slices_Compact_int (blk off cap : Nat) (zs : List Int) (w : World) (hH : Holds (Value.int .i64) w blk off zs.toArray) (hsz : zs.length ≤ 9223372036854775807) (hcap : zs.length ≤ cap) :
    Calls Tryz.prog 141 #[.slice (some ⟨blk, off, none⟩) zs.length cap] w fun e w' => e = .returned (.slice (some ⟨blk, off, none⟩) (Lib.compact zs).length cap) ∧ ∃ q, w' = putRow (Value.int .i64) (Sort.ahead w q) blk off (Lib.compact zs ++ List.replicate (zs.length - (Lib.compact zs).length) 0).toArray := Any.slices_Compact_int Tryz.laysNm220 blk off cap zs w hH hsz hcap
open Go.RowKit Go.Lib Go.Sort in
/-- The same at a slice of length 0, a nil one too: it comes back as it is. (LAID: no walk: one application.) -/
theorem Tryz.slices_Compact_int_empty (a : Option Addr) (cap : Nat) (w : World) :
    Calls Tryz.prog 141 #[.slice a 0 cap] w fun e w' => e = .returned (.slice a 0 cap) ∧ w' = w := Any.slices_Compact_int_empty Tryz.laysNm220 a cap w
def Tryz.laysSlE041_f96_ren : Go.Shelf.Ren := ⟨fun | 41 => 96 | n => n, fun | 22 => 23 | 23 => 3 | 4 => 4 | n => n, fun | n => n⟩
theorem Tryz.laysSlE041_f96 : Go.Proofs.SlLaysE0.n41 Tryz.prog Tryz.laysSlE041_f96_ren := {
  mixed := by kernel_rfl
  f41 := ⟨Tryz.f96.name, by decide, Tryz.func96.trans (congrArg some (by kernel_rfl))⟩
  t4 := Tryz.underlying4
  a4 := Tryz.isAgg4
  z4 := Tryz.sizeOf4
  v4 := Tryz.zeroValue4
  t22 := Tryz.underlying23
  a22 := Tryz.isAgg23
  z22 := Tryz.sizeOf23
  v22 := Tryz.zeroValue23 }
open Go.RowKit Go.Lib in
/-- The same at nil: nil comes back; the world is as it was; nothing is asked of the element's type. (LAID AT THE INSTANCE 'slices.Clone[[]int,int]': no walk: one application.) -/
theorem Tryz.slices_Clone96_nil (n c : Nat) (w : World) :
    Calls Tryz.prog 96 #[.slice none n c] w fun e w' => e = .returned (.slice none 0 0) ∧ w' = w := AnyE.slices_Clone_nil Tryz.laysSlE041_f96 n c w
def Tryz.laysSlE041_f98_ren : Go.Shelf.Ren := ⟨fun | 41 => 98 | n => n, fun | 22 => 26 | 23 => 64 | 4 => 4 | n => n, fun | n => n⟩
theorem Tryz.laysSlE041_f98 : Go.Proofs.SlLaysE0.n41 Tryz.prog Tryz.laysSlE041_f98_ren := {
  mixed := by kernel_rfl
  f41 := ⟨Tryz.f98.name, by decide, Tryz.func98.trans (congrArg some (by kernel_rfl))⟩
  t4 := Tryz.underlying4
  a4 := Tryz.isAgg4
  z4 := Tryz.sizeOf4
  v4 := Tryz.zeroValue4
  t22 := Tryz.underlying26
  a22 := Tryz.isAgg26
  z22 := Tryz.sizeOf26
  v22 := Tryz.zeroValue26 }
open Go.RowKit Go.Lib in
/-- The same at nil: nil comes back; the world is as it was; nothing is asked of the element's type. (LAID AT THE INSTANCE 'slices.Clone[[]int,int]': no walk: one application.) -/
theorem Tryz.slices_Clone98_nil (n c : Nat) (w : World) :
    Calls Tryz.prog 98 #[.slice none n c] w fun e w' => e = .returned (.slice none 0 0) ∧ w' = w := AnyE.slices_Clone_nil Tryz.laysSlE041_f98 n c w
def Tryz.laysSlE041_f49_ren : Go.Shelf.Ren := ⟨fun | 41 => 49 | n => n, fun | 22 => 22 | 23 => 89 | 4 => 4 | n => n, fun | n => n⟩
theorem Tryz.laysSlE041_f49 : Go.Proofs.SlLaysE0.n41 Tryz.prog Tryz.laysSlE041_f49_ren := {
  mixed := by kernel_rfl
  f41 := ⟨Tryz.f49.name, by decide, Tryz.func49.trans (congrArg some (by kernel_rfl))⟩
  t4 := Tryz.underlying4
  a4 := Tryz.isAgg4
  z4 := Tryz.sizeOf4
  v4 := Tryz.zeroValue4
  t22 := Tryz.underlying22
  a22 := Tryz.isAgg22
  z22 := Tryz.sizeOf22
  v22 := Tryz.zeroValue22 }
open Go.RowKit Go.Lib in
/-- The same at nil: nil comes back; the world is as it was; nothing is asked of the element's type. (LAID AT THE INSTANCE 'slices.Clone[[]int,int]': no walk: one application.) -/
theorem Tryz.slices_Clone49_nil (n c : Nat) (w : World) :
    Calls Tryz.prog 49 #[.slice none n c] w fun e w' => e = .returned (.slice none 0 0) ∧ w' = w := AnyE.slices_Clone_nil Tryz.laysSlE041_f49 n c w
end Go.Proofs

/- Copies and sorts of the library, in the words of kinds. -/
namespace Go.Proofs.YtpnhelcemodnmaaGreat
open Go.RowKit Go.Shelf Go.Proofs.YtpnhelcemodnmaaGreatW.PrintWords Go.Proofs.YtpnhelcemodnmaaGreatW.PrintLast Go.Proofs.YtpnhelcemodnmaaGreatW.PrintMore PA
set_option linter.unusedVariables false
set_option linter.unusedSimpArgs false
attribute [local go_sem] Oper.semAt_some

theorem R_z {α : Type} (d : Kd α) (e : Nat) (w : World) : d.R e (w.alloc (.cells #[] e)) w.heap.size (fun _ => True) (.slice (some ⟨w.heap.size, 0, none⟩) 0 0) [] :=
  ⟨fun _ _ => trivial, [], World.ownsRow_lit (e := e) (size := d.sz) w #[] 0 (Nat.le_refl _) (Nat.zero_le _) (by simp), Reps.none _ _⟩
theorem none_nil {α : Type} {d : Kd α} {w : World} {l : List α} (hC : d.C w none l.length l) : l = [] := by
  rcases Nat.eq_zero_or_pos l.length with h | h
  · exact List.eq_nil_of_length_eq_zero h
  · obtain ⟨_, e, _⟩ := hC.2.2 h
    cases e
set_option maxRecDepth 100000 in
set_option maxHeartbeats 1000000 in
theorem cloneInt (l : List Int) (A : Option Addr) (c : Nat) (w : World) (hC : (Kd.int .i64).C w A l.length l) (hn : l.length * 8 ≤ 140737488355328) :
    Calls Tryz.prog 96 #[.slice A l.length c] w fun e w' => ∃ v, e = .returned v ∧ (Kd.int .i64).R 3 w' w.heap.size (fun _ => True) v l ∧ Below w.heap.size w w' := by
  cases A with
  | none =>
    obtain rfl := none_nil hC
    refine (Tryz.slices_Clone96_nil _ _ w).mono ?_
    rintro e w' ⟨rfl, rfl⟩
    exact ⟨_, rfl, Kd.R_nil _ _ _ _ _, Below.refl _ _⟩
  | some ad =>
    have hF := Kd.C_alloc hC (.cells #[] 3)
    have hz := R_z (Kd.int .i64) 3 w
    have hsz : w.heap.size ≤ (w.alloc (.cells #[] 3)).heap.size := by simp
    have hn2 : (([] : List Int).length + l.length) * 8 ≤ 140737488355328 := by simpa using hn
    have q : ∀ (w : World) (n c : Nat), (binOp .eql 23 (.slice (some ad) n c) (.slice none 0 0)).run Tryz.prog w = .ok (.bool false) w := fun w n c => Lib.run_eql_slice_nil w 23 3 (some ad) n c 0 0 Tryz.underlying23
    go_enter Tryz.func96, Tryz.ntmps96
    go_wp2_with (at_builtin; refine Kd.R_append_rows (Kd.int .i64) (w0 := w) w.heap.size rfl _ _ 23 3 (.int .i64 0) 8 rfl Tryz.underlying23 info3 rfl (by decide) (by decide) _ _ l (some ad) l.length c (fun _ => True) (fun _ => False) rfl rfl hz hF (fun _ _ h => h) (fun _ h => h.elim) (fun _ _ => trivial) (below_alloc1 w _) hsz hn2 ?_)
    intro v1 w1 hN hb hg hat
    go_wp2
    go_ret
    exact ⟨_, rfl, hN, hb⟩
/-- The numbers, sorted. -/
def sortI (l : List Int) : List Int := l.mergeSort fun x y => decide (x ≤ y)
theorem sortI_length (l : List Int) : (sortI l).length = l.length := List.length_mergeSort l
/-- A row of numbers of the call's own is sorted where it lies. -/
theorem sort_R {w : World} {base : Nat} {ok : Nat → Prop} {v : Value} {l : List Int} (h : (Kd.int .i64).R 3 w base ok v l) (hl : l.length < 4611686018427387904) :
    Calls Tryz.prog 73 #[v] w fun e w' => e = .returned (.tuple #[]) ∧ (Kd.int .i64).R 3 w' base ok v (sortI l) ∧ Kept w w' (fun k => some k = v.ownBlock) ∧ Below base w w' := by
  have ho := Kd.own_of_R h
  have hok := h.1
  by_cases hv : v = .slice none 0 0
  · subst hv
    have hl0 : l = [] := by
      rcases ho.2 with ⟨_, e⟩ | ⟨g, cap, cur, e, _⟩
      · cases l with
        | nil => rfl
        | cons a t => simp [encs] at e
      · cases e
    subst hl0
    refine (Any.slices_Sort_int_none Tryz.lays189 none 0 w).mono ?_
    rintro e w' ⟨rfl, rfl⟩
    exact ⟨rfl, by rw [show sortI [] = [] by simp [sortI]]; exact Kd.R_nil _ _ _ _ _, Kept.refl _ _, Below.refl _ _⟩
  · obtain ⟨g, cap, rfl, hbg, hlt, hn, hm, hzl, hH⟩ := Lib.holds_of_ownsRow ho hv
    refine (Tryz.slices_Sort_int g 0 cap l w hH hlt hl).mono ?_
    rintro e w' ⟨rfl, n, os, rfl⟩
    have hup := Lib.ownsRow_putRow (q := n) (k := l.length) (ys := sortI l) ho (sortI_length l) (Nat.le_refl _)
    have hbp := Lib.below_putRow (q := n) (d := (sortI l).toArray) (Below.refl base w) hbg (enc := Value.int .i64)
    have hgrow : ∀ (X : World) (k : Nat), k < X.heap.size → (Sort.grow X os).heap[k]? = X.heap[k]? := fun X k hk => by simp [Sort.grow, Array.getElem?_append, hk]
    have hsz : (Sort.putRow (Value.int .i64) (Sort.ahead w n) g 0 (sortI l).toArray).heap.size = w.heap.size := by simp [Sort.putRow, Sort.mapBlock, Sort.ahead]
    have hb2 : Below w.heap.size (Sort.putRow (Value.int .i64) (Sort.ahead w n) g 0 (sortI l).toArray) (Sort.grow (Sort.putRow (Value.int .i64) (Sort.ahead w n) g 0 (sortI l).toArray) os) :=
      ⟨rfl, rfl, rfl, by simp [Sort.grow], fun k hk => hgrow _ k (by rw [hsz]; exact hk)⟩
    refine ⟨rfl, ?_, ⟨by show w.heap.size ≤ ((Sort.putRow (Value.int .i64) (Sort.ahead w n) g 0 (sortI l).toArray).heap ++ os).size; rw [Array.size_append, hsz]; omega, fun k hk hne => ?_⟩, hbp.trans (hb2.mono (Nat.le_trans hbg (Nat.le_of_lt hlt)))⟩
    · refine Kd.R_below (Kd.R_of_own ?_ hok) (by rw [hsz]; exact hb2)
      have hup2 := hup
      rw [List.take_of_length_le (by rw [sortI_length]; exact Nat.le_refl _)] at hup2
      rw [sortI_length]
      exact hup2
    · show (Sort.grow (Sort.putRow (Value.int .i64) (Sort.ahead w n) g 0 (sortI l).toArray) os).heap[k]? = w.heap[k]?
      rw [hgrow _ k (by rw [hsz]; exact hk)]
      have : g ≠ k := fun e => hne (by subst e; rfl)
      simp [Sort.putRow, Sort.mapBlock, Sort.ahead, Array.getElem?_modify, this]
end Go.Proofs.YtpnhelcemodnmaaGreat

