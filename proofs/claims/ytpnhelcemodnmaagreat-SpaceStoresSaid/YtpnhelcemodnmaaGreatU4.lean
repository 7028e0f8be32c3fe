/- Texts put together for one claim: part 4. -/
import Derived.Defers
import Derived.Recover
import Derived.WalkLawsBesides
import Derived.Shelf.SlicesE.DeleteFunc
import Derived.Shelf.SlSortFunc.HeapSort
import Derived.StillTailTactics
import Derived.Test.YtpnhelcemodnmaaGreatU3
namespace Go.Proofs.YtpnhelcemodnmaaGreat.PA
open Go.RowKit Go.Proofs.YtpnhelcemodnmaaGreatW.PrintWords Go.Proofs.YtpnhelcemodnmaaGreatW.PrintLast Go.Proofs.YtpnhelcemodnmaaGreatW.PrintMore
attribute [local go_sem] max2_int min2_int max_two min_two max_three min_three max_four min_four
set_option linter.unusedVariables false
set_option linter.unusedSimpArgs false
def understoryref04_SameInts.l0 : Nat → List Int → List Int → Int → Option (Bool)
  | 0, _, _, _ => none
  | k + 1, x0, x1, x5 => if x5 < (x0.length : Int) then (if 0 ≤ x5 then (if x5 < (x1.length : Int) then (if (rd x0 x5) = (rd x1 x5) then (understoryref04_SameInts.l0 k x0 x1 (wrap64 (x5 + 1))) else (some false)) else (none)) else (none)) else (some true)
def understoryref04_SameInts.f (k : Nat) (l0 : List Int) (l1 : List Int) : Option (Bool) := if (l0.length : Int) = (l1.length : Int) then (understoryref04_SameInts.l0 k l0 l1 0) else (some false)
theorem understoryref04_SameInts.mono_l : ∀ k, (∀ y0 y1 y2, LeO (understoryref04_SameInts.l0 k y0 y1 y2) (understoryref04_SameInts.l0 (k + 1) y0 y1 y2))
  | 0 => fun _ _ _ r h => by simp [understoryref04_SameInts.l0] at h
  | k + 1 => by
    have ih0 := understoryref04_SameInts.mono_l k
    · intro y0 y1 y2
      unfold understoryref04_SameInts.l0
      repeat' first
      | (with_reducible exact ih0 _ _ _)
      | (with_reducible exact LeO.refl _)
      | (with_reducible exact LeO.none _)
      | (with_reducible refine LeO.ite ?_ ?_)
      | (with_reducible refine LeO.bind ?_ (fun _ => ?_))
      | exact ih0 _ _ _
      | exact LeO.none _
      | refine LeO.ite ?_ ?_
      | refine LeO.bind ?_ (fun _ => ?_)
theorem understoryref04_SameInts.mono : ∀ a0 a1 k, LeO (understoryref04_SameInts.f k a0 a1) (understoryref04_SameInts.f (k + 1) a0 a1) := by
  intro a0 a1 k
  have ih0 := understoryref04_SameInts.mono_l k
  unfold understoryref04_SameInts.f
  repeat' first
      | (with_reducible exact ih0 _ _ _)
      | (with_reducible exact LeO.refl _)
      | (with_reducible exact LeO.none _)
      | (with_reducible refine LeO.ite ?_ ?_)
      | (with_reducible refine LeO.bind ?_ (fun _ => ?_))
      | exact ih0 _ _ _
      | exact LeO.none _
      | refine LeO.ite ?_ ?_
      | refine LeO.bind ?_ (fun _ => ?_)
set_option maxHeartbeats 8000000 in
set_option maxRecDepth 100000 in
theorem understoryref04_SameInts.calls (k : Nat) (A0 : Option Addr) (c0 : Nat) (l0 : List Int) (A1 : Option Addr) (c1 : Nat) (l1 : List Int) (r : Bool) (w : World) (hr0 : Kd.C (Kd.int .i64) w A0 l0.length l0) (hc0 : l0.length ≤ c0) (hr1 : Kd.C (Kd.int .i64) w A1 l1.length l1) (hc1 : l1.length ≤ c1) (h : understoryref04_SameInts.f k l0 l1 = some r) :
    Calls Tryz.prog 31 #[.slice A0 l0.length c0, .slice A1 l1.length c1] w fun e w' => e = .returned (.bool r) ∧ Drawn0 w w' := by
  have HR0 := Aside0.mk hr0
  have HC0 := Aside0.mk hc0
  clear hr0 hc0
  have HR1 := Aside0.mk hr1
  have HC1 := Aside0.mk hc1
  clear hr1 hc1
  have H : (if (l0.length : Int) = (l1.length : Int) then (understoryref04_SameInts.l0 k l0 l1 0) else (some false)) = some r := h
  clear h
  by_cases c3 : (l0.length : Int) = (l1.length : Int)
  · rw [if_pos c3] at H
    have c3b0 : ((l0.length : Int) == (l1.length : Int)) = true := beq_iff_eq.mpr c3
    have c3b1 : ((l0.length : Int) != (l1.length : Int)) = false := bne_eq_false_iff_eq.mpr c3
    have c3b2 : (l0.length == l1.length) = true := by first | simpa using c3 | (simp at c3 ⊢; omega)
    clear c3
    have H' := Aside0.mk H
    clear H
    go_enter Tryz.func31, Tryz.ntmps31
    go_wp2
    repeat (go_quiet (fail); try go_wp2)
    go_loopg [5] k (fun kq v5 w' => ∃ (x5_1 : Int), v5 = .int .i64 x5_1 ∧ Aside0 (understoryref04_SameInts.l0 kq l0 l1 x5_1 = some r) ∧ Aside0 (kq ≤ k) ∧ Drawn0 w w')
    case atStart => exact ⟨(0), (by first | rfl | (simp; done) | (simp [*]; done)), H', ⟨Nat.le_refl _⟩, by repeat (first | exact Drawn0.refl _ | apply Drawn0.step)⟩
    case round =>
      clear H'
      try clear c1
      try clear p2
      try clear c3
      try clear c3b0
      try clear c3b1
      try clear c3b2
      obtain ⟨x5_1, rfl, HA, HK1, ⟨m1, rfl⟩⟩ := hrel
      cases gk with
      | zero => exact absurd HA.out (by simp [understoryref04_SameInts.l0])
      | succ k1 =>
        have H := HA.out
        clear HA
        simp only [understoryref04_SameInts.l0] at H
        by_cases c4 : x5_1 < (l0.length : Int)
        · rw [if_pos c4] at H
          have c4b0 : decide (x5_1 < (l0.length : Int)) = true := decide_eq_true c4
          clear c4
          by_cases c5 : 0 ≤ x5_1
          · rw [if_pos c5] at H
            have c5b0 : decide (0 ≤ x5_1) = true := decide_eq_true c5
            clear c5
            by_cases c6 : x5_1 < (l1.length : Int)
            · rw [if_pos c6] at H
              have c6b0 : decide (x5_1 < (l1.length : Int)) = true := decide_eq_true c6
              clear c6
              by_cases c7 : (rd l0 x5_1) = (rd l1 x5_1)
              · rw [if_pos c7] at H
                have c7b0 : ((rd l0 x5_1) == (rd l1 x5_1)) = true := beq_iff_eq.mpr c7
                have c7b1 : ((rd l0 x5_1) != (rd l1 x5_1)) = false := bne_eq_false_iff_eq.mpr c7
                clear c7
                have H' := Aside0.mk H
                clear H
                have p262 : 0 ≤ (x5_1 : Int) := of_decide_eq_true (by first | (with_reducible assumption) | assumption)
                have q262 : x5_1 < (l0.length : Int) := of_decide_eq_true (by first | (with_reducible assumption) | assumption)
                obtain ⟨ad262, e262, hx262_0⟩ := Kd.at_int HR0.out x5_1 p262 q262
                cases e262
                replace p262 := eq_true p262
                replace q262 := eq_true q262
                have p263 : 0 ≤ (x5_1 : Int) := of_decide_eq_true (by first | (with_reducible assumption) | assumption)
                have q263 : x5_1 < (l1.length : Int) := of_decide_eq_true (by first | (with_reducible assumption) | assumption)
                obtain ⟨ad263, e263, hx263_0⟩ := Kd.at_int HR1.out x5_1 p263 q263
                cases e263
                replace p263 := eq_true p263
                replace q263 := eq_true q263
                go_wp2
                repeat (go_quiet (fail); try go_wp2)
                go_roundg k1
                case measure => have := HK1.out; omega
                case rel => exact ⟨(wrap64 (x5_1 + 1)), (by first | rfl | (simp; done) | (simp [*]; done)), H', ⟨by have := HK1.out; omega⟩, by repeat (first | exact Drawn0.refl _ | apply Drawn0.step)⟩
              · rw [if_neg c7] at H
                have c7b0 : ((rd l0 x5_1) == (rd l1 x5_1)) = false := beq_eq_false_iff_ne.mpr c7
                have c7b1 : ((rd l0 x5_1) != (rd l1 x5_1)) = true := bne_iff_ne.mpr c7
                obtain rfl := Option.some.inj H
                have p262 : 0 ≤ (x5_1 : Int) := of_decide_eq_true (by first | (with_reducible assumption) | assumption)
                have q262 : x5_1 < (l0.length : Int) := of_decide_eq_true (by first | (with_reducible assumption) | assumption)
                obtain ⟨ad262, e262, hx262_0⟩ := Kd.at_int HR0.out x5_1 p262 q262
                cases e262
                replace p262 := eq_true p262
                replace q262 := eq_true q262
                have p263 : 0 ≤ (x5_1 : Int) := of_decide_eq_true (by first | (with_reducible assumption) | assumption)
                have q263 : x5_1 < (l1.length : Int) := of_decide_eq_true (by first | (with_reducible assumption) | assumption)
                obtain ⟨ad263, e263, hx263_0⟩ := Kd.at_int HR1.out x5_1 p263 q263
                cases e263
                replace p263 := eq_true p263
                replace q263 := eq_true q263
                go_wp2
                repeat (go_quiet (fail); try go_wp2)
                go_ret
                exact ⟨by first | rfl | (simp; done) | (simp [*]; done), by repeat (first | exact Drawn0.refl _ | apply Drawn0.step)⟩
            · rw [if_neg c6] at H
              exact absurd H (by simp)
          · rw [if_neg c5] at H
            exact absurd H (by simp)
        · rw [if_neg c4] at H
          have c4b0 : decide (x5_1 < (l0.length : Int)) = false := decide_eq_false c4
          clear c4
          obtain rfl := Option.some.inj H
          go_wp2
          repeat (go_quiet (fail); try go_wp2)
          go_ret
          exact ⟨by first | rfl | (simp; done) | (simp [*]; done), by repeat (first | exact Drawn0.refl _ | apply Drawn0.step)⟩
  · rw [if_neg c3] at H
    have c3b0 : ((l0.length : Int) == (l1.length : Int)) = false := beq_eq_false_iff_ne.mpr c3
    have c3b1 : ((l0.length : Int) != (l1.length : Int)) = true := bne_iff_ne.mpr c3
    have c3b2 : (l0.length == l1.length) = false := by first | simpa using c3 | (simp at c3 ⊢; omega)
    obtain rfl := Option.some.inj H
    go_enter Tryz.func31, Tryz.ntmps31
    go_wp2
    repeat (go_quiet (fail); try go_wp2)
    go_ret
    exact ⟨by first | rfl | (simp; done) | (simp [*]; done), by repeat (first | exact Drawn0.refl _ | apply Drawn0.step)⟩
def understoryref04_SameFreed.l0 : Nat → List (S64) → List (S64) → Int → Option (Bool)
  | 0, _, _, _ => none
  | k + 1, x0, x1, x5 => if x5 < (x0.length : Int) then (if 0 ≤ x5 then (if x5 < (x1.length : Int) then (if ((rd_T64 x0 x5).f0) = ((rd_T64 x1 x5).f0) then ((understoryref04_SameInts.f k ((rd_T64 x0 x5).f1) ((rd_T64 x1 x5).f1)).bind fun t268 => (if t268 = true then (understoryref04_SameFreed.l0 k x0 x1 (wrap64 (x5 + 1))) else (some false))) else (some false)) else (none)) else (none)) else (some true)
def understoryref04_SameFreed.f (k : Nat) (l0 : List (S64)) (l1 : List (S64)) : Option (Bool) := if (l0.length : Int) = (l1.length : Int) then (understoryref04_SameFreed.l0 k l0 l1 0) else (some false)
theorem understoryref04_SameFreed.mono_l : ∀ k, (∀ y0 y1 y2, LeO (understoryref04_SameFreed.l0 k y0 y1 y2) (understoryref04_SameFreed.l0 (k + 1) y0 y1 y2))
  | 0 => fun _ _ _ r h => by simp [understoryref04_SameFreed.l0] at h
  | k + 1 => by
    have ih0 := understoryref04_SameFreed.mono_l k
    · intro y0 y1 y2
      unfold understoryref04_SameFreed.l0
      repeat' first
      | (with_reducible exact ih0 _ _ _)
      | (with_reducible exact understoryref04_SameInts.mono _ _ _)
      | (with_reducible exact LeO.refl _)
      | (with_reducible exact LeO.none _)
      | (with_reducible refine LeO.ite ?_ ?_)
      | (with_reducible refine LeO.bind ?_ (fun _ => ?_))
      | exact ih0 _ _ _
      | exact understoryref04_SameInts.mono _ _ _
      | exact LeO.none _
      | refine LeO.ite ?_ ?_
      | refine LeO.bind ?_ (fun _ => ?_)
theorem understoryref04_SameFreed.mono : ∀ a0 a1 k, LeO (understoryref04_SameFreed.f k a0 a1) (understoryref04_SameFreed.f (k + 1) a0 a1) := by
  intro a0 a1 k
  have ih0 := understoryref04_SameFreed.mono_l k
  unfold understoryref04_SameFreed.f
  repeat' first
      | (with_reducible exact ih0 _ _ _)
      | (with_reducible exact understoryref04_SameInts.mono _ _ _)
      | (with_reducible exact LeO.refl _)
      | (with_reducible exact LeO.none _)
      | (with_reducible refine LeO.ite ?_ ?_)
      | (with_reducible refine LeO.bind ?_ (fun _ => ?_))
      | exact ih0 _ _ _
      | exact understoryref04_SameInts.mono _ _ _
      | exact LeO.none _
      | refine LeO.ite ?_ ?_
      | refine LeO.bind ?_ (fun _ => ?_)
set_option maxHeartbeats 8000000 in
set_option maxRecDepth 100000 in
theorem understoryref04_SameFreed.calls (k : Nat) (A0 : Option Addr) (c0 : Nat) (l0 : List (S64)) (A1 : Option Addr) (c1 : Nat) (l1 : List (S64)) (r : Bool) (w : World) (hr0 : Kd.C k64 w A0 l0.length l0) (hc0 : l0.length ≤ c0) (hr1 : Kd.C k64 w A1 l1.length l1) (hc1 : l1.length ≤ c1) (h : understoryref04_SameFreed.f k l0 l1 = some r) :
    Calls Tryz.prog 18 #[.slice A0 l0.length c0, .slice A1 l1.length c1] w fun e w' => e = .returned (.bool r) ∧ Drawn0 w w' := by
  have HR0 := Aside0.mk hr0
  have HC0 := Aside0.mk hc0
  clear hr0 hc0
  have HR1 := Aside0.mk hr1
  have HC1 := Aside0.mk hc1
  clear hr1 hc1
  have H : (if (l0.length : Int) = (l1.length : Int) then (understoryref04_SameFreed.l0 k l0 l1 0) else (some false)) = some r := h
  clear h
  by_cases c3 : (l0.length : Int) = (l1.length : Int)
  · rw [if_pos c3] at H
    have c3b0 : ((l0.length : Int) == (l1.length : Int)) = true := beq_iff_eq.mpr c3
    have c3b1 : ((l0.length : Int) != (l1.length : Int)) = false := bne_eq_false_iff_eq.mpr c3
    have c3b2 : (l0.length == l1.length) = true := by first | simpa using c3 | (simp at c3 ⊢; omega)
    clear c3
    have H' := Aside0.mk H
    clear H
    go_enter Tryz.func18, Tryz.ntmps18
    go_wp2
    repeat (go_quiet (fail); try go_wp2)
    go_loopg [5] k (fun kq v5 w' => ∃ (x5_1 : Int), v5 = .int .i64 x5_1 ∧ Aside0 (understoryref04_SameFreed.l0 kq l0 l1 x5_1 = some r) ∧ Aside0 (kq ≤ k) ∧ Drawn0 w w')
    case atStart => exact ⟨(0), (by first | rfl | (simp; done) | (simp [*]; done)), H', ⟨Nat.le_refl _⟩, by repeat (first | exact Drawn0.refl _ | apply Drawn0.step)⟩
    case round =>
      clear H'
      try clear c1
      try clear p2
      try clear c3
      try clear c3b0
      try clear c3b1
      try clear c3b2
      obtain ⟨x5_1, rfl, HA, HK1, ⟨m1, rfl⟩⟩ := hrel
      cases gk with
      | zero => exact absurd HA.out (by simp [understoryref04_SameFreed.l0])
      | succ k1 =>
        have H := HA.out
        clear HA
        simp only [understoryref04_SameFreed.l0] at H
        by_cases c4 : x5_1 < (l0.length : Int)
        · rw [if_pos c4] at H
          have c4b0 : decide (x5_1 < (l0.length : Int)) = true := decide_eq_true c4
          clear c4
          by_cases c5 : 0 ≤ x5_1
          · rw [if_pos c5] at H
            have c5b0 : decide (0 ≤ x5_1) = true := decide_eq_true c5
            clear c5
            by_cases c6 : x5_1 < (l1.length : Int)
            · rw [if_pos c6] at H
              have c6b0 : decide (x5_1 < (l1.length : Int)) = true := decide_eq_true c6
              clear c6
              by_cases c7 : ((rd_T64 l0 x5_1).f0) = ((rd_T64 l1 x5_1).f0)
              · rw [if_pos c7] at H
                have c7b0 : (((rd_T64 l0 x5_1).f0) == ((rd_T64 l1 x5_1).f0)) = true := beq_iff_eq.mpr c7
                have c7b1 : (((rd_T64 l0 x5_1).f0) != ((rd_T64 l1 x5_1).f0)) = false := bne_eq_false_iff_eq.mpr c7
                clear c7
                replace H := Option.bind_eq_some_iff.mp H
                obtain ⟨t268, A80, H⟩ := H
                replace H : (if t268 = true then (understoryref04_SameFreed.l0 k1 l0 l1 (wrap64 (x5_1 + 1))) else (some false)) = some r := H
                have A8 := Aside0.mk A80
                clear A80
                by_cases c9 : t268 = true
                · subst c9
                  have H1 : (understoryref04_SameFreed.l0 k1 l0 l1 (wrap64 (x5_1 + 1))) = some r := by rw [if_pos rfl] at H; exact H
                  clear H
                  have H := H1
                  clear H1
                  have H' := Aside0.mk H
                  clear H
                  have p264 : 0 ≤ (x5_1 : Int) := of_decide_eq_true (by first | (with_reducible assumption) | assumption)
                  have q264 : x5_1 < (l0.length : Int) := of_decide_eq_true (by first | (with_reducible assumption) | assumption)
                  obtain ⟨ad264, A264_1, c264_1, e264, hx264_0, hx264_1, hl264_1, hi264_1⟩ := at_T64 HR0.out x5_1 p264 q264
                  cases e264
                  have HR264_1 := Aside0.mk hi264_1
                  have HC264_1 := Aside0.mk hl264_1
                  clear hi264_1 hl264_1
                  replace p264 := eq_true p264
                  replace q264 := eq_true q264
                  have p265 : 0 ≤ (x5_1 : Int) := of_decide_eq_true (by first | (with_reducible assumption) | assumption)
                  have q265 : x5_1 < (l1.length : Int) := of_decide_eq_true (by first | (with_reducible assumption) | assumption)
                  obtain ⟨ad265, A265_1, c265_1, e265, hx265_0, hx265_1, hl265_1, hi265_1⟩ := at_T64 HR1.out x5_1 p265 q265
                  cases e265
                  have HR265_1 := Aside0.mk hi265_1
                  have HC265_1 := Aside0.mk hl265_1
                  clear hi265_1 hl265_1
                  replace p265 := eq_true p265
                  replace q265 := eq_true q265
                  have p266 : 0 ≤ (x5_1 : Int) := of_decide_eq_true (by first | (with_reducible assumption) | assumption)
                  have q266 : x5_1 < (l0.length : Int) := of_decide_eq_true (by first | (with_reducible assumption) | assumption)
                  obtain ⟨ad266, A266_1, c266_1, e266, hx266_0, hx266_1, hl266_1, hi266_1⟩ := at_T64 HR0.out x5_1 p266 q266
                  obtain rfl : ad264 = ad266 := (by injection e266)
                  have HR266_1 := Aside0.mk hi266_1
                  have HC266_1 := Aside0.mk hl266_1
                  clear hi266_1 hl266_1
                  replace p266 := eq_true p266
                  replace q266 := eq_true q266
                  have ea_ := Option.some.inj (hx264_1.symm.trans hx266_1)
                  injection ea_ with ea_ en_ ec_
                  subst ea_
                  subst ec_
                  clear en_
                  have p267 : 0 ≤ (x5_1 : Int) := of_decide_eq_true (by first | (with_reducible assumption) | assumption)
                  have q267 : x5_1 < (l1.length : Int) := of_decide_eq_true (by first | (with_reducible assumption) | assumption)
                  obtain ⟨ad267, A267_1, c267_1, e267, hx267_0, hx267_1, hl267_1, hi267_1⟩ := at_T64 HR1.out x5_1 p267 q267
                  obtain rfl : ad265 = ad267 := (by injection e267)
                  have HR267_1 := Aside0.mk hi267_1
                  have HC267_1 := Aside0.mk hl267_1
                  clear hi267_1 hl267_1
                  replace p267 := eq_true p267
                  replace q267 := eq_true q267
                  have ea_ := Option.some.inj (hx265_1.symm.trans hx267_1)
                  injection ea_ with ea_ en_ ec_
                  subst ea_
                  subst ec_
                  clear en_
                  go_wp2_with (first | (go_at_call 31; (with_reducible refine (understoryref04_SameInts.calls k1 _ _ ((rd_T64 l0 x5_1).f1) _ _ ((rd_T64 l1 x5_1).f1) true _ ?side1 ?side2 ?side3 ?side4 A8.out).mono ?_); (case side1 => repeat (first | exact HR266_1.out | (with_reducible refine Kd.C_alloc ?_ _) | (with_reducible refine Kd.C_drewN ?_ _) | (with_reducible refine Kd.C_drew ?_))); (case side2 => exact HC266_1.out); (case side3 => repeat (first | exact HR267_1.out | (with_reducible refine Kd.C_alloc ?_ _) | (with_reducible refine Kd.C_drewN ?_ _) | (with_reducible refine Kd.C_drew ?_))); (case side4 => exact HC267_1.out); rintro e w' ⟨rfl, ⟨nd, rfl⟩⟩; (try first | exact ⟨rfl, _, World.drewN_drewN _ _ _⟩ | exact ⟨rfl, _, Eq.trans (World.drewN_drewN _ _ _) (congrArg (World.drewN _) (Nat.add_assoc _ _ _))⟩)))
                  repeat (go_quiet (first | (go_at_call 31; (with_reducible refine (understoryref04_SameInts.calls k1 _ _ ((rd_T64 l0 x5_1).f1) _ _ ((rd_T64 l1 x5_1).f1) true _ ?side1 ?side2 ?side3 ?side4 A8.out).mono ?_); (case side1 => repeat (first | exact HR266_1.out | (with_reducible refine Kd.C_alloc ?_ _) | (with_reducible refine Kd.C_drewN ?_ _) | (with_reducible refine Kd.C_drew ?_))); (case side2 => exact HC266_1.out); (case side3 => repeat (first | exact HR267_1.out | (with_reducible refine Kd.C_alloc ?_ _) | (with_reducible refine Kd.C_drewN ?_ _) | (with_reducible refine Kd.C_drew ?_))); (case side4 => exact HC267_1.out); rintro e w' ⟨rfl, ⟨nd, rfl⟩⟩; (try first | exact ⟨rfl, _, World.drewN_drewN _ _ _⟩ | exact ⟨rfl, _, Eq.trans (World.drewN_drewN _ _ _) (congrArg (World.drewN _) (Nat.add_assoc _ _ _))⟩))); try go_wp2_with (first | (go_at_call 31; (with_reducible refine (understoryref04_SameInts.calls k1 _ _ ((rd_T64 l0 x5_1).f1) _ _ ((rd_T64 l1 x5_1).f1) true _ ?side1 ?side2 ?side3 ?side4 A8.out).mono ?_); (case side1 => repeat (first | exact HR266_1.out | (with_reducible refine Kd.C_alloc ?_ _) | (with_reducible refine Kd.C_drewN ?_ _) | (with_reducible refine Kd.C_drew ?_))); (case side2 => exact HC266_1.out); (case side3 => repeat (first | exact HR267_1.out | (with_reducible refine Kd.C_alloc ?_ _) | (with_reducible refine Kd.C_drewN ?_ _) | (with_reducible refine Kd.C_drew ?_))); (case side4 => exact HC267_1.out); rintro e w' ⟨rfl, ⟨nd, rfl⟩⟩; (try first | exact ⟨rfl, _, World.drewN_drewN _ _ _⟩ | exact ⟨rfl, _, Eq.trans (World.drewN_drewN _ _ _) (congrArg (World.drewN _) (Nat.add_assoc _ _ _))⟩))))
                  go_roundg k1
                  case measure => have := HK1.out; omega
                  case rel => exact ⟨(wrap64 (x5_1 + 1)), (by first | rfl | (simp; done) | (simp [*]; done)), H', ⟨by have := HK1.out; omega⟩, by repeat (first | exact Drawn0.refl _ | apply Drawn0.step)⟩
                · replace c9 := Bool.eq_false_iff.mpr c9
                  subst c9
                  have H1 : (some false) = some r := by rw [if_neg (show ¬ (false = true) by decide)] at H; exact H
                  clear H
                  have H := H1
                  clear H1
                  obtain rfl := Option.some.inj H
                  have p264 : 0 ≤ (x5_1 : Int) := of_decide_eq_true (by first | (with_reducible assumption) | assumption)
                  have q264 : x5_1 < (l0.length : Int) := of_decide_eq_true (by first | (with_reducible assumption) | assumption)
                  obtain ⟨ad264, A264_1, c264_1, e264, hx264_0, hx264_1, hl264_1, hi264_1⟩ := at_T64 HR0.out x5_1 p264 q264
                  cases e264
                  have HR264_1 := Aside0.mk hi264_1
                  have HC264_1 := Aside0.mk hl264_1
                  clear hi264_1 hl264_1
                  replace p264 := eq_true p264
                  replace q264 := eq_true q264
                  have p265 : 0 ≤ (x5_1 : Int) := of_decide_eq_true (by first | (with_reducible assumption) | assumption)
                  have q265 : x5_1 < (l1.length : Int) := of_decide_eq_true (by first | (with_reducible assumption) | assumption)
                  obtain ⟨ad265, A265_1, c265_1, e265, hx265_0, hx265_1, hl265_1, hi265_1⟩ := at_T64 HR1.out x5_1 p265 q265
                  cases e265
                  have HR265_1 := Aside0.mk hi265_1
                  have HC265_1 := Aside0.mk hl265_1
                  clear hi265_1 hl265_1
                  replace p265 := eq_true p265
                  replace q265 := eq_true q265
                  have p266 : 0 ≤ (x5_1 : Int) := of_decide_eq_true (by first | (with_reducible assumption) | assumption)
                  have q266 : x5_1 < (l0.length : Int) := of_decide_eq_true (by first | (with_reducible assumption) | assumption)
                  obtain ⟨ad266, A266_1, c266_1, e266, hx266_0, hx266_1, hl266_1, hi266_1⟩ := at_T64 HR0.out x5_1 p266 q266
                  obtain rfl : ad264 = ad266 := (by injection e266)
                  have HR266_1 := Aside0.mk hi266_1
                  have HC266_1 := Aside0.mk hl266_1
                  clear hi266_1 hl266_1
                  replace p266 := eq_true p266
                  replace q266 := eq_true q266
                  have ea_ := Option.some.inj (hx264_1.symm.trans hx266_1)
                  injection ea_ with ea_ en_ ec_
                  subst ea_
                  subst ec_
                  clear en_
                  have p267 : 0 ≤ (x5_1 : Int) := of_decide_eq_true (by first | (with_reducible assumption) | assumption)
                  have q267 : x5_1 < (l1.length : Int) := of_decide_eq_true (by first | (with_reducible assumption) | assumption)
                  obtain ⟨ad267, A267_1, c267_1, e267, hx267_0, hx267_1, hl267_1, hi267_1⟩ := at_T64 HR1.out x5_1 p267 q267
                  obtain rfl : ad265 = ad267 := (by injection e267)
                  have HR267_1 := Aside0.mk hi267_1
                  have HC267_1 := Aside0.mk hl267_1
                  clear hi267_1 hl267_1
                  replace p267 := eq_true p267
                  replace q267 := eq_true q267
                  have ea_ := Option.some.inj (hx265_1.symm.trans hx267_1)
                  injection ea_ with ea_ en_ ec_
                  subst ea_
                  subst ec_
                  clear en_
                  go_wp2_with (first | (go_at_call 31; (with_reducible refine (understoryref04_SameInts.calls k1 _ _ ((rd_T64 l0 x5_1).f1) _ _ ((rd_T64 l1 x5_1).f1) false _ ?side1 ?side2 ?side3 ?side4 A8.out).mono ?_); (case side1 => repeat (first | exact HR266_1.out | (with_reducible refine Kd.C_alloc ?_ _) | (with_reducible refine Kd.C_drewN ?_ _) | (with_reducible refine Kd.C_drew ?_))); (case side2 => exact HC266_1.out); (case side3 => repeat (first | exact HR267_1.out | (with_reducible refine Kd.C_alloc ?_ _) | (with_reducible refine Kd.C_drewN ?_ _) | (with_reducible refine Kd.C_drew ?_))); (case side4 => exact HC267_1.out); rintro e w' ⟨rfl, ⟨nd, rfl⟩⟩; (try first | exact ⟨rfl, _, World.drewN_drewN _ _ _⟩ | exact ⟨rfl, _, Eq.trans (World.drewN_drewN _ _ _) (congrArg (World.drewN _) (Nat.add_assoc _ _ _))⟩)))
                  repeat (go_quiet (first | (go_at_call 31; (with_reducible refine (understoryref04_SameInts.calls k1 _ _ ((rd_T64 l0 x5_1).f1) _ _ ((rd_T64 l1 x5_1).f1) false _ ?side1 ?side2 ?side3 ?side4 A8.out).mono ?_); (case side1 => repeat (first | exact HR266_1.out | (with_reducible refine Kd.C_alloc ?_ _) | (with_reducible refine Kd.C_drewN ?_ _) | (with_reducible refine Kd.C_drew ?_))); (case side2 => exact HC266_1.out); (case side3 => repeat (first | exact HR267_1.out | (with_reducible refine Kd.C_alloc ?_ _) | (with_reducible refine Kd.C_drewN ?_ _) | (with_reducible refine Kd.C_drew ?_))); (case side4 => exact HC267_1.out); rintro e w' ⟨rfl, ⟨nd, rfl⟩⟩; (try first | exact ⟨rfl, _, World.drewN_drewN _ _ _⟩ | exact ⟨rfl, _, Eq.trans (World.drewN_drewN _ _ _) (congrArg (World.drewN _) (Nat.add_assoc _ _ _))⟩))); try go_wp2_with (first | (go_at_call 31; (with_reducible refine (understoryref04_SameInts.calls k1 _ _ ((rd_T64 l0 x5_1).f1) _ _ ((rd_T64 l1 x5_1).f1) false _ ?side1 ?side2 ?side3 ?side4 A8.out).mono ?_); (case side1 => repeat (first | exact HR266_1.out | (with_reducible refine Kd.C_alloc ?_ _) | (with_reducible refine Kd.C_drewN ?_ _) | (with_reducible refine Kd.C_drew ?_))); (case side2 => exact HC266_1.out); (case side3 => repeat (first | exact HR267_1.out | (with_reducible refine Kd.C_alloc ?_ _) | (with_reducible refine Kd.C_drewN ?_ _) | (with_reducible refine Kd.C_drew ?_))); (case side4 => exact HC267_1.out); rintro e w' ⟨rfl, ⟨nd, rfl⟩⟩; (try first | exact ⟨rfl, _, World.drewN_drewN _ _ _⟩ | exact ⟨rfl, _, Eq.trans (World.drewN_drewN _ _ _) (congrArg (World.drewN _) (Nat.add_assoc _ _ _))⟩))))
                  go_ret
                  exact ⟨by first | rfl | (simp; done) | (simp [*]; done), by repeat (first | exact Drawn0.refl _ | apply Drawn0.step)⟩
              · rw [if_neg c7] at H
                have c7b0 : (((rd_T64 l0 x5_1).f0) == ((rd_T64 l1 x5_1).f0)) = false := beq_eq_false_iff_ne.mpr c7
                have c7b1 : (((rd_T64 l0 x5_1).f0) != ((rd_T64 l1 x5_1).f0)) = true := bne_iff_ne.mpr c7
                obtain rfl := Option.some.inj H
                have p264 : 0 ≤ (x5_1 : Int) := of_decide_eq_true (by first | (with_reducible assumption) | assumption)
                have q264 : x5_1 < (l0.length : Int) := of_decide_eq_true (by first | (with_reducible assumption) | assumption)
                obtain ⟨ad264, A264_1, c264_1, e264, hx264_0, hx264_1, hl264_1, hi264_1⟩ := at_T64 HR0.out x5_1 p264 q264
                cases e264
                have HR264_1 := Aside0.mk hi264_1
                have HC264_1 := Aside0.mk hl264_1
                clear hi264_1 hl264_1
                replace p264 := eq_true p264
                replace q264 := eq_true q264
                have p265 : 0 ≤ (x5_1 : Int) := of_decide_eq_true (by first | (with_reducible assumption) | assumption)
                have q265 : x5_1 < (l1.length : Int) := of_decide_eq_true (by first | (with_reducible assumption) | assumption)
                obtain ⟨ad265, A265_1, c265_1, e265, hx265_0, hx265_1, hl265_1, hi265_1⟩ := at_T64 HR1.out x5_1 p265 q265
                cases e265
                have HR265_1 := Aside0.mk hi265_1
                have HC265_1 := Aside0.mk hl265_1
                clear hi265_1 hl265_1
                replace p265 := eq_true p265
                replace q265 := eq_true q265
                go_wp2
                repeat (go_quiet (fail); try go_wp2)
                go_ret
                exact ⟨by first | rfl | (simp; done) | (simp [*]; done), by repeat (first | exact Drawn0.refl _ | apply Drawn0.step)⟩
            · rw [if_neg c6] at H
              exact absurd H (by simp)
          · rw [if_neg c5] at H
            exact absurd H (by simp)
        · rw [if_neg c4] at H
          have c4b0 : decide (x5_1 < (l0.length : Int)) = false := decide_eq_false c4
          clear c4
          obtain rfl := Option.some.inj H
          go_wp2
          repeat (go_quiet (fail); try go_wp2)
          go_ret
          exact ⟨by first | rfl | (simp; done) | (simp [*]; done), by repeat (first | exact Drawn0.refl _ | apply Drawn0.step)⟩
  · rw [if_neg c3] at H
    have c3b0 : ((l0.length : Int) == (l1.length : Int)) = false := beq_eq_false_iff_ne.mpr c3
    have c3b1 : ((l0.length : Int) != (l1.length : Int)) = true := bne_iff_ne.mpr c3
    have c3b2 : (l0.length == l1.length) = false := by first | simpa using c3 | (simp at c3 ⊢; omega)
    obtain rfl := Option.some.inj H
    go_enter Tryz.func18, Tryz.ntmps18
    go_wp2
    repeat (go_quiet (fail); try go_wp2)
    go_ret
    exact ⟨by first | rfl | (simp; done) | (simp [*]; done), by repeat (first | exact Drawn0.refl _ | apply Drawn0.step)⟩
def space_CheckPins.l0 : Nat → List (S83) → List (S83) → Int → Int → Option (Int)
  | 0, _, _, _, _ => none
  | k + 1, x0, x5, x6, x7 => if x7 < x6 then (if 0 ≤ x7 then (if x7 < (x5.length : Int) then (if ((rd_T83 x5 x7).f0) < 1 then (some 2) else (if ((rd_T83 x5 x7).f1) < 1 then (some 2) else (if x7 > 0 then (if 0 ≤ (wrap64 (x7 - 1)) then (if (wrap64 (x7 - 1)) < (x0.length : Int) then (if ((rd_T83 x0 (wrap64 (x7 - 1))).f0) ≥ ((rd_T83 x5 x7).f0) then (some 2) else (space_CheckPins.l0 k x0 x5 x6 (wrap64 (x7 + 1)))) else (none)) else (none)) else (space_CheckPins.l0 k x0 x5 x6 (wrap64 (x7 + 1)))))) else (none)) else (none)) else (some 0)
def space_CheckPins.f (k : Nat) (l0 : List (S83)) : Option (Int) := space_CheckPins.l0 k l0 l0 (l0.length : Int) 0
theorem space_CheckPins.mono_l : ∀ k, (∀ y0 y1 y2 y3, LeO (space_CheckPins.l0 k y0 y1 y2 y3) (space_CheckPins.l0 (k + 1) y0 y1 y2 y3))
  | 0 => fun _ _ _ _ r h => by simp [space_CheckPins.l0] at h
  | k + 1 => by
    have ih0 := space_CheckPins.mono_l k
    · intro y0 y1 y2 y3
      unfold space_CheckPins.l0
      repeat' first
      | (with_reducible exact ih0 _ _ _ _)
      | (with_reducible exact LeO.refl _)
      | (with_reducible exact LeO.none _)
      | (with_reducible refine LeO.ite ?_ ?_)
      | (with_reducible refine LeO.bind ?_ (fun _ => ?_))
      | exact ih0 _ _ _ _
      | exact LeO.none _
      | refine LeO.ite ?_ ?_
      | refine LeO.bind ?_ (fun _ => ?_)
theorem space_CheckPins.mono : ∀ a0 k, LeO (space_CheckPins.f k a0) (space_CheckPins.f (k + 1) a0) := by
  intro a0 k
  have ih0 := space_CheckPins.mono_l k
  unfold space_CheckPins.f
  repeat' first
      | (with_reducible exact ih0 _ _ _ _)
      | (with_reducible exact LeO.refl _)
      | (with_reducible exact LeO.none _)
      | (with_reducible refine LeO.ite ?_ ?_)
      | (with_reducible refine LeO.bind ?_ (fun _ => ?_))
      | exact ih0 _ _ _ _
      | exact LeO.none _
      | refine LeO.ite ?_ ?_
      | refine LeO.bind ?_ (fun _ => ?_)
set_option maxHeartbeats 8000000 in
set_option maxRecDepth 100000 in
theorem space_CheckPins.calls (k : Nat) (A0 : Option Addr) (c0 : Nat) (l0 : List (S83)) (r : Int) (w : World) (hr0 : Kd.C k83 w A0 l0.length l0) (hc0 : l0.length ≤ c0) (h : space_CheckPins.f k l0 = some r) :
    Calls Tryz.prog 137 #[.slice A0 l0.length c0] w fun e w' => e = .returned (.int .i64 r) ∧ Below w.heap.size w w' := by
  have hu83 := Tryz.underlying83
  have HR0 := Aside0.mk hr0
  have HC0 := Aside0.mk hc0
  clear hr0 hc0
  have HB := Aside0.mk (Below.refl w.heap.size w)
  have H : (space_CheckPins.l0 k l0 l0 (l0.length : Int) 0) = some r := h
  clear h
  have H' := Aside0.mk H
  clear H
  go_enter Tryz.func137, Tryz.ntmps137
  go_wp2
  repeat (go_quiet (fail); try go_wp2)
  go_loopg [7] k (fun kq v7 w' => ∃ (x7_1 : Int), v7 = .int .i64 x7_1 ∧ Aside0 (space_CheckPins.l0 kq l0 l0 (l0.length : Int) x7_1 = some r) ∧ Aside0 (kq ≤ k) ∧ Aside0 (Below w.heap.size w w'))
  case atStart => exact ⟨(0), (by first | rfl | (simp; done) | (simp [*]; done)), H', ⟨Nat.le_refl _⟩, ⟨by repeat (first | (with_reducible first | exact HB.out | apply below_alloc | apply pw_below_drewN | apply below_drew1) | exact HB.out)⟩⟩
  case round =>
    clear H'
    try clear c1
    obtain ⟨x7_1, rfl, HA, HK1, HB⟩ := hrel
    cases gk with
    | zero => exact absurd HA.out (by simp [space_CheckPins.l0])
    | succ k1 =>
      have H := HA.out
      clear HA
      simp only [space_CheckPins.l0] at H
      by_cases c2 : x7_1 < (l0.length : Int)
      · rw [if_pos c2] at H
        have c2b0 : decide (x7_1 < (l0.length : Int)) = true := decide_eq_true c2
        clear c2
        by_cases c3 : 0 ≤ x7_1
        · rw [if_pos c3] at H
          have c3b0 : decide (0 ≤ x7_1) = true := decide_eq_true c3
          clear c3
          by_cases c4 : x7_1 < (l0.length : Int)
          · rw [if_pos c4] at H
            have c4b0 : decide (x7_1 < (l0.length : Int)) = true := decide_eq_true c4
            clear c4
            by_cases c5 : ((rd_T83 l0 x7_1).f0) < 1
            · rw [if_pos c5] at H
              have c5b0 : decide (((rd_T83 l0 x7_1).f0) < 1) = true := decide_eq_true c5
              clear c5
              obtain rfl := Option.some.inj H
              have p275 : 0 ≤ (x7_1 : Int) := of_decide_eq_true (by first | (with_reducible assumption) | assumption)
              have q275 : x7_1 < (l0.length : Int) := of_decide_eq_true (by first | (with_reducible assumption) | assumption)
              obtain ⟨ad275, e275, hx275_0, hx275_1⟩ := at_T83 HR0.out x7_1 p275 q275
              cases e275
              replace hx275_0 := (HB.out.cell (World.block_lt_of_cell? w _ hx275_0)).trans hx275_0
              replace hx275_1 := (HB.out.cell (World.block_lt_of_cell? w _ hx275_1)).trans hx275_1
              replace p275 := eq_true p275
              replace q275 := eq_true q275
              go_wp2_with (first | ((with_reducible refine gate_dst (N := 4) rfl ?_); refine box_event ?hg (N := 4) ?hd (cs := #[.int .i64 0, .int .i64 0]) (t := 83) ?hr ?_; (case hd => rfl); (case hg => rfl); (case hr => first | (go_simp; done) | (go_simp; rfl)); intro gb276 hg w6 hbox hb; have n0_ := Aside0.mk (below_step (by repeat (first | (with_reducible first | exact HB.out | apply below_alloc | apply pw_below_drewN | apply below_drew1) | exact HB.out)) hb); have n1_ := Aside0.mk (hbox); have n2_ := Aside0.mk ((by rw [hg]; exact (below_size (by repeat (first | (with_reducible first | exact HB.out | apply below_alloc | apply pw_below_drewN | apply below_drew1) | exact HB.out))) : w.heap.size ≤ gb276)); have n3_ := Aside0.mk ((by rw [hg]; exact (below_size (by repeat (first | (with_reducible first | exact HB.out | apply below_alloc | apply pw_below_drewN | apply below_drew1) | exact HB.out))) : w.heap.size ≤ gb276)); clear HB; have HB := n0_; have BK276 := n1_; have GW276 := n2_; have GE276 := n3_; clear n0_ n1_ n2_ n3_; clear hb hbox hg; have hcz7_0 : w6.cell? ⟨gb276, 0, none⟩ = some (.int .i64 0) := (blk_cell BK276.out 0).trans rfl; have hcz7_1 : w6.cell? ⟨gb276, 1, none⟩ = some (.int .i64 0) := (blk_cell BK276.out 1).trans rfl; have hfz7_0 := blk_frozen BK276.out 0; have hfz7_1 := blk_frozen BK276.out 1))
              repeat (go_quiet (first | ((with_reducible refine gate_dst (N := 4) rfl ?_); refine box_event ?hg (N := 4) ?hd (cs := #[.int .i64 0, .int .i64 0]) (t := 83) ?hr ?_; (case hd => rfl); (case hg => rfl); (case hr => first | (go_simp; done) | (go_simp; rfl)); intro gb276 hg w6 hbox hb; have n0_ := Aside0.mk (below_step (by repeat (first | (with_reducible first | exact HB.out | apply below_alloc | apply pw_below_drewN | apply below_drew1) | exact HB.out)) hb); have n1_ := Aside0.mk (hbox); have n2_ := Aside0.mk ((by rw [hg]; exact (below_size (by repeat (first | (with_reducible first | exact HB.out | apply below_alloc | apply pw_below_drewN | apply below_drew1) | exact HB.out))) : w.heap.size ≤ gb276)); have n3_ := Aside0.mk ((by rw [hg]; exact (below_size (by repeat (first | (with_reducible first | exact HB.out | apply below_alloc | apply pw_below_drewN | apply below_drew1) | exact HB.out))) : w.heap.size ≤ gb276)); clear HB; have HB := n0_; have BK276 := n1_; have GW276 := n2_; have GE276 := n3_; clear n0_ n1_ n2_ n3_; clear hb hbox hg; have hcz7_0 : w6.cell? ⟨gb276, 0, none⟩ = some (.int .i64 0) := (blk_cell BK276.out 0).trans rfl; have hcz7_1 : w6.cell? ⟨gb276, 1, none⟩ = some (.int .i64 0) := (blk_cell BK276.out 1).trans rfl; have hfz7_0 := blk_frozen BK276.out 0; have hfz7_1 := blk_frozen BK276.out 1)); try go_wp2_with (first | ((with_reducible refine gate_dst (N := 4) rfl ?_); refine box_event ?hg (N := 4) ?hd (cs := #[.int .i64 0, .int .i64 0]) (t := 83) ?hr ?_; (case hd => rfl); (case hg => rfl); (case hr => first | (go_simp; done) | (go_simp; rfl)); intro gb276 hg w6 hbox hb; have n0_ := Aside0.mk (below_step (by repeat (first | (with_reducible first | exact HB.out | apply below_alloc | apply pw_below_drewN | apply below_drew1) | exact HB.out)) hb); have n1_ := Aside0.mk (hbox); have n2_ := Aside0.mk ((by rw [hg]; exact (below_size (by repeat (first | (with_reducible first | exact HB.out | apply below_alloc | apply pw_below_drewN | apply below_drew1) | exact HB.out))) : w.heap.size ≤ gb276)); have n3_ := Aside0.mk ((by rw [hg]; exact (below_size (by repeat (first | (with_reducible first | exact HB.out | apply below_alloc | apply pw_below_drewN | apply below_drew1) | exact HB.out))) : w.heap.size ≤ gb276)); clear HB; have HB := n0_; have BK276 := n1_; have GW276 := n2_; have GE276 := n3_; clear n0_ n1_ n2_ n3_; clear hb hbox hg; have hcz7_0 : w6.cell? ⟨gb276, 0, none⟩ = some (.int .i64 0) := (blk_cell BK276.out 0).trans rfl; have hcz7_1 : w6.cell? ⟨gb276, 1, none⟩ = some (.int .i64 0) := (blk_cell BK276.out 1).trans rfl; have hfz7_0 := blk_frozen BK276.out 0; have hfz7_1 := blk_frozen BK276.out 1)))
              go_ret
              exact ⟨by first | rfl | (simp [errW_none, errW_some] <;> rfl) | (simp [*, errW_none, errW_some] <;> rfl), by repeat (first | (with_reducible first | exact HB.out | apply below_alloc | apply pw_below_drewN | apply below_drew1 | refine below_set ?_ GE276.out) | exact HB.out)⟩
            · rw [if_neg c5] at H
              have c5b0 : decide (((rd_T83 l0 x7_1).f0) < 1) = false := decide_eq_false c5
              clear c5
              by_cases c8 : ((rd_T83 l0 x7_1).f1) < 1
              · rw [if_pos c8] at H
                have c8b0 : decide (((rd_T83 l0 x7_1).f1) < 1) = true := decide_eq_true c8
                clear c8
                obtain rfl := Option.some.inj H
                have p275 : 0 ≤ (x7_1 : Int) := of_decide_eq_true (by first | (with_reducible assumption) | assumption)
                have q275 : x7_1 < (l0.length : Int) := of_decide_eq_true (by first | (with_reducible assumption) | assumption)
                obtain ⟨ad275, e275, hx275_0, hx275_1⟩ := at_T83 HR0.out x7_1 p275 q275
                cases e275
                replace hx275_0 := (HB.out.cell (World.block_lt_of_cell? w _ hx275_0)).trans hx275_0
                replace hx275_1 := (HB.out.cell (World.block_lt_of_cell? w _ hx275_1)).trans hx275_1
                replace p275 := eq_true p275
                replace q275 := eq_true q275
                go_wp2_with (first | ((with_reducible refine gate_dst (N := 4) rfl ?_); refine box_event ?hg (N := 4) ?hd (cs := #[.int .i64 0, .int .i64 0]) (t := 83) ?hr ?_; (case hd => rfl); (case hg => rfl); (case hr => first | (go_simp; done) | (go_simp; rfl)); intro gb276 hg w9 hbox hb; have n0_ := Aside0.mk (below_step (by repeat (first | (with_reducible first | exact HB.out | apply below_alloc | apply pw_below_drewN | apply below_drew1) | exact HB.out)) hb); have n1_ := Aside0.mk (hbox); have n2_ := Aside0.mk ((by rw [hg]; exact (below_size (by repeat (first | (with_reducible first | exact HB.out | apply below_alloc | apply pw_below_drewN | apply below_drew1) | exact HB.out))) : w.heap.size ≤ gb276)); have n3_ := Aside0.mk ((by rw [hg]; exact (below_size (by repeat (first | (with_reducible first | exact HB.out | apply below_alloc | apply pw_below_drewN | apply below_drew1) | exact HB.out))) : w.heap.size ≤ gb276)); clear HB; have HB := n0_; have BK276 := n1_; have GW276 := n2_; have GE276 := n3_; clear n0_ n1_ n2_ n3_; clear hb hbox hg; have hcz10_0 : w9.cell? ⟨gb276, 0, none⟩ = some (.int .i64 0) := (blk_cell BK276.out 0).trans rfl; have hcz10_1 : w9.cell? ⟨gb276, 1, none⟩ = some (.int .i64 0) := (blk_cell BK276.out 1).trans rfl; have hfz10_0 := blk_frozen BK276.out 0; have hfz10_1 := blk_frozen BK276.out 1))
                repeat (go_quiet (first | ((with_reducible refine gate_dst (N := 4) rfl ?_); refine box_event ?hg (N := 4) ?hd (cs := #[.int .i64 0, .int .i64 0]) (t := 83) ?hr ?_; (case hd => rfl); (case hg => rfl); (case hr => first | (go_simp; done) | (go_simp; rfl)); intro gb276 hg w9 hbox hb; have n0_ := Aside0.mk (below_step (by repeat (first | (with_reducible first | exact HB.out | apply below_alloc | apply pw_below_drewN | apply below_drew1) | exact HB.out)) hb); have n1_ := Aside0.mk (hbox); have n2_ := Aside0.mk ((by rw [hg]; exact (below_size (by repeat (first | (with_reducible first | exact HB.out | apply below_alloc | apply pw_below_drewN | apply below_drew1) | exact HB.out))) : w.heap.size ≤ gb276)); have n3_ := Aside0.mk ((by rw [hg]; exact (below_size (by repeat (first | (with_reducible first | exact HB.out | apply below_alloc | apply pw_below_drewN | apply below_drew1) | exact HB.out))) : w.heap.size ≤ gb276)); clear HB; have HB := n0_; have BK276 := n1_; have GW276 := n2_; have GE276 := n3_; clear n0_ n1_ n2_ n3_; clear hb hbox hg; have hcz10_0 : w9.cell? ⟨gb276, 0, none⟩ = some (.int .i64 0) := (blk_cell BK276.out 0).trans rfl; have hcz10_1 : w9.cell? ⟨gb276, 1, none⟩ = some (.int .i64 0) := (blk_cell BK276.out 1).trans rfl; have hfz10_0 := blk_frozen BK276.out 0; have hfz10_1 := blk_frozen BK276.out 1)); try go_wp2_with (first | ((with_reducible refine gate_dst (N := 4) rfl ?_); refine box_event ?hg (N := 4) ?hd (cs := #[.int .i64 0, .int .i64 0]) (t := 83) ?hr ?_; (case hd => rfl); (case hg => rfl); (case hr => first | (go_simp; done) | (go_simp; rfl)); intro gb276 hg w9 hbox hb; have n0_ := Aside0.mk (below_step (by repeat (first | (with_reducible first | exact HB.out | apply below_alloc | apply pw_below_drewN | apply below_drew1) | exact HB.out)) hb); have n1_ := Aside0.mk (hbox); have n2_ := Aside0.mk ((by rw [hg]; exact (below_size (by repeat (first | (with_reducible first | exact HB.out | apply below_alloc | apply pw_below_drewN | apply below_drew1) | exact HB.out))) : w.heap.size ≤ gb276)); have n3_ := Aside0.mk ((by rw [hg]; exact (below_size (by repeat (first | (with_reducible first | exact HB.out | apply below_alloc | apply pw_below_drewN | apply below_drew1) | exact HB.out))) : w.heap.size ≤ gb276)); clear HB; have HB := n0_; have BK276 := n1_; have GW276 := n2_; have GE276 := n3_; clear n0_ n1_ n2_ n3_; clear hb hbox hg; have hcz10_0 : w9.cell? ⟨gb276, 0, none⟩ = some (.int .i64 0) := (blk_cell BK276.out 0).trans rfl; have hcz10_1 : w9.cell? ⟨gb276, 1, none⟩ = some (.int .i64 0) := (blk_cell BK276.out 1).trans rfl; have hfz10_0 := blk_frozen BK276.out 0; have hfz10_1 := blk_frozen BK276.out 1)))
                go_ret
                exact ⟨by first | rfl | (simp [errW_none, errW_some] <;> rfl) | (simp [*, errW_none, errW_some] <;> rfl), by repeat (first | (with_reducible first | exact HB.out | apply below_alloc | apply pw_below_drewN | apply below_drew1 | refine below_set ?_ GE276.out) | exact HB.out)⟩
              · rw [if_neg c8] at H
                have c8b0 : decide (((rd_T83 l0 x7_1).f1) < 1) = false := decide_eq_false c8
                clear c8
                by_cases c11 : x7_1 > 0
                · rw [if_pos c11] at H
                  have c11b0 : decide (0 < x7_1) = true := decide_eq_true c11
                  clear c11
                  obtain ⟨ji12, hji12⟩ : ∃ j_ : Int, (wrap64 (x7_1 - 1)) = j_ := ⟨_, rfl⟩
                  replace H : (if 0 ≤ (ji12) then (if (ji12) < (l0.length : Int) then (if ((rd_T83 l0 (ji12)).f0) ≥ ((rd_T83 l0 x7_1).f0) then (some 2) else (space_CheckPins.l0 k1 l0 l0 (l0.length : Int) (wrap64 (x7_1 + 1)))) else (none)) else (none)) = some r := by first | (rw [hji12] at H; exact H) | (simp only [hji12] at H ⊢; exact H)
                  have hji12w : (IntKind.i64.wrap (x7_1 - 1)) = ji12 := (i64_w _).trans hji12
                  by_cases c13 : 0 ≤ (ji12)
                  · rw [if_pos c13] at H
                    have c13b0 : decide (0 ≤ (ji12)) = true := decide_eq_true c13
                    clear c13
                    by_cases c14 : (ji12) < (l0.length : Int)
                    · rw [if_pos c14] at H
                      have c14b0 : decide ((ji12) < (l0.length : Int)) = true := decide_eq_true c14
                      clear c14
                      by_cases c15 : ((rd_T83 l0 (ji12)).f0) ≥ ((rd_T83 l0 x7_1).f0)
                      · rw [if_pos c15] at H
                        have c15b0 : decide (((rd_T83 l0 x7_1).f0) ≤ ((rd_T83 l0 (ji12)).f0)) = true := decide_eq_true c15
                        clear c15
                        obtain rfl := Option.some.inj H
                        have p275 : 0 ≤ (x7_1 : Int) := of_decide_eq_true (by first | (with_reducible assumption) | assumption)
                        have q275 : x7_1 < (l0.length : Int) := of_decide_eq_true (by first | (with_reducible assumption) | assumption)
                        obtain ⟨ad275, e275, hx275_0, hx275_1⟩ := at_T83 HR0.out x7_1 p275 q275
                        cases e275
                        replace hx275_0 := (HB.out.cell (World.block_lt_of_cell? w _ hx275_0)).trans hx275_0
                        replace hx275_1 := (HB.out.cell (World.block_lt_of_cell? w _ hx275_1)).trans hx275_1
                        replace p275 := eq_true p275
                        replace q275 := eq_true q275
                        go_wp2_with (first | ((with_reducible refine gate_dst (N := 4) rfl ?_); refine box_event ?hg (N := 4) ?hd (cs := #[.int .i64 0, .int .i64 0]) (t := 83) ?hr ?_; (case hd => rfl); (case hg => rfl); (case hr => first | (go_simp; done) | (go_simp; rfl)); intro gb276 hg w16 hbox hb; have n0_ := Aside0.mk (below_step (by repeat (first | (with_reducible first | exact HB.out | apply below_alloc | apply pw_below_drewN | apply below_drew1) | exact HB.out)) hb); have n1_ := Aside0.mk (hbox); have n2_ := Aside0.mk ((by rw [hg]; exact (below_size (by repeat (first | (with_reducible first | exact HB.out | apply below_alloc | apply pw_below_drewN | apply below_drew1) | exact HB.out))) : w.heap.size ≤ gb276)); have n3_ := Aside0.mk ((by rw [hg]; exact (below_size (by repeat (first | (with_reducible first | exact HB.out | apply below_alloc | apply pw_below_drewN | apply below_drew1) | exact HB.out))) : w.heap.size ≤ gb276)); clear HB; have HB := n0_; have BK276 := n1_; have GW276 := n2_; have GE276 := n3_; clear n0_ n1_ n2_ n3_; clear hb hbox hg; have hcz17_0 : w16.cell? ⟨gb276, 0, none⟩ = some (.int .i64 0) := (blk_cell BK276.out 0).trans rfl; have hcz17_1 : w16.cell? ⟨gb276, 1, none⟩ = some (.int .i64 0) := (blk_cell BK276.out 1).trans rfl; have hfz17_0 := blk_frozen BK276.out 0; have hfz17_1 := blk_frozen BK276.out 1; have p277 : 0 ≤ ((ji12) : Int) := of_decide_eq_true (by first | (with_reducible assumption) | assumption); have q277 : (ji12) < (l0.length : Int) := of_decide_eq_true (by first | (with_reducible assumption) | assumption); obtain ⟨ad277, e277, hx277_0, hx277_1⟩ := at_T83 HR0.out (ji12) p277 q277; obtain rfl : ad275 = ad277 := (by injection e277); have hn277_0 : ad275.block ≠ gb276 := Nat.ne_of_lt (Nat.lt_of_lt_of_le (by have := World.block_lt_of_cell? _ _ hx277_0; first | rwa [add_block] at this | exact this) GW276.out); have hn277_1 : ad275.block ≠ gb276 := Nat.ne_of_lt (Nat.lt_of_lt_of_le (by have := World.block_lt_of_cell? _ _ hx277_0; first | rwa [add_block] at this | exact this) GW276.out); replace hx277_0 := (HB.out.cell (World.block_lt_of_cell? w _ hx277_0)).trans hx277_0; replace hx277_1 := (HB.out.cell (World.block_lt_of_cell? w _ hx277_1)).trans hx277_1; replace hx277_0 := (cell_far (p := ⟨gb276, 0, none⟩) (by first | (rw [add_block]; exact hn277_0) | (show (Addr.add _ _).block ≠ _; rw [add_block]; exact hn277_0) | exact hn277_0) (.int .i64 ((rd_T83 l0 x7_1).f0))).trans hx277_0; replace hx277_1 := (cell_far (p := ⟨gb276, 0, none⟩) (by first | (rw [add_block]; exact hn277_0) | (show (Addr.add _ _).block ≠ _; rw [add_block]; exact hn277_0) | exact hn277_0) (.int .i64 ((rd_T83 l0 x7_1).f0))).trans hx277_1; replace hx277_0 := (cell_far (p := ⟨gb276, 1, none⟩) (by first | (rw [add_block]; exact hn277_1) | (show (Addr.add _ _).block ≠ _; rw [add_block]; exact hn277_1) | exact hn277_1) (.int .i64 ((rd_T83 l0 x7_1).f1))).trans hx277_0; replace hx277_1 := (cell_far (p := ⟨gb276, 1, none⟩) (by first | (rw [add_block]; exact hn277_1) | (show (Addr.add _ _).block ≠ _; rw [add_block]; exact hn277_1) | exact hn277_1) (.int .i64 ((rd_T83 l0 x7_1).f1))).trans hx277_1; (try have hy277_0 := fun (n_ : Nat) => (show ((((w16.drewN n_).setCell ⟨gb276, 0, none⟩ (.int .i64 ((rd_T83 l0 x7_1).f0))).setCell ⟨gb276, 1, none⟩ (.int .i64 ((rd_T83 l0 x7_1).f1)))).cell? _ = some _ from hx277_0)); (try have hy277_1 := fun (n_ : Nat) => (show ((((w16.drewN n_).setCell ⟨gb276, 0, none⟩ (.int .i64 ((rd_T83 l0 x7_1).f0))).setCell ⟨gb276, 1, none⟩ (.int .i64 ((rd_T83 l0 x7_1).f1)))).cell? _ = some _ from hx277_1)); clear hn277_0; clear hn277_1; replace p277 := eq_true p277; replace q277 := eq_true q277))
                        repeat (go_quiet (first | ((with_reducible refine gate_dst (N := 4) rfl ?_); refine box_event ?hg (N := 4) ?hd (cs := #[.int .i64 0, .int .i64 0]) (t := 83) ?hr ?_; (case hd => rfl); (case hg => rfl); (case hr => first | (go_simp; done) | (go_simp; rfl)); intro gb276 hg w16 hbox hb; have n0_ := Aside0.mk (below_step (by repeat (first | (with_reducible first | exact HB.out | apply below_alloc | apply pw_below_drewN | apply below_drew1) | exact HB.out)) hb); have n1_ := Aside0.mk (hbox); have n2_ := Aside0.mk ((by rw [hg]; exact (below_size (by repeat (first | (with_reducible first | exact HB.out | apply below_alloc | apply pw_below_drewN | apply below_drew1) | exact HB.out))) : w.heap.size ≤ gb276)); have n3_ := Aside0.mk ((by rw [hg]; exact (below_size (by repeat (first | (with_reducible first | exact HB.out | apply below_alloc | apply pw_below_drewN | apply below_drew1) | exact HB.out))) : w.heap.size ≤ gb276)); clear HB; have HB := n0_; have BK276 := n1_; have GW276 := n2_; have GE276 := n3_; clear n0_ n1_ n2_ n3_; clear hb hbox hg; have hcz17_0 : w16.cell? ⟨gb276, 0, none⟩ = some (.int .i64 0) := (blk_cell BK276.out 0).trans rfl; have hcz17_1 : w16.cell? ⟨gb276, 1, none⟩ = some (.int .i64 0) := (blk_cell BK276.out 1).trans rfl; have hfz17_0 := blk_frozen BK276.out 0; have hfz17_1 := blk_frozen BK276.out 1; have p277 : 0 ≤ ((ji12) : Int) := of_decide_eq_true (by first | (with_reducible assumption) | assumption); have q277 : (ji12) < (l0.length : Int) := of_decide_eq_true (by first | (with_reducible assumption) | assumption); obtain ⟨ad277, e277, hx277_0, hx277_1⟩ := at_T83 HR0.out (ji12) p277 q277; obtain rfl : ad275 = ad277 := (by injection e277); have hn277_0 : ad275.block ≠ gb276 := Nat.ne_of_lt (Nat.lt_of_lt_of_le (by have := World.block_lt_of_cell? _ _ hx277_0; first | rwa [add_block] at this | exact this) GW276.out); have hn277_1 : ad275.block ≠ gb276 := Nat.ne_of_lt (Nat.lt_of_lt_of_le (by have := World.block_lt_of_cell? _ _ hx277_0; first | rwa [add_block] at this | exact this) GW276.out); replace hx277_0 := (HB.out.cell (World.block_lt_of_cell? w _ hx277_0)).trans hx277_0; replace hx277_1 := (HB.out.cell (World.block_lt_of_cell? w _ hx277_1)).trans hx277_1; replace hx277_0 := (cell_far (p := ⟨gb276, 0, none⟩) (by first | (rw [add_block]; exact hn277_0) | (show (Addr.add _ _).block ≠ _; rw [add_block]; exact hn277_0) | exact hn277_0) (.int .i64 ((rd_T83 l0 x7_1).f0))).trans hx277_0; replace hx277_1 := (cell_far (p := ⟨gb276, 0, none⟩) (by first | (rw [add_block]; exact hn277_0) | (show (Addr.add _ _).block ≠ _; rw [add_block]; exact hn277_0) | exact hn277_0) (.int .i64 ((rd_T83 l0 x7_1).f0))).trans hx277_1; replace hx277_0 := (cell_far (p := ⟨gb276, 1, none⟩) (by first | (rw [add_block]; exact hn277_1) | (show (Addr.add _ _).block ≠ _; rw [add_block]; exact hn277_1) | exact hn277_1) (.int .i64 ((rd_T83 l0 x7_1).f1))).trans hx277_0; replace hx277_1 := (cell_far (p := ⟨gb276, 1, none⟩) (by first | (rw [add_block]; exact hn277_1) | (show (Addr.add _ _).block ≠ _; rw [add_block]; exact hn277_1) | exact hn277_1) (.int .i64 ((rd_T83 l0 x7_1).f1))).trans hx277_1; (try have hy277_0 := fun (n_ : Nat) => (show ((((w16.drewN n_).setCell ⟨gb276, 0, none⟩ (.int .i64 ((rd_T83 l0 x7_1).f0))).setCell ⟨gb276, 1, none⟩ (.int .i64 ((rd_T83 l0 x7_1).f1)))).cell? _ = some _ from hx277_0)); (try have hy277_1 := fun (n_ : Nat) => (show ((((w16.drewN n_).setCell ⟨gb276, 0, none⟩ (.int .i64 ((rd_T83 l0 x7_1).f0))).setCell ⟨gb276, 1, none⟩ (.int .i64 ((rd_T83 l0 x7_1).f1)))).cell? _ = some _ from hx277_1)); clear hn277_0; clear hn277_1; replace p277 := eq_true p277; replace q277 := eq_true q277)); try go_wp2_with (first | ((with_reducible refine gate_dst (N := 4) rfl ?_); refine box_event ?hg (N := 4) ?hd (cs := #[.int .i64 0, .int .i64 0]) (t := 83) ?hr ?_; (case hd => rfl); (case hg => rfl); (case hr => first | (go_simp; done) | (go_simp; rfl)); intro gb276 hg w16 hbox hb; have n0_ := Aside0.mk (below_step (by repeat (first | (with_reducible first | exact HB.out | apply below_alloc | apply pw_below_drewN | apply below_drew1) | exact HB.out)) hb); have n1_ := Aside0.mk (hbox); have n2_ := Aside0.mk ((by rw [hg]; exact (below_size (by repeat (first | (with_reducible first | exact HB.out | apply below_alloc | apply pw_below_drewN | apply below_drew1) | exact HB.out))) : w.heap.size ≤ gb276)); have n3_ := Aside0.mk ((by rw [hg]; exact (below_size (by repeat (first | (with_reducible first | exact HB.out | apply below_alloc | apply pw_below_drewN | apply below_drew1) | exact HB.out))) : w.heap.size ≤ gb276)); clear HB; have HB := n0_; have BK276 := n1_; have GW276 := n2_; have GE276 := n3_; clear n0_ n1_ n2_ n3_; clear hb hbox hg; have hcz17_0 : w16.cell? ⟨gb276, 0, none⟩ = some (.int .i64 0) := (blk_cell BK276.out 0).trans rfl; have hcz17_1 : w16.cell? ⟨gb276, 1, none⟩ = some (.int .i64 0) := (blk_cell BK276.out 1).trans rfl; have hfz17_0 := blk_frozen BK276.out 0; have hfz17_1 := blk_frozen BK276.out 1; have p277 : 0 ≤ ((ji12) : Int) := of_decide_eq_true (by first | (with_reducible assumption) | assumption); have q277 : (ji12) < (l0.length : Int) := of_decide_eq_true (by first | (with_reducible assumption) | assumption); obtain ⟨ad277, e277, hx277_0, hx277_1⟩ := at_T83 HR0.out (ji12) p277 q277; obtain rfl : ad275 = ad277 := (by injection e277); have hn277_0 : ad275.block ≠ gb276 := Nat.ne_of_lt (Nat.lt_of_lt_of_le (by have := World.block_lt_of_cell? _ _ hx277_0; first | rwa [add_block] at this | exact this) GW276.out); have hn277_1 : ad275.block ≠ gb276 := Nat.ne_of_lt (Nat.lt_of_lt_of_le (by have := World.block_lt_of_cell? _ _ hx277_0; first | rwa [add_block] at this | exact this) GW276.out); replace hx277_0 := (HB.out.cell (World.block_lt_of_cell? w _ hx277_0)).trans hx277_0; replace hx277_1 := (HB.out.cell (World.block_lt_of_cell? w _ hx277_1)).trans hx277_1; replace hx277_0 := (cell_far (p := ⟨gb276, 0, none⟩) (by first | (rw [add_block]; exact hn277_0) | (show (Addr.add _ _).block ≠ _; rw [add_block]; exact hn277_0) | exact hn277_0) (.int .i64 ((rd_T83 l0 x7_1).f0))).trans hx277_0; replace hx277_1 := (cell_far (p := ⟨gb276, 0, none⟩) (by first | (rw [add_block]; exact hn277_0) | (show (Addr.add _ _).block ≠ _; rw [add_block]; exact hn277_0) | exact hn277_0) (.int .i64 ((rd_T83 l0 x7_1).f0))).trans hx277_1; replace hx277_0 := (cell_far (p := ⟨gb276, 1, none⟩) (by first | (rw [add_block]; exact hn277_1) | (show (Addr.add _ _).block ≠ _; rw [add_block]; exact hn277_1) | exact hn277_1) (.int .i64 ((rd_T83 l0 x7_1).f1))).trans hx277_0; replace hx277_1 := (cell_far (p := ⟨gb276, 1, none⟩) (by first | (rw [add_block]; exact hn277_1) | (show (Addr.add _ _).block ≠ _; rw [add_block]; exact hn277_1) | exact hn277_1) (.int .i64 ((rd_T83 l0 x7_1).f1))).trans hx277_1; (try have hy277_0 := fun (n_ : Nat) => (show ((((w16.drewN n_).setCell ⟨gb276, 0, none⟩ (.int .i64 ((rd_T83 l0 x7_1).f0))).setCell ⟨gb276, 1, none⟩ (.int .i64 ((rd_T83 l0 x7_1).f1)))).cell? _ = some _ from hx277_0)); (try have hy277_1 := fun (n_ : Nat) => (show ((((w16.drewN n_).setCell ⟨gb276, 0, none⟩ (.int .i64 ((rd_T83 l0 x7_1).f0))).setCell ⟨gb276, 1, none⟩ (.int .i64 ((rd_T83 l0 x7_1).f1)))).cell? _ = some _ from hx277_1)); clear hn277_0; clear hn277_1; replace p277 := eq_true p277; replace q277 := eq_true q277)))
                        go_ret
                        exact ⟨by first | rfl | (simp [errW_none, errW_some] <;> rfl) | (simp only [← hji12]; first | rfl | (simp [errW_none, errW_some] <;> rfl)) | (simp [*, errW_none, errW_some] <;> rfl), by repeat (first | (with_reducible first | exact HB.out | apply below_alloc | apply pw_below_drewN | apply below_drew1 | refine below_set ?_ GE276.out) | exact HB.out)⟩
                      · rw [if_neg c15] at H
                        have c15b0 : decide (((rd_T83 l0 x7_1).f0) ≤ ((rd_T83 l0 (ji12)).f0)) = false := decide_eq_false c15
                        clear c15
                        have H' := Aside0.mk H
                        clear H
                        have p275 : 0 ≤ (x7_1 : Int) := of_decide_eq_true (by first | (with_reducible assumption) | assumption)
                        have q275 : x7_1 < (l0.length : Int) := of_decide_eq_true (by first | (with_reducible assumption) | assumption)
                        obtain ⟨ad275, e275, hx275_0, hx275_1⟩ := at_T83 HR0.out x7_1 p275 q275
                        cases e275
                        replace hx275_0 := (HB.out.cell (World.block_lt_of_cell? w _ hx275_0)).trans hx275_0
                        replace hx275_1 := (HB.out.cell (World.block_lt_of_cell? w _ hx275_1)).trans hx275_1
                        replace p275 := eq_true p275
                        replace q275 := eq_true q275
                        go_wp2_with (first | ((with_reducible refine gate_dst (N := 4) rfl ?_); refine box_event ?hg (N := 4) ?hd (cs := #[.int .i64 0, .int .i64 0]) (t := 83) ?hr ?_; (case hd => rfl); (case hg => rfl); (case hr => first | (go_simp; done) | (go_simp; rfl)); intro gb276 hg w18 hbox hb; have n0_ := Aside0.mk (below_step (by repeat (first | (with_reducible first | exact HB.out | apply below_alloc | apply pw_below_drewN | apply below_drew1) | exact HB.out)) hb); have n1_ := Aside0.mk (hbox); have n2_ := Aside0.mk ((by rw [hg]; exact (below_size (by repeat (first | (with_reducible first | exact HB.out | apply below_alloc | apply pw_below_drewN | apply below_drew1) | exact HB.out))) : w.heap.size ≤ gb276)); have n3_ := Aside0.mk ((by rw [hg]; exact (below_size (by repeat (first | (with_reducible first | exact HB.out | apply below_alloc | apply pw_below_drewN | apply below_drew1) | exact HB.out))) : w.heap.size ≤ gb276)); clear HB; have HB := n0_; have BK276 := n1_; have GW276 := n2_; have GE276 := n3_; clear n0_ n1_ n2_ n3_; clear hb hbox hg; have hcz19_0 : w18.cell? ⟨gb276, 0, none⟩ = some (.int .i64 0) := (blk_cell BK276.out 0).trans rfl; have hcz19_1 : w18.cell? ⟨gb276, 1, none⟩ = some (.int .i64 0) := (blk_cell BK276.out 1).trans rfl; have hfz19_0 := blk_frozen BK276.out 0; have hfz19_1 := blk_frozen BK276.out 1; have p277 : 0 ≤ ((ji12) : Int) := of_decide_eq_true (by first | (with_reducible assumption) | assumption); have q277 : (ji12) < (l0.length : Int) := of_decide_eq_true (by first | (with_reducible assumption) | assumption); obtain ⟨ad277, e277, hx277_0, hx277_1⟩ := at_T83 HR0.out (ji12) p277 q277; obtain rfl : ad275 = ad277 := (by injection e277); have hn277_0 : ad275.block ≠ gb276 := Nat.ne_of_lt (Nat.lt_of_lt_of_le (by have := World.block_lt_of_cell? _ _ hx277_0; first | rwa [add_block] at this | exact this) GW276.out); have hn277_1 : ad275.block ≠ gb276 := Nat.ne_of_lt (Nat.lt_of_lt_of_le (by have := World.block_lt_of_cell? _ _ hx277_0; first | rwa [add_block] at this | exact this) GW276.out); replace hx277_0 := (HB.out.cell (World.block_lt_of_cell? w _ hx277_0)).trans hx277_0; replace hx277_1 := (HB.out.cell (World.block_lt_of_cell? w _ hx277_1)).trans hx277_1; replace hx277_0 := (cell_far (p := ⟨gb276, 0, none⟩) (by first | (rw [add_block]; exact hn277_0) | (show (Addr.add _ _).block ≠ _; rw [add_block]; exact hn277_0) | exact hn277_0) (.int .i64 ((rd_T83 l0 x7_1).f0))).trans hx277_0; replace hx277_1 := (cell_far (p := ⟨gb276, 0, none⟩) (by first | (rw [add_block]; exact hn277_0) | (show (Addr.add _ _).block ≠ _; rw [add_block]; exact hn277_0) | exact hn277_0) (.int .i64 ((rd_T83 l0 x7_1).f0))).trans hx277_1; replace hx277_0 := (cell_far (p := ⟨gb276, 1, none⟩) (by first | (rw [add_block]; exact hn277_1) | (show (Addr.add _ _).block ≠ _; rw [add_block]; exact hn277_1) | exact hn277_1) (.int .i64 ((rd_T83 l0 x7_1).f1))).trans hx277_0; replace hx277_1 := (cell_far (p := ⟨gb276, 1, none⟩) (by first | (rw [add_block]; exact hn277_1) | (show (Addr.add _ _).block ≠ _; rw [add_block]; exact hn277_1) | exact hn277_1) (.int .i64 ((rd_T83 l0 x7_1).f1))).trans hx277_1; (try have hy277_0 := fun (n_ : Nat) => (show ((((w18.drewN n_).setCell ⟨gb276, 0, none⟩ (.int .i64 ((rd_T83 l0 x7_1).f0))).setCell ⟨gb276, 1, none⟩ (.int .i64 ((rd_T83 l0 x7_1).f1)))).cell? _ = some _ from hx277_0)); (try have hy277_1 := fun (n_ : Nat) => (show ((((w18.drewN n_).setCell ⟨gb276, 0, none⟩ (.int .i64 ((rd_T83 l0 x7_1).f0))).setCell ⟨gb276, 1, none⟩ (.int .i64 ((rd_T83 l0 x7_1).f1)))).cell? _ = some _ from hx277_1)); clear hn277_0; clear hn277_1; replace p277 := eq_true p277; replace q277 := eq_true q277))
                        repeat (go_quiet (first | ((with_reducible refine gate_dst (N := 4) rfl ?_); refine box_event ?hg (N := 4) ?hd (cs := #[.int .i64 0, .int .i64 0]) (t := 83) ?hr ?_; (case hd => rfl); (case hg => rfl); (case hr => first | (go_simp; done) | (go_simp; rfl)); intro gb276 hg w18 hbox hb; have n0_ := Aside0.mk (below_step (by repeat (first | (with_reducible first | exact HB.out | apply below_alloc | apply pw_below_drewN | apply below_drew1) | exact HB.out)) hb); have n1_ := Aside0.mk (hbox); have n2_ := Aside0.mk ((by rw [hg]; exact (below_size (by repeat (first | (with_reducible first | exact HB.out | apply below_alloc | apply pw_below_drewN | apply below_drew1) | exact HB.out))) : w.heap.size ≤ gb276)); have n3_ := Aside0.mk ((by rw [hg]; exact (below_size (by repeat (first | (with_reducible first | exact HB.out | apply below_alloc | apply pw_below_drewN | apply below_drew1) | exact HB.out))) : w.heap.size ≤ gb276)); clear HB; have HB := n0_; have BK276 := n1_; have GW276 := n2_; have GE276 := n3_; clear n0_ n1_ n2_ n3_; clear hb hbox hg; have hcz19_0 : w18.cell? ⟨gb276, 0, none⟩ = some (.int .i64 0) := (blk_cell BK276.out 0).trans rfl; have hcz19_1 : w18.cell? ⟨gb276, 1, none⟩ = some (.int .i64 0) := (blk_cell BK276.out 1).trans rfl; have hfz19_0 := blk_frozen BK276.out 0; have hfz19_1 := blk_frozen BK276.out 1; have p277 : 0 ≤ ((ji12) : Int) := of_decide_eq_true (by first | (with_reducible assumption) | assumption); have q277 : (ji12) < (l0.length : Int) := of_decide_eq_true (by first | (with_reducible assumption) | assumption); obtain ⟨ad277, e277, hx277_0, hx277_1⟩ := at_T83 HR0.out (ji12) p277 q277; obtain rfl : ad275 = ad277 := (by injection e277); have hn277_0 : ad275.block ≠ gb276 := Nat.ne_of_lt (Nat.lt_of_lt_of_le (by have := World.block_lt_of_cell? _ _ hx277_0; first | rwa [add_block] at this | exact this) GW276.out); have hn277_1 : ad275.block ≠ gb276 := Nat.ne_of_lt (Nat.lt_of_lt_of_le (by have := World.block_lt_of_cell? _ _ hx277_0; first | rwa [add_block] at this | exact this) GW276.out); replace hx277_0 := (HB.out.cell (World.block_lt_of_cell? w _ hx277_0)).trans hx277_0; replace hx277_1 := (HB.out.cell (World.block_lt_of_cell? w _ hx277_1)).trans hx277_1; replace hx277_0 := (cell_far (p := ⟨gb276, 0, none⟩) (by first | (rw [add_block]; exact hn277_0) | (show (Addr.add _ _).block ≠ _; rw [add_block]; exact hn277_0) | exact hn277_0) (.int .i64 ((rd_T83 l0 x7_1).f0))).trans hx277_0; replace hx277_1 := (cell_far (p := ⟨gb276, 0, none⟩) (by first | (rw [add_block]; exact hn277_0) | (show (Addr.add _ _).block ≠ _; rw [add_block]; exact hn277_0) | exact hn277_0) (.int .i64 ((rd_T83 l0 x7_1).f0))).trans hx277_1; replace hx277_0 := (cell_far (p := ⟨gb276, 1, none⟩) (by first | (rw [add_block]; exact hn277_1) | (show (Addr.add _ _).block ≠ _; rw [add_block]; exact hn277_1) | exact hn277_1) (.int .i64 ((rd_T83 l0 x7_1).f1))).trans hx277_0; replace hx277_1 := (cell_far (p := ⟨gb276, 1, none⟩) (by first | (rw [add_block]; exact hn277_1) | (show (Addr.add _ _).block ≠ _; rw [add_block]; exact hn277_1) | exact hn277_1) (.int .i64 ((rd_T83 l0 x7_1).f1))).trans hx277_1; (try have hy277_0 := fun (n_ : Nat) => (show ((((w18.drewN n_).setCell ⟨gb276, 0, none⟩ (.int .i64 ((rd_T83 l0 x7_1).f0))).setCell ⟨gb276, 1, none⟩ (.int .i64 ((rd_T83 l0 x7_1).f1)))).cell? _ = some _ from hx277_0)); (try have hy277_1 := fun (n_ : Nat) => (show ((((w18.drewN n_).setCell ⟨gb276, 0, none⟩ (.int .i64 ((rd_T83 l0 x7_1).f0))).setCell ⟨gb276, 1, none⟩ (.int .i64 ((rd_T83 l0 x7_1).f1)))).cell? _ = some _ from hx277_1)); clear hn277_0; clear hn277_1; replace p277 := eq_true p277; replace q277 := eq_true q277)); try go_wp2_with (first | ((with_reducible refine gate_dst (N := 4) rfl ?_); refine box_event ?hg (N := 4) ?hd (cs := #[.int .i64 0, .int .i64 0]) (t := 83) ?hr ?_; (case hd => rfl); (case hg => rfl); (case hr => first | (go_simp; done) | (go_simp; rfl)); intro gb276 hg w18 hbox hb; have n0_ := Aside0.mk (below_step (by repeat (first | (with_reducible first | exact HB.out | apply below_alloc | apply pw_below_drewN | apply below_drew1) | exact HB.out)) hb); have n1_ := Aside0.mk (hbox); have n2_ := Aside0.mk ((by rw [hg]; exact (below_size (by repeat (first | (with_reducible first | exact HB.out | apply below_alloc | apply pw_below_drewN | apply below_drew1) | exact HB.out))) : w.heap.size ≤ gb276)); have n3_ := Aside0.mk ((by rw [hg]; exact (below_size (by repeat (first | (with_reducible first | exact HB.out | apply below_alloc | apply pw_below_drewN | apply below_drew1) | exact HB.out))) : w.heap.size ≤ gb276)); clear HB; have HB := n0_; have BK276 := n1_; have GW276 := n2_; have GE276 := n3_; clear n0_ n1_ n2_ n3_; clear hb hbox hg; have hcz19_0 : w18.cell? ⟨gb276, 0, none⟩ = some (.int .i64 0) := (blk_cell BK276.out 0).trans rfl; have hcz19_1 : w18.cell? ⟨gb276, 1, none⟩ = some (.int .i64 0) := (blk_cell BK276.out 1).trans rfl; have hfz19_0 := blk_frozen BK276.out 0; have hfz19_1 := blk_frozen BK276.out 1; have p277 : 0 ≤ ((ji12) : Int) := of_decide_eq_true (by first | (with_reducible assumption) | assumption); have q277 : (ji12) < (l0.length : Int) := of_decide_eq_true (by first | (with_reducible assumption) | assumption); obtain ⟨ad277, e277, hx277_0, hx277_1⟩ := at_T83 HR0.out (ji12) p277 q277; obtain rfl : ad275 = ad277 := (by injection e277); have hn277_0 : ad275.block ≠ gb276 := Nat.ne_of_lt (Nat.lt_of_lt_of_le (by have := World.block_lt_of_cell? _ _ hx277_0; first | rwa [add_block] at this | exact this) GW276.out); have hn277_1 : ad275.block ≠ gb276 := Nat.ne_of_lt (Nat.lt_of_lt_of_le (by have := World.block_lt_of_cell? _ _ hx277_0; first | rwa [add_block] at this | exact this) GW276.out); replace hx277_0 := (HB.out.cell (World.block_lt_of_cell? w _ hx277_0)).trans hx277_0; replace hx277_1 := (HB.out.cell (World.block_lt_of_cell? w _ hx277_1)).trans hx277_1; replace hx277_0 := (cell_far (p := ⟨gb276, 0, none⟩) (by first | (rw [add_block]; exact hn277_0) | (show (Addr.add _ _).block ≠ _; rw [add_block]; exact hn277_0) | exact hn277_0) (.int .i64 ((rd_T83 l0 x7_1).f0))).trans hx277_0; replace hx277_1 := (cell_far (p := ⟨gb276, 0, none⟩) (by first | (rw [add_block]; exact hn277_0) | (show (Addr.add _ _).block ≠ _; rw [add_block]; exact hn277_0) | exact hn277_0) (.int .i64 ((rd_T83 l0 x7_1).f0))).trans hx277_1; replace hx277_0 := (cell_far (p := ⟨gb276, 1, none⟩) (by first | (rw [add_block]; exact hn277_1) | (show (Addr.add _ _).block ≠ _; rw [add_block]; exact hn277_1) | exact hn277_1) (.int .i64 ((rd_T83 l0 x7_1).f1))).trans hx277_0; replace hx277_1 := (cell_far (p := ⟨gb276, 1, none⟩) (by first | (rw [add_block]; exact hn277_1) | (show (Addr.add _ _).block ≠ _; rw [add_block]; exact hn277_1) | exact hn277_1) (.int .i64 ((rd_T83 l0 x7_1).f1))).trans hx277_1; (try have hy277_0 := fun (n_ : Nat) => (show ((((w18.drewN n_).setCell ⟨gb276, 0, none⟩ (.int .i64 ((rd_T83 l0 x7_1).f0))).setCell ⟨gb276, 1, none⟩ (.int .i64 ((rd_T83 l0 x7_1).f1)))).cell? _ = some _ from hx277_0)); (try have hy277_1 := fun (n_ : Nat) => (show ((((w18.drewN n_).setCell ⟨gb276, 0, none⟩ (.int .i64 ((rd_T83 l0 x7_1).f0))).setCell ⟨gb276, 1, none⟩ (.int .i64 ((rd_T83 l0 x7_1).f1)))).cell? _ = some _ from hx277_1)); clear hn277_0; clear hn277_1; replace p277 := eq_true p277; replace q277 := eq_true q277)))
                        go_roundg k1
                        case measure => have := HK1.out; omega
                        case rel => exact ⟨(wrap64 (x7_1 + 1)), (by first | rfl | (simp; done) | (simp [*]; done)), H', ⟨by have := HK1.out; omega⟩, ⟨by repeat (first | (with_reducible first | exact HB.out | apply below_alloc | apply pw_below_drewN | apply below_drew1 | refine below_set ?_ GE276.out) | exact HB.out)⟩⟩
                    · rw [if_neg c14] at H
                      exact absurd H (by simp)
                  · rw [if_neg c13] at H
                    exact absurd H (by simp)
                · rw [if_neg c11] at H
                  have c11b0 : decide (0 < x7_1) = false := decide_eq_false c11
                  clear c11
                  have H' := Aside0.mk H
                  clear H
                  have p275 : 0 ≤ (x7_1 : Int) := of_decide_eq_true (by first | (with_reducible assumption) | assumption)
                  have q275 : x7_1 < (l0.length : Int) := of_decide_eq_true (by first | (with_reducible assumption) | assumption)
                  obtain ⟨ad275, e275, hx275_0, hx275_1⟩ := at_T83 HR0.out x7_1 p275 q275
                  cases e275
                  replace hx275_0 := (HB.out.cell (World.block_lt_of_cell? w _ hx275_0)).trans hx275_0
                  replace hx275_1 := (HB.out.cell (World.block_lt_of_cell? w _ hx275_1)).trans hx275_1
                  replace p275 := eq_true p275
                  replace q275 := eq_true q275
                  go_wp2_with (first | ((with_reducible refine gate_dst (N := 4) rfl ?_); refine box_event ?hg (N := 4) ?hd (cs := #[.int .i64 0, .int .i64 0]) (t := 83) ?hr ?_; (case hd => rfl); (case hg => rfl); (case hr => first | (go_simp; done) | (go_simp; rfl)); intro gb276 hg w20 hbox hb; have n0_ := Aside0.mk (below_step (by repeat (first | (with_reducible first | exact HB.out | apply below_alloc | apply pw_below_drewN | apply below_drew1) | exact HB.out)) hb); have n1_ := Aside0.mk (hbox); have n2_ := Aside0.mk ((by rw [hg]; exact (below_size (by repeat (first | (with_reducible first | exact HB.out | apply below_alloc | apply pw_below_drewN | apply below_drew1) | exact HB.out))) : w.heap.size ≤ gb276)); have n3_ := Aside0.mk ((by rw [hg]; exact (below_size (by repeat (first | (with_reducible first | exact HB.out | apply below_alloc | apply pw_below_drewN | apply below_drew1) | exact HB.out))) : w.heap.size ≤ gb276)); clear HB; have HB := n0_; have BK276 := n1_; have GW276 := n2_; have GE276 := n3_; clear n0_ n1_ n2_ n3_; clear hb hbox hg; have hcz21_0 : w20.cell? ⟨gb276, 0, none⟩ = some (.int .i64 0) := (blk_cell BK276.out 0).trans rfl; have hcz21_1 : w20.cell? ⟨gb276, 1, none⟩ = some (.int .i64 0) := (blk_cell BK276.out 1).trans rfl; have hfz21_0 := blk_frozen BK276.out 0; have hfz21_1 := blk_frozen BK276.out 1))
                  repeat (go_quiet (first | ((with_reducible refine gate_dst (N := 4) rfl ?_); refine box_event ?hg (N := 4) ?hd (cs := #[.int .i64 0, .int .i64 0]) (t := 83) ?hr ?_; (case hd => rfl); (case hg => rfl); (case hr => first | (go_simp; done) | (go_simp; rfl)); intro gb276 hg w20 hbox hb; have n0_ := Aside0.mk (below_step (by repeat (first | (with_reducible first | exact HB.out | apply below_alloc | apply pw_below_drewN | apply below_drew1) | exact HB.out)) hb); have n1_ := Aside0.mk (hbox); have n2_ := Aside0.mk ((by rw [hg]; exact (below_size (by repeat (first | (with_reducible first | exact HB.out | apply below_alloc | apply pw_below_drewN | apply below_drew1) | exact HB.out))) : w.heap.size ≤ gb276)); have n3_ := Aside0.mk ((by rw [hg]; exact (below_size (by repeat (first | (with_reducible first | exact HB.out | apply below_alloc | apply pw_below_drewN | apply below_drew1) | exact HB.out))) : w.heap.size ≤ gb276)); clear HB; have HB := n0_; have BK276 := n1_; have GW276 := n2_; have GE276 := n3_; clear n0_ n1_ n2_ n3_; clear hb hbox hg; have hcz21_0 : w20.cell? ⟨gb276, 0, none⟩ = some (.int .i64 0) := (blk_cell BK276.out 0).trans rfl; have hcz21_1 : w20.cell? ⟨gb276, 1, none⟩ = some (.int .i64 0) := (blk_cell BK276.out 1).trans rfl; have hfz21_0 := blk_frozen BK276.out 0; have hfz21_1 := blk_frozen BK276.out 1)); try go_wp2_with (first | ((with_reducible refine gate_dst (N := 4) rfl ?_); refine box_event ?hg (N := 4) ?hd (cs := #[.int .i64 0, .int .i64 0]) (t := 83) ?hr ?_; (case hd => rfl); (case hg => rfl); (case hr => first | (go_simp; done) | (go_simp; rfl)); intro gb276 hg w20 hbox hb; have n0_ := Aside0.mk (below_step (by repeat (first | (with_reducible first | exact HB.out | apply below_alloc | apply pw_below_drewN | apply below_drew1) | exact HB.out)) hb); have n1_ := Aside0.mk (hbox); have n2_ := Aside0.mk ((by rw [hg]; exact (below_size (by repeat (first | (with_reducible first | exact HB.out | apply below_alloc | apply pw_below_drewN | apply below_drew1) | exact HB.out))) : w.heap.size ≤ gb276)); have n3_ := Aside0.mk ((by rw [hg]; exact (below_size (by repeat (first | (with_reducible first | exact HB.out | apply below_alloc | apply pw_below_drewN | apply below_drew1) | exact HB.out))) : w.heap.size ≤ gb276)); clear HB; have HB := n0_; have BK276 := n1_; have GW276 := n2_; have GE276 := n3_; clear n0_ n1_ n2_ n3_; clear hb hbox hg; have hcz21_0 : w20.cell? ⟨gb276, 0, none⟩ = some (.int .i64 0) := (blk_cell BK276.out 0).trans rfl; have hcz21_1 : w20.cell? ⟨gb276, 1, none⟩ = some (.int .i64 0) := (blk_cell BK276.out 1).trans rfl; have hfz21_0 := blk_frozen BK276.out 0; have hfz21_1 := blk_frozen BK276.out 1)))
                  go_roundg k1
                  case measure => have := HK1.out; omega
                  case rel => exact ⟨(wrap64 (x7_1 + 1)), (by first | rfl | (simp; done) | (simp [*]; done)), H', ⟨by have := HK1.out; omega⟩, ⟨by repeat (first | (with_reducible first | exact HB.out | apply below_alloc | apply pw_below_drewN | apply below_drew1 | refine below_set ?_ GE276.out) | exact HB.out)⟩⟩
          · rw [if_neg c4] at H
            exact absurd H (by simp)
        · rw [if_neg c3] at H
          exact absurd H (by simp)
      · rw [if_neg c2] at H
        have c2b0 : decide (x7_1 < (l0.length : Int)) = false := decide_eq_false c2
        clear c2
        obtain rfl := Option.some.inj H
        go_wp2
        repeat (go_quiet (fail); try go_wp2)
        go_ret
        exact ⟨by first | rfl | (simp [errW_none, errW_some] <;> rfl) | (simp [*, errW_none, errW_some] <;> rfl), by repeat (first | (with_reducible first | exact HB.out | apply below_alloc | apply pw_below_drewN | apply below_drew1) | exact HB.out)⟩
end Go.Proofs.YtpnhelcemodnmaaGreat.PA
namespace Go.Proofs.YtpnhelcemodnmaaGreat
open Go.RowKit Go.Shelf Go.Proofs.YtpnhelcemodnmaaGreatW.PrintWords Go.Proofs.YtpnhelcemodnmaaGreatW.PrintLast Go.Proofs.YtpnhelcemodnmaaGreatW.PrintMore PA
set_option linter.unusedVariables false
set_option linter.unusedSimpArgs false
theorem same_l0 (a b : List Int) (hl : a.length = b.length) (hm : a.length ≤ 1000000) (d : Nat) : ∀ i : Nat, i ≤ a.length → a.length - i = d → a.take i = b.take i → understoryref04_SameInts.l0 (d + 1) a b (i : Int) = some (decide (a = b)) := by
  induction d with
  | zero =>
    intro i h1 h2 h3
    obtain rfl : i = a.length := by omega
    rw [List.take_length, hl, List.take_length] at h3
    simp only [understoryref04_SameInts.l0]
    rw [if_neg (by omega)]
    simp [h3]
  | succ d ih =>
    intro i h1 h2 h3
    have ha : i < a.length := by omega
    have hb : i < b.length := by omega
    simp only [understoryref04_SameInts.l0]
    rw [if_pos (by omega), if_pos (by omega), if_pos (by omega), rd_at a i ha, rd_at b i hb]
    by_cases c : a[i] = b[i]
    · first | rw [if_neg (by simpa using c)] | rw [if_pos c]
      rw [wrapp i (by omega)]
      refine ih (i + 1) (by omega) (by omega) ?_
      rw [List.take_succ_eq_append_getElem ha, List.take_succ_eq_append_getElem hb, h3, c]
    · first | rw [if_pos c] | rw [if_neg c]
      have : ¬ a = b := fun e => c (by subst e; rfl)
      simp [this]
theorem sameInts_any (a b : List Int) (A B : Option Addr) (c d : Nat) (w : World) (hA : (Kd.int .i64).C w A a.length a) (hc : a.length ≤ c) (hB : (Kd.int .i64).C w B b.length b) (hd : b.length ≤ d) (hm : a.length ≤ 1000000) :
    Calls Tryz.prog 31 #[.slice A a.length c, .slice B b.length d] w fun e w' => e = .returned (.bool (decide (a = b))) ∧ Drawn0 w w' := by
  refine understoryref04_SameInts.calls (a.length - 0 + 1) A c a B d b _ w hA hc hB hd ?_
  unfold understoryref04_SameInts.f
  by_cases h : a.length = b.length
  · rw [if_pos (by omega)]
    exact same_l0 a b h hm _ 0 (Nat.zero_le _) rfl rfl
  · rw [if_neg (by omega)]
    have : ¬ a = b := fun e => h (by rw [e])
    simp [this]
theorem same_more (a b : List Int) (r : Bool) (k e : Nat) (h : understoryref04_SameInts.f k a b = some r) : understoryref04_SameInts.f (k + e) a b = some r := by
  induction e with
  | zero => exact h
  | succ e ih => exact understoryref04_SameInts.mono a b (k + e) r ih
theorem sameInts_some (a b : List Int) (hm : a.length ≤ 1000000) (K : Nat) (hK : a.length + 1 ≤ K) : understoryref04_SameInts.f K a b = some (decide (a = b)) := by
  obtain ⟨e, rfl⟩ : ∃ e, K = a.length + 1 + e := ⟨K - (a.length + 1), by omega⟩
  refine same_more a b _ _ e ?_
  unfold understoryref04_SameInts.f
  by_cases h : a.length = b.length
  · rw [if_pos (by omega)]
    exact same_l0 a b h hm _ 0 (Nat.zero_le _) rfl rfl
  · rw [if_neg (by omega)]
    have : ¬ a = b := fun e => h (by rw [e])
    simp [this]
theorem s64_ext {x y : S64} (h0 : x.f0 = y.f0) (h1 : x.f1 = y.f1) : x = y := by cases x; cases y; simp at h0 h1; rw [h0, h1]
instance : DecidableEq S64 := fun x y => if h : x.f0 = y.f0 ∧ x.f1 = y.f1 then .isTrue (s64_ext h.1 h.2) else .isFalse fun e => h (by rw [e]; exact ⟨rfl, rfl⟩)
theorem sameF_l0 (M : Nat) (hM : 1000001 ≤ M) (a b : List S64) (hl : a.length = b.length) (hm : a.length ≤ 1000000) (hs : ∀ f ∈ a, f.f1.length ≤ 1000000) (d : Nat) : ∀ i : Nat, i ≤ a.length → a.length - i = d → a.take i = b.take i → understoryref04_SameFreed.l0 (M + d + 1) a b (i : Int) = some (decide (a = b)) := by
  induction d with
  | zero =>
    intro i h1 h2 h3
    obtain rfl : i = a.length := by omega
    rw [List.take_length, hl, List.take_length] at h3
    simp only [understoryref04_SameFreed.l0]
    rw [if_neg (by omega)]
    simp [h3]
  | succ d ih =>
    intro i h1 h2 h3
    have ha : i < a.length := by omega
    have hb : i < b.length := by omega
    have hsi := hs _ (List.getElem_mem ha)
    simp only [understoryref04_SameFreed.l0]
    rw [if_pos (by omega), if_pos (by omega), if_pos (by omega), rd_nat a i ha, rd_nat b i hb]
    by_cases c : a[i].f0 = b[i].f0
    · rw [if_pos c, sameInts_some a[i].f1 b[i].f1 hsi _ (by omega)]
      simp only [Option.bind_some]
      by_cases c2 : a[i].f1 = b[i].f1
      · rw [if_pos (by simpa using c2), wrapp i (by omega)]
        refine ih (i + 1) (by omega) (by omega) ?_
        rw [List.take_succ_eq_append_getElem ha, List.take_succ_eq_append_getElem hb, h3, s64_ext c c2]
      · rw [if_neg (by simpa using c2)]
        have : ¬ a = b := fun e => c2 (by subst e; rfl)
        simp [this]
    · rw [if_neg c]
      have : ¬ a = b := fun e => c (by subst e; rfl)
      simp [this]
theorem sameFreed_any (a b : List S64) (A B : Option Addr) (c d : Nat) (w : World) (hA : k64.C w A a.length a) (hc : a.length ≤ c) (hB : k64.C w B b.length b) (hd : b.length ≤ d) (hs : smallL a) :
    Calls Tryz.prog 18 #[.slice A a.length c, .slice B b.length d] w fun e w' => e = .returned (.bool (decide (a = b))) ∧ Drawn0 w w' := by
  refine understoryref04_SameFreed.calls (1000001 + (a.length - 0) + 1) A c a B d b _ w hA hc hB hd ?_
  unfold understoryref04_SameFreed.f
  by_cases h : a.length = b.length
  · rw [if_pos (by omega)]
    exact sameF_l0 1000001 (Nat.le_refl _) a b h hs.1 (small_each hs) _ 0 (Nat.zero_le _) rfl rfl
  · rw [if_neg (by omega)]
    have : ¬ a = b := fun e => h (by rw [e])
    simp [this]
end Go.Proofs.YtpnhelcemodnmaaGreat
namespace Go.Proofs.YtpnhelcemodnmaaGreat.PA
open Go.RowKit Go.Proofs.YtpnhelcemodnmaaGreatW.PrintWords Go.Proofs.YtpnhelcemodnmaaGreatW.PrintLast Go.Proofs.YtpnhelcemodnmaaGreatW.PrintMore
attribute [local go_sem] max2_int min2_int max_two min_two max_three min_three max_four min_four
set_option linter.unusedVariables false
set_option linter.unusedSimpArgs false
def understoryref12_once.l0 : Nat → List Int → Int → Int → Option (Bool)
  | 0, _, _, _ => none
  | k + 1, x0, x1, x5 => if x5 < (x0.length : Int) then (if 0 ≤ x5 then (if (rd x0 x5) < 2 then (some false) else (if (rd x0 x5) ≥ x1 then (some false) else (if x5 > 0 then (if 0 ≤ (wrap64 (x5 - 1)) then (if (wrap64 (x5 - 1)) < (x0.length : Int) then (if (rd x0 x5) ≤ (rd x0 (wrap64 (x5 - 1))) then (some false) else (understoryref12_once.l0 k x0 x1 (wrap64 (x5 + 1)))) else (none)) else (none)) else (understoryref12_once.l0 k x0 x1 (wrap64 (x5 + 1)))))) else (none)) else (some true)
def understoryref12_once.f (k : Nat) (l0 : List Int) (a1 : Int) : Option (Bool) := understoryref12_once.l0 k l0 a1 0
theorem understoryref12_once.mono_l : ∀ k, (∀ y0 y1 y2, LeO (understoryref12_once.l0 k y0 y1 y2) (understoryref12_once.l0 (k + 1) y0 y1 y2))
  | 0 => fun _ _ _ r h => by simp [understoryref12_once.l0] at h
  | k + 1 => by
    have ih0 := understoryref12_once.mono_l k
    · intro y0 y1 y2
      unfold understoryref12_once.l0
      repeat' first
      | (with_reducible exact ih0 _ _ _)
      | (with_reducible exact LeO.refl _)
      | (with_reducible exact LeO.none _)
      | (with_reducible refine LeO.ite ?_ ?_)
      | (with_reducible refine LeO.bind ?_ (fun _ => ?_))
      | exact ih0 _ _ _
      | exact LeO.none _
      | refine LeO.ite ?_ ?_
      | refine LeO.bind ?_ (fun _ => ?_)
theorem understoryref12_once.mono : ∀ a0 a1 k, LeO (understoryref12_once.f k a0 a1) (understoryref12_once.f (k + 1) a0 a1) := by
  intro a0 a1 k
  have ih0 := understoryref12_once.mono_l k
  unfold understoryref12_once.f
  repeat' first
      | (with_reducible exact ih0 _ _ _)
      | (with_reducible exact LeO.refl _)
      | (with_reducible exact LeO.none _)
      | (with_reducible refine LeO.ite ?_ ?_)
      | (with_reducible refine LeO.bind ?_ (fun _ => ?_))
      | exact ih0 _ _ _
      | exact LeO.none _
      | refine LeO.ite ?_ ?_
      | refine LeO.bind ?_ (fun _ => ?_)
mutual
def understoryref12_apart.l0 : Nat → List (S64) → List Bool → List Int → Int → Option (Bool)
  | 0, _, _, _, _ => none
  | k + 1, x2, x9, x10, x11 => if x11 < (x2.length : Int) then (if 0 ≤ x11 then (if x10.length + ((rd_T64 x2 x11).f1).length < 17592186044416 then (understoryref12_apart.l0 k x2 x9 (x10 ++ ((rd_T64 x2 x11).f1)) (wrap64 (x11 + 1))) else (none)) else (none)) else (understoryref12_apart.l1 k x9 x10 0)
def understoryref12_apart.l1 : Nat → List Bool → List Int → Int → Option (Bool)
  | 0, _, _, _ => none
  | k + 1, x9, x10, x12 => if x12 < (x10.length : Int) then (if 0 ≤ x12 then (if 0 ≤ (rd x10 x12) then (if (rd x10 x12) < (x9.length : Int) then (if rdOf false x9 (rd x10 x12) = true then (some false) else (understoryref12_apart.l1 k (x9.set ((rd x10 x12) : Int).toNat true) x10 (wrap64 (x12 + 1)))) else (none)) else (none)) else (none)) else (some true)
end
def understoryref12_apart.f (k : Nat) (l0 : List Int) (l1 : List Int) (l2 : List (S64)) (a3 : Int) : Option (Bool) := if 0 ≤ a3 then (if (a3 : Int).toNat ≤ 281474976710656 then ((some (([] : List Int) : List Int)).bind fun y317 => (if y317.length + l0.length < 17592186044416 then ((some (y317 ++ l0 : List Int)).bind fun y320 => (if y320.length + l1.length < 17592186044416 then (understoryref12_apart.l0 k l2 (List.replicate (a3 : Int).toNat false) (y320 ++ l1) 0) else (none))) else (none))) else (none)) else (none)
theorem understoryref12_apart.mono_l : ∀ k, (∀ y0 y1 y2 y3, LeO (understoryref12_apart.l0 k y0 y1 y2 y3) (understoryref12_apart.l0 (k + 1) y0 y1 y2 y3)) ∧ (∀ y0 y1 y2, LeO (understoryref12_apart.l1 k y0 y1 y2) (understoryref12_apart.l1 (k + 1) y0 y1 y2))
  | 0 => ⟨fun _ _ _ _ r h => by simp [understoryref12_apart.l0] at h, fun _ _ _ r h => by simp [understoryref12_apart.l1] at h⟩
  | k + 1 => by
    obtain ⟨ih0, ih1⟩ := understoryref12_apart.mono_l k
    refine ⟨?_, ?_⟩
    · intro y0 y1 y2 y3
      unfold understoryref12_apart.l0
      repeat' first
      | (with_reducible exact ih0 _ _ _ _)
      | (with_reducible exact ih1 _ _ _)
      | (with_reducible exact LeO.refl _)
      | (with_reducible exact LeO.none _)
      | (with_reducible refine LeO.ite ?_ ?_)
      | (with_reducible refine LeO.bind ?_ (fun _ => ?_))
      | exact ih0 _ _ _ _
      | exact ih1 _ _ _
      | exact LeO.none _
      | refine LeO.ite ?_ ?_
      | refine LeO.bind ?_ (fun _ => ?_)
    · intro y0 y1 y2
      unfold understoryref12_apart.l1
      repeat' first
      | (with_reducible exact ih0 _ _ _ _)
      | (with_reducible exact ih1 _ _ _)
      | (with_reducible exact LeO.refl _)
      | (with_reducible exact LeO.none _)
      | (with_reducible refine LeO.ite ?_ ?_)
      | (with_reducible refine LeO.bind ?_ (fun _ => ?_))
      | exact ih0 _ _ _ _
      | exact ih1 _ _ _
      | exact LeO.none _
      | refine LeO.ite ?_ ?_
      | refine LeO.bind ?_ (fun _ => ?_)
theorem understoryref12_apart.mono : ∀ a0 a1 a2 a3 k, LeO (understoryref12_apart.f k a0 a1 a2 a3) (understoryref12_apart.f (k + 1) a0 a1 a2 a3) := by
  intro a0 a1 a2 a3 k
  obtain ⟨ih0, ih1⟩ := understoryref12_apart.mono_l k
  unfold understoryref12_apart.f
  repeat' first
      | (with_reducible exact ih0 _ _ _ _)
      | (with_reducible exact ih1 _ _ _)
      | (with_reducible exact LeO.refl _)
      | (with_reducible exact LeO.none _)
      | (with_reducible refine LeO.ite ?_ ?_)
      | (with_reducible refine LeO.bind ?_ (fun _ => ?_))
      | exact ih0 _ _ _ _
      | exact ih1 _ _ _
      | exact LeO.none _
      | refine LeO.ite ?_ ?_
      | refine LeO.bind ?_ (fun _ => ?_)
def understoryref12_with.l0 : Nat → List Int → Int → List Int → Int → Option (List Int)
  | 0, _, _, _, _ => none
  | k + 1, x0, x1, x5, x6 => if x6 < (x0.length : Int) then (if 0 ≤ x6 then (if (rd x0 x6) < x1 then (if x5.length < 17592186044416 then (understoryref12_with.l0 k x0 x1 (x5 ++ [rd x0 x6]) (wrap64 (x6 + 1))) else (none)) else (if x5.length < 17592186044416 then ((some (x5 ++ [x1] : List Int)).bind fun y339 => (if x6 ≤ (x0.length : Int) then (if y339.length + (x0.drop (x6 : Int).toNat).length < 17592186044416 then (some (y339 ++ (x0.drop (x6 : Int).toNat))) else (none)) else (none))) else (none))) else (none)) else (if x5.length < 17592186044416 then ((some (x5 ++ [x1] : List Int)).bind fun y346 => (if 0 ≤ x6 then (if x6 ≤ (x0.length : Int) then (if y346.length + (x0.drop (x6 : Int).toNat).length < 17592186044416 then (some (y346 ++ (x0.drop (x6 : Int).toNat))) else (none)) else (none)) else (none))) else (none))
def understoryref12_with.f (k : Nat) (l0 : List Int) (a1 : Int) : Option (List Int) := understoryref12_with.l0 k l0 a1 ([] : List Int) 0
theorem understoryref12_with.mono_l : ∀ k, (∀ y0 y1 y2 y3, LeO (understoryref12_with.l0 k y0 y1 y2 y3) (understoryref12_with.l0 (k + 1) y0 y1 y2 y3))
  | 0 => fun _ _ _ _ r h => by simp [understoryref12_with.l0] at h
  | k + 1 => by
    have ih0 := understoryref12_with.mono_l k
    · intro y0 y1 y2 y3
      unfold understoryref12_with.l0
      repeat' first
      | (with_reducible exact ih0 _ _ _ _)
      | (with_reducible exact LeO.refl _)
      | (with_reducible exact LeO.none _)
      | (with_reducible refine LeO.ite ?_ ?_)
      | (with_reducible refine LeO.bind ?_ (fun _ => ?_))
      | exact ih0 _ _ _ _
      | exact LeO.none _
      | refine LeO.ite ?_ ?_
      | refine LeO.bind ?_ (fun _ => ?_)
theorem understoryref12_with.mono : ∀ a0 a1 k, LeO (understoryref12_with.f k a0 a1) (understoryref12_with.f (k + 1) a0 a1) := by
  intro a0 a1 k
  have ih0 := understoryref12_with.mono_l k
  unfold understoryref12_with.f
  repeat' first
      | (with_reducible exact ih0 _ _ _ _)
      | (with_reducible exact LeO.refl _)
      | (with_reducible exact LeO.none _)
      | (with_reducible refine LeO.ite ?_ ?_)
      | (with_reducible refine LeO.bind ?_ (fun _ => ?_))
      | exact ih0 _ _ _ _
      | exact LeO.none _
      | refine LeO.ite ?_ ?_
      | refine LeO.bind ?_ (fun _ => ?_)
end Go.Proofs.YtpnhelcemodnmaaGreat.PA
namespace Go.Proofs.YtpnhelcemodnmaaGreat
open Go.RowKit Go.Shelf Go.Proofs.YtpnhelcemodnmaaGreatW.PrintWords Go.Proofs.YtpnhelcemodnmaaGreatW.PrintLast Go.Proofs.YtpnhelcemodnmaaGreatW.PrintMore PA
set_option linter.unusedVariables false
set_option linter.unusedSimpArgs false
attribute [local go_sem] Oper.semAt_some
theorem N_tight {α : Type} {d : Kd α} {e : Nat} {W : World} {base g n cap : Nat} {ok ok' : Nat → Prop} {xs : List α} (z : α) (h : Kd.N d e W base ok (.slice (some ⟨g, 0, none⟩) n cap) xs) (hg : ok' g)
    (hf : ∀ j, j < xs.length → ∀ c : List Value, c.length = d.sz → (∀ i u, c[i]? = some u → W.cell? ⟨g, j * d.sz + i, none⟩ = some u) → Kd.FK d W (fun k => ok' k ∧ k ≠ g) (xs.getD j z) c) : Kd.N d e W base ok' (.slice (some ⟨g, 0, none⟩) n cap) xs := by
  have hn := (Kd.N_reads' h).1
  obtain ⟨h0, rows, hl, hR, _⟩ := h
  refine ⟨fun k hk => ?_, rows, hl, hR, fun j x c hx hc => ?_⟩
  · have : g = k := by simpa [Value.ownBlock] using hk
    exact this ▸ hg
  · have hj : j < xs.length := (List.getElem?_eq_some_iff.1 hx).1
    obtain ⟨c', hcl, hM, hcc, _⟩ := Kd.R_elem hR [] (j : Int) (by omega) (by omega)
    rw [Int.toNat_natCast] at hM hcc
    have hcr : c' = c := by
      have h2 := hM.1
      rw [List.getD_eq_getElem?_getD, hc] at h2
      exact h2
    subst hcr
    have := hf j hj c' hcl hcc
    rw [List.getD_eq_getElem?_getD, hx] at this
    exact Kd.FK_mono this fun k hk => ⟨hk.1, fun e => hk.2 (by simpa [Value.ownBlock] using e)⟩
def NewTo (W : World) (g base k : Nat) (ms : List S64) : Prop := ∀ j, j < k → ∀ c : List Value, c.length = 2 → (∀ i u, c[i]? = some u → W.cell? ⟨g, j * 2 + i, none⟩ = some u) → Kd.FK k64 W (fun q => base ≤ q ∧ q ≠ g) (ms.getD j z64) c
theorem NewTo.below {W W1 : World} {g base k : Nat} {ms : List S64} (h : NewTo W g base k ms) (hg : g < W.heap.size) (hb : Below W.heap.size W W1) : NewTo W1 g base k ms := by
  intro j hj c hcl hcc
  refine Kd.FK_below (h j hj c hcl fun i u hu => ?_) hb
  have := hcc i u hu
  unfold World.cell? at this ⊢
  rw [hb.block g hg] at this
  exact this
theorem NewTo.store {W : World} {g base k : Nat} {ms : List S64} {A : Option Addr} {c : Nat} (h : NewTo W g base k ms) (hk : k < ms.length) (hN : Kd.FK k64 W (fun q => base ≤ q ∧ q ≠ g) (rd_T64 ms (k : Int)) [.int .i64 (rd_T64 ms (k : Int)).f0, .slice A (rd_T64 ms (k : Int)).f1.length c])
    (h0 : W.cell? ⟨g, k * 2, none⟩ = some (.int .i64 (rd_T64 ms (k : Int)).f0)) (h1 : ∃ u, W.cell? ⟨g, k * 2 + 1, none⟩ = some u) (hz : W.frozen? ⟨g, k * 2 + 1, none⟩ = false) : NewTo (W.setCell ⟨g, k * 2 + 1, none⟩ (.slice A (rd_T64 ms (k : Int)).f1.length c)) g base (k + 1) ms := by
  have hgr : ∀ q, (base ≤ q ∧ q ≠ g) → q < W.heap.size → (W.setCell ⟨g, k * 2 + 1, none⟩ (.slice A (rd_T64 ms (k : Int)).f1.length c)).heap[q]? = W.heap[q]? := fun q hq _ => Below.heap_setCell W ⟨g, k * 2 + 1, none⟩ _ q hq.2
  intro j hj c' hcl hcc
  by_cases e : j = k
  · subst e
    have e0 := hcc 0
    have e1 := hcc 1
    match c', hcl with
    | [a, b], _ =>
      have a0 := e0 a rfl
      have a1 := e1 b rfl
      rw [World.cell?_setCell_other (h := by simp), Nat.add_zero, h0] at a0
      obtain ⟨u, hu⟩ := h1
      rw [World.cell?_setCell_same (h := hu)] at a1
      injection a0 with a0
      injection a1 with a1
      subst a0 a1
      exact Kd.FK_step hN hgr
  · refine Kd.FK_step (h j (by omega) c' hcl fun i u hu => ?_) hgr
    have := hcc i u hu
    have hi : i < 2 := by rw [← hcl]; exact (List.getElem?_eq_some_iff.1 hu).1
    rwa [World.cell?_setCell_other (h := by intro e2; injection e2 with _ e2 _; omega)] at this
set_option maxRecDepth 100000 in
set_option maxHeartbeats 4000000 in
theorem together_new (la lb : List S64) (A : Option Addr) (ca : Nat) (B : Option Addr) (cb : Nat) (w : World) (hA : k64.C w A la.length la) (hca : la.length ≤ ca) (hB : k64.C w B lb.length lb) (hcb : lb.length ≤ cb) (ha : smallL la) (hb : smallL lb) :
    Calls Tryz.prog 56 #[.slice A la.length ca, .slice B lb.length cb] w fun e w' => ∃ v, e = .returned v ∧ Kd.N k64 64 w' w.heap.size (fun q => w.heap.size ≤ q) v (mergeL la lb) ∧ Below w.heap.size w w' := by
  have HMM := Aside0.mk (merged_any la lb A ca B cb w hA hca hB hcb ha hb)
  have hpg : (pagesOf (mergeL la lb)).length ≤ 2000000 := by rw [merge_pages]; have := ha.2; have := hb.2; omega
  have hln := merge_length la lb
  obtain ⟨ms, hms⟩ : ∃ ms, mergeL la lb = ms := ⟨_, rfl⟩
  rw [hms] at HMM hpg hln ⊢
  clear hms hA hB
  have hml : ms.length ≤ 2000000 := by have := ha.1; have := hb.1; omega
  clear hln
  go_enter Tryz.func56, Tryz.ntmps56
  go_wp2_with (go_at_call 102; (with_reducible refine HMM.out.mono ?_); rintro e w1 ⟨v, rfl, hv, hb1⟩; obtain ⟨O, co, rfl⟩ := Kd.N_slice hv)
  have HV := Aside0.mk hv
  have HW := Aside0.mk hb1
  clear hv hb1
  go_loopw [12] (fun i wr => ∃ k : Nat, k ≤ ms.length ∧ i = .int .i64 k ∧ Aside0 (Kd.N k64 64 wr w.heap.size (fun _ => True) (.slice O ms.length co) ms) ∧ Aside0 (∀ g, (Value.slice O ms.length co).ownBlock = some g → NewTo wr g w.heap.size k ms) ∧ Aside0 (Below w.heap.size w wr))
    (fun i _ => ms.length - (intOf i).toNat)
  case atStart => exact ⟨0, Nat.zero_le _, rfl, HV, ⟨fun g _ j hj => absurd hj (Nat.not_lt_zero j)⟩, HW⟩
  case round =>
    obtain ⟨k, hk, rfl, HN, HT, HB⟩ := hrel
    clear HV HW
    by_cases hlt : k < ms.length
    · obtain ⟨g, cap, e, hg1, hg2, -⟩ := Kd.N_form HN.out (by omega)
      injection e with e1 e2 e3
      subst e1 e3
      have HT1 := Aside0.mk (HT.out g (by simp [Value.ownBlock]))
      have HG2 := Aside0.mk hg2
      clear HT
      obtain ⟨cs, hcl, hFK, hcc, hff⟩ := Kd.N_elem HN.out z64 (k : Int) (by omega) (by omega)
      rw [show ms.getD (k : Int).toNat z64 = rd_T64 ms (k : Int) from rfl] at hFK
      obtain ⟨A1, c1, rfl, hl1, hF1⟩ := k64_openF hFK
      have hx1 : wr.cell? ⟨g, k * 2 + 1, none⟩ = some (.slice A1 (rd_T64 ms (k : Int)).f1.length c1) := hcc 1 _ rfl
      have hel : ms[k]? = some (rd_T64 ms (k : Int)) := by rw [rd_nat ms k hlt]; exact List.getElem?_eq_getElem hlt
      have hgl : (rd_T64 ms (k : Int)).f1.length ≤ 2000000 := by
        have h1 := pages_take_le ms (k + 1)
        rw [take_rd ms k hlt, pages_append, List.length_append, pages_one] at h1
        omega
      obtain ⟨x, hx⟩ : ∃ x, rd_T64 ms (k : Int) = x := ⟨_, rfl⟩
      rw [hx] at hFK hx1 hel hgl hF1 hcc hl1
      have HEL := Lib.hid hel
      have HXX := Lib.hid hx
      have HCC := Aside0.mk hcc
      have HFF := Aside0.mk hff
      have HX := Aside0.mk (cloneInt x.f1 A1 c1 wr (Kd.F_now hF1) (by omega))
      clear hx hel hFK hF1 hcc
      have h23 : (Tryz.prog.info? 23).map (·.size) = some 1 := by kernel_rfl
      have hk0 : (0 : Int) ≤ (k : Int) := by omega
      have hk1 : (k : Int) < (ms.length : Int) := by omega
      have hz1 := hff 1
      have HZ1 := Aside0.mk hff
      go_upto_region 6 with (go_at_call 96; (with_reducible refine HX.out.mono ?_); rintro e w2 ⟨cv, rfl, hcv, hcb2⟩; obtain ⟨cA, cc, rfl⟩ := Kd.R_slice hcv; have HCV := Aside0.mk hcv; have HN2 := Aside0.mk (Kd.N_below HN.out hcb2); have HB2 := Aside0.mk (HB.out.trans (hcb2.mono HB.out.size)); have HC2 := Aside0.mk (fun j u h => cellB hcb2 (Nat.le_refl _) (HCC.out j u h)); have HT2 := Aside0.mk (HT1.out.below HG2.out hcb2); clear hcv hcb2; have hx2 : w2.cell? ⟨g, k * 2 + 1, none⟩ = some (.slice A1 x.f1.length c1) := HC2.out 1 _ rfl; have hz2 : w2.frozen? ⟨g, k * 2 + 1, none⟩ = false := (by obtain ⟨_, _, _, _, hz⟩ := Kd.N_elem HN2.out z64 (k : Int) hk0 hk1; exact hz 1))
      obtain ⟨hN3, hG3⟩ := Kd.N_seg HN2.out (k : Int) hk0 hk1 (c := [.int .i64 x.f0, .slice A1 x.f1.length c1]) (seg := [.slice cA x.f1.length cc]) (j := 1) rfl HC2.out (Nat.le_refl 2) (x' := x) (k64_mkF w2 _ x (Kd.R_reads' HCV.out).2.1 (Kd.R_F (Kd.R_mono (Kd.R_bound HCV.out) (fun q hq => hq.2.1)))) (fun q hq => ⟨trivial, fun e => by have h3 : wr.heap.size ≤ q := hq; have := HG2.out; omega⟩)
      rw [Int.toNat_natCast, set_self ms k x HEL.out] at hN3
      have hN4 : Kd.N k64 64 (w2.setCell ⟨g, k * 2 + 1, none⟩ (.slice cA x.f1.length cc)) w.heap.size (fun _ => True) (.slice (some ⟨g, 0, none⟩) ms.length co) ms := hN3
      have hT4 := HT2.out.store (A := cA) (c := cc) hlt (by rw [HXX.out]; exact k64_mkF w2 _ x (Kd.R_reads' HCV.out).2.1 (Kd.F_mono (Kd.R_F (Kd.R_mono (Kd.R_bound HCV.out) (fun q hq => hq.2.1))) (fun q hq => ⟨Nat.le_trans HB.out.size hq, fun e => by have := HG2.out; omega⟩))) (by rw [HXX.out]; exact HC2.out 0 _ rfl) ⟨_, hx2⟩ hz2
      rw [HXX.out] at hT4
      have HN4 := Aside0.mk hN4
      have HT4 := Aside0.mk hT4
      have HB4 := Aside0.mk (HB2.out.setCell (p := ⟨g, k * 2 + 1, none⟩) hg1 (.slice cA x.f1.length cc))
      clear hN3 hG3 hN4 hT4 hx2 hz2 hx1 hz1
      go_wp2
      go_roundw
      case rel => exact ⟨k + 1, by omega, by go_num, ⟨HN4.out⟩, ⟨fun g' hg' => by obtain rfl : g = g' := (by simpa [Value.ownBlock] using hg'); exact HT4.out⟩, ⟨HB4.out⟩⟩
      case measure => simp [intOf]; omega
    · obtain rfl : k = ms.length := by omega
      go_wp2
      go_ret
      refine ⟨_, rfl, ?_, HB.out⟩
      by_cases h0 : 0 < ms.length
      · obtain ⟨g, cap, e, hg1, hg2, -⟩ := Kd.N_form HN.out h0
        injection e with e1 e2 e3
        subst e1 e3
        exact N_tight z64 HN.out hg1 fun j hj c hcl hcc => HT.out g (by simp [Value.ownBlock]) j hj c hcl hcc
      · have hm0 : ms = [] := List.length_eq_zero_iff.1 (by omega)
        obtain ⟨h1, rows, h2, h3, h4⟩ := HN.out
        subst hm0
        refine ⟨fun q hq => Kd.N_base HN.out q hq, rows, h2, h3, fun j x c hx => by simp at hx⟩
structure Turned (g : Nat) (w w' : World) : Prop where
  below : Below g w w'
  keep : KeepBut w w' g none
theorem Turned.of_below {g : Nat} {w w' : World} (h : Below w.heap.size w w') (hg : g < w.heap.size) : Turned g w w' := ⟨h.mono (Nat.le_of_lt hg), ⟨h.size, fun i hi _ _ => h.block i hi⟩⟩
theorem Turned.refl (g : Nat) (w : World) : Turned g w w := ⟨Below.refl _ _, ⟨Nat.le_refl _, fun _ _ _ _ => rfl⟩⟩
theorem Turned.size {g : Nat} {w w' : World} (h : Turned g w w') : w.heap.size ≤ w'.heap.size := h.keep.1
theorem Turned.trans {g : Nat} {w w1 w2 : World} (h : Turned g w w1) (h2 : Turned g w1 w2) : Turned g w w2 :=
  ⟨h.below.trans h2.below, ⟨Nat.le_trans h.keep.1 h2.keep.1, fun i hi hn hr => by rw [h2.keep.2 i (by have := h.keep.1; omega) hn hr, h.keep.2 i hi hn hr]⟩⟩
theorem Turned.set {g : Nat} {w w' : World} (h : Turned g w w') (j : Nat) (u : Value) : Turned g w (w'.setCell ⟨g, j, none⟩ u) :=
  h.trans ⟨(Below.refl g w').setCell (p := ⟨g, j, none⟩) (Nat.le_refl _) u, ⟨by simp, fun i hi hn _ => Below.heap_setCell w' ⟨g, j, none⟩ u i hn⟩⟩
theorem Turned.F {α : Type} {d : Kd α} {g : Nat} {ok : Nat → Prop} {w w' : World} {A : Option Addr} {n : Nat} {xs : List α} (h : Turned g w w') (hok : ∀ k, ok k → k ≠ g) (hF : Kd.F d w ok A n xs) : Kd.F d w' ok A n xs :=
  Kd.F_step hF fun k hk hlt => h.keep.2 k hlt (hok k hk) (by simp)
theorem Turned.N {α : Type} {d : Kd α} {g e base : Nat} {ok : Nat → Prop} {w w' : World} {v : Value} {xs : List α} (h : Turned g w w') (hok : ∀ k, ok k → k ≠ g) (hN : Kd.N d e w base ok v xs) : Kd.N d e w' base ok v xs :=
  Kd.N_step hN fun k hk hlt => h.keep.2 k hlt (hok k hk) (by simp)
def okA (g : Nat) (P : Value) (k : Nat) : Prop := k ≠ g ∧ some k ≠ P.ownBlock
theorem Turned.blk {g h : Nat} {w w' : World} {o : Obj} (ht : Turned g w w') (hn : h ≠ g) (hb : w.heap[h]? = some o) : w'.heap[h]? = some o := (ht.keep.2 h (blk_lt hb) hn (by simp)).trans hb
def AccL (w : World) (g : Nat) (P : Value) (l : List S64) : Prop := ∃ A c, w.heap[g]? = some (.cells #[P, .slice A l.length c] 102 (0, 0)) ∧ l.length ≤ c ∧ Kd.F k64 w (okA g P) A l.length l
theorem AccL.below {w w' : World} {g : Nat} {P : Value} {l : List S64} (h : AccL w g P l) (hb : Below w.heap.size w w') : AccL w' g P l := by
  obtain ⟨A, c, h1, h2, h3⟩ := h
  exact ⟨A, c, blk_below h1 hb, h2, Kd.F_below h3 hb⟩
theorem AccL.lt {w : World} {g : Nat} {P : Value} {l : List S64} (h : AccL w g P l) : g < w.heap.size := by
  obtain ⟨A, c, h1, _⟩ := h
  exact blk_lt h1
theorem AccL.put {w : World} {g : Nat} {P : Value} {l l' : List S64} {A : Option Addr} {c base : Nat} {ok : Nat → Prop} (h : AccL w g P l) (hN : Kd.N k64 64 w base ok (.slice A l'.length c) l') (hok : ∀ k, ok k → okA g P k) : AccL (w.setCell ⟨g, 1, none⟩ (.slice A l'.length c)) g P l' := by
  obtain ⟨A0, c0, h1, _, _⟩ := h
  have hF := Kd.N_F hN
  exact ⟨A, c, blk_put h1 1 _ rfl, (Kd.N_reads' hN).2.1, Kd.F_far (Kd.F_mono hF hok) (fun k hk => hk.1) _⟩
set_option maxRecDepth 100000 in
set_option maxHeartbeats 1000000 in
theorem cloneFreedF (l : List S64) (A : Option Addr) (c : Nat) (w : World) (ok : Nat → Prop) (hF : Kd.F k64 w ok A l.length l) (hg : ∀ k, w.heap.size ≤ k → ok k) (hn : l.length * 32 ≤ 140737488355328) :
    Calls Tryz.prog 98 #[.slice A l.length c] w fun e w' => ∃ v, e = .returned v ∧ Kd.N k64 64 w' w.heap.size ok v l ∧ Below w.heap.size w w' := by
  cases A with
  | none =>
    obtain rfl := none_nil (Kd.F_now hF)
    refine (Tryz.slices_Clone98_nil _ _ w).mono ?_
    rintro e w' ⟨rfl, rfl⟩
    exact ⟨_, rfl, Kd.N_nil _ _ _ _ _, Below.refl _ _⟩
  | some ad =>
    have hF2 := Kd.F_below (Kd.F_bound hF) (below_alloc1 w (.cells #[] 64))
    have hz := Kd.R_N (Kd.R_mono (ok' := ok) (Kd.R_bound (R_z k64 64 w)) (fun k hk => hg k hk.2.1))
    have hne : ∀ k, (ok k ∧ k < w.heap.size) → ok k ∧ some k ≠ (Value.slice (some ⟨w.heap.size, 0, none⟩) 0 0).ownBlock := fun k hk => ⟨hk.1, fun e => by have := hk.2; simp [Value.ownBlock] at e; omega⟩
    have hsz : w.heap.size ≤ (w.alloc (.cells #[] 64)).heap.size := by simp
    have hfr : ∀ k, (w.alloc (.cells #[] 64)).heap.size ≤ k → ok k := fun k hk => hg k (by simp at hk; omega)
    have hn2 : (([] : List S64).length + l.length) * 32 ≤ 140737488355328 := by simpa using hn
    have q : ∀ (w : World) (n c : Nat), (binOp .eql 26 (.slice (some ad) n c) (.slice none 0 0)).run Tryz.prog w = .ok (.bool false) w := fun w n c => Lib.run_eql_slice_nil w 26 64 (some ad) n c 0 0 Tryz.underlying26
    go_enter Tryz.func98, Tryz.ntmps98
    go_wp2_with (at_builtin; go_loud (refine Kd.N_append_rows k64 (w0 := w) w.heap.size rfl _ _ 26 64 (.agg #[.int .i64 0, .slice none 0 0]) 32 rfl Tryz.underlying26 info64 rfl (by decide) (by decide) _ _ l (some ad) l.length c ok (fun k => ok k ∧ k < w.heap.size) rfl rfl hz hF2 hne hfr (below_alloc1 w _) hsz hn2 ?_))
    intro v1 w1 hN hb hg hat
    go_wp2
    go_ret
    exact ⟨_, rfl, hN, hb⟩
set_option maxRecDepth 100000 in
set_option maxHeartbeats 1000000 in
theorem least_no (l : List S64) (g : Nat) (P : Value) (w : World) (hA : AccL w g P l) (h0 : l = [] ∨ (rd_T64 l 0).f0 ≠ 0) :
    Calls Tryz.prog 99 #[.pointer (some ⟨g, 1, none⟩)] w fun e w' => e = .returned (.tuple #[.int .i64 0, .bool false]) ∧ w = w' := by
  obtain ⟨A, c, hb, hc, hF⟩ := hA
  have hx0 : w.cell? ⟨g, 1, none⟩ = some (.slice A l.length c) := (blk_cell hb 1).trans rfl
  cases l with
  | nil =>
    clear hF
    go_enter Tryz.func99, Tryz.ntmps99
    go_wp2
    go_ret2
    exact ⟨rfl, rfl⟩
  | cons x t =>
    have hne : (rd_T64 (x :: t) 0).f0 ≠ 0 := h0.resolve_left (by simp)
    obtain ⟨ad, A1, c1, rfl, hx1, hx2, hl1, hC1⟩ := at_T64 (Kd.F_now hF) 0 (by omega) (by simp)
    rw [show ad.add ((0 : Int).toNat * 2) = ad from addr_add0 ad] at hx1
    obtain ⟨v, hv⟩ : ∃ v, (rd_T64 (x :: t) 0).f0 = v := ⟨_, rfl⟩
    rw [hv] at hx1 hne
    have hn2 : (v != 0) = true := bne_iff_ne.2 hne
    have hp : 0 < (x :: t).length := by simp
    obtain ⟨n, hn⟩ : ∃ n, (x :: t).length = n := ⟨_, rfl⟩
    rw [hn] at hx0 hp hc
    have hp2 : ((n : Int) == 0) = false := by simp; omega
    clear hF hC1 h0 hne hx2 hn hv hb
    go_enter Tryz.func99, Tryz.ntmps99
    go_wp2
    go_ret2
    exact ⟨rfl, rfl⟩
theorem Turned.far {g h : Nat} {w w' : World} (ht : Turned g w w') (hh : w.heap.size ≤ h) (hg : g < w.heap.size) (j : Nat) (u : Value) : Turned g w (w'.setCell ⟨h, j, none⟩ u) :=
  ⟨ht.below.setCell (p := ⟨h, j, none⟩) (by show g ≤ h; omega) u, ⟨by rw [World.size_setCell]; exact ht.keep.1, fun i hi hn hr => by rw [Below.heap_setCell w' ⟨h, j, none⟩ u i (by show i ≠ h; omega)]; exact ht.keep.2 i hi hn hr⟩⟩
theorem Turned.drew {g : Nat} {w w' : World} (ht : Turned g w w') : Turned g w w'.drew := ⟨below_drew1 ht.below, ht.keep⟩
def restL (ps : List Int) (t : List S64) : List S64 := if ps = [] then t else ⟨0, ps⟩ :: t
def failE (e : Int) : PanicEntry := { v := .iface 166 (.agg #[.int .i64 e]), recovered := false }
theorem need_yes (e : Int) (w : World) : Calls Tryz.prog 45 #[.bool true, .int .i64 e] w fun r w' => r = .returned (.tuple #[]) ∧ w = w' := by
  go_enter Tryz.func45, Tryz.ntmps45
  go_wp2
  go_end0
  simp
theorem need_no (e : Int) (w : World) : Calls Tryz.prog 45 #[.bool false, .int .i64 e] w fun r w' => r = .panicked [failE e] ∧ w = w' := by
  go_enter Tryz.func45, Tryz.ntmps45
  go_wp2
  exact ⟨rfl, rfl, rfl⟩
theorem must_ok (w : World) : Calls Tryz.prog 53 #[.int .i64 0] w fun r w' => r = .returned (.tuple #[]) ∧ w = w' := by
  go_enter Tryz.func53, Tryz.ntmps53
  go_wp2
  go_end0
  simp
theorem caught_idle (p : Addr) (f : Fn) (first cap : Array Value) (w : World) :
    CallsD Tryz.prog 43 #[.pointer (some p), .func f first cap] .returning w fun e u' w' => e = .returned (.tuple #[]) ∧ u' = .returning ∧ w' = w := by
  refine callsD_of_wpS Tryz.func43 rfl fun c₀ cs hu => ?_
  apply wpS_seq
  apply wpS_region
  simp [wpOpsS, go_sem, recoverD, hu, Tryz.ntmps43, Exit.thenS]
  apply wpS_seq
  apply wpS_region
  simp [wpOpsS, go_sem, hu, Tryz.ntmps43, Exit.thenS]
  refine wpS_cond (t := false) (by simp [Act.eval, Array.replicate]) ?_
  simp only [Bool.false_eq_true, if_false]
  refine wpS_of_wp (wp_skip ?_)
  cases c₀
  simp_all [bodyPostS, results, Tryz.results43]
theorem assert43 (v : Value) (w : World) : (Instr.typeAssert (.iface 166 v) 20 166 true).run Tryz.prog w = .ok (.tuple #[v, .bool true]) w := by kernel_rfl
theorem fr43 (a b x t u : Value) : #[a, b] ++ ((((Array.replicate 22 u).setIfInBounds 5 x).setIfInBounds 2 x).setIfInBounds 6 x).setIfInBounds 7 t = #[a, b, u, u, x, u, u, x, x, t, u, u, u, u, u, u, u, u, u, u, u, u, u, u] := by kernel_rfl
set_option maxHeartbeats 2000000 in
theorem caught_93 (p : Addr) (q0 : Addr) (n x : Int) (older : List PanicEntry) (w : World) (Q : World → Prop)
    (hR : Calls Tryz.prog 93 #[.pointer (some q0)] (w.alloc (.cells #[.int .i64 n] 166)) fun e w' => e = .returned (.tuple #[]) ∧ w'.cell? ⟨w.heap.size, 0, none⟩ = some (.int .i64 n) ∧ w'.cell? p = some (.int .i64 x) ∧ w'.frozen? p = false ∧ Q (w'.setCell p (.int .i64 n))) :
    CallsD Tryz.prog 43 #[.pointer (some p), .func (.func 93) #[] #[.pointer (some q0)]] (.panicking (failE n :: older)) w fun e u' w' => e = .returned (.tuple #[]) ∧ u' = .panicking ({ failE n with recovered := true } :: older) ∧ Q w' := by
  have HR := Lib.hid hR
  clear hR
  refine callsD_of_wpS Tryz.func43 rfl fun c₀ cs hu => ?_
  unfold failE at hu ⊢
  apply wpS_seq
  apply wpS_region
  simp [wpOpsS, go_sem, recoverD, hu, Tryz.ntmps43, Exit.thenS]
  apply wpS_seq
  apply wpS_region
  simp [wpOpsS, go_sem, hu, Tryz.ntmps43, Exit.thenS]
  refine wpS_cond (t := true) (by simp [Act.eval, Array.replicate]) ?_
  simp only [if_true]
  apply wpS_of_wp
  refine Code.wp_mono (Q := fun e a w' => e = Exit.normal ∧ a.defers = [] ∧ Q w') ?_ ?_
  · rintro e a w' ⟨rfl, ha, hq⟩
    refine ⟨ha, _, rfl, .tuple #[], ?_, rfl, rfl, hq⟩
    simp [results, Tryz.results43]
  clear hu
  rw [fr43]
  obtain ⟨u, hu⟩ : ∃ u, undef = u := ⟨_, rfl⟩
  rw [hu]
  clear hu
  have hta := assert43
  go_upto_region 5 with (fail)
  clear hta
  go_wp2_with (go_at_call 93; refine HR.out.mono ?_; rintro e w' ⟨rfl, hc, hp, hz, hq⟩)
  exact hq
set_option maxHeartbeats 2000000 in
theorem caught_44 (p : Addr) (q0 q1 q2 : Addr) (n x : Int) (older : List PanicEntry) (w : World) (Q : World → Prop)
    (hR : Calls Tryz.prog 44 #[.pointer (some q0), .pointer (some q1), .pointer (some q2)] (w.alloc (.cells #[.int .i64 n] 166)) fun e w' => e = .returned (.tuple #[]) ∧ w'.cell? ⟨w.heap.size, 0, none⟩ = some (.int .i64 n) ∧ w'.cell? p = some (.int .i64 x) ∧ w'.frozen? p = false ∧ Q (w'.setCell p (.int .i64 n))) :
    CallsD Tryz.prog 43 #[.pointer (some p), .func (.func 44) #[] #[.pointer (some q0), .pointer (some q1), .pointer (some q2)]] (.panicking (failE n :: older)) w fun e u' w' => e = .returned (.tuple #[]) ∧ u' = .panicking ({ failE n with recovered := true } :: older) ∧ Q w' := by
  have HR := Lib.hid hR
  clear hR
  refine callsD_of_wpS Tryz.func43 rfl fun c₀ cs hu => ?_
  unfold failE at hu ⊢
  apply wpS_seq
  apply wpS_region
  simp [wpOpsS, go_sem, recoverD, hu, Tryz.ntmps43, Exit.thenS]
  apply wpS_seq
  apply wpS_region
  simp [wpOpsS, go_sem, hu, Tryz.ntmps43, Exit.thenS]
  refine wpS_cond (t := true) (by simp [Act.eval, Array.replicate]) ?_
  simp only [if_true]
  apply wpS_of_wp
  refine Code.wp_mono (Q := fun e a w' => e = Exit.normal ∧ a.defers = [] ∧ Q w') ?_ ?_
  · rintro e a w' ⟨rfl, ha, hq⟩
    refine ⟨ha, _, rfl, .tuple #[], ?_, rfl, rfl, hq⟩
    simp [results, Tryz.results43]
  clear hu
  rw [fr43]
  obtain ⟨u, hu⟩ : ∃ u, undef = u := ⟨_, rfl⟩
  rw [hu]
  clear hu
  have hta := assert43
  go_upto_region 5 with (fail)
  clear hta
  go_wp2_with (go_at_call 44; refine HR.out.mono ?_; rintro e w' ⟨rfl, hc, hp, hz, hq⟩)
  exact hq
structure TurnedP (g base : Nat) (P P' : Value) (w w' : World) : Prop where
  below : Below base w w'
  keep : w.heap.size ≤ w'.heap.size ∧ ∀ i, i < w.heap.size → okA g P i → w'.heap[i]? = w.heap[i]?
  own : P'.ownBlock = P.ownBlock ∨ ∃ b, P'.ownBlock = some b ∧ w.heap.size ≤ b
theorem Turned.P {g base : Nat} {P : Value} {w w' : World} (h : Turned g w w') (hb : base ≤ g) : TurnedP g base P P w w' :=
  ⟨h.below.mono hb, ⟨h.keep.1, fun i hi hk => h.keep.2 i hi hk.1 (by simp)⟩, .inl rfl⟩
set_option maxRecDepth 100000 in
set_option maxHeartbeats 400000 in
theorem take_full (l : List S64) (g : Nat) (P : Value) (pg : List S89) (base : Nat) (w : World) (hA : AccL w g P l) (h0 : l = [] ∨ (rd_T64 l 0).f0 ≠ 0) (hN : Kd.N k89 89 w base (fun k => k ≠ g) P pg) (hm : ¬ pg.length < 4096) (hm2 : pg.length ≤ 1000000) :
    Calls Tryz.prog 54 #[.pointer (some ⟨g, 0, none⟩)] w fun e w' => e = .panicked [failE 7] ∧ w = w' := by
  have HL := Lib.hid (least_no l g P w hA h0)
  obtain ⟨PA, pc, rfl⟩ := Kd.N_slice hN
  obtain ⟨A, c, hb, hc, hF⟩ := hA
  have hx0 : w.cell? ⟨g, 0, none⟩ = some (.slice PA pg.length pc) := (blk_cell hb 0).trans rfl
  have HD := Lib.hid (show decide ((pg.length : Int) < 4096) = false from decide_eq_false (by omega))
  clear hF hN hb h0
  go_enter Tryz.func54, Tryz.ntmps54
  go_wp2_with (first | (go_at_call 99; (refine HL.out.mono ?_); rintro e w1 ⟨rfl, rfl⟩) | (go_at_call 45; rw [HD.out]; refine (need_no _ _).mono ?_; rintro e w' ⟨rfl, rfl⟩))
  exact ⟨rfl, rfl, rfl⟩
end Go.Proofs.YtpnhelcemodnmaaGreat
namespace Go.Proofs.YtpnhelcemodnmaaGreat
open Go.RowKit Go.Shelf Go.Proofs.YtpnhelcemodnmaaGreatW.PrintWords Go.Proofs.YtpnhelcemodnmaaGreatW.PrintLast Go.Proofs.YtpnhelcemodnmaaGreatW.PrintMore PA
set_option linter.unusedVariables false
set_option linter.unusedSimpArgs false
attribute [local go_sem] Oper.semAt_some
def okX (X : Nat → Prop) (g : Nat) (P : Value) (k : Nat) : Prop := okA g P k ∧ X k
def AccX (X : Nat → Prop) (w : World) (g : Nat) (P : Value) (l : List S64) : Prop := ∃ A c, w.heap[g]? = some (.cells #[P, .slice A l.length c] 102 (0, 0)) ∧ l.length ≤ c ∧ Kd.F k64 w (okX X g P) A l.length l
theorem AccX.acc {X : Nat → Prop} {w : World} {g : Nat} {P : Value} {l : List S64} (h : AccX X w g P l) : AccL w g P l := by
  obtain ⟨A, c, h1, h2, h3⟩ := h
  exact ⟨A, c, h1, h2, Kd.F_mono h3 (fun k hk => hk.1)⟩
theorem AccL.x {X : Nat → Prop} {w : World} {g : Nat} {P : Value} {l : List S64} (h : AccL w g P l) (hX : ∀ k, k < w.heap.size → X k) : AccX X w g P l := by
  obtain ⟨A, c, h1, h2, h3⟩ := h
  exact ⟨A, c, h1, h2, Kd.F_mono (Kd.F_bound h3) (fun k hk => ⟨hk.1, hX k hk.2⟩)⟩
theorem AccX.below {X : Nat → Prop} {w w' : World} {g : Nat} {P : Value} {l : List S64} (h : AccX X w g P l) (hb : Below w.heap.size w w') : AccX X w' g P l := by
  obtain ⟨A, c, h1, h2, h3⟩ := h
  exact ⟨A, c, blk_below h1 hb, h2, Kd.F_below h3 hb⟩
theorem AccX.lt {X : Nat → Prop} {w : World} {g : Nat} {P : Value} {l : List S64} (h : AccX X w g P l) : g < w.heap.size := h.acc.lt
theorem AccX.put {X : Nat → Prop} {w : World} {g : Nat} {P : Value} {l l' : List S64} {A : Option Addr} {c base : Nat} {ok : Nat → Prop} (h : AccX X w g P l) (hN : Kd.N k64 64 w base ok (.slice A l'.length c) l') (hok : ∀ k, ok k → okX X g P k) : AccX X (w.setCell ⟨g, 1, none⟩ (.slice A l'.length c)) g P l' := by
  obtain ⟨A0, c0, h1, _, _⟩ := h
  have hF := Kd.N_F hN
  exact ⟨A, c, blk_put h1 1 _ rfl, (Kd.N_reads' hN).2.1, Kd.F_far (Kd.F_mono hF hok) (fun k hk => hk.1.1) _⟩
set_option maxRecDepth 100000 in
set_option maxHeartbeats 2000000 in
theorem leastX_yes (p : Int) (ps : List Int) (t : List S64) (g : Nat) (P : Value) (w : World) (X : Nat → Prop) (hX : ∀ k, w.heap.size ≤ k → X k) (hA : AccX X w g P (⟨0, p :: ps⟩ :: t)) (hP : ∀ k, P.ownBlock = some k → k < w.heap.size) (hs : smallL (⟨0, p :: ps⟩ :: t)) :
    Calls Tryz.prog 99 #[.pointer (some ⟨g, 1, none⟩)] w fun e w' => e = .returned (.tuple #[.int .i64 p, .bool true]) ∧ AccX X w' g P (restL ps t) ∧ Turned g w w' := by
  have hglt := hA.lt
  have HAC := Aside0.mk hA
  obtain ⟨A, c, hb, hc, hF⟩ := hA
  obtain ⟨l, hl⟩ : ∃ l, (⟨0, p :: ps⟩ :: t : List S64) = l := ⟨_, rfl⟩
  have hr0 : rd_T64 l 0 = ⟨0, p :: ps⟩ := by rw [← hl]; rfl
  have hpos : 0 < l.length := by rw [← hl]; simp
  rw [hl] at hb hc hF hs HAC
  have hx0 : w.cell? ⟨g, 1, none⟩ = some (.slice A l.length c) := (blk_cell hb 1).trans rfl
  have hz0 := blk_frozen hb 1
  obtain ⟨ad, A1, c1, rfl, hx1, hx2, hl1, hC1⟩ := at_T64 (Kd.F_now hF) 0 (by omega) (by omega)
  rw [show ad.add ((0 : Int).toNat * 2) = ad from addr_add0 ad] at hx1 hx2
  rw [hr0] at hx1 hx2 hl1 hC1
  obtain ⟨bd, rfl, hx3⟩ := Kd.at_int hC1 0 (by omega) (by simp)
  rw [show bd.add (0 : Int).toNat = bd from addr_add0 bd] at hx3
  replace hx3 : w.cell? bd = some (.int .i64 p) := hx3
  replace hx1 : w.cell? ad = some (.int .i64 0) := hx1
  obtain ⟨m, hm⟩ : ∃ m, (p :: ps).length = m := ⟨_, rfl⟩
  have hmp : 0 < m := by rw [← hm]; simp
  have HCL := Lib.hid (fun (w1 : World) (hb1 : Below w.heap.size w w1) => cloneFreedF l (some ad) c w1 (okX X g P) (Kd.F_below hF hb1) (fun k hk => ⟨⟨fun e => by have := hb1.size; omega, fun e => by have := hP k e.symm; have := hb1.size; omega⟩, hX k (by have := hb1.size; omega)⟩) (by have := hs.1; omega))
  rw [show ((⟨0, p :: ps⟩ : S64).f1.length) = m from hm] at hx2
  have hn0 : ((l.length : Int) == 0) = false := beq_eq_false_iff_ne.2 (by omega)
  have HG := Aside0.mk hglt
  have HLL := Lib.hid hl
  have HR0 := Lib.hid hr0
  have HMM := Lib.hid hm
  clear hC1 hl1 hr0 hm hF hs hb hl
  obtain ⟨n, hn⟩ : ∃ n, l.length = n := ⟨_, rfl⟩
  have HNN := Lib.hid hn
  rw [hn] at hc hpos hx0 HCL hn0
  clear hn
  go_enter Tryz.func99, Tryz.ntmps99
  go_upto_region 5 with (go_at_call 98; (refine (HCL.out _ (Below.refl _ _)).mono ?_); rintro e w1 ⟨v, rfl, hv, hb1⟩; obtain ⟨vA, vc, rfl⟩ := Kd.N_slice hv; have HV := Aside0.mk hv; have HB1 := Aside0.mk hb1; have HA1 := Aside0.mk (HAC.out.below hb1); have hx4 := cellB hb1 (Nat.le_refl _) hx0; have hz4 : w1.frozen? ⟨g, 1, none⟩ = false := (by obtain ⟨A9, c9, hb9, _⟩ := HAC.out.below hb1; exact blk_frozen hb9 1); clear hv hb1)
  rw [HNN.out] at HV
  obtain ⟨h, vc', hve, hbh, hhs, _⟩ := Kd.N_form HV.out (by rw [HNN.out]; exact hpos)
  rw [HNN.out] at hve ⊢
  injection hve with e1 _ e2
  subst e1 e2
  have hhg : h ≠ g := by have := HG.out; omega
  have hb2 : (w1.setCell ⟨g, 1, none⟩ (.slice (some ⟨h, 0, none⟩) n vc)).heap[g]? = some (.cells #[P, .slice (some ⟨h, 0, none⟩) n vc] 102 (0, 0)) := by
    obtain ⟨A9, c9, hb9, _⟩ := HA1.out
    exact blk_put hb9 1 _ rfl
  have HV2 := Aside0.mk (Kd.N_far HV.out (p := ⟨g, 1, none⟩) (fun k hk => hk.1.1) (.slice (some ⟨h, 0, none⟩) n vc))
  have HA2 := Aside0.mk (AccX.put HA1.out (by rw [HNN.out]; exact HV.out) (fun k hk => hk))
  have HT2 := Aside0.mk ((Turned.of_below HB1.out HG.out).set 1 (.slice (some ⟨h, 0, none⟩) n vc))
  have hy0 : (w1.setCell ⟨g, 1, none⟩ (.slice (some ⟨h, 0, none⟩) n vc)).cell? ⟨g, 1, none⟩ = some (.slice (some ⟨h, 0, none⟩) n vc) := World.cell?_setCell_same _ _ _ hx4
  obtain ⟨W2, hW2⟩ : ∃ W2, w1.setCell ⟨g, 1, none⟩ (.slice (some ⟨h, 0, none⟩) n vc) = W2 := ⟨_, rfl⟩
  rw [HNN.out] at HA2
  rw [hW2] at HV2 HA2 HT2 hy0 hb2 ⊢
  obtain ⟨cs, hcl, hFK, hcc, hfr⟩ := Kd.N_elem HV2.out z64 (0 : Int) (by omega) (by omega)
  rw [show l.getD (0 : Int).toNat z64 = rd_T64 l 0 from rfl, HR0.out] at hFK
  obtain ⟨A5, c5, rfl, hl5, hF5⟩ := k64_openF hFK
  have hy1 : W2.cell? ⟨h, 1, none⟩ = some (.slice A5 m c5) := HMM.out ▸ hcc 1 _ rfl
  have hz5 : W2.frozen? ⟨h, 1, none⟩ = false := hfr 1
  have hmc : m ≤ c5 := HMM.out ▸ hl5
  have h1m : (1 : Int) ≤ (m : Int) := by omega
  have h0n : (0 : Int) < (n : Int) := by omega
  have HCC := Aside0.mk hcc
  have HL5 := Aside0.mk hl5
  have HF5 := Aside0.mk hF5
  clear hcl hFK hcc hfr hl5 hF5 hx0 hx1 hx2 hx3 hx4 hz4 hz0 hW2
  go_region
  have hA6 : (if c5 = 1 then A5 else Option.map (fun x : Addr => (⟨x.block, x.off + 1, none⟩ : Addr)) A5) = (if c5 = 1 then A5 else A5.map (·.add (1 * 1))) := rfl
  have hF6 := F_rest (m := 1) HF5.out (by simp) HL5.out
  rw [← hA6] at hF6
  obtain ⟨A6, hA6e⟩ : ∃ A6, (if c5 = 1 then A5 else Option.map (fun x : Addr => (⟨x.block, x.off + 1, none⟩ : Addr)) A5) = A6 := ⟨_, rfl⟩
  rw [hA6e] at hF6 ⊢
  clear hA6 hA6e
  have hml : m - 1 = ps.length := by rw [← HMM.out]; simp
  rw [hml]
  obtain ⟨hN3, hG3⟩ := Kd.N_seg HV2.out (0 : Int) (by omega) h0n (c := [.int .i64 0, .slice A5 (p :: ps).length c5]) (seg := [.slice A6 ps.length (c5 - 1)]) (j := 1) rfl HCC.out (Nat.le_refl 2) (x' := (⟨0, ps⟩ : S64)) (k64_mkF W2 _ (⟨0, ps⟩ : S64) (by show ps.length ≤ c5 - 1; omega) hF6) (fun k hk => hk)
  have hls : l.set (0 : Int).toNat (⟨0, ps⟩ : S64) = ⟨0, ps⟩ :: t := by rw [← HLL.out]; rfl
  rw [hls] at hN3
  have hN4 : Kd.N k64 64 (W2.setCell ⟨h, 1, none⟩ (.slice A6 ps.length (c5 - 1))).drew w.heap.size (okX X g P) (.slice (some ⟨h, 0, none⟩) n vc) (⟨0, ps⟩ :: t) := Kd.N_drew hN3
  have hy0' : (W2.setCell ⟨h, 1, none⟩ (.slice A6 ps.length (c5 - 1))).drew.cell? ⟨g, 1, none⟩ = some (.slice (some ⟨h, 0, none⟩) n vc) := by
    have := World.cell?_setCell_other W2 ⟨h, 1, none⟩ ⟨g, 1, none⟩ (.slice A6 ps.length (c5 - 1)) (by simp [hhg])
    exact this.trans hy0
  have hy1' : (W2.setCell ⟨h, 1, none⟩ (.slice A6 ps.length (c5 - 1))).drew.cell? ⟨h, 1, none⟩ = some (.slice A6 ps.length (c5 - 1)) := World.cell?_setCell_same _ _ _ hy1
  have hz6 : (W2.setCell ⟨h, 1, none⟩ (.slice A6 ps.length (c5 - 1))).drew.frozen? ⟨g, 1, none⟩ = false := blk_frozen (blk_drew (blk_far hb2 (p := ⟨h, 1, none⟩) (Ne.symm hhg) _)) 1
  have hb3 := blk_drew (blk_far hb2 (p := ⟨h, 1, none⟩) (Ne.symm hhg) (.slice A6 ps.length (c5 - 1)))
  have hT3 := (HT2.out.far hbh HG.out 1 (.slice A6 ps.length (c5 - 1))).drew
  obtain ⟨W3, hW3⟩ : ∃ W3, (W2.setCell ⟨h, 1, none⟩ (.slice A6 ps.length (c5 - 1))).drew = W3 := ⟨_, rfl⟩
  rw [hW3] at hN4 hy0' hy1' hz6 hb3 hT3 ⊢
  have hnl : n = (⟨0, ps⟩ :: t : List S64).length := (Kd.N_reads' hN4).1
  have hnv := (Kd.N_reads' hN4).2.1
  have HN4 := Aside0.mk hN4
  have HB3 := Aside0.mk hb3
  have HT3 := Aside0.mk hT3
  have HNL := Lib.hid hnl
  clear hN3 hG3 hls hW3 hml hN4 hb3 hT3 hnl hy0 hy1 hb2 hF6 h1m
  have hy1b : W3.cell? ⟨h, 1, none⟩ = some (.slice A6 ps.length (c5 - 1)) := hy1'
  by_cases h0 : ps = []
  · have hr : restL ps t = t := if_pos h0
    have HR := Lib.hid hr
    have hp0 : ((ps.length : Int) == 0) = true := by rw [h0]; rfl
    have h1n : 1 ≤ n := hpos
    have h1v : 1 ≤ vc := by omega
    clear hr h0
    have htl : n - 1 = t.length := by rw [HNL.out]; simp
    have HTL := Lib.hid htl
    by_cases hv1 : vc = 1
    · have hnn : n = 1 := by omega
      have htn : t = [] := List.length_eq_zero_iff.1 (by omega)
      have HTN := Lib.hid htn
      subst hv1 hnn
      clear htl htn
      go_wp2
      go_ret2
      rw [HR.out]
      have hb4 := blk_put HB3.out 1 (.slice (some ⟨h, 0, none⟩) 0 0) rfl
      refine ⟨rfl, ⟨some ⟨h, 0, none⟩, 0, ?_, ?_, ?_⟩, HT3.out.set 1 _⟩
      · rw [HTN.out]; exact hb4
      · rw [HTN.out]; simp
      · rw [HTN.out]; exact fun W2 hW2 => ⟨rfl, Nat.zero_le _, fun h => absurd h (Nat.lt_irrefl 0)⟩
    · clear htl
      go_wp2
      go_ret2
      rw [HR.out, HTL.out]
      have hb4 := blk_put HB3.out 1 (.slice (some ⟨h, 2, none⟩) t.length (vc - 1)) rfl
      have hF4 := Kd.N_F HN4.out
      rw [HNL.out] at hF4
      have hF5 := F_drop (m := 1) hF4 (by simp) (by rw [← HNL.out]; exact hnv) (by omega)
      refine ⟨rfl, ⟨_, _, hb4, by rw [← HTL.out]; omega, ?_⟩, HT3.out.set 1 _⟩
      exact Kd.F_far (show Kd.F k64 W3 (okX X g P) (some ⟨h, 2, none⟩) t.length t from hF5) (fun k hk => hk.1.1) _
  · have hr : restL ps t = ⟨0, ps⟩ :: t := if_neg h0
    have HR := Lib.hid hr
    have hlp : 0 < ps.length := List.length_pos_iff.2 h0
    have hp0 : ((ps.length : Int) == 0) = false := beq_eq_false_iff_ne.2 (by omega)
    clear hr h0
    go_wp2
    go_ret2
    rw [HR.out]
    exact ⟨rfl, ⟨_, _, HNL.out ▸ HB3.out, by rw [← HNL.out]; exact hnv, by have := Kd.N_F HN4.out; rw [HNL.out] at this; exact this⟩, HT3.out⟩
set_option maxRecDepth 100000 in
set_option maxHeartbeats 400000 in
theorem takeX_yes (p : Int) (ps : List Int) (t : List S64) (g : Nat) (P : Value) (w : World) (X : Nat → Prop) (hX : ∀ k, w.heap.size ≤ k → X k) (hA : AccX X w g P (⟨0, p :: ps⟩ :: t)) (hP : ∀ k, P.ownBlock = some k → k < w.heap.size) (hs : smallL (⟨0, p :: ps⟩ :: t)) :
    Calls Tryz.prog 54 #[.pointer (some ⟨g, 0, none⟩)] w fun e w' => e = .returned (.int .i64 p) ∧ AccX X w' g P (restL ps t) ∧ Turned g w w' := by
  have HL := Lib.hid (leastX_yes p ps t g P w X hX hA hP hs)
  clear hA
  go_enter Tryz.func54, Tryz.ntmps54
  go_wp2_with (go_at_call 99; (refine HL.out.mono ?_); rintro e w1 ⟨rfl, ha, ht⟩)
  go_ret
  exact ⟨rfl, ha, ht⟩
set_option maxRecDepth 100000 in
set_option maxHeartbeats 400000 in
theorem takeX_new (l : List S64) (g : Nat) (P : Value) (pg : List S89) (base : Nat) (w : World) (X : Nat → Prop) (hX : ∀ k, w.heap.size ≤ k → X k) (hA : AccX X w g P l) (h0 : l = [] ∨ (rd_T64 l 0).f0 ≠ 0) (hN : Kd.N k89 89 w base (fun k => k ≠ g ∧ X k) P pg) (hm : pg.length < 4096) (hbg : base ≤ g) :
    Calls Tryz.prog 54 #[.pointer (some ⟨g, 0, none⟩)] w fun e w' => e = .returned (.int .i64 pg.length) ∧ ∃ P', AccX X w' g P' l ∧ Kd.N k89 89 w' base (fun k => k ≠ g ∧ X k) P' (pg ++ [z89]) ∧ TurnedP g base P P' w w' := by
  have HL := Lib.hid (least_no l g P w hA.acc h0)
  have hglt := hA.lt
  obtain ⟨PA, pc, rfl⟩ := Kd.N_slice hN
  have HAC := Aside0.mk hA
  have HN := Aside0.mk hN
  obtain ⟨A, c, hb, hc, hF⟩ := hA
  have hx0 : w.cell? ⟨g, 0, none⟩ = some (.slice PA pg.length pc) := (blk_cell hb 0).trans rfl
  have HD := Lib.hid (show decide ((pg.length : Int) < 4096) = true from decide_eq_true (by omega))
  have HG := Aside0.mk hglt
  have HLE := Lib.hid (show (pg ++ [z89]).length = pg.length + 1 by simp)
  have HNE := Aside0.mk (show some g ≠ (Value.slice PA pg.length pc).ownBlock from fun e => (hN.1 g e.symm).1 rfl)
  have HBK := Aside0.mk hb
  have HF := Aside0.mk hF
  have HCC := Aside0.mk hc
  have HFR := Aside0.mk (show ∀ k, w.heap.size ≤ k → k ≠ g ∧ X k from fun k hk => ⟨fun e => by omega, hX k hk⟩)
  have HBB := Aside0.mk (Below.refl base w)
  have HBS := Aside0.mk (show base ≤ w.heap.size by omega)
  have HLN := Aside0.mk (show (pg.length + 1) * 120 ≤ 140737488355328 by omega)
  clear hF hN hb h0
  go_enter Tryz.func54, Tryz.ntmps54
  go_upto_region 5 with (first | (go_at_call 99; (refine HL.out.mono ?_); rintro e w1 ⟨rfl, rfl⟩) | (go_at_call 45; rw [HD.out]; refine (need_yes _ _).mono ?_; rintro e w' ⟨rfl, rfl⟩))
  go_wp2_with (at_builtin; refine Kd.N_append k89 (w0 := w) base rfl (.tmp 25) (.tmp 27) 22 89 (.agg (cells89 z89 none 0).toArray) 120 rfl Tryz.underlying22 info89 rfl (by decide) (by decide) (.slice PA pg.length pc) pg z89 [.int .i64 0, .int .i64 0, .int .i64 0, .int .i64 0, .int .i64 0, .bool false, .slice none 0 0, .int .i64 0, .string ⟨#[]⟩, .slice none 0 0] (fun k => k ≠ g ∧ X k) (fun _ => False) rfl rfl zero89F (fun _ h => h.elim) (fun k hk => HFR.out k hk) HN.out HBB.out HBS.out HLN.out ?_; intro P1 w1 hp1 hb1 hg1 hat1; obtain ⟨QA, qc, rfl⟩ := Kd.N_slice hp1; rw [HLE.out] at hp1 hat1 ⊢; have hk1 := (hg1.block g HG.out HNE.out).trans HBK.out; have hy0 := blk_cell hk1 0; have hz0 := blk_frozen hk1 0)
  go_ret
  refine ⟨by simp, .slice QA (pg.length + 1) qc, ⟨A, c, blk_put hk1 0 _ rfl, HCC.out, Kd.F_mono (Kd.F_far (Kd.F_after (Kd.F_mono (ok' := fun k => (k ≠ g ∧ X k) ∧ some k ≠ (Value.slice PA pg.length pc).ownBlock) HF.out (fun k hk => ⟨⟨hk.1.1, hk.2⟩, hk.1.2⟩)) hg1 hat1) (fun k hk => hk.1.1) _) (fun k hk => ⟨⟨hk.1.1, hk.2⟩, hk.1.2⟩)⟩, Kd.N_far hp1 (fun k hk => hk.1) _, ⟨hb1.setCell (p := ⟨g, 0, none⟩) hbg _, ⟨by rw [World.size_setCell]; exact hg1.size, fun i hi hk => by rw [Below.heap_setCell w1 ⟨g, 0, none⟩ _ i hk.1, hg1.block i hi hk.2]⟩, hat1⟩⟩
end Go.Proofs.YtpnhelcemodnmaaGreat
namespace Go.Proofs
open Go.Shelf
def Tryz.laysN10_ren : Go.Shelf.Ren := ⟨fun | 10 => 95 | 6 => 140 | n => n, fun | 22 => 23 | 23 => 3 | 25 => 110 | n => n, fun | n => n⟩
theorem Tryz.laysN10 : Go.Proofs.SlLaysH.n10 Tryz.prog Tryz.laysN10_ren := {
  mixed := by kernel_rfl
  f6 := ⟨Tryz.f140.name, by decide, Tryz.func140.trans (congrArg some (by kernel_rfl))⟩
  f10 := ⟨Tryz.f95.name, by decide, Tryz.func95.trans (congrArg some (by kernel_rfl))⟩
  t0 := Tryz.underlying0
  a0 := Tryz.isAgg0
  z0 := Tryz.sizeOf0
  v0 := Tryz.zeroValue0
  t3 := Tryz.underlying3
  a3 := Tryz.isAgg3
  z3 := Tryz.sizeOf3
  v3 := Tryz.zeroValue3
  t4 := Tryz.underlying4
  a4 := Tryz.isAgg4
  z4 := Tryz.sizeOf4
  v4 := Tryz.zeroValue4
  t22 := Tryz.underlying23
  a22 := Tryz.isAgg23
  z22 := Tryz.sizeOf23
  v22 := Tryz.zeroValue23
  a23 := Tryz.isAgg3
  z23 := Tryz.sizeOf3
  t25 := Tryz.underlying110
  a25 := Tryz.isAgg110
  z25 := Tryz.sizeOf110
  v25 := Tryz.zeroValue110 }
end Go.Proofs
namespace Go.Proofs.YtpnhelcemodnmaaGreat
open Go.RowKit Go.Shelf Go.Proofs.YtpnhelcemodnmaaGreatW.PrintWords Go.Proofs.YtpnhelcemodnmaaGreatW.PrintLast Go.Proofs.YtpnhelcemodnmaaGreatW.PrintMore PA
set_option linter.unusedVariables false
set_option linter.unusedSimpArgs false
attribute [local go_sem] Oper.semAt_some
theorem ge97 (q : Addr) (n x : Int) (w : World) (hq : w.cell? q = some (.int .i64 n)) : FnGives Tryz.prog 97 #[.pointer (some q)] #[.int .i64 x] (.bool (decide (x ≥ n))) w := by
  show Calls Tryz.prog 97 #[.int .i64 x, .pointer (some q)] w _
  go_enter Tryz.func97, Tryz.ntmps97
  go_wp2
  go_ret
  exact ⟨rfl, 0, rfl⟩
theorem delete_R {w : World} {base : Nat} {ok : Nat → Prop} {v : Value} {l : List Int} (q : Addr) (n : Int) (h : (Kd.int .i64).R 3 w base ok v l) (hl : 0 < l.length) (hl2 : l.length ≤ 1000000) (hq : w.cell? q = some (.int .i64 n)) (hqv : some q.block ≠ v.ownBlock) :
    Calls Tryz.prog 95 #[v, .func (.func 97) #[] #[.pointer (some q)]] w fun e w' => ∃ v', e = .returned v' ∧ v'.ownBlock = v.ownBlock ∧ (Kd.int .i64).R 3 w' base ok v' (l.filter fun x => decide (x < n)) ∧ Kept w w' (fun k => some k = v.ownBlock) ∧ Below base w w' := by
  have ho := Kd.own_of_R h
  have hok := h.1
  have hv : v ≠ .slice none 0 0 := by
    rintro rfl
    rcases ho.2 with ⟨_, e⟩ | ⟨g, cap, cur, e, _⟩
    · cases l with
      | nil => simp at hl
      | cons a t => simp [encs] at e
    · cases e
  obtain ⟨g, cap, rfl, hbg, hlt, hn, hm, hzl, hH⟩ := Lib.holds_of_ownsRow ho hv
  have hqg : q.block ≠ g := fun e => hqv (by rw [e]; simp [Value.ownBlock])
  have hqs : q.block < w.heap.size := World.block_lt_of_cell? w q hq
  have eg : ∀ args w, (callFunc 97 args).run Tryz.prog w = .ok (.enter 97 args) w := by
    intro args w
    kernel_rfl
  have hflt : (l.toArray.toList.filter fun x => !decide (x ≥ n)) = l.filter fun x => decide (x < n) := by
    refine List.filter_congr fun x _ => ?_
    by_cases hx : x < n <;> simp [hx] <;> omega
  refine (AnyE.slices_DeleteFunc Tryz.laysN10 (Value.int .i64) (fun _ => rfl) (fun x => decide (x ≥ n)) 97 #[.pointer (some q)] eg (0 : Int) (fun w => Tryz.zeroValue3 w) g 0 cap l.toArray w (fun W x hb => ge97 q n x W (hb.cell hqs |>.trans hq)) (fun m os dk x hs => ge97 q n x _ ((cell?_sortWorld_other _ _ _ _ _ _ _ q hqg hqs).trans hq)) hH (by simp; omega) (by simpa using hn)).mono ?_
  rw [hflt]
  rintro e w' ⟨rfl, m, rfl⟩
  obtain ⟨f, hf⟩ : ∃ f, (l.filter fun x => decide (x < n)) = f := ⟨_, rfl⟩
  have hfl : f.length ≤ l.length := by rw [← hf]; exact List.length_filter_le _ _
  rw [hf, show l.toArray.size = l.length from rfl]
  have hup := Lib.ownsRow_putRow (q := m) (k := f.length) (ys := f ++ List.replicate (l.length - f.length) (0 : Int)) ho (by rw [List.length_append, List.length_replicate]; omega) hfl
  rw [List.take_left] at hup
  refine ⟨_, rfl, rfl, Kd.R_of_own hup hok, ⟨?_, fun k hk hne => ?_⟩, Lib.below_putRow (Below.refl base w) hbg⟩
  · simp [Sort.putRow, Sort.mapBlock, Sort.ahead]
  · have : g ≠ k := fun e => hne (by subst e; rfl)
    simp [Sort.putRow, Sort.mapBlock, Sort.ahead, Array.getElem?_modify, this]
def keepL (k : Int) (ps : List Int) (t : List S64) : List S64 := restL (ps.filter fun x => decide (x < k)) t
set_option maxRecDepth 100000 in
set_option maxHeartbeats 1000000 in
theorem putX_any (l : List S64) (g : Nat) (P : Value) (ver : Int) (ps : List Int) (B : Option Addr) (cb : Nat) (w : World) (X : Nat → Prop) (hX : ∀ k, w.heap.size ≤ k → X k) (hA : AccX X w g P l) (hP : ∀ k, P.ownBlock = some k → k < w.heap.size) (hB : (Kd.int .i64).C w B ps.length ps) (hcb : ps.length ≤ cb) (hs : smallL l) (hp : ps.length ≤ 1000000) :
    Calls Tryz.prog 50 #[.pointer (some ⟨g, 1, none⟩), .int .i64 ver, .slice B ps.length cb] w fun e w' => e = .returned (.tuple #[]) ∧ AccX X w' g P (if ps = [] then l else mergeL l [⟨ver, ps⟩]) ∧ Turned g w w' := by
  by_cases h0 : ps = []
  · subst h0
    rw [if_pos rfl]
    go_enter Tryz.func50, Tryz.ntmps50
    go_wp2
    go_end0
    exact ⟨rfl, hA, Turned.refl _ _⟩
  · rw [if_neg h0]
    have hpos : 0 < ps.length := List.length_pos_iff.2 h0
    have hpg : smallL [(⟨ver, ps⟩ : S64)] := ⟨by simp, by rw [pages_one]; exact hp⟩
    have hglt := hA.lt
    have HAC := Aside0.mk hA
    obtain ⟨A, c, hb, hc, hF⟩ := hA
    have hx0 : w.cell? ⟨g, 1, none⟩ = some (.slice A l.length c) := (blk_cell hb 1).trans rfl
    have hz0 := blk_frozen hb 1
    obtain ⟨W0, hW0⟩ : ∃ W0, w.alloc (.cells #[.int .i64 ver, .slice B ps.length cb] 64) = W0 := ⟨_, rfl⟩
    have hbl0 : Below w.heap.size w W0 := by rw [← hW0]; exact below_alloc1 w _
    have hnb : W0.heap[w.heap.size]? = some (.cells #[.int .i64 ver, .slice B ps.length cb] 64 (0, 0)) := by rw [← hW0]; exact blk_new w _
    have hC2 : k64.C W0 (some ⟨w.heap.size, 0, none⟩) [(⟨ver, ps⟩ : S64)].length [⟨ver, ps⟩] := one_row hnb rfl (k64_mk W0 (⟨ver, ps⟩ : S64) hcb (Kd.C_below hB hbl0))
    have HT := Lib.hid (together_new l [⟨ver, ps⟩] A c (some ⟨w.heap.size, 0, none⟩) 1 W0 (Kd.F_now (Kd.F_below hF hbl0)) hc hC2 (by simp) hs hpg)
    have HAW := Aside0.mk (AccX.below HAC.out hbl0)
    have HBL := Aside0.mk hbl0
    have HG := Aside0.mk hglt
    have hl1 : [(⟨ver, ps⟩ : S64)].length = 1 := rfl
    rw [hl1, ← hW0] at HT
    rw [← hW0] at HAW HBL
    clear hW0 hbl0 hnb hC2 hb hF hB hs hpg hglt hl1 h0
    go_enter Tryz.func50, Tryz.ntmps50
    go_wp2_with (go_at_call 56; (refine HT.out.mono ?_); rintro e w1 ⟨v, rfl, hv, hb1⟩; obtain ⟨vA, vc, rfl⟩ := Kd.N_slice hv; have hx1 := cellB (HBL.out.trans (hb1.mono HBL.out.size)) (Nat.le_refl _) hx0; have hz1 : w1.frozen? ⟨g, 1, none⟩ = false := by (obtain ⟨A9, c9, hb9, _⟩ := AccX.below HAW.out hb1; exact blk_frozen hb9 1))
    go_end0
    have hw1 := HBL.out.trans (hb1.mono HBL.out.size)
    exact ⟨rfl, AccX.put (AccX.below HAW.out hb1) hv (fun k hk => ⟨⟨fun e => by have h1 := HG.out; have h2 := HBL.out.size; have h3 : _ ≤ k := hk; omega, fun e => by have h1 := hP k e.symm; have h2 := HBL.out.size; have h3 : _ ≤ k := hk; omega⟩, hX k (by have h2 := HBL.out.size; have h3 : _ ≤ k := hk; omega)⟩), (Turned.of_below hw1 HG.out).set 1 _⟩
set_option maxRecDepth 100000 in
set_option maxHeartbeats 1000000 in
theorem keepX_no (l : List S64) (g : Nat) (P : Value) (k : Int) (w : World) (X : Nat → Prop) (hX : ∀ k, w.heap.size ≤ k → X k) (hA : AccX X w g P l) (h0 : l = [] ∨ (rd_T64 l 0).f0 ≠ 0) :
    Calls Tryz.prog 52 #[.pointer (some ⟨g, 1, none⟩), .int .i64 k] w fun e w' => e = .returned (.tuple #[]) ∧ AccX X w' g P l ∧ Turned g w w' := by
  have hglt := hA.lt
  have hb0 := below_alloc1 w (.cells #[.int .i64 k] 3)
  have HA := Aside0.mk (hA.below hb0)
  have HT := Aside0.mk (Turned.of_below hb0 hglt)
  obtain ⟨A, c, hb, hc, hF⟩ := hA
  have hx0 : w.cell? ⟨g, 1, none⟩ = some (.slice A l.length c) := (blk_cell hb 1).trans rfl
  replace hx0 := cellB hb0 (Nat.le_refl _) hx0
  cases l with
  | nil =>
    clear hF hb0 hb h0
    go_enter Tryz.func52, Tryz.ntmps52
    go_wp2
    refine bodyPost_ret (results_none rfl _ _ _) rfl ?_
    exact ⟨rfl, HA.out, HT.out⟩
  | cons x t =>
    have hne : (rd_T64 (x :: t) 0).f0 ≠ 0 := h0.resolve_left (by simp)
    obtain ⟨ad, A1, c1, rfl, hx1, hx2, hl1, hC1⟩ := at_T64 (Kd.C_below (Kd.F_now hF) hb0) 0 (by omega) (by simp)
    rw [show ad.add ((0 : Int).toNat * 2) = ad from addr_add0 ad] at hx1
    obtain ⟨v, hv⟩ : ∃ v, (rd_T64 (x :: t) 0).f0 = v := ⟨_, rfl⟩
    rw [hv] at hx1 hne
    have hn2 : (v != 0) = true := bne_iff_ne.2 hne
    have hp : 0 < (x :: t).length := by simp
    obtain ⟨n, hn⟩ : ∃ n, (x :: t).length = n := ⟨_, rfl⟩
    rw [hn] at hx0 hp hc
    have hp2 : ((n : Int) == 0) = false := by simp; omega
    clear hF hC1 h0 hne hx2 hn hv hb hb0
    go_enter Tryz.func52, Tryz.ntmps52
    go_wp2
    refine bodyPost_ret (results_none rfl _ _ _) rfl ?_
    exact ⟨rfl, HA.out, HT.out⟩
set_option maxRecDepth 100000 in
set_option maxHeartbeats 1000000 in
theorem keepX_yes (ps : List Int) (t : List S64) (g : Nat) (P : Value) (k : Int) (w : World) (X : Nat → Prop) (hX : ∀ k, w.heap.size ≤ k → X k) (hA : AccX X w g P (⟨0, ps⟩ :: t)) (hps : ps ≠ []) (hP : ∀ q, P.ownBlock = some q → q < w.heap.size) (hs : smallL (⟨0, ps⟩ :: t)) :
    Calls Tryz.prog 52 #[.pointer (some ⟨g, 1, none⟩), .int .i64 k] w fun e w' => e = .returned (.tuple #[]) ∧ AccX X w' g P (keepL k ps t) ∧ Turned g w w' := by
  have hglt := hA.lt
  have hb0 := below_alloc1 w (.cells #[.int .i64 k] 3)
  have HK := Aside0.mk (show (w.alloc (.cells #[.int .i64 k] 3)).cell? ⟨w.heap.size, 0, none⟩ = some (.int .i64 k) from blk_cell (blk_new w _) 0)
  obtain ⟨W, hW⟩ : ∃ W, w.alloc (.cells #[.int .i64 k] 3) = W := ⟨_, rfl⟩
  rw [hW] at hb0 HK
  have hsW : W.heap.size = w.heap.size + 1 := by rw [← hW]; simp
  have HB0 := Aside0.mk hb0
  have HAC := Aside0.mk (hA.below hb0)
  obtain ⟨A, c, hb, hc, hF⟩ := hA.below hb0
  obtain ⟨l, hl⟩ : ∃ l, (⟨0, ps⟩ :: t : List S64) = l := ⟨_, rfl⟩
  have hr0 : rd_T64 l 0 = ⟨0, ps⟩ := by rw [← hl]; rfl
  have hpos : 0 < l.length := by rw [← hl]; simp
  have hpl : ps.length ≤ 1000000 := by have := hs.2; rw [pages_cons] at this; have e : (⟨0, ps⟩ : S64).f1 = ps := rfl; rw [e] at this; omega
  rw [hl] at hb hc hF hs HAC
  have hx0 : W.cell? ⟨g, 1, none⟩ = some (.slice A l.length c) := (blk_cell hb 1).trans rfl
  have hz0 := blk_frozen hb 1
  obtain ⟨ad, A1, c1, rfl, hx1, hx2, hl1, hC1⟩ := at_T64 (Kd.F_now hF) 0 (by omega) (by omega)
  rw [show ad.add ((0 : Int).toNat * 2) = ad from addr_add0 ad] at hx1 hx2
  rw [hr0] at hx1 hx2 hl1 hC1
  replace hx1 : W.cell? ad = some (.int .i64 0) := hx1
  replace hC1 : (Kd.int .i64).C W A1 ps.length ps := hC1
  replace hx2 : W.cell? ⟨ad.block, ad.off + 1, none⟩ = some (.slice A1 ps.length c1) := hx2
  have hlps : 0 < ps.length := List.length_pos_iff.2 hps
  have HCI := Lib.hid (fun (w1 : World) (hb1 : Below W.heap.size W w1) => cloneInt ps A1 c1 w1 (Kd.C_below hC1 hb1) (by omega))
  have HCL := Lib.hid (fun (w1 : World) (hb1 : Below W.heap.size W w1) => cloneFreedF l (some ad) c w1 (okX X g P) (Kd.F_below hF hb1) (fun q hq => ⟨⟨fun e => by have := hb1.size; omega, fun e => by have := hP q e.symm; have := hb1.size; omega⟩, hX q (by have := hb1.size; omega)⟩) (by have := hs.1; omega))
  have hn0 : ((l.length : Int) == 0) = false := beq_eq_false_iff_ne.2 (by omega)
  have HG := Aside0.mk hglt
  have HLL := Lib.hid hl
  have HR0 := Lib.hid hr0
  have HSW := Lib.hid hsW
  have HLP := Aside0.mk hlps
  have HPL := Aside0.mk hpl
  have HP := Aside0.mk hP
  have hmf : ∀ (fn : Fn) (first cap : Array Value) (w : World), (Instr.makeFunc fn first cap).run Tryz.prog w = .ok (.func fn first cap) w := fun _ _ _ _ => rfl
  clear hC1 hl1 hr0 hF hs hb hl hA hps hP hb0 hpl hlps hsW
  obtain ⟨n, hn⟩ : ∃ n, l.length = n := ⟨_, rfl⟩
  have HNN := Lib.hid hn
  rw [hn] at hc hpos hx0 HCL hn0
  clear hn
  obtain ⟨f, hf⟩ : ∃ f, (ps.filter fun x => decide (x < k)) = f := ⟨_, rfl⟩
  have HFF := Lib.hid hf
  clear hf
  go_enter Tryz.func52, Tryz.ntmps52
  go_upto_region 1 with (fail)
  clear hW
  go_upto_region 3 with (first
    | (go_at_call 96; (refine (HCI.out _ (Below.refl _ _)).mono ?_); rintro e w1 ⟨v, rfl, hv, hb1⟩; obtain ⟨vA, vc, rfl⟩ := Kd.R_slice hv; have HV := Aside0.mk hv; have HB1 := Aside0.mk hb1; have hKc := cellB hb1 (Nat.le_refl _) HK.out; clear hv hb1))
  have hh : some (⟨w.heap.size, 0, none⟩ : Addr).block ≠ (Value.slice vA ps.length vc).ownBlock := fun e => by
    have := Kd.R_base HV.out _ e.symm
    have h2 := HSW.out
    simp at this
    omega
  refine (delete_R ⟨w.heap.size, 0, none⟩ k HV.out HLP.out HPL.out hKc hh).mono ?_
  rintro e w2 ⟨v2, rfl, hv2o, hv2, hk2, hb2⟩
  rw [HFF.out] at hv2
  obtain ⟨fA, fc, rfl⟩ := Kd.R_slice hv2
  have HV2 := Aside0.mk hv2
  have HB2 := Aside0.mk (HB1.out.trans hb2)
  clear hv2 hb2 hk2 hv2o
  have hx6 := cellB HB2.out (Nat.le_refl _) hx0
  go_upto_region 4 with (go_at_call 98; (refine (HCL.out _ HB2.out).mono ?_); rintro e w3 ⟨v, rfl, hv, hb3⟩; obtain ⟨xA, xc, rfl⟩ := Kd.N_slice hv; have HV3 := Aside0.mk hv; have HB3 := Aside0.mk hb3; have HA3 := Aside0.mk ((HAC.out.below HB2.out).below hb3); have hx4 := cellB hb3 (Nat.le_refl _) hx6; have hz4 : w3.frozen? ⟨g, 1, none⟩ = false := (by obtain ⟨A9, c9, hb9, _⟩ := (HAC.out.below HB2.out).below hb3; exact blk_frozen hb9 1); clear hv hb3)
  have hb03 : Below w.heap.size w w3 := (HB0.out.trans (HB2.out.mono HB0.out.size)).trans (HB3.out.mono (HB0.out.trans (HB2.out.mono HB0.out.size)).size)
  have hF3 := Kd.F_below (Kd.F_bound (Kd.R_F (Kd.R_mono (Kd.R_bound HV2.out) (fun q hq => hq.2.1)))) HB3.out
  rw [HNN.out] at HV3
  obtain ⟨h, vc', hve, hbh, hhs, _⟩ := Kd.N_form HV3.out (by rw [HNN.out]; exact hpos)
  rw [HNN.out] at hve ⊢
  injection hve with e1 _ e2
  subst e1 e2
  have hw2 := HB0.out.trans (HB2.out.mono HB0.out.size)
  have hwh : w.heap.size ≤ h := Nat.le_trans hw2.size hbh
  have hhg : h ≠ g := by have := HG.out; omega
  have hb2 : (w3.setCell ⟨g, 1, none⟩ (.slice (some ⟨h, 0, none⟩) n xc)).heap[g]? = some (.cells #[P, .slice (some ⟨h, 0, none⟩) n xc] 102 (0, 0)) := by
    obtain ⟨A9, c9, hb9, _⟩ := HA3.out
    exact blk_put hb9 1 _ rfl
  have HN2 := Aside0.mk (Kd.N_far HV3.out (p := ⟨g, 1, none⟩) (fun q hq => hq.1.1) (.slice (some ⟨h, 0, none⟩) n xc))
  have HT2 := Aside0.mk ((Turned.of_below hb03 HG.out).set 1 (.slice (some ⟨h, 0, none⟩) n xc))
  have hy0 : (w3.setCell ⟨g, 1, none⟩ (.slice (some ⟨h, 0, none⟩) n xc)).cell? ⟨g, 1, none⟩ = some (.slice (some ⟨h, 0, none⟩) n xc) := World.cell?_setCell_same _ _ _ hx4
  have hgw := HG.out
  have hsw := HSW.out
  have HF2 := Aside0.mk (Kd.F_mono (ok' := fun q => okX X g P q ∧ q ≠ h) (Kd.F_far hF3 (p := ⟨g, 1, none⟩) (fun q hq e => by have h1 : W.heap.size ≤ q := hq.1; have e2 : q = g := e; omega) (.slice (some ⟨h, 0, none⟩) n xc)) (fun q hq => ⟨⟨⟨fun e => by have h1 : W.heap.size ≤ q := hq.1; omega, fun e => by have h1 : W.heap.size ≤ q := hq.1; have := HP.out q e.symm; omega⟩, hX q (by have h1 : W.heap.size ≤ q := hq.1; omega)⟩, fun e => by have h2 : q < w2.heap.size := hq.2; omega⟩))
  obtain ⟨W2, hW2⟩ : ∃ W2, w3.setCell ⟨g, 1, none⟩ (.slice (some ⟨h, 0, none⟩) n xc) = W2 := ⟨_, rfl⟩
  rw [hW2] at HN2 HT2 hy0 hb2 HF2 ⊢
  obtain ⟨cs, hcl, hFK, hcc, hfr⟩ := Kd.N_elem HN2.out z64 (0 : Int) (by omega) (by omega)
  rw [show l.getD (0 : Int).toNat z64 = rd_T64 l 0 from rfl, HR0.out] at hFK
  obtain ⟨A5, c5, rfl, hl5, hF5⟩ := k64_openF hFK
  have hy1 : W2.cell? ⟨h, 1, none⟩ = some (.slice A5 ps.length c5) := hcc 1 _ rfl
  have hz5 : W2.frozen? ⟨h, 1, none⟩ = false := hfr 1
  have h0n : (0 : Int) < (n : Int) := by omega
  have HCC := Aside0.mk hcc
  have HWH := Aside0.mk hwh
  clear hcl hFK hcc hfr hl5 hF5 hx0 hx1 hx2 hx4 hx6 hz4 hz0 hW2 hF3 hb03 hw2 hgw hsw hKc hh
  go_upto_region 5 with (fail)
  have hfc : f.length ≤ fc := (Kd.R_reads' HV2.out).2.1
  obtain ⟨hN3, hG3⟩ := Kd.N_seg HN2.out (0 : Int) (by omega) h0n (c := [.int .i64 0, .slice A5 ps.length c5]) (seg := [.slice fA f.length fc]) (j := 1) rfl HCC.out (Nat.le_refl 2) (x' := (⟨0, f⟩ : S64)) (k64_mkF W2 _ (⟨0, f⟩ : S64) hfc HF2.out) (fun q hq => hq)
  have hls : l.set (0 : Int).toNat (⟨0, f⟩ : S64) = ⟨0, f⟩ :: t := by rw [← HLL.out]; rfl
  rw [hls] at hN3
  have hN4 : Kd.N k64 64 (W2.setCell ⟨h, 1, none⟩ (.slice fA f.length fc)) w2.heap.size (okX X g P) (.slice (some ⟨h, 0, none⟩) n xc) (⟨0, f⟩ :: t) := hN3
  have hy0' : (W2.setCell ⟨h, 1, none⟩ (.slice fA f.length fc)).cell? ⟨g, 1, none⟩ = some (.slice (some ⟨h, 0, none⟩) n xc) := by
    have := World.cell?_setCell_other W2 ⟨h, 1, none⟩ ⟨g, 1, none⟩ (.slice fA f.length fc) (by simp [hhg])
    exact this.trans hy0
  have hb4 := blk_far hb2 (p := ⟨h, 1, none⟩) (Ne.symm hhg) (.slice fA f.length fc)
  have hz6 : (W2.setCell ⟨h, 1, none⟩ (.slice fA f.length fc)).frozen? ⟨g, 1, none⟩ = false := blk_frozen hb4 1
  have hT3 := HT2.out.far HWH.out HG.out 1 (.slice fA f.length fc)
  obtain ⟨W3, hW3⟩ : ∃ W3, W2.setCell ⟨h, 1, none⟩ (.slice fA f.length fc) = W3 := ⟨_, rfl⟩
  rw [hW3] at hN4 hy0' hz6 hb4 hT3 ⊢
  have hnl : n = (⟨0, f⟩ :: t : List S64).length := (Kd.N_reads' hN4).1
  have hnv := (Kd.N_reads' hN4).2.1
  have HN4 := Aside0.mk hN4
  have HB4 := Aside0.mk hb4
  have HT3 := Aside0.mk hT3
  have HNL := Lib.hid hnl
  clear hN3 hG3 hls hW3 hN4 hb4 hT3 hnl hy0 hy1 hb2 hz5
  by_cases h0 : f = []
  · have hr : keepL k ps t = t := by rw [keepL, HFF.out]; exact if_pos h0
    have HR := Lib.hid hr
    have hp0 : ((f.length : Int) == 0) = true := by rw [h0]; rfl
    have h1n : 1 ≤ n := hpos
    have h1v : 1 ≤ xc := by omega
    clear hr h0
    have htl : n - 1 = t.length := by rw [HNL.out]; simp
    have HTL := Lib.hid htl
    by_cases hv1 : xc = 1
    · have hnn : n = 1 := by omega
      have htn : t = [] := List.length_eq_zero_iff.1 (by omega)
      have HTN := Lib.hid htn
      subst hv1 hnn
      clear htl htn
      go_wp2
      go_end0
      rw [HR.out]
      have hb5 := blk_put HB4.out 1 (.slice (some ⟨h, 0, none⟩) 0 0) rfl
      refine ⟨rfl, ⟨some ⟨h, 0, none⟩, 0, ?_, ?_, ?_⟩, HT3.out.set 1 _⟩
      · rw [HTN.out]; exact hb5
      · rw [HTN.out]; simp
      · rw [HTN.out]; exact fun W2 hW2 => ⟨rfl, Nat.zero_le _, fun h => absurd h (Nat.lt_irrefl 0)⟩
    · clear htl
      go_wp2
      go_end0
      rw [HR.out, HTL.out]
      have hb5 := blk_put HB4.out 1 (.slice (some ⟨h, 2, none⟩) t.length (xc - 1)) rfl
      have hF4 := Kd.N_F HN4.out
      rw [HNL.out] at hF4
      have hF6 := F_drop (m := 1) hF4 (by simp) (by rw [← HNL.out]; exact hnv) (by omega)
      refine ⟨rfl, ⟨_, _, hb5, by rw [← HTL.out]; omega, ?_⟩, HT3.out.set 1 _⟩
      exact Kd.F_far (show Kd.F k64 W3 (okX X g P) (some ⟨h, 2, none⟩) t.length t from hF6) (fun q hq => hq.1.1) _
  · have hr : keepL k ps t = ⟨0, f⟩ :: t := by rw [keepL, HFF.out]; exact if_neg h0
    have HR := Lib.hid hr
    have hlp : 0 < f.length := List.length_pos_iff.2 h0
    have hp0 : ((f.length : Int) == 0) = false := beq_eq_false_iff_ne.2 (by omega)
    clear hr h0
    go_wp2
    go_end0
    rw [HR.out]
    exact ⟨rfl, ⟨_, _, HNL.out ▸ HB4.out, by rw [← HNL.out]; exact hnv, by have := Kd.N_F HN4.out; rw [HNL.out] at this; exact this⟩, HT3.out⟩
set_option maxRecDepth 100000 in
set_option maxHeartbeats 1000000 in
theorem clonePages (l : List S89) (A : Option Addr) (c : Nat) (w : World) (ok : Nat → Prop) (hF : Kd.F k89 w ok A l.length l) (hg : ∀ k, w.heap.size ≤ k → ok k) (hn : l.length * 120 ≤ 140737488355328) :
    Calls Tryz.prog 49 #[.slice A l.length c] w fun e w' => ∃ v, e = .returned v ∧ Kd.N k89 89 w' w.heap.size ok v l ∧ Below w.heap.size w w' := by
  cases A with
  | none =>
    obtain rfl := none_nil (Kd.F_now hF)
    refine (Tryz.slices_Clone49_nil _ _ w).mono ?_
    rintro e w' ⟨rfl, rfl⟩
    exact ⟨_, rfl, Kd.N_nil _ _ _ _ _, Below.refl _ _⟩
  | some ad =>
    have hF2 := Kd.F_below (Kd.F_bound hF) (below_alloc1 w (.cells #[] 89))
    have hz := Kd.R_N (Kd.R_mono (ok' := ok) (Kd.R_bound (R_z k89 89 w)) (fun k hk => hg k hk.2.1))
    have hne : ∀ k, (ok k ∧ k < w.heap.size) → ok k ∧ some k ≠ (Value.slice (some ⟨w.heap.size, 0, none⟩) 0 0).ownBlock := fun k hk => ⟨hk.1, fun e => by have := hk.2; simp [Value.ownBlock] at e; omega⟩
    have hsz : w.heap.size ≤ (w.alloc (.cells #[] 89)).heap.size := by simp
    have hfr : ∀ k, (w.alloc (.cells #[] 89)).heap.size ≤ k → ok k := fun k hk => hg k (by simp at hk; omega)
    have hn2 : (([] : List S89).length + l.length) * 120 ≤ 140737488355328 := by simpa using hn
    have q : ∀ (w : World) (n c : Nat), (binOp .eql 22 (.slice (some ad) n c) (.slice none 0 0)).run Tryz.prog w = .ok (.bool false) w := fun w n c => Lib.run_eql_slice_nil w 22 89 (some ad) n c 0 0 Tryz.underlying22
    go_enter Tryz.func49, Tryz.ntmps49
    go_wp2_with (at_builtin; go_loud (refine Kd.N_append_rows k89 (w0 := w) w.heap.size rfl _ _ 22 89 (.agg (cells89 z89 none 0).toArray) 120 rfl Tryz.underlying22 info89 rfl (by decide) (by decide) _ _ l (some ad) l.length c ok (fun k => ok k ∧ k < w.heap.size) rfl rfl hz hF2 hne hfr (below_alloc1 w _) hsz hn2 ?_))
    intro v1 w1 hN hb hg hat
    go_wp2
    go_ret
    exact ⟨_, rfl, hN, hb⟩
def putL (ver : Int) (ps : List Int) (l : List S64) : List S64 := if ps = [] then l else mergeL l [⟨ver, ps⟩]
theorem putL_len (ver : Int) (ps : List Int) (l : List S64) : (putL ver ps l).length ≤ l.length + 1 ∧ (pagesOf (putL ver ps l)).length = (pagesOf l).length + ps.length := by
  unfold putL
  by_cases h : ps = []
  · rw [if_pos h, h]; simp
  · rw [if_neg h, merge_pages, pages_one]
    have := merge_length l [(⟨ver, ps⟩ : S64)]
    simp at this ⊢
    omega
theorem small_put {ver : Int} {ps : List Int} {l : List S64} (h1 : l.length ≤ 10000) (h2 : (pagesOf l).length ≤ 10000) (h3 : ps.length ≤ 1000) : smallL (putL ver ps l) := by
  have := putL_len ver ps l
  exact ⟨by omega, by omega⟩
def zeroAll (free : List Int) (pg : List S89) : List S89 := free.foldl (fun p n => p.set n.toNat z89) pg
def zeroTo (k : Nat) (free : List Int) (pg : List S89) : List S89 := zeroAll (free.take k) pg
theorem zeroAll_length (free : List Int) (pg : List S89) : (zeroAll free pg).length = pg.length := by
  induction free generalizing pg with
  | nil => rfl
  | cons n t ih => show (zeroAll t (pg.set n.toNat z89)).length = _; rw [ih, List.length_set]
theorem zeroTo_succ (k : Nat) (free : List Int) (pg : List S89) (h : k < free.length) : zeroTo (k + 1) free pg = (zeroTo k free pg).set (free[k]).toNat z89 := by
  unfold zeroTo zeroAll
  rw [List.take_succ_eq_append_getElem h, List.foldl_append]
  rfl
def EndC (W : World) (b : Nat) (sp : Array Value) : Prop :=
  W.heap[b]? = some (.cells sp 25 (0, 0)) ∧ W.heap[b + 1]? = some (.cells #[.slice none 0 0, .slice none 0 0, .slice none 0 0, .slice none 0 0, .int .i64 0, .int .i64 0] 25 (0, 0)) ∧ W.heap[b + 2]? = some (.cells #[.int .i64 0] 3 (0, 0)) ∧ W.heap[b + 3]? = some (.cells #[.slice none 0 0] 26 (0, 0)) ∧ W.heap[b + 4]? = some (.cells #[.int .i64 0] 30 (0, 0))
theorem EndC.keep {W W' : World} {b : Nat} {sp : Array Value} (h : EndC W b sp) (hk : ∀ k, b ≤ k → k < b + 5 → k < W.heap.size → W'.heap[k]? = W.heap[k]?) : EndC W' b sp := by
  obtain ⟨h0, h1, h2, h3, h4⟩ := h
  exact ⟨(hk _ (by omega) (by omega) (blk_lt h0)).trans h0, (hk _ (by omega) (by omega) (blk_lt h1)).trans h1, (hk _ (by omega) (by omega) (blk_lt h2)).trans h2, (hk _ (by omega) (by omega) (blk_lt h3)).trans h3, (hk _ (by omega) (by omega) (blk_lt h4)).trans h4⟩
theorem EndC.below {W W' : World} {b : Nat} {sp : Array Value} (h : EndC W b sp) (hb : Below W.heap.size W W') : EndC W' b sp := h.keep fun k _ _ hk => hb.block k hk
theorem EndC.turned {W W' : World} {b g : Nat} {sp : Array Value} (h : EndC W b sp) (ht : Turned g W W') (hg : b + 5 ≤ g) : EndC W' b sp := h.keep fun k _ h5 hk => ht.keep.2 k hk (by omega) (by simp)
theorem EndC.cells {W : World} {b : Nat} {a0 a1 a2 a3 a4 a5 : Value} (h : EndC W b #[a0, a1, a2, a3, a4, a5]) : W.cell? ⟨b, 0, none⟩ = some a0 ∧ W.cell? ⟨b, 1, none⟩ = some a1 ∧ W.cell? ⟨b, 3, none⟩ = some a3 ∧ W.cell? ⟨b, 4, none⟩ = some a4 ∧ W.cell? ⟨b, 5, none⟩ = some a5 :=
  ⟨blk_cell h.1 0, blk_cell h.1 1, blk_cell h.1 3, blk_cell h.1 4, blk_cell h.1 5⟩
theorem Drawn0.below {w w' : World} (h : Drawn0 w w') : Below w.heap.size w w' := by
  obtain ⟨n, rfl⟩ := h.out
  exact pw_below_drewN (Below.refl _ _) n
def takeStep : List S64 → Nat → Option (Int × List S64 × Nat)
  | [], n => if n < 4096 then some ((n : Int), [], n + 1) else none
  | ⟨v, []⟩ :: t, n => if v = 0 then none else if n < 4096 then some ((n : Int), ⟨v, []⟩ :: t, n + 1) else none
  | ⟨v, p :: ps⟩ :: t, n => if v = 0 then some (p, restL ps t, n) else if n < 4096 then some ((n : Int), ⟨v, p :: ps⟩ :: t, n + 1) else none
def takeRun : Nat → List S64 → Nat → List Int → Option (List S64 × Nat × List Int)
  | 0, _, _, _ => none
  | k + 1, l, n, own => if (partsOf l).length ≤ own.length then some (l, n, own) else
    match takeStep l n with
    | some (p, l', n') => takeRun k l' n' (own ++ [p])
    | none => none
theorem rest_form {p v : Int} {q : Int} {qs : List Int} {t : List S64} (h : formP p (⟨v, q :: qs⟩ :: t)) (hv : v = 0) : formP p (restL qs t) := by
  obtain ⟨h1, h2⟩ := h
  rw [List.map_cons, List.pairwise_cons] at h2
  have hx := h1 _ (List.mem_cons_self)
  unfold restL
  split
  · exact ⟨fun f hf => h1 f (List.mem_cons_of_mem _ hf), h2.2⟩
  · next hne =>
    refine ⟨fun f hf => ?_, ?_⟩
    · rcases List.mem_cons.1 hf with rfl | hf
      · refine ⟨by show (0 : Int) ≤ 0; omega, by show (0 : Int) ≤ _; omega, hne, fun n hn => hx.2.2.2.1 n (List.mem_cons_of_mem _ hn), (List.pairwise_cons.1 hx.2.2.2.2).2⟩
      · exact h1 f (List.mem_cons_of_mem _ hf)
    · rw [List.map_cons, List.pairwise_cons]
      exact ⟨fun a ha => by have := h2.1 a ha; subst hv; exact this, h2.2⟩
theorem rest_small {q v : Int} {qs : List Int} {t : List S64} (h : smallL (⟨v, q :: qs⟩ :: t)) : smallL (restL qs t) := by
  unfold smallL at *
  unfold restL
  have e1 : ∀ (z : S64) (l : List S64), pagesOf (z :: l) = z.f1 ++ pagesOf l := fun z l => by rw [← List.singleton_append, pages_append, pages_one]
  rw [e1] at h
  simp at h
  split
  · omega
  · rw [e1]; simp; omega
def layAll (ps pg : List S89) : List S89 := ps.foldl (fun q p => q.set p.no.toNat p) pg
def layTo (k : Nat) (ps pg : List S89) : List S89 := layAll (ps.take k) pg
theorem layAll_length (ps pg : List S89) : (layAll ps pg).length = pg.length := by
  induction ps generalizing pg with
  | nil => rfl
  | cons n t ih => show (layAll t (pg.set n.no.toNat n)).length = _; rw [ih, List.length_set]
theorem layTo_succ (k : Nat) (ps pg : List S89) (h : k < ps.length) : layTo (k + 1) ps pg = (layTo k ps pg).set (ps[k]).no.toNat ps[k] := by
  unfold layTo layAll
  rw [List.take_succ_eq_append_getElem h, List.foldl_append]
  rfl
def keepAll (k : Int) : List S64 → List S64
  | [] => []
  | f :: t => if f.f0 = 0 then keepL k f.f1 t else f :: t
theorem keep_any (l : List S64) (g : Nat) (P : Value) (k : Int) (w : World) (X : Nat → Prop) (hX : ∀ k, w.heap.size ≤ k → X k) (hA : AccX X w g P l) (hf : fullL l) (hP : ∀ q, P.ownBlock = some q → q < w.heap.size) (hs : smallL l) :
    Calls Tryz.prog 52 #[.pointer (some ⟨g, 1, none⟩), .int .i64 k] w fun e w' => e = .returned (.tuple #[]) ∧ AccX X w' g P (keepAll k l) ∧ Turned g w w' := by
  cases l with
  | nil => exact keepX_no [] g P k w X hX hA (.inl rfl)
  | cons f t =>
    obtain ⟨v, ps⟩ := f
    by_cases h : v = 0
    · subst h
      have e : keepAll k (⟨0, ps⟩ :: t) = keepL k ps t := by rw [keepAll]; exact if_pos rfl
      rw [e]
      exact keepX_yes ps t g P k w X hX hA (hf ⟨0, ps⟩ (by simp)) hP hs
    · have e : keepAll k (⟨v, ps⟩ :: t) = ⟨v, ps⟩ :: t := by rw [keepAll]; exact if_neg h
      rw [e]
      exact keepX_no _ g P k w X hX hA (.inr h)
theorem tailL_le (l : List Int) : ∀ p : Int, (∀ x ∈ l, 2 ≤ x) → 2 ≤ p → 2 ≤ tailL l p ∧ tailL l p ≤ p := by
  induction l with
  | nil => intro p _ h; exact ⟨h, Int.le_refl p⟩
  | cons x t ih =>
    intro p hx h
    rw [tailL]
    split
    · next e => have := ih (p - 1) (fun y hy => hx y (by simp [hy])) (by have := hx x (by simp); omega); omega
    · omega
theorem tailN_le (l : List S64) (p : Int) (h : formP p l) (h2 : 2 ≤ p) : 2 ≤ tailN l p ∧ tailN l p ≤ p := by
  cases l with
  | nil => exact ⟨h2, Int.le_refl p⟩
  | cons f t =>
    unfold tailN
    dsimp only
    split
    · exact tailL_le _ p (fun x hx => ((h.1 f (by simp)).2.2.2.1 x (by simpa using hx)).1) h2
    · omega
theorem AccX.pages {X : Nat → Prop} {w : World} {g : Nat} {P P' : Value} {l : List S64} (h : AccX X w g P l) (hP : P'.ownBlock = P.ownBlock) : AccX X (w.setCell ⟨g, 0, none⟩ P') g P' l := by
  obtain ⟨A, c, h1, h2, h3⟩ := h
  exact ⟨A, c, blk_put h1 0 _ rfl, h2, Kd.F_mono (Kd.F_far (p := ⟨g, 0, none⟩) h3 (fun k hk => hk.1.1) _) (fun k hk => ⟨⟨hk.1.1, by rw [hP]; exact hk.1.2⟩, hk.2⟩)⟩
def off5 (b q : Nat) : Prop := q < b ∨ b + 5 ≤ q
def EndM (w0 : World) (b g : Nat) (sp : Array Value) (pg : List S89) (l : List S64) (X : Nat → Prop) (wr : World) : Prop :=
  ∃ P, Kd.N k89 89 wr b (fun q => q ≠ g ∧ X q) P pg ∧ AccX X wr g P l ∧ EndC wr b sp ∧ Below b w0 wr ∧ g + 1 ≤ wr.heap.size ∧ ∀ q, P.ownBlock = some q → b + 5 ≤ q
def tinyL (l : List S64) : Prop := l.length ≤ 1000 ∧ (pagesOf l).length ≤ 1000
theorem tiny_small {l : List S64} (h : tinyL l) : smallL l := ⟨by have := h.1; omega, by have := h.2; omega⟩
theorem pages_take_succ (l : List S64) (k : Nat) (h : k < l.length) : pagesOf (l.take (k + 1)) = pagesOf (l.take k) ++ (rd_T64 l (k : Int)).f1 := by
  rw [take_rd l k h, pages_append, pages_one]
end Go.Proofs.YtpnhelcemodnmaaGreat
namespace Go.Proofs.YtpnhelcemodnmaaGreat
open Go.RowKit Go.Shelf Go.Proofs.YtpnhelcemodnmaaGreatW.PrintWords Go.Proofs.YtpnhelcemodnmaaGreatW.PrintLast Go.Proofs.YtpnhelcemodnmaaGreatW.PrintMore PA
set_option linter.unusedVariables false
set_option linter.unusedSimpArgs false
section
variable {P : Program} {ops : Array Oper} {Q : Exit → Act → World → Prop} {md : Region.Mode} {S : World → Prop} {k : Nat}
def wpAnyK (P : Program) (md : Region.Mode) (ops : Array Oper) (Q : Exit → Act → World → Prop) (S : World → Prop) (k : Nat) : Nat → Array Bool → Act → World → Prop
  | 0, l, a, w => Region.ready md ops l = [] ∧ Q .normal a w
  | f + 1, l, a, w => (Region.ready md ops l = [] → Q .normal a w) ∧
    ∀ i ∈ Region.ready md ops l, wpOp P ops Q i (fun a' w' => ((l.setIfInBounds i true).getD k true = true ∨ S w') ∧ wpAnyK P md ops Q S k f (l.setIfInBounds i true) a' w') a w
theorem wpAny_of_K : ∀ (f : Nat) (l : Array Bool) (a : Act) (w : World), wpAnyK P md ops Q S k f l a w → wpAny P md ops Q f l a w
  | 0, _, _, _, h => h
  | f + 1, _, _, _, h => ⟨h.1, fun i hi => wpOp_mono (fun a' w' h' => wpAny_of_K f _ a' w' h'.2) (h.2 i hi)⟩
theorem getD_two {l : Array Bool} (h : l.getD k true = false) : l.getD k false = false := by
  rcases Nat.lt_or_ge k l.size with h' | h'
  · simp [h'] at h ⊢; exact h
  · simp [Array.getElem?_eq_none h'] at h
def waitsFor (md : Region.Mode) (ops : Array Oper) (k i : Nat) : Bool := match ops[k]? with
  | some o => o.after.any fun e => Region.binds md e && e.on == i
  | none => false
theorem waitsFor_spec {m i : Nat} (h : waitsFor md ops m i = true) : ∃ om, ops[m]? = some om ∧ ∃ e ∈ om.after, Region.binds md e = true ∧ e.on = i := by
  unfold waitsFor at h
  cases ho : ops[m]? with
  | none => rw [ho] at h; cases h
  | some o =>
    rw [ho] at h
    obtain ⟨e, he, h2⟩ := Array.any_eq_true'.1 h
    rw [Bool.and_eq_true] at h2
    exact ⟨o, rfl, e, he, h2.1, eq_of_beq h2.2⟩
def waitsChain (md : Region.Mode) (ops : Array Oper) : Nat → List Nat → Bool
  | _, [] => true
  | i, y :: ys => waitsFor md ops y i && waitsChain md ops y ys
theorem not_ready_chain {l : Array Bool} {j : Nat} (hj : j ∈ Region.ready md ops l) : ∀ (ps : List Nat) (i : Nat), waitsChain md ops i ps = true → l.getD i true = false → (∀ x ∈ ps, l.getD x true = false) → j ∉ ps
  | [], _, _, _, _ => by simp
  | y :: ys, i, h, hi, hun => by
    rw [waitsChain, Bool.and_eq_true] at h
    rw [List.mem_cons]
    rintro (rfl | hm)
    · obtain ⟨om, h2, e, he, hb, heq⟩ := waitsFor_spec h.1
      obtain ⟨_, oj, h3, h4⟩ := mem_ready.1 hj
      rw [h3] at h2
      cases h2
      have h5 := h4 e he hb
      rw [heq, getD_two hi] at h5
      cases h5
    · exact not_ready_chain hj ys y h.2 (hun y (List.mem_cons_self ..)) (fun x hx => hun x (List.mem_cons_of_mem _ hx)) hm
theorem wpAnyK_first {i : Nat} {oi : Oper} {v : Value} (hi : ops[i]? = some oi) (hsel : ∀ (j : Nat) (o : Oper) cs b, ops[j]? = some o → o.op ≠ .select cs b)
    (hQ : ∀ c a w, Q (.panic c) (a.put oi.dst v) w → Q (.panic c) a w) (ps : List Nat) (hki : waitsChain md ops i ps = true) (hkp : k ∈ ps) (hip : i ∉ ps) :
    ∀ (f : Nat) (l : Array Bool) (a : Act) (w : World), (∀ x ∈ ps, l.getD x true = false) →
      (∀ j oj, ops[j]? = some oj → j ≠ i → l.getD j true = false → (∀ e ∈ oj.after, Region.binds md e = true → e.on ≠ i) → oi.apart ops oj = true) →
      i ∈ Region.ready md ops l → YieldsIf P ops S oi v a → S w → wpAnyK P md ops Q S k f (l.setIfInBounds i true) (a.put oi.dst v) w → wpAnyK P md ops Q S k (f + 1) l a w := by
  intro f
  induction f with
  | zero =>
    intro l a w hlk _ hr hy hS H
    refine ⟨fun h => (by rw [h] at hr; cases hr), fun j hj => ?_⟩
    by_cases hji : j = i
    · subst hji; exact hy.wpOp hi hS ⟨.inr hS, H⟩
    · have := ready_mono hj hji
      rw [H.1] at this
      cases this
  | succ f ih =>
    intro l a w hlk hfree hr hy hS H
    refine ⟨fun h => (by rw [h] at hr; cases hr), fun j hj => ?_⟩
    by_cases hji : j = i
    · subst hji; exact hy.wpOp hi hS ⟨.inr hS, H⟩
    · have h1 := H.2 j (ready_mono hj hji)
      obtain ⟨hjun, oj, hoj, hall⟩ := mem_ready.1 hj
      have hun := (mem_ready.1 hr).1
      have hnot : ∀ e ∈ oj.after, Region.binds md e = true → e.on ≠ i := fun e he hb heq => by
        have h2 := hall e he hb
        rw [heq, getD_two hun] at h2
        cases h2
      have hjp : j ∉ ps := not_ready_chain hj ps i hki hun hlk
      have hjk : j ≠ k := fun e => hjp (e ▸ hkp)
      have hik : i ≠ k := fun e => hip (e ▸ hkp)
      have h2 := wpOp_putIf hoj (hfree j oj hoj hji hjun hnot) (fun cs b => hsel i oi cs b hi) (fun cs b => hsel j oj cs b hoj) hQ hy h1
      refine wpOp_mono (fun a' w' h3 => ?_) h2
      have hSk : S w' := h3.2.1.resolve_left (by rw [getD_set_ne true hjk, getD_set_ne true hik, hlk k hkp]; simp)
      refine ⟨.inr hSk, ih (l.setIfInBounds j true) a' w' (fun x hx => by
        have hxj : j ≠ x := by rintro rfl; exact hjp hx
        rw [getD_set_ne true hxj]; exact hlk x hx) (fun m om hm hmi hmun hno => hfree m om hm hmi ?_ hno) (ready_mono hr (Ne.symm hji)) h3.1 hSk ?_⟩
      · by_cases hjm : j = m
        · subst hjm; exact hjun
        · rw [getD_set_ne true hjm] at hmun; exact hmun
      · rw [Array.setIfInBounds_comm _ _ hji]
        exact h3.2.2
theorem take_atK {i : Nat} {oi : Oper} {f : Nat} {l : Array Bool} {t : Array Value} {df : List Deferred} {w : World} (d : Nat) (v : Value) (ps : List Nat) (hi : ops[i]? = some oi) (hd : oi.dst = some d) (hw : waitsChain md ops i ps = true) (hkp : k ∈ ps) (hip : i ∉ ps) (hlk : ps.all (fun x => !l.getD x true) = true)
    (hs : Region.noSelect ops = true) (hf : Region.free md ops l i = true) (hr : (Region.ready md ops l).contains i = true)
    (hQ : ∀ c a w, Q (.panic c) (a.put oi.dst v) w → Q (.panic c) a w) (hy : YieldsIf P ops S oi v { tmps := t, defers := df }) (hS : S w)
    (h : wpAnyK P md ops Q S k f (l.setIfInBounds i true) { tmps := t.setIfInBounds d v, defers := df } w) : wpAnyK P md ops Q S k (f + 1) l { tmps := t, defers := df } w := by
  refine wpAnyK_first hi (Region.noSelect_spec hs) hQ ps hw hkp hip f l _ w (fun x hx => ?_) (Region.free_spec hi hf) (by simpa using hr) hy hS ?_
  · have := List.all_eq_true.1 hlk x hx
    simpa using this
  · rw [hd]
    exact h
def AllReadyK (P : Program) (md : Region.Mode) (ops : Array Oper) (Q : Exit → Act → World → Prop) (S : World → Prop) (k f : Nat) (l : Array Bool) (a : Act) (w : World) (rs : List Nat) : Prop :=
  ∀ i ∈ rs, wpOp P ops Q i (fun a' w' => ((l.setIfInBounds i true).getD k true = true ∨ S w') ∧ wpAnyK P md ops Q S k f (l.setIfInBounds i true) a' w') a w
theorem AllReadyK.nil {f : Nat} {l : Array Bool} {a : Act} {w : World} : AllReadyK P md ops Q S k f l a w [] := fun _ h => by cases h
theorem AllReadyK.cons {f : Nat} {l : Array Bool} {a : Act} {w : World} {i : Nat} {o : Oper} {rs : List Nat} (ho : ops[i]? = some o)
    (h : ∀ K' : Act → World → Prop, Shut (∀ a w, S w → (S w → wpAnyK P md ops Q S k f (l.setIfInBounds i true) a w) → K' a w) → if Region.wanted o (yielded ops a.tmps) = true then Oper.wp P o a w K' Q else K' (a.put o.dst undef) w)
    (hs : AllReadyK P md ops Q S k f l a w rs) : AllReadyK P md ops Q S k f l a w (i :: rs) := fun j hj => by
  rcases List.mem_cons.1 hj with rfl | hj
  · exact wpOp_step ho (fun K' hK => h K' (fun a w hS hW => hK a w ⟨.inr hS, hW hS⟩))
  · exact hs j hj
theorem wpAnyK_ready {rs : List Nat} {f : Nat} {l : Array Bool} {a : Act} {w : World} (hr : Region.ready md ops l = rs) (hne : rs ≠ [])
    (h : AllReadyK P md ops Q S k f l a w rs) : wpAnyK P md ops Q S k (f + 1) l a w :=
  ⟨fun h0 => absurd (hr ▸ h0) hne, hr ▸ h⟩
theorem wpAnyK_of_H : ∀ (f : Nat) (l : Array Bool) (a : Act) (w : World), l.getD k true = true → wpAnyH P md ops Q (fun _ => True) f l a w → wpAnyK P md ops Q S k f l a w
  | 0, _, _, _, _, h => h
  | f + 1, l, a, w, hl, h => ⟨h.1, fun i hi => by
      have hl' : (l.setIfInBounds i true).getD k true = true := by
        by_cases e : i = k
        · subst e
          rcases Nat.lt_or_ge i l.size with h' | h'
          · simp [h']
          · simp [h']
        · rw [getD_set_ne true e]; exact hl
      exact wpOp_mono (fun a' w' h' => ⟨.inl hl', wpAnyK_of_H f _ a' w' hl' h'.2⟩) (h.2 i hi)⟩
theorem storeK {f : Nat} {l : Array Bool} {a : Act} {w : World} {o : Oper} (hr : Region.ready md ops l = [k]) (hk : k < l.size) (ho : ops[k]? = some o) (hgd : o.guard = none)
    (h : ∀ K' : Act → World → Prop, Shut (∀ a w, wpAnyH P md ops Q (fun _ => True) f (l.setIfInBounds k true) a w → K' a w) → Oper.wp P o a w K' Q) : wpAnyK P md ops Q S k (f + 1) l a w := by
  refine ⟨fun h0 => absurd (hr ▸ h0) (by simp), fun i hi => ?_⟩
  rw [hr, List.mem_singleton] at hi
  subst hi
  have hl : (l.setIfInBounds i true).getD i true = true := by simp [hk]
  refine wpOp_step ho fun K' hK => ?_
  have hw : Region.wanted o (yielded ops a.tmps) = true := by simp [Region.wanted, hgd]
  rw [if_pos hw]
  exact h K' (fun a w hW => hK a w ⟨.inl hl, wpAnyK_of_H f _ a w hl hW⟩)
theorem wp_region_keptK {id : Nat} {a : Act} {w : World} (k : Nat) (hm : P.follows .mixedOrders = true) (hS : S w.drew)
    (h : S w.drew → wpAnyK P .any ops Q S k ops.size (Array.replicate ops.size false) a w.drew) : (Code.region id ops true).wp P Q a w :=
  wp_region_any hm (wpAny_of_K _ _ _ _ (h hS))
end
end Go.Proofs.YtpnhelcemodnmaaGreat
namespace Go.Proofs.YtpnhelcemodnmaaGreat
open Go.RowKit Go.Shelf Go.Proofs.YtpnhelcemodnmaaGreatW.PrintWords Go.Proofs.YtpnhelcemodnmaaGreatW.PrintLast Go.Proofs.YtpnhelcemodnmaaGreatW.PrintMore PA
set_option linter.unusedVariables false
set_option linter.unusedSimpArgs false
attribute [local go_sem] Oper.semAt_some
theorem addr_plain {w : World} {a : Addr} {v : Value} (h : w.cell? a = some v) : a = ⟨a.block, a.off, none⟩ := by
  obtain ⟨b, o, t⟩ := a
  cases t with
  | none => rfl
  | some q =>
    have : w.cell? ⟨b, o, some q⟩ = none := by unfold World.cell?; split <;> simp
    rw [this] at h
    cases h
theorem int_P {w : World} {A : Option Addr} {l : List Int} (h : (Kd.int .i64).C w A l.length l) (k : Nat) (hk : k < l.length) : ∃ b o, A = some ⟨b, o, none⟩ ∧ w.cell? ⟨b, o + k, none⟩ = some (.int .i64 l[k]) := by
  obtain ⟨ad, rfl, h0⟩ := Kd.at_int h (k : Int) (by omega) (by omega)
  rw [Int.toNat_natCast, rd_at l k hk] at h0
  obtain ⟨ad', e, g0⟩ := Kd.at_int h 0 (by omega) (by omega)
  injection e with e
  subst e
  rw [show ad.add (0 : Int).toNat = ad from addr_add0 ad] at g0
  have e := addr_plain g0
  obtain ⟨b, o, t⟩ := ad
  have ht : t = none := congrArg Addr.spot e
  subst ht
  rw [Addr.add_lit] at h0
  exact ⟨b, o, rfl, h0⟩
def shortP (l : List S64) : Prop := (pagesOf (l.take 201)).length ≤ 900 ∧ l.length ≤ 200
instance (l : List S64) : Decidable (shortP l) := by unfold shortP; infer_instance
theorem short_tiny {l : List S64} (h : shortP l) : tinyL l := by
  obtain ⟨h1, h2⟩ := h
  rw [List.take_of_length_le (by omega)] at h1
  exact ⟨by omega, by omega⟩
theorem pages_take_bound (l : List S64) (hb : ∀ f ∈ l, f.f1.length ≤ 17592186044416) (m : Nat) (hm : m ≤ l.length) : (pagesOf (l.take m)).length ≤ m * 17592186044416 := by
  induction m with
  | zero => simp [pagesOf, flat]
  | succ m ih =>
    rw [pages_take_succ l m (by omega), List.length_append, rd_nat l m (by omega)]
    have := hb _ (List.getElem_mem (show m < l.length by omega))
    have := ih (by omega)
    omega
theorem short_l1 (ls : List (List S64)) (i : Nat) (hi : i < ls.length) (l : List S64) (hl : rd_L3 ls (i : Int) = l) (hb : ∀ f ∈ l, f.f1.length ≤ 17592186044416) (K : Nat) (d : Nat) : ∀ m : Nat, m ≤ l.length → m ≤ 201 → min l.length 201 - m = d →
    understorylaw12_short.l1 (d + 1 + K) ls (i : Int) ((pagesOf (l.take m)).length : Int) (m : Int) = if shortP l then understorylaw12_short.l0 K ls (wrap64 ((i : Int) + 1)) else some false := by
  have fin : ∀ m : Nat, (m = l.length ∨ m = 201 ∧ 201 < l.length) → m ≤ l.length → ∀ X : Option Bool, (if ((pagesOf (l.take m)).length : Int) > 900 then some false else (if (l.length : Int) > 200 then some false else X)) = if shortP l then X else some false := by
    intro m hm hml X
    have heq : l.length ≤ 200 → l.take m = l.take 201 := fun h => by
      rcases hm with rfl | ⟨rfl, h2⟩
      · rw [List.take_length, List.take_of_length_le (by omega)]
      · rfl
    by_cases hs : shortP l
    · have hs' := hs
      obtain ⟨h9, h200⟩ := hs'
      rw [if_pos hs, heq h200, if_neg (by omega), if_neg (by omega)]
    · rw [if_neg hs]
      split
      · rfl
      · split
        · rfl
        · next h9 h200 => exact absurd ⟨by rw [← heq (by omega)]; omega, by omega⟩ hs
  induction d with
  | zero =>
    intro m h1 h2 h3
    rw [show 0 + 1 + K = K + 1 by omega]
    simp only [understorylaw12_short.l1, hl]
    rw [if_pos (by omega), if_pos (by omega)]
    by_cases hm : m < l.length
    · have hm2 : m = 201 := by omega
      subst hm2
      rw [if_pos (by omega), if_neg (by omega)]
      exact fin 201 (.inr ⟨rfl, hm⟩) (by omega) _
    · rw [if_neg (by omega)]
      exact fin m (.inl (by omega)) h1 _
  | succ d ih =>
    intro m h1 h2 h3
    have hm : m < l.length := by omega
    have hm2 : m ≤ 200 := by omega
    rw [show d + 1 + 1 + K = (d + 1 + K) + 1 by omega]
    simp only [understorylaw12_short.l1, hl]
    rw [if_pos (by omega), if_pos (by omega), if_pos (by omega), if_pos (by omega), if_pos (by omega), wrapp m (by omega)]
    have hpb := pages_take_bound l hb (m + 1) (by omega)
    have e : wrap64 (((pagesOf (l.take m)).length : Int) + ((rd_T64 l (m : Int)).f1.length : Int)) = ((pagesOf (l.take (m + 1))).length : Int) := by
      rw [pages_take_succ l m hm, List.length_append] at hpb ⊢
      unfold wrap64
      omega
    rw [e, ih (m + 1) (by omega) (by omega) (by omega)]
theorem equalInt_eq (l : List Int) (A B : Option Addr) (c d : Nat) (w : World) (hA : (Kd.int .i64).C w A l.length l) (hB : (Kd.int .i64).C w B l.length l) :
    Calls Tryz.prog 126 #[.slice A l.length c, .slice B l.length d] w fun e w' => e = .returned (.bool true) ∧ Drawn0 w w' := by
  by_cases h0 : l = []
  · subst h0
    refine (Tryz.slices_Equal_int_empty A B c 0 d w (by omega)).mono ?_
    rintro e w' ⟨rfl, rfl⟩
    exact ⟨rfl, Drawn0.refl _⟩
  · have hp := List.length_pos_iff.2 h0
    obtain ⟨b1, o1, rfl, _⟩ := int_P hA 0 hp
    obtain ⟨b2, o2, rfl, _⟩ := int_P hB 0 hp
    have hx : ∀ {b o : Nat}, (Kd.int .i64).C w (some ⟨b, o, none⟩) l.length l → ∀ j, j < l.length → w.cell? ⟨b, o + j, none⟩ = some (.int .i64 (l.getD j 0)) := fun {b o} h j hj => by
      obtain ⟨b', o', e, hc⟩ := int_P h j hj
      injection e with e
      injection e with e1 e2 _
      rw [e1, e2, hc]
      simp [hj]
    refine (Tryz.slices_Equal_int b1 o1 l.length c b2 o2 l.length d l l w (Nat.le_refl _) (Nat.le_refl _) (Kd.C_max hA) (Kd.C_max hA) (hx hA) (hx hB)).mono ?_
    rintro e w' ⟨rfl, hq⟩
    exact ⟨by simp, ⟨hq⟩⟩
def plainP (x : S89) : Prop := x.tree = 0 ∧ x.level = 0 ∧ x.top = false ∧ x.ent.2.1 = 0
set_option maxRecDepth 100000 in
theorem plain_yes (x : S89) (A : Option Addr) (c : Nat) (w : World) (h : plainP x) :
    Calls Tryz.prog 160 #[.agg (cells89 x A c).toArray] w fun e w' => e = .returned (.bool true) ∧ Below w.heap.size w w' := by
  obtain ⟨k, no, v, tr, lv, tp, ⟨e1, e2, e3⟩, nx, dt, fr⟩ := x
  obtain ⟨h1, h2, h3, h4⟩ := h
  dsimp only at h1 h2 h3 h4
  subst h1 h2 h3 h4
  simp only [cells89]
  go_enter Tryz.func160, Tryz.ntmps160
  go_wp2
  go_ret
  exact ⟨rfl, below_alloc1 w _⟩
set_option maxRecDepth 100000 in
theorem same161 (x : S64) (A B : Option Addr) (c d : Nat) (w : World) (hA : (Kd.int .i64).C w A x.f1.length x.f1) (hB : (Kd.int .i64).C w B x.f1.length x.f1) :
    Calls Tryz.prog 161 #[.agg #[.int .i64 x.f0, .slice A x.f1.length c], .agg #[.int .i64 x.f0, .slice B x.f1.length d]] w fun e w' => e = .returned (.bool true) ∧ Below w.heap.size w w' := by
  obtain ⟨v, xs⟩ := x
  dsimp only at hA hB ⊢
  have hb : Below w.heap.size w ((w.alloc (.cells #[.int .i64 v, .slice A xs.length c] 64)).alloc (.cells #[.int .i64 v, .slice B xs.length d] 64)) := (below_alloc1 w _).alloc (by simp) _
  have HB := Aside0.mk hb
  have HEQ := Aside0.mk (equalInt_eq xs A B c d _ (Kd.C_below hA hb) (Kd.C_below hB hb))
  clear hA hB hb
  go_enter Tryz.func161, Tryz.ntmps161
  go_wp2_with (go_at_call 126; (refine HEQ.out.mono ?_); rintro e w1 ⟨rfl, hd1⟩)
  go_ret
  exact ⟨rfl, HB.out.trans (hd1.below.mono HB.out.size)⟩
set_option maxRecDepth 100000 in
set_option maxHeartbeats 1000000 in
theorem equalFreed (l : List S64) (A B : Option Addr) (c d : Nat) (w : World) (hA : k64.C w A l.length l) (hc : l.length ≤ c) (hB : k64.C w B l.length l) (hd : l.length ≤ d) :
    Calls Tryz.prog 124 #[.slice A l.length c, .slice B l.length d, .func (.func 161) #[] #[]] w fun e w' => e = .returned (.bool true) ∧ Below w.heap.size w w' := by
  have hlm := Kd.C_max hA
  have HA := Aside0.mk hA
  have HB := Aside0.mk hB
  clear hA hB
  go_enter Tryz.func124, Tryz.ntmps124
  go_upto_region 4 with (fail)
  go_loopw [17] (fun i wr => ∃ k : Nat, k ≤ l.length ∧ i = .int .i64 k ∧ Aside0 (Below w.heap.size w wr))
    (fun i _ => l.length - (intOf i).toNat)
  case atStart => exact ⟨0, Nat.zero_le _, rfl, ⟨Below.refl _ _⟩⟩
  case round =>
    obtain ⟨k, hk, rfl, HW⟩ := hrel
    by_cases hlt : k < l.length
    · obtain ⟨ad, A1, c1, rfl, hx0, hx1, hl1, hC1⟩ := at_T64 HA.out (k : Int) (by omega) (by omega)
      obtain ⟨bd, B1, d1, rfl, hy0, hy1, hl2, hC2⟩ := at_T64 HB.out (k : Int) (by omega) (by omega)
      rw [Int.toNat_natCast] at hx0 hx1 hy0 hy1
      replace hx0 := cellB HW.out (Nat.le_refl _) hx0
      replace hx1 := cellB HW.out (Nat.le_refl _) hx1
      obtain ⟨T, hT⟩ : ∃ T, rd_T64 l (k : Int) = T := ⟨_, rfl⟩
      rw [hT] at hx0 hx1 hl1 hC1 hy0 hy1 hl2 hC2
      obtain ⟨v, xs⟩ := T
      dsimp only at hx0 hx1 hl1 hC1 hy0 hy1 hl2 hC2
      have hb1 := HW.out.alloc HW.out.size (.cells #[.int .i64 v, .slice A1 xs.length c1] 64)
      replace hy0 := cellB hb1 (Nat.le_refl _) hy0
      replace hy1 := cellB hb1 (Nat.le_refl _) hy1
      have HSM := Aside0.mk (fun (w1 : World) (hb : Below w.heap.size w w1) => same161 ⟨v, xs⟩ A1 B1 c1 d1 w1 (Kd.C_below hC1 hb) (Kd.C_below hC2 hb))
      have HB2 := Aside0.mk (hb1.alloc hb1.size (.cells #[.int .i64 v, .slice B1 xs.length d1] 64))
      clear hT hC1 hC2 hb1 hl1 hl2
      go_wp2_with (go_at_call 161; (refine (HSM.out _ HB2.out).mono ?_); rintro e w3 ⟨rfl, hb3⟩)
      go_roundw
      case rel => exact ⟨k + 1, by omega, by go_num, ⟨HB2.out.trans (hb3.mono HB2.out.size)⟩⟩
      case measure => simp [intOf]; omega
    · obtain rfl : k = l.length := by omega
      go_wp2
      go_ret
      exact ⟨rfl, HW.out⟩
set_option maxRecDepth 100000 in
set_option maxHeartbeats 1000000 in
theorem same_yes (x : S89) (A B : Option Addr) (c d : Nat) (w : World) (h : plainP x) (hA : k64.C w A x.freed.length x.freed) (hc : x.freed.length ≤ c) (hB : k64.C w B x.freed.length x.freed) (hd : x.freed.length ≤ d) :
    Calls Tryz.prog 117 #[.agg (cells89 x A c).toArray, .agg (cells89 x B d).toArray] w fun e w' => e = .returned (.bool true) ∧ Below w.heap.size w w' := by
  have hb0 : Below w.heap.size w ((w.alloc (.cells (cells89 x A c).toArray 89)).alloc (.cells (cells89 x B d).toArray 89)) := (below_alloc1 w _).alloc (by simp) _
  have hk1 : ((w.alloc (.cells (cells89 x A c).toArray 89)).alloc (.cells (cells89 x B d).toArray 89)).heap[w.heap.size]? = some (.cells (cells89 x A c).toArray 89 (0, 0)) := blk_alloc (blk_new w _) _
  have hk2 := blk_new (w.alloc (.cells (cells89 x A c).toArray 89)) (.cells (cells89 x B d).toArray 89)
  rw [World.size_alloc] at hk2
  have HP1 := Aside0.mk (fun w1 : World => plain_yes x A c w1 h)
  have HP2 := Aside0.mk (fun w1 : World => plain_yes x B d w1 h)
  have HEQ := Aside0.mk (fun (w1 : World) (hb : Below w.heap.size w w1) => equalFreed x.freed A B c d w1 (Kd.C_below hA hb) hc (Kd.C_below hB hb) hd)
  clear hA hB h
  obtain ⟨k, no, v, tr, lv, tp, ⟨e1, e2, e3⟩, nx, dt, fr⟩ := x
  simp only [cells89] at hb0 hk1 hk2 HP1 HP2 HEQ hc hd ⊢
  obtain ⟨W0, hW0⟩ : ∃ W0, (w.alloc (.cells [Value.int .i64 k, .int .i64 no, .int .i64 v, .int .i64 tr, .int .i64 lv, .bool tp, .slice e1 e2 e3, .int .i64 nx, .string dt, .slice A fr.length c].toArray 89)).alloc (.cells [Value.int .i64 k, .int .i64 no, .int .i64 v, .int .i64 tr, .int .i64 lv, .bool tp, .slice e1 e2 e3, .int .i64 nx, .string dt, .slice B fr.length d].toArray 89) = W0 := ⟨_, rfl⟩
  rw [hW0] at hb0 hk1 hk2
  have HW0 := Lib.hid hW0
  have HB0 := Aside0.mk hb0
  have HK1 := Aside0.mk hk1
  have HK2 := Aside0.mk hk2
  have HPA : ∀ w1, Below W0.heap.size W0 w1 → w1.heap[w.heap.size]? = _ ∧ w1.heap[w.heap.size + 1]? = _ := fun w1 hb => ⟨blk_below hk1 hb, blk_below hk2 hb⟩
  have HPB := Aside0.mk HPA
  clear hb0 hk1 hk2 hW0 HPA
  go_enter Tryz.func117, Tryz.ntmps117
  go_upto_region 1 with (fail)
  rw [HW0.out]
  have a0 : W0.cell? ⟨w.heap.size, 0, none⟩ = some (.int .i64 k) := (blk_cell HK1.out 0).trans rfl
  have a1 : W0.cell? ⟨w.heap.size, 1, none⟩ = some (.int .i64 no) := (blk_cell HK1.out 1).trans rfl
  have a2 : W0.cell? ⟨w.heap.size, 2, none⟩ = some (.int .i64 v) := (blk_cell HK1.out 2).trans rfl
  have a3 : W0.cell? ⟨w.heap.size, 3, none⟩ = some (.int .i64 tr) := (blk_cell HK1.out 3).trans rfl
  have a4 : W0.cell? ⟨w.heap.size, 4, none⟩ = some (.int .i64 lv) := (blk_cell HK1.out 4).trans rfl
  have a5 : W0.cell? ⟨w.heap.size, 5, none⟩ = some (.bool tp) := (blk_cell HK1.out 5).trans rfl
  have a6 : W0.cell? ⟨w.heap.size, 6, none⟩ = some (.slice e1 e2 e3) := (blk_cell HK1.out 6).trans rfl
  have a7 : W0.cell? ⟨w.heap.size, 7, none⟩ = some (.int .i64 nx) := (blk_cell HK1.out 7).trans rfl
  have a8 : W0.cell? ⟨w.heap.size, 8, none⟩ = some (.string dt) := (blk_cell HK1.out 8).trans rfl
  have a9 : W0.cell? ⟨w.heap.size, 9, none⟩ = some (.slice A fr.length c) := (blk_cell HK1.out 9).trans rfl
  have b0 : W0.cell? ⟨w.heap.size + 1, 0, none⟩ = some (.int .i64 k) := (blk_cell HK2.out 0).trans rfl
  have b1 : W0.cell? ⟨w.heap.size + 1, 1, none⟩ = some (.int .i64 no) := (blk_cell HK2.out 1).trans rfl
  have b2 : W0.cell? ⟨w.heap.size + 1, 2, none⟩ = some (.int .i64 v) := (blk_cell HK2.out 2).trans rfl
  have b3 : W0.cell? ⟨w.heap.size + 1, 3, none⟩ = some (.int .i64 tr) := (blk_cell HK2.out 3).trans rfl
  have b4 : W0.cell? ⟨w.heap.size + 1, 4, none⟩ = some (.int .i64 lv) := (blk_cell HK2.out 4).trans rfl
  have b5 : W0.cell? ⟨w.heap.size + 1, 5, none⟩ = some (.bool tp) := (blk_cell HK2.out 5).trans rfl
  have b6 : W0.cell? ⟨w.heap.size + 1, 6, none⟩ = some (.slice e1 e2 e3) := (blk_cell HK2.out 6).trans rfl
  have b7 : W0.cell? ⟨w.heap.size + 1, 7, none⟩ = some (.int .i64 nx) := (blk_cell HK2.out 7).trans rfl
  have b8 : W0.cell? ⟨w.heap.size + 1, 8, none⟩ = some (.string dt) := (blk_cell HK2.out 8).trans rfl
  have b9 : W0.cell? ⟨w.heap.size + 1, 9, none⟩ = some (.slice B fr.length d) := (blk_cell HK2.out 9).trans rfl
  go_wp2_with (first
    | (go_at_call 124; have hb9 := HB2.out; with_reducible refine (HEQ.out _ hb9).mono ?_; rintro e w3 ⟨rfl, hb3⟩)
    | (go_at_call 160; have hb9 := HB1.out; with_reducible refine (HP2.out _).mono ?_; rintro e w2 ⟨rfl, hb2⟩; have HX2 := Aside0.mk (HX1.out.trans (hb2.mono HX1.out.size)); have HB2 := Aside0.mk (HB0.out.trans (HX2.out.mono HB0.out.size)); have hp := HPB.out _ HX2.out; have a0 : w2.cell? ⟨w.heap.size, 0, none⟩ = some (.int .i64 k) := (blk_cell hp.1 0).trans rfl; have a1 : w2.cell? ⟨w.heap.size, 1, none⟩ = some (.int .i64 no) := (blk_cell hp.1 1).trans rfl; have a2 : w2.cell? ⟨w.heap.size, 2, none⟩ = some (.int .i64 v) := (blk_cell hp.1 2).trans rfl; have a3 : w2.cell? ⟨w.heap.size, 3, none⟩ = some (.int .i64 tr) := (blk_cell hp.1 3).trans rfl; have a4 : w2.cell? ⟨w.heap.size, 4, none⟩ = some (.int .i64 lv) := (blk_cell hp.1 4).trans rfl; have a5 : w2.cell? ⟨w.heap.size, 5, none⟩ = some (.bool tp) := (blk_cell hp.1 5).trans rfl; have a6 : w2.cell? ⟨w.heap.size, 6, none⟩ = some (.slice e1 e2 e3) := (blk_cell hp.1 6).trans rfl; have a7 : w2.cell? ⟨w.heap.size, 7, none⟩ = some (.int .i64 nx) := (blk_cell hp.1 7).trans rfl; have a8 : w2.cell? ⟨w.heap.size, 8, none⟩ = some (.string dt) := (blk_cell hp.1 8).trans rfl; have a9 : w2.cell? ⟨w.heap.size, 9, none⟩ = some (.slice A fr.length c) := (blk_cell hp.1 9).trans rfl; have b0 : w2.cell? ⟨w.heap.size + 1, 0, none⟩ = some (.int .i64 k) := (blk_cell hp.2 0).trans rfl; have b1 : w2.cell? ⟨w.heap.size + 1, 1, none⟩ = some (.int .i64 no) := (blk_cell hp.2 1).trans rfl; have b2 : w2.cell? ⟨w.heap.size + 1, 2, none⟩ = some (.int .i64 v) := (blk_cell hp.2 2).trans rfl; have b3 : w2.cell? ⟨w.heap.size + 1, 3, none⟩ = some (.int .i64 tr) := (blk_cell hp.2 3).trans rfl; have b4 : w2.cell? ⟨w.heap.size + 1, 4, none⟩ = some (.int .i64 lv) := (blk_cell hp.2 4).trans rfl; have b5 : w2.cell? ⟨w.heap.size + 1, 5, none⟩ = some (.bool tp) := (blk_cell hp.2 5).trans rfl; have b6 : w2.cell? ⟨w.heap.size + 1, 6, none⟩ = some (.slice e1 e2 e3) := (blk_cell hp.2 6).trans rfl; have b7 : w2.cell? ⟨w.heap.size + 1, 7, none⟩ = some (.int .i64 nx) := (blk_cell hp.2 7).trans rfl; have b8 : w2.cell? ⟨w.heap.size + 1, 8, none⟩ = some (.string dt) := (blk_cell hp.2 8).trans rfl; have b9 : w2.cell? ⟨w.heap.size + 1, 9, none⟩ = some (.slice B fr.length d) := (blk_cell hp.2 9).trans rfl)
    | (go_at_call 160; with_reducible refine (HP1.out _).mono ?_; rintro e w1 ⟨rfl, hb1⟩; have HX1 := Aside0.mk hb1; have HB1 := Aside0.mk (HB0.out.trans (hb1.mono HB0.out.size)); have hp := HPB.out _ HX1.out; have a0 : w1.cell? ⟨w.heap.size, 0, none⟩ = some (.int .i64 k) := (blk_cell hp.1 0).trans rfl; have a1 : w1.cell? ⟨w.heap.size, 1, none⟩ = some (.int .i64 no) := (blk_cell hp.1 1).trans rfl; have a2 : w1.cell? ⟨w.heap.size, 2, none⟩ = some (.int .i64 v) := (blk_cell hp.1 2).trans rfl; have a3 : w1.cell? ⟨w.heap.size, 3, none⟩ = some (.int .i64 tr) := (blk_cell hp.1 3).trans rfl; have a4 : w1.cell? ⟨w.heap.size, 4, none⟩ = some (.int .i64 lv) := (blk_cell hp.1 4).trans rfl; have a5 : w1.cell? ⟨w.heap.size, 5, none⟩ = some (.bool tp) := (blk_cell hp.1 5).trans rfl; have a6 : w1.cell? ⟨w.heap.size, 6, none⟩ = some (.slice e1 e2 e3) := (blk_cell hp.1 6).trans rfl; have a7 : w1.cell? ⟨w.heap.size, 7, none⟩ = some (.int .i64 nx) := (blk_cell hp.1 7).trans rfl; have a8 : w1.cell? ⟨w.heap.size, 8, none⟩ = some (.string dt) := (blk_cell hp.1 8).trans rfl; have a9 : w1.cell? ⟨w.heap.size, 9, none⟩ = some (.slice A fr.length c) := (blk_cell hp.1 9).trans rfl; have b0 : w1.cell? ⟨w.heap.size + 1, 0, none⟩ = some (.int .i64 k) := (blk_cell hp.2 0).trans rfl; have b1 : w1.cell? ⟨w.heap.size + 1, 1, none⟩ = some (.int .i64 no) := (blk_cell hp.2 1).trans rfl; have b2 : w1.cell? ⟨w.heap.size + 1, 2, none⟩ = some (.int .i64 v) := (blk_cell hp.2 2).trans rfl; have b3 : w1.cell? ⟨w.heap.size + 1, 3, none⟩ = some (.int .i64 tr) := (blk_cell hp.2 3).trans rfl; have b4 : w1.cell? ⟨w.heap.size + 1, 4, none⟩ = some (.int .i64 lv) := (blk_cell hp.2 4).trans rfl; have b5 : w1.cell? ⟨w.heap.size + 1, 5, none⟩ = some (.bool tp) := (blk_cell hp.2 5).trans rfl; have b6 : w1.cell? ⟨w.heap.size + 1, 6, none⟩ = some (.slice e1 e2 e3) := (blk_cell hp.2 6).trans rfl; have b7 : w1.cell? ⟨w.heap.size + 1, 7, none⟩ = some (.int .i64 nx) := (blk_cell hp.2 7).trans rfl; have b8 : w1.cell? ⟨w.heap.size + 1, 8, none⟩ = some (.string dt) := (blk_cell hp.2 8).trans rfl; have b9 : w1.cell? ⟨w.heap.size + 1, 9, none⟩ = some (.slice B fr.length d) := (blk_cell hp.2 9).trans rfl))
  go_ret
  exact ⟨rfl, HB2.out.trans (hb3.mono HB2.out.size)⟩
theorem at_89p {w : World} {A : Option Addr} {l : List S89} (h : k89.C w A l.length l) (k : Nat) (hk : k < l.length) : ∃ b o A1 c1, A = some ⟨b, o, none⟩ ∧ (∀ j v, (cells89 l[k] A1 c1)[j]? = some v → w.cell? ⟨b, o + k * 10 + j, none⟩ = some v) ∧ l[k].freed.length ≤ c1 ∧ k64.C w A1 l[k].freed.length l[k].freed := by
  obtain ⟨ad, cs, rfl, hcl, hK, hcc⟩ := Kd.C_get h z89 (k : Int) (by omega) (by omega)
  obtain ⟨ad', cs', e, hcl', hK', hcc'⟩ := Kd.C_get h z89 0 (by omega) (by omega)
  injection e with e
  subst e
  obtain ⟨A0, c0, rfl, _, _⟩ := k89_open hK'
  have g0 := hcc' 0 _ rfl
  rw [show ad.add ((0 : Int).toNat * k89.sz + 0) = ad from addr_add0 ad] at g0
  have e := addr_plain g0
  obtain ⟨b, o, t⟩ := ad
  have ht : t = none := congrArg Addr.spot e
  subst ht
  rw [Int.toNat_natCast] at hK hcc
  have hx : l.getD k z89 = l[k] := by simp [hk]
  rw [hx] at hK
  obtain ⟨A1, c1, rfl, h1, h2⟩ := k89_open hK
  exact ⟨b, o, A1, c1, rfl, fun j v hv => by have := hcc j v hv; rwa [Addr.add_lit, k89_sz, ← Nat.add_assoc] at this, h1, h2⟩
set_option maxRecDepth 100000 in
set_option maxHeartbeats 2000000 in
theorem equalPages (l : List S89) (A B : Option Addr) (c d : Nat) (w : World) (hA : k89.C w A l.length l) (hc : l.length ≤ c) (hB : k89.C w B l.length l) (hd : l.length ≤ d) (hp : ∀ x ∈ l, plainP x) :
    Calls Tryz.prog 116 #[.slice A l.length c, .slice B l.length d, .func (.func 117) #[] #[]] w fun e w' => e = .returned (.bool true) ∧ Below w.heap.size w w' := by
  have hlm := Kd.C_max hA
  have HA := Aside0.mk hA
  have HB := Aside0.mk hB
  have HP := Lib.hid hp
  clear hA hB hp
  go_enter Tryz.func116, Tryz.ntmps116
  go_upto_region 4 with (fail)
  go_loopw [17] (fun i wr => ∃ k : Nat, k ≤ l.length ∧ i = .int .i64 k ∧ Aside0 (Below w.heap.size w wr))
    (fun i _ => l.length - (intOf i).toNat)
  case atStart => exact ⟨0, Nat.zero_le _, rfl, ⟨Below.refl _ _⟩⟩
  case round =>
    obtain ⟨k, hk, rfl, HW⟩ := hrel
    by_cases hlt : k < l.length
    · obtain ⟨b, o, A1, c1, rfl, hx, hl1, hC1⟩ := at_89p HA.out k hlt
      obtain ⟨b2, o2, B1, d1, rfl, hy, hl2, hC2⟩ := at_89p HB.out k hlt
      have hpl := HP.out _ (List.getElem_mem hlt)
      replace hx := fun j v hv => cellB HW.out (Nat.le_refl _) (hx j v hv)
      obtain ⟨T, hT⟩ : ∃ T, l[k] = T := ⟨_, rfl⟩
      rw [hT] at hx hl1 hC1 hy hl2 hC2 hpl
      have HSM := Aside0.mk (fun (w1 : World) (hb : Below w.heap.size w w1) => same_yes T A1 B1 c1 d1 w1 hpl (Kd.C_below hC1 hb) hl1 (Kd.C_below hC2 hb) hl2)
      obtain ⟨pk, pn, pv, pt, pl, pb, ⟨e1, e2, e3⟩, px, pd, fr⟩ := T
      simp only [cells89] at hx hy HSM hl1 hl2
      have x0 : wr.cell? ⟨b, o + k * 10, none⟩ = some (.int .i64 pk) := hx 0 _ rfl
      have x1 : wr.cell? ⟨b, o + k * 10 + 1, none⟩ = some (.int .i64 pn) := hx 1 _ rfl
      have x2 : wr.cell? ⟨b, o + k * 10 + 2, none⟩ = some (.int .i64 pv) := hx 2 _ rfl
      have x3 : wr.cell? ⟨b, o + k * 10 + 3, none⟩ = some (.int .i64 pt) := hx 3 _ rfl
      have x4 : wr.cell? ⟨b, o + k * 10 + 4, none⟩ = some (.int .i64 pl) := hx 4 _ rfl
      have x5 : wr.cell? ⟨b, o + k * 10 + 5, none⟩ = some (.bool pb) := hx 5 _ rfl
      have x6 : wr.cell? ⟨b, o + k * 10 + 6, none⟩ = some (.slice e1 e2 e3) := hx 6 _ rfl
      have x7 : wr.cell? ⟨b, o + k * 10 + 7, none⟩ = some (.int .i64 px) := hx 7 _ rfl
      have x8 : wr.cell? ⟨b, o + k * 10 + 8, none⟩ = some (.string pd) := hx 8 _ rfl
      have x9 : wr.cell? ⟨b, o + k * 10 + 9, none⟩ = some (.slice A1 fr.length c1) := hx 9 _ rfl
      clear hT hC1 hC2 hpl hl1 hl2 hx
      go_upto_region 6 with (fail)
      have hb1 := HW.out.alloc HW.out.size (.cells #[.int .i64 pk, .int .i64 pn, .int .i64 pv, .int .i64 pt, .int .i64 pl, .bool pb, .slice e1 e2 e3, .int .i64 px, .string pd, .slice A1 fr.length c1] 89)
      have hk1 := blk_new wr (.cells #[.int .i64 pk, .int .i64 pn, .int .i64 pv, .int .i64 pt, .int .i64 pl, .bool pb, .slice e1 e2 e3, .int .i64 px, .string pd, .slice A1 fr.length c1] 89)
      obtain ⟨W1, hW1⟩ : ∃ W1, wr.alloc (.cells #[.int .i64 pk, .int .i64 pn, .int .i64 pv, .int .i64 pt, .int .i64 pl, .bool pb, .slice e1 e2 e3, .int .i64 px, .string pd, .slice A1 fr.length c1] 89) = W1 := ⟨_, rfl⟩
      obtain ⟨G, hG⟩ : ∃ G, wr.heap.size = G := ⟨_, rfl⟩
      have hs1 : W1.heap.size = G + 1 := by rw [← hW1, ← hG]; simp
      rw [hW1] at hb1 hk1 ⊢
      rw [hG] at hk1 ⊢
      have hwG : w.heap.size ≤ G := hG ▸ HW.out.size
      replace hy := fun j v hv => cellB hb1 (Nat.le_refl _) (hy j v hv)
      have y0 : W1.cell? ⟨b2, o2 + k * 10, none⟩ = some (.int .i64 pk) := hy 0 _ rfl
      have y1 : W1.cell? ⟨b2, o2 + k * 10 + 1, none⟩ = some (.int .i64 pn) := hy 1 _ rfl
      have y2 : W1.cell? ⟨b2, o2 + k * 10 + 2, none⟩ = some (.int .i64 pv) := hy 2 _ rfl
      have y3 : W1.cell? ⟨b2, o2 + k * 10 + 3, none⟩ = some (.int .i64 pt) := hy 3 _ rfl
      have y4 : W1.cell? ⟨b2, o2 + k * 10 + 4, none⟩ = some (.int .i64 pl) := hy 4 _ rfl
      have y5 : W1.cell? ⟨b2, o2 + k * 10 + 5, none⟩ = some (.bool pb) := hy 5 _ rfl
      have y6 : W1.cell? ⟨b2, o2 + k * 10 + 6, none⟩ = some (.slice e1 e2 e3) := hy 6 _ rfl
      have y7 : W1.cell? ⟨b2, o2 + k * 10 + 7, none⟩ = some (.int .i64 px) := hy 7 _ rfl
      have y8 : W1.cell? ⟨b2, o2 + k * 10 + 8, none⟩ = some (.string pd) := hy 8 _ rfl
      have y9 : W1.cell? ⟨b2, o2 + k * 10 + 9, none⟩ = some (.slice B1 fr.length d1) := hy 9 _ rfl
      clear hW1 hG hy x0 x1 x2 x3 x4 x5 x6 x7 x8 x9
      go_upto_region 7 with (fail)
      have hb2 := hb1.alloc hb1.size (.cells #[.int .i64 pk, .int .i64 pn, .int .i64 pv, .int .i64 pt, .int .i64 pl, .bool pb, .slice e1 e2 e3, .int .i64 px, .string pd, .slice B1 fr.length d1] 89)
      have hk2 := blk_new W1 (.cells #[.int .i64 pk, .int .i64 pn, .int .i64 pv, .int .i64 pt, .int .i64 pl, .bool pb, .slice e1 e2 e3, .int .i64 px, .string pd, .slice B1 fr.length d1] 89)
      have hk3 := blk_alloc (o' := .cells #[.int .i64 pk, .int .i64 pn, .int .i64 pv, .int .i64 pt, .int .i64 pl, .bool pb, .slice e1 e2 e3, .int .i64 px, .string pd, .slice B1 fr.length d1] 89) hk1
      rw [hs1] at hk2
      obtain ⟨W2, hW2⟩ : ∃ W2, W1.alloc (.cells #[.int .i64 pk, .int .i64 pn, .int .i64 pv, .int .i64 pt, .int .i64 pl, .bool pb, .slice e1 e2 e3, .int .i64 px, .string pd, .slice B1 fr.length d1] 89) = W2 := ⟨_, rfl⟩
      rw [hW2] at hb2 hk2 hk3 ⊢
      have HB2 := Aside0.mk hb2
      clear y0 y1 y2 y3 y4 y5 y6 y7 y8 y9 hW2 hb1
      have u0 : W2.cell? ⟨G, 0, none⟩ = some (.int .i64 pk) := (blk_cell hk3 0).trans rfl
      have u1 : W2.cell? ⟨G, 1, none⟩ = some (.int .i64 pn) := (blk_cell hk3 1).trans rfl
      have u2 : W2.cell? ⟨G, 2, none⟩ = some (.int .i64 pv) := (blk_cell hk3 2).trans rfl
      have u3 : W2.cell? ⟨G, 3, none⟩ = some (.int .i64 pt) := (blk_cell hk3 3).trans rfl
      have u4 : W2.cell? ⟨G, 4, none⟩ = some (.int .i64 pl) := (blk_cell hk3 4).trans rfl
      have u5 : W2.cell? ⟨G, 5, none⟩ = some (.bool pb) := (blk_cell hk3 5).trans rfl
      have u6 : W2.cell? ⟨G, 6, none⟩ = some (.slice e1 e2 e3) := (blk_cell hk3 6).trans rfl
      have u7 : W2.cell? ⟨G, 7, none⟩ = some (.int .i64 px) := (blk_cell hk3 7).trans rfl
      have u8 : W2.cell? ⟨G, 8, none⟩ = some (.string pd) := (blk_cell hk3 8).trans rfl
      have u9 : W2.cell? ⟨G, 9, none⟩ = some (.slice A1 fr.length c1) := (blk_cell hk3 9).trans rfl
      have v0 : W2.cell? ⟨G + 1, 0, none⟩ = some (.int .i64 pk) := (blk_cell hk2 0).trans rfl
      have v1 : W2.cell? ⟨G + 1, 1, none⟩ = some (.int .i64 pn) := (blk_cell hk2 1).trans rfl
      have v2 : W2.cell? ⟨G + 1, 2, none⟩ = some (.int .i64 pv) := (blk_cell hk2 2).trans rfl
      have v3 : W2.cell? ⟨G + 1, 3, none⟩ = some (.int .i64 pt) := (blk_cell hk2 3).trans rfl
      have v4 : W2.cell? ⟨G + 1, 4, none⟩ = some (.int .i64 pl) := (blk_cell hk2 4).trans rfl
      have v5 : W2.cell? ⟨G + 1, 5, none⟩ = some (.bool pb) := (blk_cell hk2 5).trans rfl
      have v6 : W2.cell? ⟨G + 1, 6, none⟩ = some (.slice e1 e2 e3) := (blk_cell hk2 6).trans rfl
      have v7 : W2.cell? ⟨G + 1, 7, none⟩ = some (.int .i64 px) := (blk_cell hk2 7).trans rfl
      have v8 : W2.cell? ⟨G + 1, 8, none⟩ = some (.string pd) := (blk_cell hk2 8).trans rfl
      have v9 : W2.cell? ⟨G + 1, 9, none⟩ = some (.slice B1 fr.length d1) := (blk_cell hk2 9).trans rfl
      clear hk1 hk2 hk3 hb2
      go_wp2_with (go_at_call 117; (refine (HSM.out _ HB2.out).mono ?_); rintro e w3 ⟨rfl, hb3⟩)
      go_roundw
      case rel => exact ⟨k + 1, by omega, by go_num, ⟨HB2.out.trans (hb3.mono HB2.out.size)⟩⟩
      case measure => simp [intOf]; omega
    · obtain rfl : k = l.length := by omega
      go_wp2
      go_ret
      exact ⟨rfl, HW.out⟩
def numsOf (l : List S89) : List Int := l.map (·.no)
set_option maxRecDepth 100000 in
set_option maxHeartbeats 2000000 in
theorem numbers_of (l : List S89) (A : Option Addr) (c : Nat) (w : World) (hA : k89.C w A l.length l) (hc : l.length ≤ c) (hm : l.length ≤ 1000000) :
    Calls Tryz.prog 115 #[.slice A l.length c] w fun e w' => ∃ v, e = .returned v ∧ (Kd.int .i64).R 3 w' w.heap.size (fun _ => True) v (numsOf l) ∧ Below w.heap.size w w' := by
  have HA := Aside0.mk hA
  clear hA
  go_enter Tryz.func115, Tryz.ntmps115
  go_upto_region 3 with (fail)
  go_loopw [3, 8] (fun o i wr => ∃ k : Nat, k ≤ l.length ∧ i = .int .i64 k ∧ Aside0 ((Kd.int .i64).R 3 wr w.heap.size (fun _ => True) o (numsOf (l.take k))) ∧ Aside0 (Below w.heap.size w wr))
    (fun _ i _ => l.length - (intOf i).toNat)
  case atStart => exact ⟨0, Nat.zero_le _, rfl, ⟨Kd.R_nil (Kd.int .i64) 3 w w.heap.size (fun _ => True)⟩, ⟨Below.refl _ _⟩⟩
  case round =>
    obtain ⟨k, hk, rfl, HR, HW⟩ := hrel
    obtain ⟨O, oc, rfl⟩ := Kd.R_slice HR.out
    by_cases hlt : k < l.length
    · obtain ⟨b, o, A1, c1, rfl, hx, hl1, hC1⟩ := at_89p HA.out k hlt
      replace hx := fun j v hv => cellB HW.out (Nat.le_refl _) (hx j v hv)
      have HTS := Lib.hid (show numsOf (l.take (k + 1)) = numsOf (l.take k) ++ [l[k].no] by unfold numsOf; rw [List.take_succ_eq_append_getElem hlt, List.map_append]; rfl)
      have HLN := Lib.hid (show (numsOf (l.take k)).length = k by unfold numsOf; rw [List.length_map, List.length_take]; omega)
      obtain ⟨T, hT⟩ : ∃ T, l[k] = T := ⟨_, rfl⟩
      rw [hT] at hx HTS
      obtain ⟨N, hN⟩ : ∃ N, numsOf (l.take k) = N := ⟨_, rfl⟩
      rw [hN] at HR HTS HLN ⊢
      obtain ⟨pk, pn, pv, pt, pl, pb, ⟨e1, e2, e3⟩, px, pd, fr⟩ := T
      simp only [cells89] at hx
      replace HTS : Hid (numsOf (l.take (k + 1)) = N ++ [pn]) := HTS
      have x0 : wr.cell? ⟨b, o + k * 10, none⟩ = some (.int .i64 pk) := hx 0 _ rfl
      have x1 : wr.cell? ⟨b, o + k * 10 + 1, none⟩ = some (.int .i64 pn) := hx 1 _ rfl
      have x2 : wr.cell? ⟨b, o + k * 10 + 2, none⟩ = some (.int .i64 pv) := hx 2 _ rfl
      have x3 : wr.cell? ⟨b, o + k * 10 + 3, none⟩ = some (.int .i64 pt) := hx 3 _ rfl
      have x4 : wr.cell? ⟨b, o + k * 10 + 4, none⟩ = some (.int .i64 pl) := hx 4 _ rfl
      have x5 : wr.cell? ⟨b, o + k * 10 + 5, none⟩ = some (.bool pb) := hx 5 _ rfl
      have x6 : wr.cell? ⟨b, o + k * 10 + 6, none⟩ = some (.slice e1 e2 e3) := hx 6 _ rfl
      have x7 : wr.cell? ⟨b, o + k * 10 + 7, none⟩ = some (.int .i64 px) := hx 7 _ rfl
      have x8 : wr.cell? ⟨b, o + k * 10 + 8, none⟩ = some (.string pd) := hx 8 _ rfl
      have x9 : wr.cell? ⟨b, o + k * 10 + 9, none⟩ = some (.slice A1 fr.length c1) := hx 9 _ rfl
      clear hT hN hC1 hl1 hx
      go_upto_region 5 with (fail)
      have hb1 := HW.out.alloc HW.out.size (.cells #[.int .i64 pk, .int .i64 pn, .int .i64 pv, .int .i64 pt, .int .i64 pl, .bool pb, .slice e1 e2 e3, .int .i64 px, .string pd, .slice A1 fr.length c1] 89)
      have hr1 := Kd.R_alloc HR.out (.cells #[.int .i64 pk, .int .i64 pn, .int .i64 pv, .int .i64 pt, .int .i64 pl, .bool pb, .slice e1 e2 e3, .int .i64 px, .string pd, .slice A1 fr.length c1] 89)
      have hk1 := blk_new wr (.cells #[.int .i64 pk, .int .i64 pn, .int .i64 pv, .int .i64 pt, .int .i64 pl, .bool pb, .slice e1 e2 e3, .int .i64 px, .string pd, .slice A1 fr.length c1] 89)
      obtain ⟨W1, hW1⟩ : ∃ W1, wr.alloc (.cells #[.int .i64 pk, .int .i64 pn, .int .i64 pv, .int .i64 pt, .int .i64 pl, .bool pb, .slice e1 e2 e3, .int .i64 px, .string pd, .slice A1 fr.length c1] 89) = W1 := ⟨_, rfl⟩
      obtain ⟨G, hG⟩ : ∃ G, wr.heap.size = G := ⟨_, rfl⟩
      rw [hW1] at hb1 hk1 hr1 ⊢
      rw [hG] at hk1 ⊢
      have u1 : W1.cell? ⟨G, 1, none⟩ = some (.int .i64 pn) := (blk_cell hk1 1).trans rfl
      have HB1 := Aside0.mk hb1
      have HR1 := Aside0.mk hr1
      clear x0 x1 x2 x3 x4 x5 x6 x7 x8 x9 hW1 hG hb1 hr1 hk1
      go_wp2_with (at_builtin; refine Kd.R_append (Kd.int .i64) (w0 := w) w.heap.size rfl (.tmp 12) (.tmp 15) 23 3 (.int .i64 0) 8 rfl Tryz.underlying23 info3 rfl (by decide) (by omega) (.slice O N.length oc) N pn [.int .i64 pn] (fun _ => True) (fun _ => False) rfl rfl rfl (fun _ hk => hk.elim) (fun _ _ => trivial) HR1.out HB1.out HB1.out.size (by rw [HLN.out]; omega) ?_; intro v2 w3 hr3 hb3 hg3 hat3)
      go_roundw
      case rel => exact ⟨k + 1, by omega, by go_num, ⟨by rw [HTS.out]; exact hr3⟩, ⟨hb3⟩⟩
      case measure => simp [intOf]; omega
    · obtain rfl : k = l.length := by omega
      have HR2 := Aside0.mk (show (Kd.int .i64).R 3 wr w.heap.size (fun _ => True) (.slice O (numsOf (l.take l.length)).length oc) (numsOf l) by have := HR.out; rwa [List.take_length] at this ⊢)
      clear HR
      go_wp2
      go_ret
      exact ⟨_, rfl, HR2.out, HW.out⟩
def OutR (W : World) (base : Nat) (v L : Value) (xs : List S64) (rows : List (List Value)) : Prop :=
  rows.length = xs.length ∧ (Kd.raw 2).R 64 W base (fun _ => True) v rows ∧
  (∀ (j : Nat) (x : S64) (c : List Value), xs[j]? = some x → rows[j]? = some c → j + 1 < xs.length → Kd.FK k64 W (fun y => base ≤ y ∧ some y ≠ v.ownBlock ∧ some y ≠ L.ownBlock) x c) ∧
  ∀ x : S64, xs.getLast? = some x → rows.getLast? = some [.int .i64 x.f0, L] ∧ (Kd.int .i64).R 3 W base (fun _ => True) L x.f1 ∧ ∀ y, L.ownBlock = some y → some y ≠ v.ownBlock
def OutP (W : World) (base : Nat) (v L : Value) (xs : List S64) : Prop := ∃ rows, OutR W base v L xs rows
theorem OutP.nil (W : World) (base : Nat) : OutP W base (.slice none 0 0) (.slice none 0 0) [] :=
  ⟨[], rfl, Kd.R_nil _ _ _ _ _, fun j x c hx => by simp at hx, fun x hx => by simp at hx⟩
theorem OutP.below {W W1 : World} {base : Nat} {v L : Value} {xs : List S64} (h : OutP W base v L xs) (hb : Below W.heap.size W W1) : OutP W1 base v L xs := by
  obtain ⟨rows, h1, h2, h3, h4⟩ := h
  exact ⟨rows, h1, Kd.R_below h2 hb, fun j x c hx hc hj => Kd.FK_below (h3 j x c hx hc hj) hb, fun x hx => ⟨(h4 x hx).1, Kd.R_below (h4 x hx).2.1 hb, (h4 x hx).2.2⟩⟩
theorem OutP.slice {W : World} {base : Nat} {v L : Value} {xs : List S64} (h : OutP W base v L xs) : ∃ A c, v = .slice A xs.length c := by
  obtain ⟨rows, h1, h2, _⟩ := h
  rw [← h1]
  exact Kd.R_slice h2
theorem OutP.base {W : World} {base : Nat} {v L : Value} {xs : List S64} (h : OutP W base v L xs) : ∀ y, v.ownBlock = some y → base ≤ y ∧ y < W.heap.size := by
  obtain ⟨rows, h1, h2, _⟩ := h
  exact fun y hy => ⟨Kd.R_base h2 y hy, Kd.R_lt h2 y hy⟩
theorem OutP.lastF {W : World} {base : Nat} {v L : Value} {xs : List S64} {x : S64} (h : OutP W base v L xs) (hx : xs.getLast? = some x) : Kd.FK k64 W (fun y => base ≤ y ∧ some y ≠ v.ownBlock ∧ some y = L.ownBlock) x [.int .i64 x.f0, L] := by
  obtain ⟨rows, h1, h2, h3, h4⟩ := h
  obtain ⟨_, h5, h6⟩ := h4 x hx
  obtain ⟨A, c, rfl⟩ := Kd.R_slice h5
  have hb := Kd.R_base h5
  exact k64_mkF W _ x (Kd.R_reads' h5).2.1 (Kd.R_F (Kd.R_reok rfl h5 (fun k hk => ⟨hb k hk, h6 k hk, hk.symm⟩)))
theorem OutP.N {W : World} {base : Nat} {v L : Value} {xs : List S64} (h : OutP W base v L xs) : Kd.N k64 64 W base (fun y => base ≤ y) v xs := by
  have hl := fun x hx => OutP.lastF (x := x) h hx
  obtain ⟨rows, h1, h2, h3, h4⟩ := h
  refine ⟨fun k hk => Kd.R_base h2 k hk, rows, h1, Kd.raw_tight h2, fun j x c hx hc => ?_⟩
  by_cases hj : j + 1 < xs.length
  · exact Kd.FK_mono (h3 j x c hx hc hj) (fun y hy => ⟨hy.1, hy.2.1⟩)
  · have hlt := (List.getElem?_eq_some_iff.1 hx).1
    have e : j = xs.length - 1 := by omega
    have hg : xs.getLast? = some x := by rw [List.getLast?_eq_getElem?, ← e]; exact hx
    have hc2 := (h4 x hg).1
    rw [List.getLast?_eq_getElem?, h1, ← e, hc] at hc2
    rw [Option.some.inj hc2]
    exact Kd.FK_mono (hl x hg) (fun y hy => ⟨hy.1, hy.2.1⟩)
theorem OutP.push {W0 W w1 : World} {base : Nat} {v L v1 L2 : Value} {xs : List S64} {x : S64} {rows : List (List Value)} (h : OutR W0 base v L xs rows) (hb : Below W0.heap.size W0 W) (hbase : base ≤ W0.heap.size) (hL : (Kd.int .i64).R 3 W W0.heap.size (fun _ => True) L2 x.f1)
    (hr1 : (Kd.raw 2).R 64 w1 base (fun _ => True) v1 (rows ++ [[.int .i64 x.f0, L2]])) (hg : W.grownBy w1 v.ownBlock) (hat : v1.ownBlock = v.ownBlock ∨ ∃ b, v1.ownBlock = some b ∧ W.heap.size ≤ b) : OutP w1 base v1 L2 (xs ++ [x]) := by
  have hl := fun x hx => OutP.lastF (x := x) ⟨rows, h⟩ hx
  have hvb := OutP.base ⟨rows, h⟩
  obtain ⟨h1, h2, h3, h4⟩ := h
  have hsz := hb.size
  have hlt : ∀ y, some y ≠ v.ownBlock → y < W.heap.size → some y ≠ v1.ownBlock := fun y hy hs => by
    rcases hat with e | ⟨b, e, hb⟩
    · rw [e]; exact hy
    · rw [e]; intro e2; injection e2 with e2; omega
  have hne : ∀ y, L2.ownBlock = some y → some y ≠ v.ownBlock := fun y hy e => by
    have h1 := Kd.R_base hL y hy
    have h2 := (hvb y e.symm).2
    omega
  refine ⟨rows ++ [[.int .i64 x.f0, L2]], by simp [h1], hr1, fun j z c hx hc hj => ?_, fun z hz => ?_⟩
  · rw [List.length_append, List.length_singleton] at hj
    have hj' : j < xs.length := by omega
    rw [List.getElem?_append_left hj'] at hx
    rw [List.getElem?_append_left (by omega)] at hc
    have hF : Kd.FK k64 W0 (fun y => base ≤ y ∧ some y ≠ v.ownBlock) z c := by
      by_cases hl2 : j + 1 < xs.length
      · exact Kd.FK_mono (h3 j z c hx hc hl2) (fun y hy => ⟨hy.1, hy.2.1⟩)
      · have e : j = xs.length - 1 := by omega
        have hgz : xs.getLast? = some z := by rw [List.getLast?_eq_getElem?, ← e]; exact hx
        have hc2 := (h4 z hgz).1
        rw [List.getLast?_eq_getElem?, h1, ← e, hc] at hc2
        rw [Option.some.inj hc2]
        exact Kd.FK_mono (hl z hgz) (fun y hy => ⟨hy.1, hy.2.1⟩)
    refine Kd.FK_mono (Kd.FK_grown (Kd.FK_below (Kd.FK_bound hF) hb) hg (fun y hy => hy.1.2)) (fun y hy => ⟨hy.1.1, hlt y hy.1.2 (Nat.lt_of_lt_of_le hy.2 hsz), fun e => ?_⟩)
    have h1 := Kd.R_base hL y e.symm
    have h2 := hy.2
    omega
  · rw [List.getLast?_concat] at hz
    injection hz with hz
    subst hz
    refine ⟨by rw [List.getLast?_concat], Kd.R_lower (Kd.R_grown2 hL rfl hg (fun y hy e => hne y e.symm hy.symm)) hbase, fun y hy => hlt y (hne y hy) (Kd.R_lt hL y hy)⟩
theorem OutP.more {W w1 : World} {base g cap n : Nat} {L L2 : Value} {xs : List S64} {x x2 : S64} (h : OutP W base (.slice (some ⟨g, 0, none⟩) n cap) L (xs ++ [x])) (h0 : x2.f0 = x.f0) (hL : (Kd.int .i64).R 3 w1 base (fun _ => True) L2 x2.f1) (hg : W.grownBy w1 L.ownBlock)
    (hat : L2.ownBlock = L.ownBlock ∨ ∃ b, L2.ownBlock = some b ∧ W.heap.size ≤ b) : OutP (w1.setCell ⟨g, xs.length * 2 + 1, none⟩ L2) base (.slice (some ⟨g, 0, none⟩) n cap) L2 (xs ++ [x2]) := by
  obtain ⟨rows, h1, h2, h3, h4⟩ := h
  obtain ⟨h5, h6, h7⟩ := h4 x (by rw [List.getLast?_concat])
  have hgW : g < W.heap.size := Kd.R_lt h2 g rfl
  have hne : ∀ y, L2.ownBlock = some y → y ≠ g := fun y hy e => by
    rcases hat with e2 | ⟨b, e2, hb⟩
    · exact h7 y (e2 ▸ hy) (by rw [e]; rfl)
    · rw [e2] at hy; injection hy with hy; omega
  have hln : n = rows.length := (Kd.R_reads' h2).1
  have hr1 : (Kd.raw 2).R 64 w1 base (fun _ => True) (.slice (some ⟨g, 0, none⟩) n cap) rows := Kd.R_grown2 h2 rfl hg (fun y hy e => h7 y hy e)
  rw [List.length_append, List.length_singleton] at h1
  have hrx : rows[xs.length]? = some [.int .i64 x.f0, L] := by rw [List.getLast?_eq_getElem?, h1] at h5; exact h5
  obtain ⟨A2, c2, rfl⟩ := Kd.R_slice hL
  obtain ⟨c, hcl, hM, hcc, hfr⟩ := Kd.R_elem hr1 ([] : List Value) (xs.length : Int) (by omega) (by omega)
  rw [Int.toNat_natCast] at hM hcc hfr
  have hce : c = [.int .i64 x.f0, L] := by
    have := hM.1
    rw [List.getD_eq_getElem?_getD, hrx] at this
    exact this
  subst hce
  have hl2 := (Kd.R_reads' hL).2.1
  have hseg := (Kd.R_seg hr1 (xs.length : Int) (by omega) (by omega) (c := [.int .i64 x.f0, L]) (seg := [.slice A2 x2.f1.length c2]) (j := 1) (x' := [.int .i64 x2.f0, .slice A2 x2.f1.length c2]) (okp := fun _ => False) rfl (by rw [Int.toNat_natCast]; exact hcc) (by show 1 + 1 ≤ 2; omega) (by rw [h0]; exact ⟨rfl, rfl, by intro u hu; rcases List.mem_cons.1 hu with rfl | hu; rfl; obtain rfl := List.mem_singleton.1 hu; rfl⟩) (fun _ hk => hk.elim))
  rw [Int.toNat_natCast] at hseg
  have hw : w1.setCells g (xs.length * (Kd.raw 2).sz + 1) [.slice A2 x2.f1.length c2] = w1.setCell ⟨g, xs.length * 2 + 1, none⟩ (.slice A2 x2.f1.length c2) := rfl
  rw [hw] at hseg
  refine ⟨rows.set xs.length [.int .i64 x2.f0, .slice A2 x2.f1.length c2], by simp [h1], hseg.1, fun j z cz hz hcz hj => ?_, fun z hz => ?_⟩
  · rw [List.length_append, List.length_singleton] at hj
    have hj' : j < xs.length := by omega
    rw [List.getElem?_append_left hj'] at hz
    rw [List.getElem?_set_ne (by omega)] at hcz
    have hF := h3 j z cz (by rw [List.getElem?_append_left hj']; exact hz) hcz (by rw [List.length_append, List.length_singleton]; omega)
    have hF2 := Kd.FK_grown (Kd.FK_bound hF) hg (fun y hy => hy.1.2.2)
    refine Kd.FK_mono (Kd.FK_step hF2 (fun y hy _ => Below.heap_setCell _ _ _ _ (fun e => hy.1.2.1 (by rw [e]; rfl)))) (fun y hy => ⟨hy.1.1, hy.1.2.1, fun e => ?_⟩)
    rcases hat with e2 | ⟨b, e2, hb⟩
    · exact hy.1.2.2 (e2 ▸ e)
    · rw [e2] at e; injection e with e; have := hy.2; omega
  · rw [List.getLast?_concat] at hz
    injection hz with hz
    subst hz
    refine ⟨by rw [List.getLast?_eq_getElem?, List.length_set, h1]; simp [h1], Kd.R_far (Kd.R_reok rfl hL (ok := fun y => y ≠ g) (fun y hy => hne y hy)) (fun y hy => hy) _ |> fun h => Kd.R_mono h (fun _ _ => trivial), fun y hy e => hne y hy (by injection e)⟩
theorem OutP.cells {W : World} {base n cap g : Nat} {L : Value} {xs : List S64} {x : S64} (h : OutP W base (.slice (some ⟨g, 0, none⟩) n cap) L (xs ++ [x])) :
    n = xs.length + 1 ∧ W.cell? ⟨g, xs.length * 2, none⟩ = some (.int .i64 x.f0) ∧ W.cell? ⟨g, xs.length * 2 + 1, none⟩ = some L ∧ (Kd.int .i64).R 3 W base (fun _ => True) L x.f1 ∧ some g ≠ L.ownBlock ∧ ∃ cells, W.heap[g]? = some (.cells cells 64 (0, 0)) := by
  obtain ⟨rows, h1, h2, h3, h4⟩ := h
  obtain ⟨h5, h6, h7⟩ := h4 x (by rw [List.getLast?_concat])
  rw [List.length_append, List.length_singleton] at h1
  have hn : n = rows.length := (Kd.R_reads' h2).1
  have hrx : rows[xs.length]? = some [.int .i64 x.f0, L] := by rw [List.getLast?_eq_getElem?, h1] at h5; exact h5
  obtain ⟨c, hcl, hM, hcc, _⟩ := Kd.R_elem h2 ([] : List Value) (xs.length : Int) (by omega) (by omega)
  rw [Int.toNat_natCast] at hM hcc
  have hce : c = [.int .i64 x.f0, L] := by
    have := hM.1
    rw [List.getD_eq_getElem?_getD, hrx] at this
    exact this
  subst hce
  obtain ⟨g', cap', he, _, _, hcells⟩ := Kd.R_form h2 (by omega)
  injection he with e1 _ _
  injection e1 with e1
  injection e1 with e1 _ _
  subst e1
  exact ⟨by omega, hcc 0 _ rfl, hcc 1 _ rfl, h6, fun e => h7 g e.symm rfl, hcells⟩
def glue1 (out : List S64) (f : S64) : List S64 := match out.getLast? with
  | some g => if g.f0 = f.f0 then out.dropLast ++ [⟨g.f0, g.f1 ++ f.f1⟩] else out ++ [f]
  | none => [f]
def glue (out : List S64) : List S64 → List S64
  | [] => out
  | f :: t => glue1 out f ++ t
def joinL (ps : List S89) : List S64 := ps.foldl (fun out p => glue out p.freed) []
theorem glue1_nil (f : S64) : glue1 [] f = [f] := rfl
theorem glue1_more {init : List S64} {g f : S64} (h : g.f0 = f.f0) : glue1 (init ++ [g]) f = init ++ [⟨g.f0, g.f1 ++ f.f1⟩] := by
  unfold glue1
  rw [List.getLast?_concat]
  simp only [h, if_true]
  rw [List.dropLast_concat]
theorem glue1_new {out : List S64} {f : S64} (h : ∀ g, out.getLast? = some g → g.f0 ≠ f.f0) : glue1 out f = out ++ [f] := by
  unfold glue1
  split
  · next g hg => rw [if_neg (h g hg)]
  · next hg => rw [List.getLast?_eq_none_iff.1 hg]; rfl
theorem glue_len1 (out : List S64) (f : S64) : out.length ≤ (glue1 out f).length ∧ (glue1 out f).length ≤ out.length + 1 := by
  rcases List.eq_nil_or_concat out with rfl | ⟨i, g, rfl⟩
  · simp [glue1_nil]
  · rw [List.concat_eq_append]
    by_cases h : g.f0 = f.f0
    · rw [glue1_more h]; simp
    · rw [glue1_new (fun y hy => by rw [List.getLast?_concat] at hy; injection hy with hy; rw [← hy]; exact h)]; simp
theorem glue_pages1 (out : List S64) (f : S64) : pagesOf (glue1 out f) = pagesOf out ++ f.f1 := by
  rcases List.eq_nil_or_concat out with rfl | ⟨i, g, rfl⟩
  · rw [glue1_nil, pages_one]; simp [pagesOf, flat]
  · rw [List.concat_eq_append]
    by_cases h : g.f0 = f.f0
    · rw [glue1_more h, pages_append, pages_append, pages_one, pages_one, List.append_assoc]
    · rw [glue1_new (fun y hy => by rw [List.getLast?_concat] at hy; injection hy with hy; rw [← hy]; exact h), pages_append, pages_one]
theorem glue_len (out fr : List S64) : out.length ≤ (glue out fr).length := by
  cases fr with
  | nil => exact Nat.le_refl _
  | cons f t => have := (glue_len1 out f).1; simp only [glue, List.length_append]; omega
theorem glue_pages (out fr : List S64) : pagesOf (glue out fr) = pagesOf out ++ pagesOf fr := by
  cases fr with
  | nil => simp [glue, pagesOf, flat]
  | cons f t => rw [glue, pages_append, glue_pages1, show f :: t = [f] ++ t from rfl, pages_append, pages_one, List.append_assoc]
theorem glue_take_zero (out fr : List S64) : glue out (fr.take 0) = out := by simp [glue]
theorem glue_take_one (out : List S64) (f : S64) (fr : List S64) (h : fr[0]? = some f) : glue out (fr.take 1) = glue1 out f := by
  cases fr with
  | nil => simp at h
  | cons a t =>
    obtain rfl : a = f := by simpa using h
    simp [glue]
theorem glue_take_succ (out fr : List S64) (q : Nat) (hq : 0 < q) (h : q < fr.length) : glue out (fr.take (q + 1)) = glue out (fr.take q) ++ [fr[q]] := by
  cases fr with
  | nil => simp at h
  | cons a t =>
    obtain ⟨q, rfl⟩ : ∃ m, q = m + 1 := ⟨q - 1, by omega⟩
    have hq' : q < t.length := by simpa using h
    rw [List.take_succ_cons, List.take_succ_cons, glue, glue, List.append_assoc, List.take_succ_eq_append_getElem hq']
    rfl
theorem glue_take_le (out fr : List S64) (q : Nat) : (glue out (fr.take q)).length ≤ (glue out fr).length ∧ (pagesOf (glue out (fr.take q))).length ≤ (pagesOf (glue out fr)).length := by
  constructor
  · cases fr with
    | nil => simp [glue]
    | cons f t =>
      cases q with
      | zero => rw [glue_take_zero]; exact glue_len _ _
      | succ q => rw [List.take_succ_cons, glue, glue, List.length_append, List.length_append, List.length_take]; omega
  · rw [glue_pages, glue_pages, List.length_append, List.length_append]
    have := pages_take_le fr q
    omega
theorem join_take_succ (ps : List S89) (k : Nat) (h : k < ps.length) : joinL (ps.take (k + 1)) = glue (joinL (ps.take k)) ps[k].freed := by
  unfold joinL
  rw [List.take_succ_eq_append_getElem h, List.foldl_append]
  rfl
theorem join_small {ps : List S89} (h : smallL (joinL ps)) (k : Nat) : smallL (joinL (ps.take k)) := by
  have key : ∀ d k, k ≤ ps.length → ps.length - k = d → smallL (joinL (ps.take k)) := by
    intro d
    induction d with
    | zero => intro k h1 h2; rw [List.take_of_length_le (by omega)]; exact h
    | succ d ih =>
      intro k h1 h2
      have := ih (k + 1) (by omega) (by omega)
      rw [join_take_succ ps k (by omega)] at this
      have g1 := glue_len (joinL (ps.take k)) ps[k].freed
      have g2 := glue_pages (joinL (ps.take k)) ps[k].freed
      unfold smallL at *
      rw [g2, List.length_append] at this
      omega
  by_cases hk : k ≤ ps.length
  · exact key _ k hk rfl
  · rw [List.take_of_length_le (by omega)]; exact h
end Go.Proofs.YtpnhelcemodnmaaGreat
