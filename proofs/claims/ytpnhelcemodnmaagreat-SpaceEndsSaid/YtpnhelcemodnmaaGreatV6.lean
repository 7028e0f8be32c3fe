/- Texts put together for one claim: part 6. -/
import Derived.StillTailTactics
import Derived.Deep.CutRange
import Derived.Test.YtpnhelcemodnmaaGreatV5
namespace Go.Proofs.YtpnhelcemodnmaaGreat.PA
open Go.RowKit Go.Proofs.YtpnhelcemodnmaaGreatW.PrintWords Go.Proofs.YtpnhelcemodnmaaGreatW.PrintLast Go.Proofs.YtpnhelcemodnmaaGreatW.PrintMore
attribute [local go_sem] z1c z1d z1e z1f z1i z1j z1k z1l
set_option linter.unusedVariables false
set_option linter.unusedSimpArgs false
def understoryref04_SameInts.l0 : Nat → List Int → List Int → Int → Option (Bool)
 | 0, _, _, _ => none
 | k + 1, x0, x1, x5 => if x5 < (x0.length : Int) then (if 0 ≤ x5 then (if x5 < (x1.length : Int) then (if (rd x0 x5) = (rd x1 x5) then (understoryref04_SameInts.l0 k x0 x1 (wrap64 (x5 + 1))) else (some false)) else (none)) else (none)) else (some true)
def understoryref04_SameInts.f (k : Nat) (l0 : List Int) (l1 : List Int) : Option (Bool) := if (l0.length : Int) = (l1.length : Int) then (understoryref04_SameInts.l0 k l0 l1 0) else (some false)
theorem understoryref04_SameInts.mono_l : ∀ k, (∀ y0 y1 y2, LeO (understoryref04_SameInts.l0 k y0 y1 y2) (understoryref04_SameInts.l0 (k + 1) y0 y1 y2))
 | 0 => fun _ _ _ r h => by simp [understoryref04_SameInts.l0] at h
 | k + 1 => by
  have ih0 := understoryref04_SameInts.mono_l k
  ·intro y0 y1 y2
   unfold understoryref04_SameInts.l0
   repeat' first
   | (with_reducible exact ih0 _ _ _)
   | (with_reducible exact LeO.refl _)
   | (with_reducible exact LeO.none _)
   | (with_reducible refine LeO.ite ?_ ?_)
   | (with_reducible refine LeO.bind ?_ (fun _ => ?_))
   | exact ih0 _ _ _
   | exact LeO.none _
   | refine LeO.ite ?_ ?_
   | refine LeO.bind ?_ (fun _ => ?_)
theorem understoryref04_SameInts.mono : ∀ a0 a1 k, LeO (understoryref04_SameInts.f k a0 a1) (understoryref04_SameInts.f (k + 1) a0 a1) := by
 intro a0 a1 k
 have ih0 := understoryref04_SameInts.mono_l k
 unfold understoryref04_SameInts.f
 repeat' first
   | (with_reducible exact ih0 _ _ _)
   | (with_reducible exact LeO.refl _)
   | (with_reducible exact LeO.none _)
   | (with_reducible refine LeO.ite ?_ ?_)
   | (with_reducible refine LeO.bind ?_ (fun _ => ?_))
   | exact ih0 _ _ _
   | exact LeO.none _
   | refine LeO.ite ?_ ?_
   | refine LeO.bind ?_ (fun _ => ?_)
set_option maxHeartbeats 8000000 in
set_option maxRecDepth 100000 in
theorem understoryref04_SameInts.calls (k : Nat) (A0 : Option Addr) (c0 : Nat) (l0 : List Int) (A1 : Option Addr) (c1 : Nat) (l1 : List Int) (r : Bool) (w : World) (hr0 : Kd.C (Kd.int .i64) w A0 l0.length l0) (hc0 : l0.length ≤ c0) (hr1 : Kd.C (Kd.int .i64) w A1 l1.length l1) (hc1 : l1.length ≤ c1) (h : understoryref04_SameInts.f k l0 l1 = some r) :
  Calls Tryz.prog 31 #[.slice A0 l0.length c0, .slice A1 l1.length c1] w fun e w' => e = .returned (.bool r) ∧ Drawn0 w w' := by
 have HR0 := Aside0.mk hr0
 have HC0 := Aside0.mk hc0
 clear hr0 hc0
 have HR1 := Aside0.mk hr1
 have HC1 := Aside0.mk hc1
 clear hr1 hc1
 have H : (if (l0.length : Int) = (l1.length : Int) then (understoryref04_SameInts.l0 k l0 l1 0) else (some false)) = some r := h
 clear h
 by_cases c3 : (l0.length : Int) = (l1.length : Int)
 ·rw [if_pos c3] at H
  have c3b0 : ((l0.length : Int) == (l1.length : Int)) = true := beq_iff_eq.mpr c3
  have c3b1 : ((l0.length : Int) != (l1.length : Int)) = false := bne_eq_false_iff_eq.mpr c3
  have c3b2 : (l0.length == l1.length) = true := by first | simpa using c3 | (simp at c3 ⊢; omega)
  clear c3
  have H' := Aside0.mk H
  clear H
  go_enter Tryz.func31, Tryz.ntmps31
  go_wp2
  repeat (go_quiet (fail); try go_wp2)
  go_loopg [5] k (fun kq v5 w' => ∃ (x5_1 : Int), v5 = .int .i64 x5_1 ∧ Aside0 (understoryref04_SameInts.l0 kq l0 l1 x5_1 = some r) ∧ Aside0 (kq ≤ k) ∧ Drawn0 w w')
  case atStart => exact ⟨(0), (by first | rfl | (simp; done) | (simp [*]; done)), H', ⟨Nat.le_refl _⟩, by repeat (first | exact Drawn0.refl _ | apply Drawn0.step)⟩
  case round =>
   clear H'
   try clear c1
   try clear p2
   try clear c3
   try clear c3b0
   try clear c3b1
   try clear c3b2
   obtain ⟨x5_1, rfl, HA, HK1, ⟨m1, rfl⟩⟩ := hrel
   cases gk with
   | zero => exact absurd HA.out (by simp [understoryref04_SameInts.l0])
   | succ k1 =>
    have H := HA.out
    clear HA
    simp only [understoryref04_SameInts.l0] at H
    by_cases c4 : x5_1 < (l0.length : Int)
    ·rw [if_pos c4] at H
     have c4b0 : decide (x5_1 < (l0.length : Int)) = true := decide_eq_true c4
     clear c4
     by_cases c5 : 0 ≤ x5_1
     ·rw [if_pos c5] at H
      have c5b0 : decide (0 ≤ x5_1) = true := decide_eq_true c5
      clear c5
      by_cases c6 : x5_1 < (l1.length : Int)
      ·rw [if_pos c6] at H
       have c6b0 : decide (x5_1 < (l1.length : Int)) = true := decide_eq_true c6
       clear c6
       by_cases c7 : (rd l0 x5_1) = (rd l1 x5_1)
       ·rw [if_pos c7] at H
        have c7b0 : ((rd l0 x5_1) == (rd l1 x5_1)) = true := beq_iff_eq.mpr c7
        have c7b1 : ((rd l0 x5_1) != (rd l1 x5_1)) = false := bne_eq_false_iff_eq.mpr c7
        clear c7
        have H' := Aside0.mk H
        clear H
        have p262 : 0 ≤ (x5_1 : Int) := of_decide_eq_true (by first | (with_reducible assumption) | assumption)
        have q262 : x5_1 < (l0.length : Int) := of_decide_eq_true (by first | (with_reducible assumption) | assumption)
        obtain ⟨ad262, e262, hx262_0⟩ := Kd.at_int HR0.out x5_1 p262 q262
        cases e262
        replace p262 := eq_true p262
        replace q262 := eq_true q262
        have p263 : 0 ≤ (x5_1 : Int) := of_decide_eq_true (by first | (with_reducible assumption) | assumption)
        have q263 : x5_1 < (l1.length : Int) := of_decide_eq_true (by first | (with_reducible assumption) | assumption)
        obtain ⟨ad263, e263, hx263_0⟩ := Kd.at_int HR1.out x5_1 p263 q263
        cases e263
        replace p263 := eq_true p263
        replace q263 := eq_true q263
        go_wp2
        repeat (go_quiet (fail); try go_wp2)
        go_roundg k1
        case measure => have := HK1.out; omega
        case rel => exact ⟨(wrap64 (x5_1 + 1)), (by first | rfl | (simp; done) | (simp [*]; done)), H', ⟨by have := HK1.out; omega⟩, by repeat (first | exact Drawn0.refl _ | apply Drawn0.step)⟩
       ·rw [if_neg c7] at H
        have c7b0 : ((rd l0 x5_1) == (rd l1 x5_1)) = false := beq_eq_false_iff_ne.mpr c7
        have c7b1 : ((rd l0 x5_1) != (rd l1 x5_1)) = true := bne_iff_ne.mpr c7
        obtain rfl := Option.some.inj H
        have p262 : 0 ≤ (x5_1 : Int) := of_decide_eq_true (by first | (with_reducible assumption) | assumption)
        have q262 : x5_1 < (l0.length : Int) := of_decide_eq_true (by first | (with_reducible assumption) | assumption)
        obtain ⟨ad262, e262, hx262_0⟩ := Kd.at_int HR0.out x5_1 p262 q262
        cases e262
        replace p262 := eq_true p262
        replace q262 := eq_true q262
        have p263 : 0 ≤ (x5_1 : Int) := of_decide_eq_true (by first | (with_reducible assumption) | assumption)
        have q263 : x5_1 < (l1.length : Int) := of_decide_eq_true (by first | (with_reducible assumption) | assumption)
        obtain ⟨ad263, e263, hx263_0⟩ := Kd.at_int HR1.out x5_1 p263 q263
        cases e263
        replace p263 := eq_true p263
        replace q263 := eq_true q263
        go_wp2
        repeat (go_quiet (fail); try go_wp2)
        go_ret
        exact ⟨by first | rfl | (simp; done) | (simp [*]; done), by repeat (first | exact Drawn0.refl _ | apply Drawn0.step)⟩
      ·rw [if_neg c6] at H
       exact absurd H (by simp)
     ·rw [if_neg c5] at H
      exact absurd H (by simp)
    ·rw [if_neg c4] at H
     have c4b0 : decide (x5_1 < (l0.length : Int)) = false := decide_eq_false c4
     clear c4
     obtain rfl := Option.some.inj H
     go_wp2
     repeat (go_quiet (fail); try go_wp2)
     go_ret
     exact ⟨by first | rfl | (simp; done) | (simp [*]; done), by repeat (first | exact Drawn0.refl _ | apply Drawn0.step)⟩
 ·rw [if_neg c3] at H
  have c3b0 : ((l0.length : Int) == (l1.length : Int)) = false := beq_eq_false_iff_ne.mpr c3
  have c3b1 : ((l0.length : Int) != (l1.length : Int)) = true := bne_iff_ne.mpr c3
  have c3b2 : (l0.length == l1.length) = false := by first | simpa using c3 | (simp at c3 ⊢; omega)
  obtain rfl := Option.some.inj H
  go_enter Tryz.func31, Tryz.ntmps31
  go_wp2
  repeat (go_quiet (fail); try go_wp2)
  go_ret
  exact ⟨by first | rfl | (simp; done) | (simp [*]; done), by repeat (first | exact Drawn0.refl _ | apply Drawn0.step)⟩
def understoryref04_SameFreed.l0 : Nat → List (S64) → List (S64) → Int → Option (Bool)
 | 0, _, _, _ => none
 | k + 1, x0, x1, x5 => if x5 < (x0.length : Int) then (if 0 ≤ x5 then (if x5 < (x1.length : Int) then (if ((rd_T64 x0 x5).f0) = ((rd_T64 x1 x5).f0) then ((understoryref04_SameInts.f k ((rd_T64 x0 x5).f1) ((rd_T64 x1 x5).f1)).bind fun t268 => (if t268 = true then (understoryref04_SameFreed.l0 k x0 x1 (wrap64 (x5 + 1))) else (some false))) else (some false)) else (none)) else (none)) else (some true)
def understoryref04_SameFreed.f (k : Nat) (l0 : List (S64)) (l1 : List (S64)) : Option (Bool) := if (l0.length : Int) = (l1.length : Int) then (understoryref04_SameFreed.l0 k l0 l1 0) else (some false)
theorem understoryref04_SameFreed.mono_l : ∀ k, (∀ y0 y1 y2, LeO (understoryref04_SameFreed.l0 k y0 y1 y2) (understoryref04_SameFreed.l0 (k + 1) y0 y1 y2))
 | 0 => fun _ _ _ r h => by simp [understoryref04_SameFreed.l0] at h
 | k + 1 => by
  have ih0 := understoryref04_SameFreed.mono_l k
  ·intro y0 y1 y2
   unfold understoryref04_SameFreed.l0
   repeat' first
   | (with_reducible exact ih0 _ _ _)
   | (with_reducible exact understoryref04_SameInts.mono _ _ _)
   | (with_reducible exact LeO.refl _)
   | (with_reducible exact LeO.none _)
   | (with_reducible refine LeO.ite ?_ ?_)
   | (with_reducible refine LeO.bind ?_ (fun _ => ?_))
   | exact ih0 _ _ _
   | exact understoryref04_SameInts.mono _ _ _
   | exact LeO.none _
   | refine LeO.ite ?_ ?_
   | refine LeO.bind ?_ (fun _ => ?_)
theorem understoryref04_SameFreed.mono : ∀ a0 a1 k, LeO (understoryref04_SameFreed.f k a0 a1) (understoryref04_SameFreed.f (k + 1) a0 a1) := by
 intro a0 a1 k
 have ih0 := understoryref04_SameFreed.mono_l k
 unfold understoryref04_SameFreed.f
 repeat' first
   | (with_reducible exact ih0 _ _ _)
   | (with_reducible exact understoryref04_SameInts.mono _ _ _)
   | (with_reducible exact LeO.refl _)
   | (with_reducible exact LeO.none _)
   | (with_reducible refine LeO.ite ?_ ?_)
   | (with_reducible refine LeO.bind ?_ (fun _ => ?_))
   | exact ih0 _ _ _
   | exact understoryref04_SameInts.mono _ _ _
   | exact LeO.none _
   | refine LeO.ite ?_ ?_
   | refine LeO.bind ?_ (fun _ => ?_)
set_option maxHeartbeats 8000000 in
set_option maxRecDepth 100000 in
theorem understoryref04_SameFreed.calls (k : Nat) (A0 : Option Addr) (c0 : Nat) (l0 : List (S64)) (A1 : Option Addr) (c1 : Nat) (l1 : List (S64)) (r : Bool) (w : World) (hr0 : Kd.C k64 w A0 l0.length l0) (hc0 : l0.length ≤ c0) (hr1 : Kd.C k64 w A1 l1.length l1) (hc1 : l1.length ≤ c1) (h : understoryref04_SameFreed.f k l0 l1 = some r) :
  Calls Tryz.prog 18 #[.slice A0 l0.length c0, .slice A1 l1.length c1] w fun e w' => e = .returned (.bool r) ∧ Drawn0 w w' := by
 have HR0 := Aside0.mk hr0
 have HC0 := Aside0.mk hc0
 clear hr0 hc0
 have HR1 := Aside0.mk hr1
 have HC1 := Aside0.mk hc1
 clear hr1 hc1
 have H : (if (l0.length : Int) = (l1.length : Int) then (understoryref04_SameFreed.l0 k l0 l1 0) else (some false)) = some r := h
 clear h
 by_cases c3 : (l0.length : Int) = (l1.length : Int)
 ·rw [if_pos c3] at H
  have c3b0 : ((l0.length : Int) == (l1.length : Int)) = true := beq_iff_eq.mpr c3
  have c3b1 : ((l0.length : Int) != (l1.length : Int)) = false := bne_eq_false_iff_eq.mpr c3
  have c3b2 : (l0.length == l1.length) = true := by first | simpa using c3 | (simp at c3 ⊢; omega)
  clear c3
  have H' := Aside0.mk H
  clear H
  go_enter Tryz.func18, Tryz.ntmps18
  go_wp2
  repeat (go_quiet (fail); try go_wp2)
  go_loopg [5] k (fun kq v5 w' => ∃ (x5_1 : Int), v5 = .int .i64 x5_1 ∧ Aside0 (understoryref04_SameFreed.l0 kq l0 l1 x5_1 = some r) ∧ Aside0 (kq ≤ k) ∧ Drawn0 w w')
  case atStart => exact ⟨(0), (by first | rfl | (simp; done) | (simp [*]; done)), H', ⟨Nat.le_refl _⟩, by repeat (first | exact Drawn0.refl _ | apply Drawn0.step)⟩
  case round =>
   clear H'
   try clear c1
   try clear p2
   try clear c3
   try clear c3b0
   try clear c3b1
   try clear c3b2
   obtain ⟨x5_1, rfl, HA, HK1, ⟨m1, rfl⟩⟩ := hrel
   cases gk with
   | zero => exact absurd HA.out (by simp [understoryref04_SameFreed.l0])
   | succ k1 =>
    have H := HA.out
    clear HA
    simp only [understoryref04_SameFreed.l0] at H
    by_cases c4 : x5_1 < (l0.length : Int)
    ·rw [if_pos c4] at H
     have c4b0 : decide (x5_1 < (l0.length : Int)) = true := decide_eq_true c4
     clear c4
     by_cases c5 : 0 ≤ x5_1
     ·rw [if_pos c5] at H
      have c5b0 : decide (0 ≤ x5_1) = true := decide_eq_true c5
      clear c5
      by_cases c6 : x5_1 < (l1.length : Int)
      ·rw [if_pos c6] at H
       have c6b0 : decide (x5_1 < (l1.length : Int)) = true := decide_eq_true c6
       clear c6
       by_cases c7 : ((rd_T64 l0 x5_1).f0) = ((rd_T64 l1 x5_1).f0)
       ·rw [if_pos c7] at H
        have c7b0 : (((rd_T64 l0 x5_1).f0) == ((rd_T64 l1 x5_1).f0)) = true := beq_iff_eq.mpr c7
        have c7b1 : (((rd_T64 l0 x5_1).f0) != ((rd_T64 l1 x5_1).f0)) = false := bne_eq_false_iff_eq.mpr c7
        clear c7
        replace H := Option.bind_eq_some_iff.mp H
        obtain ⟨t268, A80, H⟩ := H
        replace H : (if t268 = true then (understoryref04_SameFreed.l0 k1 l0 l1 (wrap64 (x5_1 + 1))) else (some false)) = some r := H
        have A8 := Aside0.mk A80
        clear A80
        by_cases c9 : t268 = true
        ·subst c9
         have H1 : (understoryref04_SameFreed.l0 k1 l0 l1 (wrap64 (x5_1 + 1))) = some r := by rw [if_pos rfl] at H; exact H
         clear H
         have H := H1
         clear H1
         have H' := Aside0.mk H
         clear H
         have p264 : 0 ≤ (x5_1 : Int) := of_decide_eq_true (by first | (with_reducible assumption) | assumption)
         have q264 : x5_1 < (l0.length : Int) := of_decide_eq_true (by first | (with_reducible assumption) | assumption)
         obtain ⟨ad264, A264_1, c264_1, e264, hx264_0, hx264_1, hl264_1, hi264_1⟩ := z0n HR0.out x5_1 p264 q264
         cases e264
         have HR264_1 := Aside0.mk hi264_1
         have HC264_1 := Aside0.mk hl264_1
         clear hi264_1 hl264_1
         replace p264 := eq_true p264
         replace q264 := eq_true q264
         have p265 : 0 ≤ (x5_1 : Int) := of_decide_eq_true (by first | (with_reducible assumption) | assumption)
         have q265 : x5_1 < (l1.length : Int) := of_decide_eq_true (by first | (with_reducible assumption) | assumption)
         obtain ⟨ad265, A265_1, c265_1, e265, hx265_0, hx265_1, hl265_1, hi265_1⟩ := z0n HR1.out x5_1 p265 q265
         cases e265
         have HR265_1 := Aside0.mk hi265_1
         have HC265_1 := Aside0.mk hl265_1
         clear hi265_1 hl265_1
         replace p265 := eq_true p265
         replace q265 := eq_true q265
         have p266 : 0 ≤ (x5_1 : Int) := of_decide_eq_true (by first | (with_reducible assumption) | assumption)
         have q266 : x5_1 < (l0.length : Int) := of_decide_eq_true (by first | (with_reducible assumption) | assumption)
         obtain ⟨ad266, A266_1, c266_1, e266, hx266_0, hx266_1, hl266_1, hi266_1⟩ := z0n HR0.out x5_1 p266 q266
         obtain rfl : ad264 = ad266 := (by injection e266)
         have HR266_1 := Aside0.mk hi266_1
         have HC266_1 := Aside0.mk hl266_1
         clear hi266_1 hl266_1
         replace p266 := eq_true p266
         replace q266 := eq_true q266
         have ea_ := Option.some.inj (hx264_1.symm.trans hx266_1)
         injection ea_ with ea_ en_ ec_
         subst ea_
         subst ec_
         clear en_
         have p267 : 0 ≤ (x5_1 : Int) := of_decide_eq_true (by first | (with_reducible assumption) | assumption)
         have q267 : x5_1 < (l1.length : Int) := of_decide_eq_true (by first | (with_reducible assumption) | assumption)
         obtain ⟨ad267, A267_1, c267_1, e267, hx267_0, hx267_1, hl267_1, hi267_1⟩ := z0n HR1.out x5_1 p267 q267
         obtain rfl : ad265 = ad267 := (by injection e267)
         have HR267_1 := Aside0.mk hi267_1
         have HC267_1 := Aside0.mk hl267_1
         clear hi267_1 hl267_1
         replace p267 := eq_true p267
         replace q267 := eq_true q267
         have ea_ := Option.some.inj (hx265_1.symm.trans hx267_1)
         injection ea_ with ea_ en_ ec_
         subst ea_
         subst ec_
         clear en_
         go_wp2_with (first | (go_at_call 31; (with_reducible refine (understoryref04_SameInts.calls k1 _ _ ((rd_T64 l0 x5_1).f1) _ _ ((rd_T64 l1 x5_1).f1) true _ ?side1 ?side2 ?side3 ?side4 A8.out).mono ?_); (case side1 => repeat (first | exact HR266_1.out | (with_reducible refine Kd.C_alloc ?_ _) | (with_reducible refine Kd.C_drewN ?_ _) | (with_reducible refine Kd.C_drew ?_))); (case side2 => exact HC266_1.out); (case side3 => repeat (first | exact HR267_1.out | (with_reducible refine Kd.C_alloc ?_ _) | (with_reducible refine Kd.C_drewN ?_ _) | (with_reducible refine Kd.C_drew ?_))); (case side4 => exact HC267_1.out); rintro e w' ⟨rfl, ⟨nd, rfl⟩⟩; (try first | exact ⟨rfl, _, World.drewN_drewN _ _ _⟩ | exact ⟨rfl, _, Eq.trans (World.drewN_drewN _ _ _) (congrArg (World.drewN _) (Nat.add_assoc _ _ _))⟩)))
         repeat (go_quiet (first | (go_at_call 31; (with_reducible refine (understoryref04_SameInts.calls k1 _ _ ((rd_T64 l0 x5_1).f1) _ _ ((rd_T64 l1 x5_1).f1) true _ ?side1 ?side2 ?side3 ?side4 A8.out).mono ?_); (case side1 => repeat (first | exact HR266_1.out | (with_reducible refine Kd.C_alloc ?_ _) | (with_reducible refine Kd.C_drewN ?_ _) | (with_reducible refine Kd.C_drew ?_))); (case side2 => exact HC266_1.out); (case side3 => repeat (first | exact HR267_1.out | (with_reducible refine Kd.C_alloc ?_ _) | (with_reducible refine Kd.C_drewN ?_ _) | (with_reducible refine Kd.C_drew ?_))); (case side4 => exact HC267_1.out); rintro e w' ⟨rfl, ⟨nd, rfl⟩⟩; (try first | exact ⟨rfl, _, World.drewN_drewN _ _ _⟩ | exact ⟨rfl, _, Eq.trans (World.drewN_drewN _ _ _) (congrArg (World.drewN _) (Nat.add_assoc _ _ _))⟩))); try go_wp2_with (first | (go_at_call 31; (with_reducible refine (understoryref04_SameInts.calls k1 _ _ ((rd_T64 l0 x5_1).f1) _ _ ((rd_T64 l1 x5_1).f1) true _ ?side1 ?side2 ?side3 ?side4 A8.out).mono ?_); (case side1 => repeat (first | exact HR266_1.out | (with_reducible refine Kd.C_alloc ?_ _) | (with_reducible refine Kd.C_drewN ?_ _) | (with_reducible refine Kd.C_drew ?_))); (case side2 => exact HC266_1.out); (case side3 => repeat (first | exact HR267_1.out | (with_reducible refine Kd.C_alloc ?_ _) | (with_reducible refine Kd.C_drewN ?_ _) | (with_reducible refine Kd.C_drew ?_))); (case side4 => exact HC267_1.out); rintro e w' ⟨rfl, ⟨nd, rfl⟩⟩; (try first | exact ⟨rfl, _, World.drewN_drewN _ _ _⟩ | exact ⟨rfl, _, Eq.trans (World.drewN_drewN _ _ _) (congrArg (World.drewN _) (Nat.add_assoc _ _ _))⟩))))
         go_roundg k1
         case measure => have := HK1.out; omega
         case rel => exact ⟨(wrap64 (x5_1 + 1)), (by first | rfl | (simp; done) | (simp [*]; done)), H', ⟨by have := HK1.out; omega⟩, by repeat (first | exact Drawn0.refl _ | apply Drawn0.step)⟩
        ·replace c9 := Bool.eq_false_iff.mpr c9
         subst c9
         have H1 : (some false) = some r := by rw [if_neg (show ¬ (false = true) by decide)] at H; exact H
         clear H
         have H := H1
         clear H1
         obtain rfl := Option.some.inj H
         have p264 : 0 ≤ (x5_1 : Int) := of_decide_eq_true (by first | (with_reducible assumption) | assumption)
         have q264 : x5_1 < (l0.length : Int) := of_decide_eq_true (by first | (with_reducible assumption) | assumption)
         obtain ⟨ad264, A264_1, c264_1, e264, hx264_0, hx264_1, hl264_1, hi264_1⟩ := z0n HR0.out x5_1 p264 q264
         cases e264
         have HR264_1 := Aside0.mk hi264_1
         have HC264_1 := Aside0.mk hl264_1
         clear hi264_1 hl264_1
         replace p264 := eq_true p264
         replace q264 := eq_true q264
         have p265 : 0 ≤ (x5_1 : Int) := of_decide_eq_true (by first | (with_reducible assumption) | assumption)
         have q265 : x5_1 < (l1.length : Int) := of_decide_eq_true (by first | (with_reducible assumption) | assumption)
         obtain ⟨ad265, A265_1, c265_1, e265, hx265_0, hx265_1, hl265_1, hi265_1⟩ := z0n HR1.out x5_1 p265 q265
         cases e265
         have HR265_1 := Aside0.mk hi265_1
         have HC265_1 := Aside0.mk hl265_1
         clear hi265_1 hl265_1
         replace p265 := eq_true p265
         replace q265 := eq_true q265
         have p266 : 0 ≤ (x5_1 : Int) := of_decide_eq_true (by first | (with_reducible assumption) | assumption)
         have q266 : x5_1 < (l0.length : Int) := of_decide_eq_true (by first | (with_reducible assumption) | assumption)
         obtain ⟨ad266, A266_1, c266_1, e266, hx266_0, hx266_1, hl266_1, hi266_1⟩ := z0n HR0.out x5_1 p266 q266
         obtain rfl : ad264 = ad266 := (by injection e266)
         have HR266_1 := Aside0.mk hi266_1
         have HC266_1 := Aside0.mk hl266_1
         clear hi266_1 hl266_1
         replace p266 := eq_true p266
         replace q266 := eq_true q266
         have ea_ := Option.some.inj (hx264_1.symm.trans hx266_1)
         injection ea_ with ea_ en_ ec_
         subst ea_
         subst ec_
         clear en_
         have p267 : 0 ≤ (x5_1 : Int) := of_decide_eq_true (by first | (with_reducible assumption) | assumption)
         have q267 : x5_1 < (l1.length : Int) := of_decide_eq_true (by first | (with_reducible assumption) | assumption)
         obtain ⟨ad267, A267_1, c267_1, e267, hx267_0, hx267_1, hl267_1, hi267_1⟩ := z0n HR1.out x5_1 p267 q267
         obtain rfl : ad265 = ad267 := (by injection e267)
         have HR267_1 := Aside0.mk hi267_1
         have HC267_1 := Aside0.mk hl267_1
         clear hi267_1 hl267_1
         replace p267 := eq_true p267
         replace q267 := eq_true q267
         have ea_ := Option.some.inj (hx265_1.symm.trans hx267_1)
         injection ea_ with ea_ en_ ec_
         subst ea_
         subst ec_
         clear en_
         go_wp2_with (first | (go_at_call 31; (with_reducible refine (understoryref04_SameInts.calls k1 _ _ ((rd_T64 l0 x5_1).f1) _ _ ((rd_T64 l1 x5_1).f1) false _ ?side1 ?side2 ?side3 ?side4 A8.out).mono ?_); (case side1 => repeat (first | exact HR266_1.out | (with_reducible refine Kd.C_alloc ?_ _) | (with_reducible refine Kd.C_drewN ?_ _) | (with_reducible refine Kd.C_drew ?_))); (case side2 => exact HC266_1.out); (case side3 => repeat (first | exact HR267_1.out | (with_reducible refine Kd.C_alloc ?_ _) | (with_reducible refine Kd.C_drewN ?_ _) | (with_reducible refine Kd.C_drew ?_))); (case side4 => exact HC267_1.out); rintro e w' ⟨rfl, ⟨nd, rfl⟩⟩; (try first | exact ⟨rfl, _, World.drewN_drewN _ _ _⟩ | exact ⟨rfl, _, Eq.trans (World.drewN_drewN _ _ _) (congrArg (World.drewN _) (Nat.add_assoc _ _ _))⟩)))
         repeat (go_quiet (first | (go_at_call 31; (with_reducible refine (understoryref04_SameInts.calls k1 _ _ ((rd_T64 l0 x5_1).f1) _ _ ((rd_T64 l1 x5_1).f1) false _ ?side1 ?side2 ?side3 ?side4 A8.out).mono ?_); (case side1 => repeat (first | exact HR266_1.out | (with_reducible refine Kd.C_alloc ?_ _) | (with_reducible refine Kd.C_drewN ?_ _) | (with_reducible refine Kd.C_drew ?_))); (case side2 => exact HC266_1.out); (case side3 => repeat (first | exact HR267_1.out | (with_reducible refine Kd.C_alloc ?_ _) | (with_reducible refine Kd.C_drewN ?_ _) | (with_reducible refine Kd.C_drew ?_))); (case side4 => exact HC267_1.out); rintro e w' ⟨rfl, ⟨nd, rfl⟩⟩; (try first | exact ⟨rfl, _, World.drewN_drewN _ _ _⟩ | exact ⟨rfl, _, Eq.trans (World.drewN_drewN _ _ _) (congrArg (World.drewN _) (Nat.add_assoc _ _ _))⟩))); try go_wp2_with (first | (go_at_call 31; (with_reducible refine (understoryref04_SameInts.calls k1 _ _ ((rd_T64 l0 x5_1).f1) _ _ ((rd_T64 l1 x5_1).f1) false _ ?side1 ?side2 ?side3 ?side4 A8.out).mono ?_); (case side1 => repeat (first | exact HR266_1.out | (with_reducible refine Kd.C_alloc ?_ _) | (with_reducible refine Kd.C_drewN ?_ _) | (with_reducible refine Kd.C_drew ?_))); (case side2 => exact HC266_1.out); (case side3 => repeat (first | exact HR267_1.out | (with_reducible refine Kd.C_alloc ?_ _) | (with_reducible refine Kd.C_drewN ?_ _) | (with_reducible refine Kd.C_drew ?_))); (case side4 => exact HC267_1.out); rintro e w' ⟨rfl, ⟨nd, rfl⟩⟩; (try first | exact ⟨rfl, _, World.drewN_drewN _ _ _⟩ | exact ⟨rfl, _, Eq.trans (World.drewN_drewN _ _ _) (congrArg (World.drewN _) (Nat.add_assoc _ _ _))⟩))))
         go_ret
         exact ⟨by first | rfl | (simp; done) | (simp [*]; done), by repeat (first | exact Drawn0.refl _ | apply Drawn0.step)⟩
       ·rw [if_neg c7] at H
        have c7b0 : (((rd_T64 l0 x5_1).f0) == ((rd_T64 l1 x5_1).f0)) = false := beq_eq_false_iff_ne.mpr c7
        have c7b1 : (((rd_T64 l0 x5_1).f0) != ((rd_T64 l1 x5_1).f0)) = true := bne_iff_ne.mpr c7
        obtain rfl := Option.some.inj H
        have p264 : 0 ≤ (x5_1 : Int) := of_decide_eq_true (by first | (with_reducible assumption) | assumption)
        have q264 : x5_1 < (l0.length : Int) := of_decide_eq_true (by first | (with_reducible assumption) | assumption)
        obtain ⟨ad264, A264_1, c264_1, e264, hx264_0, hx264_1, hl264_1, hi264_1⟩ := z0n HR0.out x5_1 p264 q264
        cases e264
        have HR264_1 := Aside0.mk hi264_1
        have HC264_1 := Aside0.mk hl264_1
        clear hi264_1 hl264_1
        replace p264 := eq_true p264
        replace q264 := eq_true q264
        have p265 : 0 ≤ (x5_1 : Int) := of_decide_eq_true (by first | (with_reducible assumption) | assumption)
        have q265 : x5_1 < (l1.length : Int) := of_decide_eq_true (by first | (with_reducible assumption) | assumption)
        obtain ⟨ad265, A265_1, c265_1, e265, hx265_0, hx265_1, hl265_1, hi265_1⟩ := z0n HR1.out x5_1 p265 q265
        cases e265
        have HR265_1 := Aside0.mk hi265_1
        have HC265_1 := Aside0.mk hl265_1
        clear hi265_1 hl265_1
        replace p265 := eq_true p265
        replace q265 := eq_true q265
        go_wp2
        repeat (go_quiet (fail); try go_wp2)
        go_ret
        exact ⟨by first | rfl | (simp; done) | (simp [*]; done), by repeat (first | exact Drawn0.refl _ | apply Drawn0.step)⟩
      ·rw [if_neg c6] at H
       exact absurd H (by simp)
     ·rw [if_neg c5] at H
      exact absurd H (by simp)
    ·rw [if_neg c4] at H
     have c4b0 : decide (x5_1 < (l0.length : Int)) = false := decide_eq_false c4
     clear c4
     obtain rfl := Option.some.inj H
     go_wp2
     repeat (go_quiet (fail); try go_wp2)
     go_ret
     exact ⟨by first | rfl | (simp; done) | (simp [*]; done), by repeat (first | exact Drawn0.refl _ | apply Drawn0.step)⟩
 ·rw [if_neg c3] at H
  have c3b0 : ((l0.length : Int) == (l1.length : Int)) = false := beq_eq_false_iff_ne.mpr c3
  have c3b1 : ((l0.length : Int) != (l1.length : Int)) = true := bne_iff_ne.mpr c3
  have c3b2 : (l0.length == l1.length) = false := by first | simpa using c3 | (simp at c3 ⊢; omega)
  obtain rfl := Option.some.inj H
  go_enter Tryz.func18, Tryz.ntmps18
  go_wp2
  repeat (go_quiet (fail); try go_wp2)
  go_ret
  exact ⟨by first | rfl | (simp; done) | (simp [*]; done), by repeat (first | exact Drawn0.refl _ | apply Drawn0.step)⟩
def space_CheckPins.l0 : Nat → List (S83) → List (S83) → Int → Int → Option (Int)
 | 0, _, _, _, _ => none
 | k + 1, x0, x5, x6, x7 => if x7 < x6 then (if 0 ≤ x7 then (if x7 < (x5.length : Int) then (if ((rd_T83 x5 x7).f0) < 1 then (some 2) else (if ((rd_T83 x5 x7).f1) < 1 then (some 2) else (if x7 > 0 then (if 0 ≤ (wrap64 (x7 - 1)) then (if (wrap64 (x7 - 1)) < (x0.length : Int) then (if ((rd_T83 x0 (wrap64 (x7 - 1))).f0) ≥ ((rd_T83 x5 x7).f0) then (some 2) else (space_CheckPins.l0 k x0 x5 x6 (wrap64 (x7 + 1)))) else (none)) else (none)) else (space_CheckPins.l0 k x0 x5 x6 (wrap64 (x7 + 1)))))) else (none)) else (none)) else (some 0)
def space_CheckPins.f (k : Nat) (l0 : List (S83)) : Option (Int) := space_CheckPins.l0 k l0 l0 (l0.length : Int) 0
theorem space_CheckPins.mono_l : ∀ k, (∀ y0 y1 y2 y3, LeO (space_CheckPins.l0 k y0 y1 y2 y3) (space_CheckPins.l0 (k + 1) y0 y1 y2 y3))
 | 0 => fun _ _ _ _ r h => by simp [space_CheckPins.l0] at h
 | k + 1 => by
  have ih0 := space_CheckPins.mono_l k
  ·intro y0 y1 y2 y3
   unfold space_CheckPins.l0
   repeat' first
   | (with_reducible exact ih0 _ _ _ _)
   | (with_reducible exact LeO.refl _)
   | (with_reducible exact LeO.none _)
   | (with_reducible refine LeO.ite ?_ ?_)
   | (with_reducible refine LeO.bind ?_ (fun _ => ?_))
   | exact ih0 _ _ _ _
   | exact LeO.none _
   | refine LeO.ite ?_ ?_
   | refine LeO.bind ?_ (fun _ => ?_)
theorem space_CheckPins.mono : ∀ a0 k, LeO (space_CheckPins.f k a0) (space_CheckPins.f (k + 1) a0) := by
 intro a0 k
 have ih0 := space_CheckPins.mono_l k
 unfold space_CheckPins.f
 repeat' first
   | (with_reducible exact ih0 _ _ _ _)
   | (with_reducible exact LeO.refl _)
   | (with_reducible exact LeO.none _)
   | (with_reducible refine LeO.ite ?_ ?_)
   | (with_reducible refine LeO.bind ?_ (fun _ => ?_))
   | exact ih0 _ _ _ _
   | exact LeO.none _
   | refine LeO.ite ?_ ?_
   | refine LeO.bind ?_ (fun _ => ?_)
set_option maxHeartbeats 8000000 in
set_option maxRecDepth 100000 in
theorem space_CheckPins.calls (k : Nat) (A0 : Option Addr) (c0 : Nat) (l0 : List (S83)) (r : Int) (w : World) (hr0 : Kd.C k83 w A0 l0.length l0) (hc0 : l0.length ≤ c0) (h : space_CheckPins.f k l0 = some r) :
  Calls Tryz.prog 137 #[.slice A0 l0.length c0] w fun e w' => e = .returned (.int .i64 r) ∧ Below w.heap.size w w' := by
 have hu83 := Tryz.underlying83
 have HR0 := Aside0.mk hr0
 have HC0 := Aside0.mk hc0
 clear hr0 hc0
 have HB := Aside0.mk (Below.refl w.heap.size w)
 have H : (space_CheckPins.l0 k l0 l0 (l0.length : Int) 0) = some r := h
 clear h
 have H' := Aside0.mk H
 clear H
 go_enter Tryz.func137, Tryz.ntmps137
 go_wp2
 repeat (go_quiet (fail); try go_wp2)
 go_loopg [7] k (fun kq v7 w' => ∃ (x7_1 : Int), v7 = .int .i64 x7_1 ∧ Aside0 (space_CheckPins.l0 kq l0 l0 (l0.length : Int) x7_1 = some r) ∧ Aside0 (kq ≤ k) ∧ Aside0 (Below w.heap.size w w'))
 case atStart => exact ⟨(0), (by first | rfl | (simp; done) | (simp [*]; done)), H', ⟨Nat.le_refl _⟩, ⟨by repeat (first | (with_reducible first | exact HB.out | apply z0f | apply z0c | apply z0e) | exact HB.out)⟩⟩
 case round =>
  clear H'
  try clear c1
  obtain ⟨x7_1, rfl, HA, HK1, HB⟩ := hrel
  cases gk with
  | zero => exact absurd HA.out (by simp [space_CheckPins.l0])
  | succ k1 =>
   have H := HA.out
   clear HA
   simp only [space_CheckPins.l0] at H
   by_cases c2 : x7_1 < (l0.length : Int)
   ·rw [if_pos c2] at H
    have c2b0 : decide (x7_1 < (l0.length : Int)) = true := decide_eq_true c2
    clear c2
    by_cases c3 : 0 ≤ x7_1
    ·rw [if_pos c3] at H
     have c3b0 : decide (0 ≤ x7_1) = true := decide_eq_true c3
     clear c3
     by_cases c4 : x7_1 < (l0.length : Int)
     ·rw [if_pos c4] at H
      have c4b0 : decide (x7_1 < (l0.length : Int)) = true := decide_eq_true c4
      clear c4
      by_cases c5 : ((rd_T83 l0 x7_1).f0) < 1
      ·rw [if_pos c5] at H
       have c5b0 : decide (((rd_T83 l0 x7_1).f0) < 1) = true := decide_eq_true c5
       clear c5
       obtain rfl := Option.some.inj H
       have p275 : 0 ≤ (x7_1 : Int) := of_decide_eq_true (by first | (with_reducible assumption) | assumption)
       have q275 : x7_1 < (l0.length : Int) := of_decide_eq_true (by first | (with_reducible assumption) | assumption)
       obtain ⟨ad275, e275, hx275_0, hx275_1⟩ := z1m HR0.out x7_1 p275 q275
       cases e275
       replace hx275_0 := (HB.out.cell (World.block_lt_of_cell? w _ hx275_0)).trans hx275_0
       replace hx275_1 := (HB.out.cell (World.block_lt_of_cell? w _ hx275_1)).trans hx275_1
       replace p275 := eq_true p275
       replace q275 := eq_true q275
       go_wp2_with (first | ((with_reducible refine z01 (N := 4) rfl ?_); refine z06 ?hg (N := 4) ?hd (cs := #[.int .i64 0, .int .i64 0]) (t := 83) ?hr ?_; (case hd => rfl); (case hg => rfl); (case hr => first | (go_simp; done) | (go_simp; rfl)); intro gb276 hg w6 hbox hb; have n0_ := Aside0.mk (z04 (by repeat (first | (with_reducible first | exact HB.out | apply z0f | apply z0c | apply z0e) | exact HB.out)) hb); have n1_ := Aside0.mk (hbox); have n2_ := Aside0.mk ((by rw [hg]; exact (z0m (by repeat (first | (with_reducible first | exact HB.out | apply z0f | apply z0c | apply z0e) | exact HB.out))) : w.heap.size ≤ gb276)); have n3_ := Aside0.mk ((by rw [hg]; exact (z0m (by repeat (first | (with_reducible first | exact HB.out | apply z0f | apply z0c | apply z0e) | exact HB.out))) : w.heap.size ≤ gb276)); clear HB; have HB := n0_; have BK276 := n1_; have GW276 := n2_; have GE276 := n3_; clear n0_ n1_ n2_ n3_; clear hb hbox hg; have hcz7_0 : w6.cell? ⟨gb276, 0, none⟩ = some (.int .i64 0) := (z0a BK276.out 0).trans rfl; have hcz7_1 : w6.cell? ⟨gb276, 1, none⟩ = some (.int .i64 0) := (z0a BK276.out 1).trans rfl; have hfz7_0 := z0d BK276.out 0; have hfz7_1 := z0d BK276.out 1))
       repeat (go_quiet (first | ((with_reducible refine z01 (N := 4) rfl ?_); refine z06 ?hg (N := 4) ?hd (cs := #[.int .i64 0, .int .i64 0]) (t := 83) ?hr ?_; (case hd => rfl); (case hg => rfl); (case hr => first | (go_simp; done) | (go_simp; rfl)); intro gb276 hg w6 hbox hb; have n0_ := Aside0.mk (z04 (by repeat (first | (with_reducible first | exact HB.out | apply z0f | apply z0c | apply z0e) | exact HB.out)) hb); have n1_ := Aside0.mk (hbox); have n2_ := Aside0.mk ((by rw [hg]; exact (z0m (by repeat (first | (with_reducible first | exact HB.out | apply z0f | apply z0c | apply z0e) | exact HB.out))) : w.heap.size ≤ gb276)); have n3_ := Aside0.mk ((by rw [hg]; exact (z0m (by repeat (first | (with_reducible first | exact HB.out | apply z0f | apply z0c | apply z0e) | exact HB.out))) : w.heap.size ≤ gb276)); clear HB; have HB := n0_; have BK276 := n1_; have GW276 := n2_; have GE276 := n3_; clear n0_ n1_ n2_ n3_; clear hb hbox hg; have hcz7_0 : w6.cell? ⟨gb276, 0, none⟩ = some (.int .i64 0) := (z0a BK276.out 0).trans rfl; have hcz7_1 : w6.cell? ⟨gb276, 1, none⟩ = some (.int .i64 0) := (z0a BK276.out 1).trans rfl; have hfz7_0 := z0d BK276.out 0; have hfz7_1 := z0d BK276.out 1)); try go_wp2_with (first | ((with_reducible refine z01 (N := 4) rfl ?_); refine z06 ?hg (N := 4) ?hd (cs := #[.int .i64 0, .int .i64 0]) (t := 83) ?hr ?_; (case hd => rfl); (case hg => rfl); (case hr => first | (go_simp; done) | (go_simp; rfl)); intro gb276 hg w6 hbox hb; have n0_ := Aside0.mk (z04 (by repeat (first | (with_reducible first | exact HB.out | apply z0f | apply z0c | apply z0e) | exact HB.out)) hb); have n1_ := Aside0.mk (hbox); have n2_ := Aside0.mk ((by rw [hg]; exact (z0m (by repeat (first | (with_reducible first | exact HB.out | apply z0f | apply z0c | apply z0e) | exact HB.out))) : w.heap.size ≤ gb276)); have n3_ := Aside0.mk ((by rw [hg]; exact (z0m (by repeat (first | (with_reducible first | exact HB.out | apply z0f | apply z0c | apply z0e) | exact HB.out))) : w.heap.size ≤ gb276)); clear HB; have HB := n0_; have BK276 := n1_; have GW276 := n2_; have GE276 := n3_; clear n0_ n1_ n2_ n3_; clear hb hbox hg; have hcz7_0 : w6.cell? ⟨gb276, 0, none⟩ = some (.int .i64 0) := (z0a BK276.out 0).trans rfl; have hcz7_1 : w6.cell? ⟨gb276, 1, none⟩ = some (.int .i64 0) := (z0a BK276.out 1).trans rfl; have hfz7_0 := z0d BK276.out 0; have hfz7_1 := z0d BK276.out 1)))
       go_ret
       exact ⟨by first | rfl | (simp [z0r, z0s] <;> rfl) | (simp [*, z0r, z0s] <;> rfl), by repeat (first | (with_reducible first | exact HB.out | apply z0f | apply z0c | apply z0e | refine z0z ?_ GE276.out) | exact HB.out)⟩
      ·rw [if_neg c5] at H
       have c5b0 : decide (((rd_T83 l0 x7_1).f0) < 1) = false := decide_eq_false c5
       clear c5
       by_cases c8 : ((rd_T83 l0 x7_1).f1) < 1
       ·rw [if_pos c8] at H
        have c8b0 : decide (((rd_T83 l0 x7_1).f1) < 1) = true := decide_eq_true c8
        clear c8
        obtain rfl := Option.some.inj H
        have p275 : 0 ≤ (x7_1 : Int) := of_decide_eq_true (by first | (with_reducible assumption) | assumption)
        have q275 : x7_1 < (l0.length : Int) := of_decide_eq_true (by first | (with_reducible assumption) | assumption)
        obtain ⟨ad275, e275, hx275_0, hx275_1⟩ := z1m HR0.out x7_1 p275 q275
        cases e275
        replace hx275_0 := (HB.out.cell (World.block_lt_of_cell? w _ hx275_0)).trans hx275_0
        replace hx275_1 := (HB.out.cell (World.block_lt_of_cell? w _ hx275_1)).trans hx275_1
        replace p275 := eq_true p275
        replace q275 := eq_true q275
        go_wp2_with (first | ((with_reducible refine z01 (N := 4) rfl ?_); refine z06 ?hg (N := 4) ?hd (cs := #[.int .i64 0, .int .i64 0]) (t := 83) ?hr ?_; (case hd => rfl); (case hg => rfl); (case hr => first | (go_simp; done) | (go_simp; rfl)); intro gb276 hg w9 hbox hb; have n0_ := Aside0.mk (z04 (by repeat (first | (with_reducible first | exact HB.out | apply z0f | apply z0c | apply z0e) | exact HB.out)) hb); have n1_ := Aside0.mk (hbox); have n2_ := Aside0.mk ((by rw [hg]; exact (z0m (by repeat (first | (with_reducible first | exact HB.out | apply z0f | apply z0c | apply z0e) | exact HB.out))) : w.heap.size ≤ gb276)); have n3_ := Aside0.mk ((by rw [hg]; exact (z0m (by repeat (first | (with_reducible first | exact HB.out | apply z0f | apply z0c | apply z0e) | exact HB.out))) : w.heap.size ≤ gb276)); clear HB; have HB := n0_; have BK276 := n1_; have GW276 := n2_; have GE276 := n3_; clear n0_ n1_ n2_ n3_; clear hb hbox hg; have hcz10_0 : w9.cell? ⟨gb276, 0, none⟩ = some (.int .i64 0) := (z0a BK276.out 0).trans rfl; have hcz10_1 : w9.cell? ⟨gb276, 1, none⟩ = some (.int .i64 0) := (z0a BK276.out 1).trans rfl; have hfz10_0 := z0d BK276.out 0; have hfz10_1 := z0d BK276.out 1))
        repeat (go_quiet (first | ((with_reducible refine z01 (N := 4) rfl ?_); refine z06 ?hg (N := 4) ?hd (cs := #[.int .i64 0, .int .i64 0]) (t := 83) ?hr ?_; (case hd => rfl); (case hg => rfl); (case hr => first | (go_simp; done) | (go_simp; rfl)); intro gb276 hg w9 hbox hb; have n0_ := Aside0.mk (z04 (by repeat (first | (with_reducible first | exact HB.out | apply z0f | apply z0c | apply z0e) | exact HB.out)) hb); have n1_ := Aside0.mk (hbox); have n2_ := Aside0.mk ((by rw [hg]; exact (z0m (by repeat (first | (with_reducible first | exact HB.out | apply z0f | apply z0c | apply z0e) | exact HB.out))) : w.heap.size ≤ gb276)); have n3_ := Aside0.mk ((by rw [hg]; exact (z0m (by repeat (first | (with_reducible first | exact HB.out | apply z0f | apply z0c | apply z0e) | exact HB.out))) : w.heap.size ≤ gb276)); clear HB; have HB := n0_; have BK276 := n1_; have GW276 := n2_; have GE276 := n3_; clear n0_ n1_ n2_ n3_; clear hb hbox hg; have hcz10_0 : w9.cell? ⟨gb276, 0, none⟩ = some (.int .i64 0) := (z0a BK276.out 0).trans rfl; have hcz10_1 : w9.cell? ⟨gb276, 1, none⟩ = some (.int .i64 0) := (z0a BK276.out 1).trans rfl; have hfz10_0 := z0d BK276.out 0; have hfz10_1 := z0d BK276.out 1)); try go_wp2_with (first | ((with_reducible refine z01 (N := 4) rfl ?_); refine z06 ?hg (N := 4) ?hd (cs := #[.int .i64 0, .int .i64 0]) (t := 83) ?hr ?_; (case hd => rfl); (case hg => rfl); (case hr => first | (go_simp; done) | (go_simp; rfl)); intro gb276 hg w9 hbox hb; have n0_ := Aside0.mk (z04 (by repeat (first | (with_reducible first | exact HB.out | apply z0f | apply z0c | apply z0e) | exact HB.out)) hb); have n1_ := Aside0.mk (hbox); have n2_ := Aside0.mk ((by rw [hg]; exact (z0m (by repeat (first | (with_reducible first | exact HB.out | apply z0f | apply z0c | apply z0e) | exact HB.out))) : w.heap.size ≤ gb276)); have n3_ := Aside0.mk ((by rw [hg]; exact (z0m (by repeat (first | (with_reducible first | exact HB.out | apply z0f | apply z0c | apply z0e) | exact HB.out))) : w.heap.size ≤ gb276)); clear HB; have HB := n0_; have BK276 := n1_; have GW276 := n2_; have GE276 := n3_; clear n0_ n1_ n2_ n3_; clear hb hbox hg; have hcz10_0 : w9.cell? ⟨gb276, 0, none⟩ = some (.int .i64 0) := (z0a BK276.out 0).trans rfl; have hcz10_1 : w9.cell? ⟨gb276, 1, none⟩ = some (.int .i64 0) := (z0a BK276.out 1).trans rfl; have hfz10_0 := z0d BK276.out 0; have hfz10_1 := z0d BK276.out 1)))
        go_ret
        exact ⟨by first | rfl | (simp [z0r, z0s] <;> rfl) | (simp [*, z0r, z0s] <;> rfl), by repeat (first | (with_reducible first | exact HB.out | apply z0f | apply z0c | apply z0e | refine z0z ?_ GE276.out) | exact HB.out)⟩
       ·rw [if_neg c8] at H
        have c8b0 : decide (((rd_T83 l0 x7_1).f1) < 1) = false := decide_eq_false c8
        clear c8
        by_cases c11 : x7_1 > 0
        ·rw [if_pos c11] at H
         have c11b0 : decide (0 < x7_1) = true := decide_eq_true c11
         clear c11
         obtain ⟨ji12, hji12⟩ : ∃ j_ : Int, (wrap64 (x7_1 - 1)) = j_ := ⟨_, rfl⟩
         replace H : (if 0 ≤ (ji12) then (if (ji12) < (l0.length : Int) then (if ((rd_T83 l0 (ji12)).f0) ≥ ((rd_T83 l0 x7_1).f0) then (some 2) else (space_CheckPins.l0 k1 l0 l0 (l0.length : Int) (wrap64 (x7_1 + 1)))) else (none)) else (none)) = some r := by first | (rw [hji12] at H; exact H) | (simp only [hji12] at H ⊢; exact H)
         have hji12w : (IntKind.i64.wrap (x7_1 - 1)) = ji12 := (z0o _).trans hji12
         by_cases c13 : 0 ≤ (ji12)
         ·rw [if_pos c13] at H
          have c13b0 : decide (0 ≤ (ji12)) = true := decide_eq_true c13
          clear c13
          by_cases c14 : (ji12) < (l0.length : Int)
          ·rw [if_pos c14] at H
           have c14b0 : decide ((ji12) < (l0.length : Int)) = true := decide_eq_true c14
           clear c14
           by_cases c15 : ((rd_T83 l0 (ji12)).f0) ≥ ((rd_T83 l0 x7_1).f0)
           ·rw [if_pos c15] at H
            have c15b0 : decide (((rd_T83 l0 x7_1).f0) ≤ ((rd_T83 l0 (ji12)).f0)) = true := decide_eq_true c15
            clear c15
            obtain rfl := Option.some.inj H
            have p275 : 0 ≤ (x7_1 : Int) := of_decide_eq_true (by first | (with_reducible assumption) | assumption)
            have q275 : x7_1 < (l0.length : Int) := of_decide_eq_true (by first | (with_reducible assumption) | assumption)
            obtain ⟨ad275, e275, hx275_0, hx275_1⟩ := z1m HR0.out x7_1 p275 q275
            cases e275
            replace hx275_0 := (HB.out.cell (World.block_lt_of_cell? w _ hx275_0)).trans hx275_0
            replace hx275_1 := (HB.out.cell (World.block_lt_of_cell? w _ hx275_1)).trans hx275_1
            replace p275 := eq_true p275
            replace q275 := eq_true q275
            go_wp2_with (first | ((with_reducible refine z01 (N := 4) rfl ?_); refine z06 ?hg (N := 4) ?hd (cs := #[.int .i64 0, .int .i64 0]) (t := 83) ?hr ?_; (case hd => rfl); (case hg => rfl); (case hr => first | (go_simp; done) | (go_simp; rfl)); intro gb276 hg w16 hbox hb; have n0_ := Aside0.mk (z04 (by repeat (first | (with_reducible first | exact HB.out | apply z0f | apply z0c | apply z0e) | exact HB.out)) hb); have n1_ := Aside0.mk (hbox); have n2_ := Aside0.mk ((by rw [hg]; exact (z0m (by repeat (first | (with_reducible first | exact HB.out | apply z0f | apply z0c | apply z0e) | exact HB.out))) : w.heap.size ≤ gb276)); have n3_ := Aside0.mk ((by rw [hg]; exact (z0m (by repeat (first | (with_reducible first | exact HB.out | apply z0f | apply z0c | apply z0e) | exact HB.out))) : w.heap.size ≤ gb276)); clear HB; have HB := n0_; have BK276 := n1_; have GW276 := n2_; have GE276 := n3_; clear n0_ n1_ n2_ n3_; clear hb hbox hg; have hcz17_0 : w16.cell? ⟨gb276, 0, none⟩ = some (.int .i64 0) := (z0a BK276.out 0).trans rfl; have hcz17_1 : w16.cell? ⟨gb276, 1, none⟩ = some (.int .i64 0) := (z0a BK276.out 1).trans rfl; have hfz17_0 := z0d BK276.out 0; have hfz17_1 := z0d BK276.out 1; have p277 : 0 ≤ ((ji12) : Int) := of_decide_eq_true (by first | (with_reducible assumption) | assumption); have q277 : (ji12) < (l0.length : Int) := of_decide_eq_true (by first | (with_reducible assumption) | assumption); obtain ⟨ad277, e277, hx277_0, hx277_1⟩ := z1m HR0.out (ji12) p277 q277; obtain rfl : ad275 = ad277 := (by injection e277); have hn277_0 : ad275.block ≠ gb276 := Nat.ne_of_lt (Nat.lt_of_lt_of_le (by have := World.block_lt_of_cell? _ _ hx277_0; first | rwa [z0h] at this | exact this) GW276.out); have hn277_1 : ad275.block ≠ gb276 := Nat.ne_of_lt (Nat.lt_of_lt_of_le (by have := World.block_lt_of_cell? _ _ hx277_0; first | rwa [z0h] at this | exact this) GW276.out); replace hx277_0 := (HB.out.cell (World.block_lt_of_cell? w _ hx277_0)).trans hx277_0; replace hx277_1 := (HB.out.cell (World.block_lt_of_cell? w _ hx277_1)).trans hx277_1; replace hx277_0 := (z0q (p := ⟨gb276, 0, none⟩) (by first | (rw [z0h]; exact hn277_0) | (show (Addr.add _ _).block ≠ _; rw [z0h]; exact hn277_0) | exact hn277_0) (.int .i64 ((rd_T83 l0 x7_1).f0))).trans hx277_0; replace hx277_1 := (z0q (p := ⟨gb276, 0, none⟩) (by first | (rw [z0h]; exact hn277_0) | (show (Addr.add _ _).block ≠ _; rw [z0h]; exact hn277_0) | exact hn277_0) (.int .i64 ((rd_T83 l0 x7_1).f0))).trans hx277_1; replace hx277_0 := (z0q (p := ⟨gb276, 1, none⟩) (by first | (rw [z0h]; exact hn277_1) | (show (Addr.add _ _).block ≠ _; rw [z0h]; exact hn277_1) | exact hn277_1) (.int .i64 ((rd_T83 l0 x7_1).f1))).trans hx277_0; replace hx277_1 := (z0q (p := ⟨gb276, 1, none⟩) (by first | (rw [z0h]; exact hn277_1) | (show (Addr.add _ _).block ≠ _; rw [z0h]; exact hn277_1) | exact hn277_1) (.int .i64 ((rd_T83 l0 x7_1).f1))).trans hx277_1; (try have hy277_0 := fun (n_ : Nat) => (show ((((w16.drewN n_).setCell ⟨gb276, 0, none⟩ (.int .i64 ((rd_T83 l0 x7_1).f0))).setCell ⟨gb276, 1, none⟩ (.int .i64 ((rd_T83 l0 x7_1).f1)))).cell? _ = some _ from hx277_0)); (try have hy277_1 := fun (n_ : Nat) => (show ((((w16.drewN n_).setCell ⟨gb276, 0, none⟩ (.int .i64 ((rd_T83 l0 x7_1).f0))).setCell ⟨gb276, 1, none⟩ (.int .i64 ((rd_T83 l0 x7_1).f1)))).cell? _ = some _ from hx277_1)); clear hn277_0; clear hn277_1; replace p277 := eq_true p277; replace q277 := eq_true q277))
            repeat (go_quiet (first | ((with_reducible refine z01 (N := 4) rfl ?_); refine z06 ?hg (N := 4) ?hd (cs := #[.int .i64 0, .int .i64 0]) (t := 83) ?hr ?_; (case hd => rfl); (case hg => rfl); (case hr => first | (go_simp; done) | (go_simp; rfl)); intro gb276 hg w16 hbox hb; have n0_ := Aside0.mk (z04 (by repeat (first | (with_reducible first | exact HB.out | apply z0f | apply z0c | apply z0e) | exact HB.out)) hb); have n1_ := Aside0.mk (hbox); have n2_ := Aside0.mk ((by rw [hg]; exact (z0m (by repeat (first | (with_reducible first | exact HB.out | apply z0f | apply z0c | apply z0e) | exact HB.out))) : w.heap.size ≤ gb276)); have n3_ := Aside0.mk ((by rw [hg]; exact (z0m (by repeat (first | (with_reducible first | exact HB.out | apply z0f | apply z0c | apply z0e) | exact HB.out))) : w.heap.size ≤ gb276)); clear HB; have HB := n0_; have BK276 := n1_; have GW276 := n2_; have GE276 := n3_; clear n0_ n1_ n2_ n3_; clear hb hbox hg; have hcz17_0 : w16.cell? ⟨gb276, 0, none⟩ = some (.int .i64 0) := (z0a BK276.out 0).trans rfl; have hcz17_1 : w16.cell? ⟨gb276, 1, none⟩ = some (.int .i64 0) := (z0a BK276.out 1).trans rfl; have hfz17_0 := z0d BK276.out 0; have hfz17_1 := z0d BK276.out 1; have p277 : 0 ≤ ((ji12) : Int) := of_decide_eq_true (by first | (with_reducible assumption) | assumption); have q277 : (ji12) < (l0.length : Int) := of_decide_eq_true (by first | (with_reducible assumption) | assumption); obtain ⟨ad277, e277, hx277_0, hx277_1⟩ := z1m HR0.out (ji12) p277 q277; obtain rfl : ad275 = ad277 := (by injection e277); have hn277_0 : ad275.block ≠ gb276 := Nat.ne_of_lt (Nat.lt_of_lt_of_le (by have := World.block_lt_of_cell? _ _ hx277_0; first | rwa [z0h] at this | exact this) GW276.out); have hn277_1 : ad275.block ≠ gb276 := Nat.ne_of_lt (Nat.lt_of_lt_of_le (by have := World.block_lt_of_cell? _ _ hx277_0; first | rwa [z0h] at this | exact this) GW276.out); replace hx277_0 := (HB.out.cell (World.block_lt_of_cell? w _ hx277_0)).trans hx277_0; replace hx277_1 := (HB.out.cell (World.block_lt_of_cell? w _ hx277_1)).trans hx277_1; replace hx277_0 := (z0q (p := ⟨gb276, 0, none⟩) (by first | (rw [z0h]; exact hn277_0) | (show (Addr.add _ _).block ≠ _; rw [z0h]; exact hn277_0) | exact hn277_0) (.int .i64 ((rd_T83 l0 x7_1).f0))).trans hx277_0; replace hx277_1 := (z0q (p := ⟨gb276, 0, none⟩) (by first | (rw [z0h]; exact hn277_0) | (show (Addr.add _ _).block ≠ _; rw [z0h]; exact hn277_0) | exact hn277_0) (.int .i64 ((rd_T83 l0 x7_1).f0))).trans hx277_1; replace hx277_0 := (z0q (p := ⟨gb276, 1, none⟩) (by first | (rw [z0h]; exact hn277_1) | (show (Addr.add _ _).block ≠ _; rw [z0h]; exact hn277_1) | exact hn277_1) (.int .i64 ((rd_T83 l0 x7_1).f1))).trans hx277_0; replace hx277_1 := (z0q (p := ⟨gb276, 1, none⟩) (by first | (rw [z0h]; exact hn277_1) | (show (Addr.add _ _).block ≠ _; rw [z0h]; exact hn277_1) | exact hn277_1) (.int .i64 ((rd_T83 l0 x7_1).f1))).trans hx277_1; (try have hy277_0 := fun (n_ : Nat) => (show ((((w16.drewN n_).setCell ⟨gb276, 0, none⟩ (.int .i64 ((rd_T83 l0 x7_1).f0))).setCell ⟨gb276, 1, none⟩ (.int .i64 ((rd_T83 l0 x7_1).f1)))).cell? _ = some _ from hx277_0)); (try have hy277_1 := fun (n_ : Nat) => (show ((((w16.drewN n_).setCell ⟨gb276, 0, none⟩ (.int .i64 ((rd_T83 l0 x7_1).f0))).setCell ⟨gb276, 1, none⟩ (.int .i64 ((rd_T83 l0 x7_1).f1)))).cell? _ = some _ from hx277_1)); clear hn277_0; clear hn277_1; replace p277 := eq_true p277; replace q277 := eq_true q277)); try go_wp2_with (first | ((with_reducible refine z01 (N := 4) rfl ?_); refine z06 ?hg (N := 4) ?hd (cs := #[.int .i64 0, .int .i64 0]) (t := 83) ?hr ?_; (case hd => rfl); (case hg => rfl); (case hr => first | (go_simp; done) | (go_simp; rfl)); intro gb276 hg w16 hbox hb; have n0_ := Aside0.mk (z04 (by repeat (first | (with_reducible first | exact HB.out | apply z0f | apply z0c | apply z0e) | exact HB.out)) hb); have n1_ := Aside0.mk (hbox); have n2_ := Aside0.mk ((by rw [hg]; exact (z0m (by repeat (first | (with_reducible first | exact HB.out | apply z0f | apply z0c | apply z0e) | exact HB.out))) : w.heap.size ≤ gb276)); have n3_ := Aside0.mk ((by rw [hg]; exact (z0m (by repeat (first | (with_reducible first | exact HB.out | apply z0f | apply z0c | apply z0e) | exact HB.out))) : w.heap.size ≤ gb276)); clear HB; have HB := n0_; have BK276 := n1_; have GW276 := n2_; have GE276 := n3_; clear n0_ n1_ n2_ n3_; clear hb hbox hg; have hcz17_0 : w16.cell? ⟨gb276, 0, none⟩ = some (.int .i64 0) := (z0a BK276.out 0).trans rfl; have hcz17_1 : w16.cell? ⟨gb276, 1, none⟩ = some (.int .i64 0) := (z0a BK276.out 1).trans rfl; have hfz17_0 := z0d BK276.out 0; have hfz17_1 := z0d BK276.out 1; have p277 : 0 ≤ ((ji12) : Int) := of_decide_eq_true (by first | (with_reducible assumption) | assumption); have q277 : (ji12) < (l0.length : Int) := of_decide_eq_true (by first | (with_reducible assumption) | assumption); obtain ⟨ad277, e277, hx277_0, hx277_1⟩ := z1m HR0.out (ji12) p277 q277; obtain rfl : ad275 = ad277 := (by injection e277); have hn277_0 : ad275.block ≠ gb276 := Nat.ne_of_lt (Nat.lt_of_lt_of_le (by have := World.block_lt_of_cell? _ _ hx277_0; first | rwa [z0h] at this | exact this) GW276.out); have hn277_1 : ad275.block ≠ gb276 := Nat.ne_of_lt (Nat.lt_of_lt_of_le (by have := World.block_lt_of_cell? _ _ hx277_0; first | rwa [z0h] at this | exact this) GW276.out); replace hx277_0 := (HB.out.cell (World.block_lt_of_cell? w _ hx277_0)).trans hx277_0; replace hx277_1 := (HB.out.cell (World.block_lt_of_cell? w _ hx277_1)).trans hx277_1; replace hx277_0 := (z0q (p := ⟨gb276, 0, none⟩) (by first | (rw [z0h]; exact hn277_0) | (show (Addr.add _ _).block ≠ _; rw [z0h]; exact hn277_0) | exact hn277_0) (.int .i64 ((rd_T83 l0 x7_1).f0))).trans hx277_0; replace hx277_1 := (z0q (p := ⟨gb276, 0, none⟩) (by first | (rw [z0h]; exact hn277_0) | (show (Addr.add _ _).block ≠ _; rw [z0h]; exact hn277_0) | exact hn277_0) (.int .i64 ((rd_T83 l0 x7_1).f0))).trans hx277_1; replace hx277_0 := (z0q (p := ⟨gb276, 1, none⟩) (by first | (rw [z0h]; exact hn277_1) | (show (Addr.add _ _).block ≠ _; rw [z0h]; exact hn277_1) | exact hn277_1) (.int .i64 ((rd_T83 l0 x7_1).f1))).trans hx277_0; replace hx277_1 := (z0q (p := ⟨gb276, 1, none⟩) (by first | (rw [z0h]; exact hn277_1) | (show (Addr.add _ _).block ≠ _; rw [z0h]; exact hn277_1) | exact hn277_1) (.int .i64 ((rd_T83 l0 x7_1).f1))).trans hx277_1; (try have hy277_0 := fun (n_ : Nat) => (show ((((w16.drewN n_).setCell ⟨gb276, 0, none⟩ (.int .i64 ((rd_T83 l0 x7_1).f0))).setCell ⟨gb276, 1, none⟩ (.int .i64 ((rd_T83 l0 x7_1).f1)))).cell? _ = some _ from hx277_0)); (try have hy277_1 := fun (n_ : Nat) => (show ((((w16.drewN n_).setCell ⟨gb276, 0, none⟩ (.int .i64 ((rd_T83 l0 x7_1).f0))).setCell ⟨gb276, 1, none⟩ (.int .i64 ((rd_T83 l0 x7_1).f1)))).cell? _ = some _ from hx277_1)); clear hn277_0; clear hn277_1; replace p277 := eq_true p277; replace q277 := eq_true q277)))
            go_ret
            exact ⟨by first | rfl | (simp [z0r, z0s] <;> rfl) | (simp only [← hji12]; first | rfl | (simp [z0r, z0s] <;> rfl)) | (simp [*, z0r, z0s] <;> rfl), by repeat (first | (with_reducible first | exact HB.out | apply z0f | apply z0c | apply z0e | refine z0z ?_ GE276.out) | exact HB.out)⟩
           ·rw [if_neg c15] at H
            have c15b0 : decide (((rd_T83 l0 x7_1).f0) ≤ ((rd_T83 l0 (ji12)).f0)) = false := decide_eq_false c15
            clear c15
            have H' := Aside0.mk H
            clear H
            have p275 : 0 ≤ (x7_1 : Int) := of_decide_eq_true (by first | (with_reducible assumption) | assumption)
            have q275 : x7_1 < (l0.length : Int) := of_decide_eq_true (by first | (with_reducible assumption) | assumption)
            obtain ⟨ad275, e275, hx275_0, hx275_1⟩ := z1m HR0.out x7_1 p275 q275
            cases e275
            replace hx275_0 := (HB.out.cell (World.block_lt_of_cell? w _ hx275_0)).trans hx275_0
            replace hx275_1 := (HB.out.cell (World.block_lt_of_cell? w _ hx275_1)).trans hx275_1
            replace p275 := eq_true p275
            replace q275 := eq_true q275
            go_wp2_with (first | ((with_reducible refine z01 (N := 4) rfl ?_); refine z06 ?hg (N := 4) ?hd (cs := #[.int .i64 0, .int .i64 0]) (t := 83) ?hr ?_; (case hd => rfl); (case hg => rfl); (case hr => first | (go_simp; done) | (go_simp; rfl)); intro gb276 hg w18 hbox hb; have n0_ := Aside0.mk (z04 (by repeat (first | (with_reducible first | exact HB.out | apply z0f | apply z0c | apply z0e) | exact HB.out)) hb); have n1_ := Aside0.mk (hbox); have n2_ := Aside0.mk ((by rw [hg]; exact (z0m (by repeat (first | (with_reducible first | exact HB.out | apply z0f | apply z0c | apply z0e) | exact HB.out))) : w.heap.size ≤ gb276)); have n3_ := Aside0.mk ((by rw [hg]; exact (z0m (by repeat (first | (with_reducible first | exact HB.out | apply z0f | apply z0c | apply z0e) | exact HB.out))) : w.heap.size ≤ gb276)); clear HB; have HB := n0_; have BK276 := n1_; have GW276 := n2_; have GE276 := n3_; clear n0_ n1_ n2_ n3_; clear hb hbox hg; have hcz19_0 : w18.cell? ⟨gb276, 0, none⟩ = some (.int .i64 0) := (z0a BK276.out 0).trans rfl; have hcz19_1 : w18.cell? ⟨gb276, 1, none⟩ = some (.int .i64 0) := (z0a BK276.out 1).trans rfl; have hfz19_0 := z0d BK276.out 0; have hfz19_1 := z0d BK276.out 1; have p277 : 0 ≤ ((ji12) : Int) := of_decide_eq_true (by first | (with_reducible assumption) | assumption); have q277 : (ji12) < (l0.length : Int) := of_decide_eq_true (by first | (with_reducible assumption) | assumption); obtain ⟨ad277, e277, hx277_0, hx277_1⟩ := z1m HR0.out (ji12) p277 q277; obtain rfl : ad275 = ad277 := (by injection e277); have hn277_0 : ad275.block ≠ gb276 := Nat.ne_of_lt (Nat.lt_of_lt_of_le (by have := World.block_lt_of_cell? _ _ hx277_0; first | rwa [z0h] at this | exact this) GW276.out); have hn277_1 : ad275.block ≠ gb276 := Nat.ne_of_lt (Nat.lt_of_lt_of_le (by have := World.block_lt_of_cell? _ _ hx277_0; first | rwa [z0h] at this | exact this) GW276.out); replace hx277_0 := (HB.out.cell (World.block_lt_of_cell? w _ hx277_0)).trans hx277_0; replace hx277_1 := (HB.out.cell (World.block_lt_of_cell? w _ hx277_1)).trans hx277_1; replace hx277_0 := (z0q (p := ⟨gb276, 0, none⟩) (by first | (rw [z0h]; exact hn277_0) | (show (Addr.add _ _).block ≠ _; rw [z0h]; exact hn277_0) | exact hn277_0) (.int .i64 ((rd_T83 l0 x7_1).f0))).trans hx277_0; replace hx277_1 := (z0q (p := ⟨gb276, 0, none⟩) (by first | (rw [z0h]; exact hn277_0) | (show (Addr.add _ _).block ≠ _; rw [z0h]; exact hn277_0) | exact hn277_0) (.int .i64 ((rd_T83 l0 x7_1).f0))).trans hx277_1; replace hx277_0 := (z0q (p := ⟨gb276, 1, none⟩) (by first | (rw [z0h]; exact hn277_1) | (show (Addr.add _ _).block ≠ _; rw [z0h]; exact hn277_1) | exact hn277_1) (.int .i64 ((rd_T83 l0 x7_1).f1))).trans hx277_0; replace hx277_1 := (z0q (p := ⟨gb276, 1, none⟩) (by first | (rw [z0h]; exact hn277_1) | (show (Addr.add _ _).block ≠ _; rw [z0h]; exact hn277_1) | exact hn277_1) (.int .i64 ((rd_T83 l0 x7_1).f1))).trans hx277_1; (try have hy277_0 := fun (n_ : Nat) => (show ((((w18.drewN n_).setCell ⟨gb276, 0, none⟩ (.int .i64 ((rd_T83 l0 x7_1).f0))).setCell ⟨gb276, 1, none⟩ (.int .i64 ((rd_T83 l0 x7_1).f1)))).cell? _ = some _ from hx277_0)); (try have hy277_1 := fun (n_ : Nat) => (show ((((w18.drewN n_).setCell ⟨gb276, 0, none⟩ (.int .i64 ((rd_T83 l0 x7_1).f0))).setCell ⟨gb276, 1, none⟩ (.int .i64 ((rd_T83 l0 x7_1).f1)))).cell? _ = some _ from hx277_1)); clear hn277_0; clear hn277_1; replace p277 := eq_true p277; replace q277 := eq_true q277))
            repeat (go_quiet (first | ((with_reducible refine z01 (N := 4) rfl ?_); refine z06 ?hg (N := 4) ?hd (cs := #[.int .i64 0, .int .i64 0]) (t := 83) ?hr ?_; (case hd => rfl); (case hg => rfl); (case hr => first | (go_simp; done) | (go_simp; rfl)); intro gb276 hg w18 hbox hb; have n0_ := Aside0.mk (z04 (by repeat (first | (with_reducible first | exact HB.out | apply z0f | apply z0c | apply z0e) | exact HB.out)) hb); have n1_ := Aside0.mk (hbox); have n2_ := Aside0.mk ((by rw [hg]; exact (z0m (by repeat (first | (with_reducible first | exact HB.out | apply z0f | apply z0c | apply z0e) | exact HB.out))) : w.heap.size ≤ gb276)); have n3_ := Aside0.mk ((by rw [hg]; exact (z0m (by repeat (first | (with_reducible first | exact HB.out | apply z0f | apply z0c | apply z0e) | exact HB.out))) : w.heap.size ≤ gb276)); clear HB; have HB := n0_; have BK276 := n1_; have GW276 := n2_; have GE276 := n3_; clear n0_ n1_ n2_ n3_; clear hb hbox hg; have hcz19_0 : w18.cell? ⟨gb276, 0, none⟩ = some (.int .i64 0) := (z0a BK276.out 0).trans rfl; have hcz19_1 : w18.cell? ⟨gb276, 1, none⟩ = some (.int .i64 0) := (z0a BK276.out 1).trans rfl; have hfz19_0 := z0d BK276.out 0; have hfz19_1 := z0d BK276.out 1; have p277 : 0 ≤ ((ji12) : Int) := of_decide_eq_true (by first | (with_reducible assumption) | assumption); have q277 : (ji12) < (l0.length : Int) := of_decide_eq_true (by first | (with_reducible assumption) | assumption); obtain ⟨ad277, e277, hx277_0, hx277_1⟩ := z1m HR0.out (ji12) p277 q277; obtain rfl : ad275 = ad277 := (by injection e277); have hn277_0 : ad275.block ≠ gb276 := Nat.ne_of_lt (Nat.lt_of_lt_of_le (by have := World.block_lt_of_cell? _ _ hx277_0; first | rwa [z0h] at this | exact this) GW276.out); have hn277_1 : ad275.block ≠ gb276 := Nat.ne_of_lt (Nat.lt_of_lt_of_le (by have := World.block_lt_of_cell? _ _ hx277_0; first | rwa [z0h] at this | exact this) GW276.out); replace hx277_0 := (HB.out.cell (World.block_lt_of_cell? w _ hx277_0)).trans hx277_0; replace hx277_1 := (HB.out.cell (World.block_lt_of_cell? w _ hx277_1)).trans hx277_1; replace hx277_0 := (z0q (p := ⟨gb276, 0, none⟩) (by first | (rw [z0h]; exact hn277_0) | (show (Addr.add _ _).block ≠ _; rw [z0h]; exact hn277_0) | exact hn277_0) (.int .i64 ((rd_T83 l0 x7_1).f0))).trans hx277_0; replace hx277_1 := (z0q (p := ⟨gb276, 0, none⟩) (by first | (rw [z0h]; exact hn277_0) | (show (Addr.add _ _).block ≠ _; rw [z0h]; exact hn277_0) | exact hn277_0) (.int .i64 ((rd_T83 l0 x7_1).f0))).trans hx277_1; replace hx277_0 := (z0q (p := ⟨gb276, 1, none⟩) (by first | (rw [z0h]; exact hn277_1) | (show (Addr.add _ _).block ≠ _; rw [z0h]; exact hn277_1) | exact hn277_1) (.int .i64 ((rd_T83 l0 x7_1).f1))).trans hx277_0; replace hx277_1 := (z0q (p := ⟨gb276, 1, none⟩) (by first | (rw [z0h]; exact hn277_1) | (show (Addr.add _ _).block ≠ _; rw [z0h]; exact hn277_1) | exact hn277_1) (.int .i64 ((rd_T83 l0 x7_1).f1))).trans hx277_1; (try have hy277_0 := fun (n_ : Nat) => (show ((((w18.drewN n_).setCell ⟨gb276, 0, none⟩ (.int .i64 ((rd_T83 l0 x7_1).f0))).setCell ⟨gb276, 1, none⟩ (.int .i64 ((rd_T83 l0 x7_1).f1)))).cell? _ = some _ from hx277_0)); (try have hy277_1 := fun (n_ : Nat) => (show ((((w18.drewN n_).setCell ⟨gb276, 0, none⟩ (.int .i64 ((rd_T83 l0 x7_1).f0))).setCell ⟨gb276, 1, none⟩ (.int .i64 ((rd_T83 l0 x7_1).f1)))).cell? _ = some _ from hx277_1)); clear hn277_0; clear hn277_1; replace p277 := eq_true p277; replace q277 := eq_true q277)); try go_wp2_with (first | ((with_reducible refine z01 (N := 4) rfl ?_); refine z06 ?hg (N := 4) ?hd (cs := #[.int .i64 0, .int .i64 0]) (t := 83) ?hr ?_; (case hd => rfl); (case hg => rfl); (case hr => first | (go_simp; done) | (go_simp; rfl)); intro gb276 hg w18 hbox hb; have n0_ := Aside0.mk (z04 (by repeat (first | (with_reducible first | exact HB.out | apply z0f | apply z0c | apply z0e) | exact HB.out)) hb); have n1_ := Aside0.mk (hbox); have n2_ := Aside0.mk ((by rw [hg]; exact (z0m (by repeat (first | (with_reducible first | exact HB.out | apply z0f | apply z0c | apply z0e) | exact HB.out))) : w.heap.size ≤ gb276)); have n3_ := Aside0.mk ((by rw [hg]; exact (z0m (by repeat (first | (with_reducible first | exact HB.out | apply z0f | apply z0c | apply z0e) | exact HB.out))) : w.heap.size ≤ gb276)); clear HB; have HB := n0_; have BK276 := n1_; have GW276 := n2_; have GE276 := n3_; clear n0_ n1_ n2_ n3_; clear hb hbox hg; have hcz19_0 : w18.cell? ⟨gb276, 0, none⟩ = some (.int .i64 0) := (z0a BK276.out 0).trans rfl; have hcz19_1 : w18.cell? ⟨gb276, 1, none⟩ = some (.int .i64 0) := (z0a BK276.out 1).trans rfl; have hfz19_0 := z0d BK276.out 0; have hfz19_1 := z0d BK276.out 1; have p277 : 0 ≤ ((ji12) : Int) := of_decide_eq_true (by first | (with_reducible assumption) | assumption); have q277 : (ji12) < (l0.length : Int) := of_decide_eq_true (by first | (with_reducible assumption) | assumption); obtain ⟨ad277, e277, hx277_0, hx277_1⟩ := z1m HR0.out (ji12) p277 q277; obtain rfl : ad275 = ad277 := (by injection e277); have hn277_0 : ad275.block ≠ gb276 := Nat.ne_of_lt (Nat.lt_of_lt_of_le (by have := World.block_lt_of_cell? _ _ hx277_0; first | rwa [z0h] at this | exact this) GW276.out); have hn277_1 : ad275.block ≠ gb276 := Nat.ne_of_lt (Nat.lt_of_lt_of_le (by have := World.block_lt_of_cell? _ _ hx277_0; first | rwa [z0h] at this | exact this) GW276.out); replace hx277_0 := (HB.out.cell (World.block_lt_of_cell? w _ hx277_0)).trans hx277_0; replace hx277_1 := (HB.out.cell (World.block_lt_of_cell? w _ hx277_1)).trans hx277_1; replace hx277_0 := (z0q (p := ⟨gb276, 0, none⟩) (by first | (rw [z0h]; exact hn277_0) | (show (Addr.add _ _).block ≠ _; rw [z0h]; exact hn277_0) | exact hn277_0) (.int .i64 ((rd_T83 l0 x7_1).f0))).trans hx277_0; replace hx277_1 := (z0q (p := ⟨gb276, 0, none⟩) (by first | (rw [z0h]; exact hn277_0) | (show (Addr.add _ _).block ≠ _; rw [z0h]; exact hn277_0) | exact hn277_0) (.int .i64 ((rd_T83 l0 x7_1).f0))).trans hx277_1; replace hx277_0 := (z0q (p := ⟨gb276, 1, none⟩) (by first | (rw [z0h]; exact hn277_1) | (show (Addr.add _ _).block ≠ _; rw [z0h]; exact hn277_1) | exact hn277_1) (.int .i64 ((rd_T83 l0 x7_1).f1))).trans hx277_0; replace hx277_1 := (z0q (p := ⟨gb276, 1, none⟩) (by first | (rw [z0h]; exact hn277_1) | (show (Addr.add _ _).block ≠ _; rw [z0h]; exact hn277_1) | exact hn277_1) (.int .i64 ((rd_T83 l0 x7_1).f1))).trans hx277_1; (try have hy277_0 := fun (n_ : Nat) => (show ((((w18.drewN n_).setCell ⟨gb276, 0, none⟩ (.int .i64 ((rd_T83 l0 x7_1).f0))).setCell ⟨gb276, 1, none⟩ (.int .i64 ((rd_T83 l0 x7_1).f1)))).cell? _ = some _ from hx277_0)); (try have hy277_1 := fun (n_ : Nat) => (show ((((w18.drewN n_).setCell ⟨gb276, 0, none⟩ (.int .i64 ((rd_T83 l0 x7_1).f0))).setCell ⟨gb276, 1, none⟩ (.int .i64 ((rd_T83 l0 x7_1).f1)))).cell? _ = some _ from hx277_1)); clear hn277_0; clear hn277_1; replace p277 := eq_true p277; replace q277 := eq_true q277)))
            go_roundg k1
            case measure => have := HK1.out; omega
            case rel => exact ⟨(wrap64 (x7_1 + 1)), (by first | rfl | (simp; done) | (simp [*]; done)), H', ⟨by have := HK1.out; omega⟩, ⟨by repeat (first | (with_reducible first | exact HB.out | apply z0f | apply z0c | apply z0e | refine z0z ?_ GE276.out) | exact HB.out)⟩⟩
          ·rw [if_neg c14] at H
           exact absurd H (by simp)
         ·rw [if_neg c13] at H
          exact absurd H (by simp)
        ·rw [if_neg c11] at H
         have c11b0 : decide (0 < x7_1) = false := decide_eq_false c11
         clear c11
         have H' := Aside0.mk H
         clear H
         have p275 : 0 ≤ (x7_1 : Int) := of_decide_eq_true (by first | (with_reducible assumption) | assumption)
         have q275 : x7_1 < (l0.length : Int) := of_decide_eq_true (by first | (with_reducible assumption) | assumption)
         obtain ⟨ad275, e275, hx275_0, hx275_1⟩ := z1m HR0.out x7_1 p275 q275
         cases e275
         replace hx275_0 := (HB.out.cell (World.block_lt_of_cell? w _ hx275_0)).trans hx275_0
         replace hx275_1 := (HB.out.cell (World.block_lt_of_cell? w _ hx275_1)).trans hx275_1
         replace p275 := eq_true p275
         replace q275 := eq_true q275
         go_wp2_with (first | ((with_reducible refine z01 (N := 4) rfl ?_); refine z06 ?hg (N := 4) ?hd (cs := #[.int .i64 0, .int .i64 0]) (t := 83) ?hr ?_; (case hd => rfl); (case hg => rfl); (case hr => first | (go_simp; done) | (go_simp; rfl)); intro gb276 hg w20 hbox hb; have n0_ := Aside0.mk (z04 (by repeat (first | (with_reducible first | exact HB.out | apply z0f | apply z0c | apply z0e) | exact HB.out)) hb); have n1_ := Aside0.mk (hbox); have n2_ := Aside0.mk ((by rw [hg]; exact (z0m (by repeat (first | (with_reducible first | exact HB.out | apply z0f | apply z0c | apply z0e) | exact HB.out))) : w.heap.size ≤ gb276)); have n3_ := Aside0.mk ((by rw [hg]; exact (z0m (by repeat (first | (with_reducible first | exact HB.out | apply z0f | apply z0c | apply z0e) | exact HB.out))) : w.heap.size ≤ gb276)); clear HB; have HB := n0_; have BK276 := n1_; have GW276 := n2_; have GE276 := n3_; clear n0_ n1_ n2_ n3_; clear hb hbox hg; have hcz21_0 : w20.cell? ⟨gb276, 0, none⟩ = some (.int .i64 0) := (z0a BK276.out 0).trans rfl; have hcz21_1 : w20.cell? ⟨gb276, 1, none⟩ = some (.int .i64 0) := (z0a BK276.out 1).trans rfl; have hfz21_0 := z0d BK276.out 0; have hfz21_1 := z0d BK276.out 1))
         repeat (go_quiet (first | ((with_reducible refine z01 (N := 4) rfl ?_); refine z06 ?hg (N := 4) ?hd (cs := #[.int .i64 0, .int .i64 0]) (t := 83) ?hr ?_; (case hd => rfl); (case hg => rfl); (case hr => first | (go_simp; done) | (go_simp; rfl)); intro gb276 hg w20 hbox hb; have n0_ := Aside0.mk (z04 (by repeat (first | (with_reducible first | exact HB.out | apply z0f | apply z0c | apply z0e) | exact HB.out)) hb); have n1_ := Aside0.mk (hbox); have n2_ := Aside0.mk ((by rw [hg]; exact (z0m (by repeat (first | (with_reducible first | exact HB.out | apply z0f | apply z0c | apply z0e) | exact HB.out))) : w.heap.size ≤ gb276)); have n3_ := Aside0.mk ((by rw [hg]; exact (z0m (by repeat (first | (with_reducible first | exact HB.out | apply z0f | apply z0c | apply z0e) | exact HB.out))) : w.heap.size ≤ gb276)); clear HB; have HB := n0_; have BK276 := n1_; have GW276 := n2_; have GE276 := n3_; clear n0_ n1_ n2_ n3_; clear hb hbox hg; have hcz21_0 : w20.cell? ⟨gb276, 0, none⟩ = some (.int .i64 0) := (z0a BK276.out 0).trans rfl; have hcz21_1 : w20.cell? ⟨gb276, 1, none⟩ = some (.int .i64 0) := (z0a BK276.out 1).trans rfl; have hfz21_0 := z0d BK276.out 0; have hfz21_1 := z0d BK276.out 1)); try go_wp2_with (first | ((with_reducible refine z01 (N := 4) rfl ?_); refine z06 ?hg (N := 4) ?hd (cs := #[.int .i64 0, .int .i64 0]) (t := 83) ?hr ?_; (case hd => rfl); (case hg => rfl); (case hr => first | (go_simp; done) | (go_simp; rfl)); intro gb276 hg w20 hbox hb; have n0_ := Aside0.mk (z04 (by repeat (first | (with_reducible first | exact HB.out | apply z0f | apply z0c | apply z0e) | exact HB.out)) hb); have n1_ := Aside0.mk (hbox); have n2_ := Aside0.mk ((by rw [hg]; exact (z0m (by repeat (first | (with_reducible first | exact HB.out | apply z0f | apply z0c | apply z0e) | exact HB.out))) : w.heap.size ≤ gb276)); have n3_ := Aside0.mk ((by rw [hg]; exact (z0m (by repeat (first | (with_reducible first | exact HB.out | apply z0f | apply z0c | apply z0e) | exact HB.out))) : w.heap.size ≤ gb276)); clear HB; have HB := n0_; have BK276 := n1_; have GW276 := n2_; have GE276 := n3_; clear n0_ n1_ n2_ n3_; clear hb hbox hg; have hcz21_0 : w20.cell? ⟨gb276, 0, none⟩ = some (.int .i64 0) := (z0a BK276.out 0).trans rfl; have hcz21_1 : w20.cell? ⟨gb276, 1, none⟩ = some (.int .i64 0) := (z0a BK276.out 1).trans rfl; have hfz21_0 := z0d BK276.out 0; have hfz21_1 := z0d BK276.out 1)))
         go_roundg k1
         case measure => have := HK1.out; omega
         case rel => exact ⟨(wrap64 (x7_1 + 1)), (by first | rfl | (simp; done) | (simp [*]; done)), H', ⟨by have := HK1.out; omega⟩, ⟨by repeat (first | (with_reducible first | exact HB.out | apply z0f | apply z0c | apply z0e | refine z0z ?_ GE276.out) | exact HB.out)⟩⟩
     ·rw [if_neg c4] at H
      exact absurd H (by simp)
    ·rw [if_neg c3] at H
     exact absurd H (by simp)
   ·rw [if_neg c2] at H
    have c2b0 : decide (x7_1 < (l0.length : Int)) = false := decide_eq_false c2
    clear c2
    obtain rfl := Option.some.inj H
    go_wp2
    repeat (go_quiet (fail); try go_wp2)
    go_ret
    exact ⟨by first | rfl | (simp [z0r, z0s] <;> rfl) | (simp [*, z0r, z0s] <;> rfl), by repeat (first | (with_reducible first | exact HB.out | apply z0f | apply z0c | apply z0e) | exact HB.out)⟩
end Go.Proofs.YtpnhelcemodnmaaGreat.PA
namespace Go.Proofs.YtpnhelcemodnmaaGreat
open Go.RowKit Go.Shelf Go.Proofs.YtpnhelcemodnmaaGreatW.PrintWords Go.Proofs.YtpnhelcemodnmaaGreatW.PrintLast Go.Proofs.YtpnhelcemodnmaaGreatW.PrintMore PA
set_option linter.unusedVariables false
set_option linter.unusedSimpArgs false
theorem same_l0 (a b : List Int) (hl : a.length = b.length) (hm : a.length ≤ 1000000) (d : Nat) : ∀ i : Nat, i ≤ a.length → a.length - i = d → a.take i = b.take i → understoryref04_SameInts.l0 (d + 1) a b (i : Int) = some (decide (a = b)) := by
 induction d with
 | zero =>
  intro i h1 h2 h3
  obtain rfl : i = a.length := by omega
  rw [List.take_length, hl, List.take_length] at h3
  simp only [understoryref04_SameInts.l0]
  rw [if_neg (by omega)]
  simp [h3]
 | succ d ih =>
  intro i h1 h2 h3
  have ha : i < a.length := by omega
  have hb : i < b.length := by omega
  simp only [understoryref04_SameInts.l0]
  rw [if_pos (by omega), if_pos (by omega), if_pos (by omega), z0u a i ha, z0u b i hb]
  by_cases c : a[i] = b[i]
  ·first | rw [if_neg (by simpa using c)] | rw [if_pos c]
   rw [wrapp i (by omega)]
   refine ih (i + 1) (by omega) (by omega) ?_
   rw [List.take_succ_eq_append_getElem ha, List.take_succ_eq_append_getElem hb, h3, c]
  ·first | rw [if_pos c] | rw [if_neg c]
   have : ¬ a = b := fun e => c (by subst e; rfl)
   simp [this]
theorem z67 (a b : List Int) (A B : Option Addr) (c d : Nat) (w : World) (hA : (Kd.int .i64).C w A a.length a) (hc : a.length ≤ c) (hB : (Kd.int .i64).C w B b.length b) (hd : b.length ≤ d) (hm : a.length ≤ 1000000) :
  Calls Tryz.prog 31 #[.slice A a.length c, .slice B b.length d] w fun e w' => e = .returned (.bool (decide (a = b))) ∧ Drawn0 w w' := by
 refine understoryref04_SameInts.calls (a.length - 0 + 1) A c a B d b _ w hA hc hB hd ?_
 unfold understoryref04_SameInts.f
 by_cases h : a.length = b.length
 ·rw [if_pos (by omega)]
  exact same_l0 a b h hm _ 0 (Nat.zero_le _) rfl rfl
 ·rw [if_neg (by omega)]
  have : ¬ a = b := fun e => h (by rw [e])
  simp [this]
theorem same_more (a b : List Int) (r : Bool) (k e : Nat) (h : understoryref04_SameInts.f k a b = some r) : understoryref04_SameInts.f (k + e) a b = some r := by
 induction e with
 | zero => exact h
 | succ e ih => exact understoryref04_SameInts.mono a b (k + e) r ih
theorem z9l (a b : List Int) (hm : a.length ≤ 1000000) (K : Nat) (hK : a.length + 1 ≤ K) : understoryref04_SameInts.f K a b = some (decide (a = b)) := by
 obtain ⟨e, rfl⟩ : ∃ e, K = a.length + 1 + e := ⟨K - (a.length + 1), by omega⟩
 refine same_more a b _ _ e ?_
 unfold understoryref04_SameInts.f
 by_cases h : a.length = b.length
 ·rw [if_pos (by omega)]
  exact same_l0 a b h hm _ 0 (Nat.zero_le _) rfl rfl
 ·rw [if_neg (by omega)]
  have : ¬ a = b := fun e => h (by rw [e])
  simp [this]
theorem s64_ext {x y : S64} (h0 : x.f0 = y.f0) (h1 : x.f1 = y.f1) : x = y := by cases x; cases y; simp at h0 h1; rw [h0, h1]
instance : DecidableEq S64 := fun x y => if h : x.f0 = y.f0 ∧ x.f1 = y.f1 then .isTrue (s64_ext h.1 h.2) else .isFalse fun e => h (by rw [e]; exact ⟨rfl, rfl⟩)
theorem sameF_l0 (M : Nat) (hM : 1000001 ≤ M) (a b : List S64) (hl : a.length = b.length) (hm : a.length ≤ 1000000) (hs : ∀ f ∈ a, f.f1.length ≤ 1000000) (d : Nat) : ∀ i : Nat, i ≤ a.length → a.length - i = d → a.take i = b.take i → understoryref04_SameFreed.l0 (M + d + 1) a b (i : Int) = some (decide (a = b)) := by
 induction d with
 | zero =>
  intro i h1 h2 h3
  obtain rfl : i = a.length := by omega
  rw [List.take_length, hl, List.take_length] at h3
  simp only [understoryref04_SameFreed.l0]
  rw [if_neg (by omega)]
  simp [h3]
 | succ d ih =>
  intro i h1 h2 h3
  have ha : i < a.length := by omega
  have hb : i < b.length := by omega
  have hsi := hs _ (List.getElem_mem ha)
  simp only [understoryref04_SameFreed.l0]
  rw [if_pos (by omega), if_pos (by omega), if_pos (by omega), z05 a i ha, z05 b i hb]
  by_cases c : a[i].f0 = b[i].f0
  ·rw [if_pos c, z9l a[i].f1 b[i].f1 hsi _ (by omega)]
   simp only [Option.bind_some]
   by_cases c2 : a[i].f1 = b[i].f1
   ·rw [if_pos (by simpa using c2), wrapp i (by omega)]
    refine ih (i + 1) (by omega) (by omega) ?_
    rw [List.take_succ_eq_append_getElem ha, List.take_succ_eq_append_getElem hb, h3, s64_ext c c2]
   ·rw [if_neg (by simpa using c2)]
    have : ¬ a = b := fun e => c2 (by subst e; rfl)
    simp [this]
  ·rw [if_neg c]
   have : ¬ a = b := fun e => c (by subst e; rfl)
   simp [this]
theorem z4d (a b : List S64) (A B : Option Addr) (c d : Nat) (w : World) (hA : k64.C w A a.length a) (hc : a.length ≤ c) (hB : k64.C w B b.length b) (hd : b.length ≤ d) (hs : smallL a) :
  Calls Tryz.prog 18 #[.slice A a.length c, .slice B b.length d] w fun e w' => e = .returned (.bool (decide (a = b))) ∧ Drawn0 w w' := by
 refine understoryref04_SameFreed.calls (1000001 + (a.length - 0) + 1) A c a B d b _ w hA hc hB hd ?_
 unfold understoryref04_SameFreed.f
 by_cases h : a.length = b.length
 ·rw [if_pos (by omega)]
  exact sameF_l0 1000001 (Nat.le_refl _) a b h hs.1 (z16 hs) _ 0 (Nat.zero_le _) rfl rfl
 ·rw [if_neg (by omega)]
  have : ¬ a = b := fun e => h (by rw [e])
  simp [this]
def insI (l : List Int) (n : Int) : List Int := l.takeWhile (fun x => decide (x < n)) ++ n :: l.dropWhile (fun x => decide (x < n))
def insAll (l ps : List Int) : List Int := ps.foldl insI l
theorem z68 (l : List Int) (n : Int) : (insI l n).Perm (n :: l) := by
 unfold insI
 refine List.perm_middle.trans ?_
 rw [List.takeWhile_append_dropWhile]
theorem z9m (l : List Int) (n : Int) : (insI l n).length = l.length + 1 := by rw [(z68 l n).length_eq]; rfl
theorem drop_ge {l : List Int} {n : Int} (h : l.Pairwise (· ≤ ·)) : ∀ x ∈ l.dropWhile (fun x => decide (x < n)), n ≤ x := by
 induction l with
 | nil => intro x hx; simp at hx
 | cons a t ih =>
  intro x hx
  have h1 := List.pairwise_cons.1 h
  by_cases ha : a < n
  ·rw [List.dropWhile_cons_of_pos (by simpa using ha)] at hx; exact ih h1.2 x hx
  ·rw [List.dropWhile_cons_of_neg (by simpa using ha)] at hx
   rcases List.mem_cons.1 hx with rfl | hx
   ·omega
   ·have := h1.1 x hx; omega
theorem take_lt {l : List Int} {n : Int} : ∀ x ∈ l.takeWhile (fun x => decide (x < n)), x < n := by
 induction l with
 | nil => intro x hx; simp at hx
 | cons a t ih =>
  intro x hx
  by_cases ha : a < n
  ·rw [List.takeWhile_cons_of_pos (by simpa using ha)] at hx
   rcases List.mem_cons.1 hx with rfl | hx
   ·exact ha
   ·exact ih x hx
  ·rw [List.takeWhile_cons_of_neg (by simpa using ha)] at hx; simp at hx
theorem insI_pair {l : List Int} (n : Int) (h : l.Pairwise (· ≤ ·)) : (insI l n).Pairwise (· ≤ ·) := by
 unfold insI
 have hs : (l.takeWhile (fun x => decide (x < n)) ++ l.dropWhile (fun x => decide (x < n))).Pairwise (· ≤ ·) := by rw [List.takeWhile_append_dropWhile]; exact h
 rw [List.pairwise_append] at hs ⊢
 refine ⟨hs.1, List.pairwise_cons.2 ⟨drop_ge h, hs.2.1⟩, fun a ha b hb => ?_⟩
 have := take_lt a ha
 rcases List.mem_cons.1 hb with rfl | hb
 ·omega
 ·exact hs.2.2 a ha b hb
theorem z9n (ps : List Int) : ∀ {l : List Int}, l.Pairwise (· ≤ ·) → (insAll l ps).Pairwise (· ≤ ·) := by
 induction ps with
 | nil => intro l h; exact h
 | cons p t ih => intro l h; exact ih (insI_pair p h)
theorem z9o (ps : List Int) : ∀ l : List Int, (insAll l ps).Perm (l ++ ps) := by
 induction ps with
 | nil => intro l; simp [insAll]
 | cons p t ih => intro l; refine (ih (insI l p)).trans ?_; refine ((z68 l p).append_right t).trans ?_; simpa using List.perm_middle.symm
theorem z9p {l : List Int} (ps : List Int) (h : l.Pairwise (· ≤ ·)) : insAll l ps = sortI (l ++ ps) :=
 List.Perm.eq_of_pairwise (le := (· ≤ ·)) (fun a b _ _ h1 h2 => by omega) (z9n ps h) (z33 _) ((z9o ps l).trans (z2u _).symm)
def putGo (ver : Int) (ps : List Int) : Bool → List S64 → List S64
 | d, [] => if d then [] else [⟨ver, ps⟩]
 | d, x :: t => if x.f0 = ver then ⟨ver, insAll x.f1 ps⟩ :: putGo ver ps true t else if ver < x.f0 ∧ d = false then ⟨ver, ps⟩ :: x :: putGo ver ps true t else x :: putGo ver ps d t
def ordL (l : List S64) : Prop := (l.map (·.f0)).Pairwise (· < ·)
theorem z2v {x : S64} {t : List S64} : ordL (x :: t) ↔ (∀ y ∈ t, x.f0 < y.f0) ∧ ordL t := by
 unfold ordL; rw [List.map_cons, List.pairwise_cons]; simp
theorem z69 {ver : Int} (ps : List Int) {l : List S64} (h : ∀ y ∈ l, ver < y.f0) : putGo ver ps true l = l := by
 induction l with
 | nil => rfl
 | cons x t ih =>
  have := h x (by simp)
  rw [putGo, if_neg (by omega), if_neg (by simp), ih (fun y hy => h y (by simp [hy]))]
theorem z9q (ver : Int) (ps : List Int) (l : List S64) (h : ordL l) (hs : ∀ f ∈ l, f.f1.Pairwise (· ≤ ·)) : putGo ver ps false l = mergeL l [⟨ver, ps⟩] := by
 induction l with
 | nil => rw [z1v]; rfl
 | cons x t ih =>
  have h1 := z2v.1 h
  rw [putGo]
  by_cases he : x.f0 = ver
  ·rw [if_pos he, z18 (x := x) (y := ⟨ver, ps⟩) _ _ he, z69 ps (fun y hy => he ▸ h1.1 y hy), z1q, z9p ps (hs x (by simp)), he]
  ·rw [if_neg he]
   by_cases hl : ver < x.f0
   ·rw [if_pos ⟨hl, rfl⟩, z1w (x := x) (y := ⟨ver, ps⟩) _ _ hl, z1q, z69 ps (fun y hy => by have := h1.1 y hy; omega)]
   ·rw [if_neg (fun e => hl e.1), z17 (x := x) (y := ⟨ver, ps⟩) _ _ (by show x.f0 < ver; omega), ih h1.2 (fun f hf => hs f (by simp [hf]))]
theorem z44 (a b : List S64) : (pagesOf (mergeL a b)).Perm (pagesOf a ++ pagesOf b) := by
 induction a generalizing b with
 | nil => rw [z1v]; simp [pagesOf, flat]
 | cons x a iha =>
  induction b with
  | nil => rw [z1q]; simp [pagesOf, flat]
  | cons y b ihb =>
   have e1 : ∀ (z : S64) (l : List S64), pagesOf (z :: l) = z.f1 ++ pagesOf l := fun z l => by rw [← List.singleton_append, z0y, z02]
   by_cases hlt : x.f0 < y.f0
   ·rw [z17 _ _ hlt, e1, e1 x a, List.append_assoc]; exact (iha (y :: b)).append_left _
   ·by_cases hgt : y.f0 < x.f0
    ·rw [z1w _ _ hgt, e1, e1 y b]
     refine (ihb.append_left _).trans ?_
     rw [← List.append_assoc, ← List.append_assoc]
     exact List.perm_append_comm.append_right _
    ·have he : x.f0 = y.f0 := by omega
     rw [z18 _ _ he, e1, e1 x a, e1 y b]
     show (sortI (x.f1 ++ y.f1) ++ pagesOf (mergeL a b)).Perm _
     refine ((z2u _).append (iha b)).trans ?_
     rw [List.append_assoc, List.append_assoc]
     refine List.Perm.append_left _ ?_
     rw [← List.append_assoc, ← List.append_assoc]
     exact List.perm_append_comm.append_right _
theorem z45 {a b : List S64} {f : S64} (h : f ∈ mergeL a b) : (∃ g ∈ a, g.f0 = f.f0) ∨ ∃ g ∈ b, g.f0 = f.f0 := by
 induction a generalizing b with
 | nil => rw [z1v] at h; exact .inr ⟨f, h, rfl⟩
 | cons x a iha =>
  induction b with
  | nil => rw [z1q] at h; exact .inl ⟨f, h, rfl⟩
  | cons y b ihb =>
   by_cases hlt : x.f0 < y.f0
   ·rw [z17 _ _ hlt] at h
    rcases List.mem_cons.1 h with rfl | h
    ·exact .inl ⟨f, by simp, rfl⟩
    ·rcases iha h with ⟨g, hg, e⟩ | ⟨g, hg, e⟩
     ·exact .inl ⟨g, by simp [hg], e⟩
     ·exact .inr ⟨g, hg, e⟩
   ·by_cases hgt : y.f0 < x.f0
    ·rw [z1w _ _ hgt] at h
     rcases List.mem_cons.1 h with rfl | h
     ·exact .inr ⟨f, by simp, rfl⟩
     ·rcases ihb h with ⟨g, hg, e⟩ | ⟨g, hg, e⟩
      ·exact .inl ⟨g, hg, e⟩
      ·exact .inr ⟨g, by simp [hg], e⟩
    ·have he : x.f0 = y.f0 := by omega
     rw [z18 _ _ he] at h
     rcases List.mem_cons.1 h with rfl | h
     ·exact .inl ⟨x, by simp, rfl⟩
     ·rcases iha h with ⟨g, hg, e⟩ | ⟨g, hg, e⟩
      ·exact .inl ⟨g, by simp [hg], e⟩
      ·exact .inr ⟨g, by simp [hg], e⟩
theorem merge_ord {a b : List S64} (ha : ordL a) (hb : ordL b) : ordL (mergeL a b) := by
 induction a generalizing b with
 | nil => rw [z1v]; exact hb
 | cons x a iha =>
  have h1 := z2v.1 ha
  induction b with
  | nil => rw [z1q]; exact ha
  | cons y b ihb =>
   have h2 := z2v.1 hb
   by_cases hlt : x.f0 < y.f0
   ·rw [z17 _ _ hlt]
    refine z2v.2 ⟨fun f hf => ?_, iha h1.2 hb⟩
    rcases z45 hf with ⟨g, hg, e⟩ | ⟨g, hg, e⟩
    ·rw [← e]; exact h1.1 g hg
    ·rcases List.mem_cons.1 hg with rfl | hg
     ·omega
     ·have := h2.1 g hg; omega
   ·by_cases hgt : y.f0 < x.f0
    ·rw [z1w _ _ hgt]
     refine z2v.2 ⟨fun f hf => ?_, ihb h2.2⟩
     rcases z45 hf with ⟨g, hg, e⟩ | ⟨g, hg, e⟩
     ·rcases List.mem_cons.1 hg with rfl | hg
      ·omega
      ·have := h1.1 g hg; omega
     ·rw [← e]; exact h2.1 g hg
    ·have he : x.f0 = y.f0 := by omega
     rw [z18 _ _ he]
     refine z2v.2 ⟨fun f hf => ?_, iha h1.2 h2.2⟩
     show x.f0 < f.f0
     rcases z45 hf with ⟨g, hg, e⟩ | ⟨g, hg, e⟩
     ·rw [← e]; exact h1.1 g hg
     ·have := h2.1 g hg; omega
def elemP (p : Int) (f : S64) : Prop := 0 ≤ f.f0 ∧ f.f0 ≤ 1099511627776 ∧ f.f1 ≠ [] ∧ incP p f.f1
theorem z9r {p : Int} {a b : List S64} (ha : ∀ f ∈ a, elemP p f) (hb : ∀ f ∈ b, elemP p f) (hn : (pagesOf a ++ pagesOf b).Nodup) : ∀ f ∈ mergeL a b, elemP p f := by
 have e1 : ∀ (z : S64) (l : List S64), pagesOf (z :: l) = z.f1 ++ pagesOf l := fun z l => by rw [← List.singleton_append, z0y, z02]
 induction a generalizing b with
 | nil => rw [z1v]; exact hb
 | cons x a iha =>
  have hx := ha x (by simp)
  have ha' : ∀ f ∈ a, elemP p f := fun f hf => ha f (by simp [hf])
  induction b with
  | nil => rw [z1q]; exact ha
  | cons y b ihb =>
   have hy := hb y (by simp)
   have hb' : ∀ f ∈ b, elemP p f := fun f hf => hb f (by simp [hf])
   by_cases hlt : x.f0 < y.f0
   ·rw [z17 _ _ hlt]
    intro f hf
    rcases List.mem_cons.1 hf with rfl | hf
    ·exact hx
    ·refine iha ha' hb ?_ f hf
     rw [e1, List.append_assoc] at hn
     exact (List.nodup_append.1 hn).2.1
   ·by_cases hgt : y.f0 < x.f0
    ·rw [z1w _ _ hgt]
     intro f hf
     rcases List.mem_cons.1 hf with rfl | hf
     ·exact hy
     ·refine ihb hb' ?_ f hf
      rw [e1 y b] at hn
      exact hn.sublist (List.Sublist.append (List.Sublist.refl _) (List.sublist_append_right _ _))
    ·have he : x.f0 = y.f0 := by omega
     rw [z18 _ _ he]
     intro f hf
     rw [e1 x a, e1 y b] at hn
     rcases List.mem_cons.1 hf with rfl | hf
     ·have hxy : (x.f1 ++ y.f1).Nodup := hn.sublist (List.Sublist.append (List.sublist_append_left _ _) (List.sublist_append_left _ _))
      refine ⟨hx.1, hx.2.1, ?_, ?_, ?_⟩
      ·intro e
       have h0 := z2c (x.f1 ++ y.f1)
       have h1 : sortI (x.f1 ++ y.f1) = [] := e
       rw [h1] at h0
       simp at h0
       exact hx.2.2.1 (List.length_eq_zero_iff.1 (by omega))
      ·intro n hn
       have := (z2u (x.f1 ++ y.f1)).mem_iff.1 hn
       rcases List.mem_append.1 this with h | h
       ·exact hx.2.2.2.1 n h
       ·exact hy.2.2.2.1 n h
      ·have hp := z33 (x.f1 ++ y.f1)
       have hd : (sortI (x.f1 ++ y.f1)).Nodup := (z2u _).nodup_iff.2 hxy
       exact (hp.and hd).imp fun ⟨h1, h2⟩ => by omega
     ·refine iha ha' hb' ?_ f hf
      exact hn.sublist (List.Sublist.append (List.sublist_append_right _ _) (List.sublist_append_right _ _))
theorem form_iff (p : Int) (l : List S64) : formP p l ↔ (∀ f ∈ l, elemP p f) ∧ ordL l := Iff.rfl
theorem z9s {p : Int} {a b : List S64} (ha : validP p a) (hb : validP p b) : validP p (mergeL a b) ↔ ∀ x ∈ pagesOf b, ¬ x ∈ pagesOf a := by
 have hpm := (z44 a b).nodup_iff
 constructor
 ·intro h x hx hxa
  have := hpm.1 h.2.2
  exact (List.nodup_append.1 this).2.2 x hxa x hx rfl
 ·intro h
  have hn : (pagesOf a ++ pagesOf b).Nodup := List.nodup_append.2 ⟨ha.2.2, hb.2.2, fun x hx y hy e => h y hy (e ▸ hx)⟩
  exact ⟨ha.1, (form_iff _ _).2 ⟨z9r ha.2.1.1 hb.2.1.1 hn, merge_ord ha.2.1.2 hb.2.1.2⟩, hpm.2 hn⟩
end Go.Proofs.YtpnhelcemodnmaaGreat
namespace Go.Proofs.YtpnhelcemodnmaaGreat
open Go.RowKit Go.Shelf Go.Proofs.YtpnhelcemodnmaaGreatW.PrintWords Go.Proofs.YtpnhelcemodnmaaGreatW.PrintLast Go.Proofs.YtpnhelcemodnmaaGreatW.PrintMore PA
set_option linter.unusedVariables false
set_option linter.unusedSimpArgs false
attribute [local go_sem] Oper.semAt_some
theorem z7a (l : List Int) (n : Int) (i : Nat) (h1 : i ≤ l.length) (h2 : ∀ x ∈ l.take i, x < n) (h3 : ∀ h : i < l.length, ¬ l[i] < n) : insI l n = l.take i ++ n :: l.drop i := by
 have e : l = l.take i ++ l.drop i := (List.take_append_drop i l).symm
 have e1 : l.takeWhile (fun x => decide (x < n)) = l.take i ∧ l.dropWhile (fun x => decide (x < n)) = l.drop i := by
  have hd : (l.drop i).takeWhile (fun x => decide (x < n)) = [] ∧ (l.drop i).dropWhile (fun x => decide (x < n)) = l.drop i := by
   by_cases h : i < l.length
   ·rw [List.drop_eq_getElem_cons h]
    have := h3 h
    rw [List.takeWhile_cons_of_neg (by simpa using this), List.dropWhile_cons_of_neg (by simpa using this)]
    exact ⟨rfl, rfl⟩
   ·rw [List.drop_eq_nil_of_le (by omega)]; exact ⟨rfl, rfl⟩
  have ha : ∀ x ∈ l.take i, (fun x => decide (x < n)) x = true := fun x hx => decide_eq_true (h2 x hx)
  conv => lhs; lhs; rw [e]
  conv => rhs; lhs; rw [e]
  rw [List.takeWhile_append_of_pos ha, List.dropWhile_append_of_pos ha, hd.1, hd.2, List.append_nil]
  exact ⟨rfl, rfl⟩
 unfold insI
 rw [e1.1, e1.2]
theorem with_l0 (l : List Int) (n : Int) (hl : l.length ≤ 1000000000) (d : Nat) : ∀ i : Nat, i ≤ l.length → l.length - i = d → (∀ x ∈ l.take i, x < n) → understoryref12_with.l0 (d + 1) l n (l.take i) (i : Int) = some (insI l n) := by
 induction d with
 | zero =>
  intro i h1 h2 h3
  obtain rfl : i = l.length := by omega
  simp only [understoryref12_with.l0]
  rw [if_neg (by omega), if_pos (by rw [List.length_take]; omega)]
  simp only [Option.bind_some]
  rw [if_pos (by omega), if_pos (by omega), if_pos (by simp; omega), z7a l n l.length (by omega) h3 (fun h => absurd h (by omega))]
  simp
 | succ d ih =>
  intro i h1 h2 h3
  have ha : i < l.length := by omega
  simp only [understoryref12_with.l0]
  rw [if_pos (by omega), if_pos (by omega), z0u l i ha]
  by_cases c : l[i] < n
  ·rw [if_pos c, if_pos (by rw [List.length_take]; omega), wrapp i (by omega)]
   have := ih (i + 1) (by omega) (by omega) (by
    rw [List.take_succ_eq_append_getElem ha]
    intro x hx
    rcases List.mem_append.1 hx with hx | hx
    ·exact h3 x hx
    ·rw [List.mem_singleton.1 hx]; exact c)
   rw [List.take_succ_eq_append_getElem ha] at this
   exact this
  ·rw [if_neg c, if_pos (by rw [List.length_take]; omega)]
   simp only [Option.bind_some]
   rw [if_pos (by omega), if_pos (by simp; omega), z7a l n i (by omega) h3 (fun _ => c)]
   simp
theorem with_any (l : List Int) (n : Int) (A : Option Addr) (c : Nat) (w : World) (hC : (Kd.int .i64).C w A l.length l) (hc : l.length ≤ c) (hl : l.length ≤ 1000000000) :
  Calls Tryz.prog 70 #[.slice A l.length c, .int .i64 n] w fun e w' => ∃ v, e = .returned v ∧ (Kd.int .i64).R 3 w' w.heap.size (fun _ => True) v (insI l n) ∧ Below w.heap.size w w' :=
 understoryref12_with.calls _ A c l n _ w hC hc (with_l0 l n hl _ 0 (Nat.zero_le _) rfl (by simp))
def putR (ver : Int) (ps : List Int) (l : List S64) : List S64 := if ps = [] then l else putGo ver ps false l
def PutR (okp : Nat → Prop) (w : World) (r : List S64) (e : Ending) (w' : World) : Prop := ∃ O oc, e = .returned (.slice O r.length oc) ∧ r.length ≤ oc ∧ Kd.F k64 w' (fun y => okp y ∨ w.heap.size ≤ y) O r.length r ∧ Below w.heap.size w w'
theorem putGo_eq {ver : Int} {ps : List Int} {d : Bool} {x : S64} {t : List S64} (h : x.f0 = ver) : putGo ver ps d (x :: t) = ⟨ver, insAll x.f1 ps⟩ :: putGo ver ps true t := by rw [putGo, if_pos h]
theorem putGo_gt {ver : Int} {ps : List Int} {x : S64} {t : List S64} (h : ver < x.f0) : putGo ver ps false (x :: t) = ⟨ver, ps⟩ :: x :: putGo ver ps true t := by rw [putGo, if_neg (by omega), if_pos ⟨h, rfl⟩]
theorem z9t {ver : Int} {ps : List Int} {d : Bool} {x : S64} {t : List S64} (h : x.f0 ≠ ver) (h2 : ver < x.f0 → d = true) : putGo ver ps d (x :: t) = x :: putGo ver ps d t := by
 rw [putGo, if_neg h, if_neg (fun e => by have := h2 e.1; rw [e.2] at this; cases this)]
theorem z9u (l ps : List Int) (n : Int) : insAll l (ps ++ [n]) = insI (insAll l ps) n := by unfold insAll; rw [List.foldl_append]; rfl
set_option maxRecDepth 100000 in
set_option maxHeartbeats 1000000 in
theorem put61 (l : List S64) (ver : Int) (ps : List Int) (A : Option Addr) (c : Nat) (B : Option Addr) (cb : Nat) (w : World) (okp : Nat → Prop) (hC : Kd.F k64 w okp A l.length l) (hc : l.length ≤ c) (hB : Kd.F (Kd.int .i64) w okp B ps.length ps) (hcb : ps.length ≤ cb) (hs : smallL l) (hp : ps.length ≤ 1000000) :
  Calls Tryz.prog 61 #[.slice A l.length c, .int .i64 ver, .slice B ps.length cb] w (PutR okp w (putR ver ps l)) := by
 by_cases h0 : ps = []
 ·have hr : putR ver ps l = l := if_pos h0
  rw [hr]
  have hz : ((ps.length : Int) == 0) = true := by rw [h0]; rfl
  have HC := Aside0.mk hC
  have HCC := Aside0.mk hc
  clear hr h0 hC hB
  go_enter Tryz.func61, Tryz.ntmps61
  go_wp2
  go_ret
  exact ⟨A, c, rfl, HCC.out, Kd.F_mono HC.out (fun y hy => .inl hy), Below.refl _ _⟩
 ·have hr : putR ver ps l = putGo ver ps false l := if_neg h0
  rw [hr]
  have hpos : 0 < ps.length := List.length_pos_iff.2 h0
  have hz : ((ps.length : Int) == 0) = false := beq_eq_false_iff_ne.2 (by omega)
  have HF0 := Aside0.mk (Kd.F_bound hC)
  have HBF := Aside0.mk (Kd.F_bound hB)
  have HCB := Aside0.mk hcb
  have hll := hs.1
  have HSE := Aside0.mk (z16 hs)
  obtain ⟨R, hR⟩ : ∃ R, putGo ver ps false l = R := ⟨_, rfl⟩
  rw [hR]
  have HR := Lib.hid hR
  clear hr h0 hC hB hs hR
  go_enter Tryz.func61, Tryz.ntmps61
  go_upto_region 6 with (fail)
  go_loopw [7, 8, 9] (fun o d i wr => ∃ (k : Nat) (dn : List S64) (db : Bool), k ≤ l.length ∧ i = .int .i64 k ∧ d = .bool db ∧ Hid (R = dn ++ putGo ver ps db (l.drop k)) ∧ dn.length ≤ 2 * k ∧ Aside0 (Kd.N k64 64 wr w.heap.size (fun y => okp y ∨ w.heap.size ≤ y) o dn) ∧ Aside0 (Below w.heap.size w wr))
   (fun _ _ i _ => l.length - (intOf i).toNat)
  case atStart => exact ⟨0, [], false, Nat.zero_le _, rfl, rfl, Lib.hid (by rw [← HR.out]; rfl), by simp, ⟨Kd.N_nil _ _ _ _ _⟩, ⟨Below.refl _ _⟩⟩
  case round =>
   obtain ⟨k, dn, db, hk, rfl, rfl, HP, hdn, HN, HB⟩ := hrel
   by_cases hlt : k < l.length
   ·obtain ⟨ad, A1, c1, rfl, hx0, hx1, hl1, hF1⟩ := z2f (Kd.F_below HF0.out HB.out) k hlt
    have HD := Lib.hid (List.drop_eq_getElem_cons hlt)
    have hge := z05 l k hlt
    rw [← hge] at HD
    have hgl := HSE.out _ (List.getElem_mem hlt)
    rw [← hge] at hgl
    obtain ⟨x, hx⟩ : ∃ x, rd_T64 l (k : Int) = x := ⟨_, rfl⟩
    rw [hx] at hx0 hx1 hl1 hF1 HD hgl
    obtain ⟨v, g⟩ := x
    dsimp only at hx0 hx1 hl1 hF1 hgl
    have HL1 := Aside0.mk hl1
    have HFX := Aside0.mk hF1
    obtain ⟨O, co, hO⟩ := Kd.N_slice HN.out
    subst hO
    clear hge hx hl1 hF1
    go_upto_region 9 with (fail)
    have hbk := z0l wr (.cells #[.int .i64 v, .slice A1 g.length c1] 64)
    have hb1 := z0i wr (.cells #[.int .i64 v, .slice A1 g.length c1] 64)
    obtain ⟨Bx, hBx⟩ : ∃ Bx, wr.heap.size = Bx := ⟨_, rfl⟩
    obtain ⟨W0, hW0⟩ : ∃ W0, wr.alloc (.cells #[.int .i64 v, .slice A1 g.length c1] 64) = W0 := ⟨_, rfl⟩
    have hs0 : W0.heap.size = Bx + 1 := by rw [← hW0, ← hBx]; simp
    rw [hW0] at hbk hb1 ⊢
    rw [hBx] at hbk ⊢
    have hBk : W0.heap[Bx]? = some (.cells #[.int .i64 v, .slice A1 g.length c1] 64 (0, 0)) := hbk
    have b0 : W0.cell? ⟨Bx, 0, none⟩ = some (.int .i64 v) := (z0a hBk 0).trans rfl
    have b1 : W0.cell? ⟨Bx, 1, none⟩ = some (.slice A1 g.length c1) := (z0a hBk 1).trans rfl
    have hwb : w.heap.size ≤ Bx := hBx ▸ HB.out.size
    have hbl : Below Bx wr W0 := hBx ▸ hb1
    have HBL := Aside0.mk (HB.out.trans (hbl.mono hwb))
    have HN0 := Aside0.mk (Kd.N_mono (ok' := fun y => (okp y ∨ w.heap.size ≤ y) ∧ y < Bx) (Kd.N_below (Kd.N_bound HN.out) hb1) (fun y hy => ⟨hy.1, by have := hy.2; omega⟩))
    have HFX0 := Aside0.mk (Kd.F_below HFX.out hb1)
    have hown : ∀ y, (Value.slice O dn.length co).ownBlock = some y → w.heap.size ≤ y ∧ y < Bx := fun y hy => ⟨Kd.N_base HN.out y hy, hBx ▸ Kd.N_lt HN.out y hy⟩
    have HOW := Aside0.mk hown
    have HBK := Aside0.mk hBk
    have HS0 := Lib.hid hs0
    have HLD := Aside0.mk (show (dn.length + 3) * 32 ≤ 140737488355328 by omega)
    clear hbk hb1 hW0 hBx hBk hbl hown hs0 hx0 hx1 HN
    by_cases he : v = ver
    ·subst he
     have hev : (v == v) = true := by simp
     have HPE := Lib.hid (show R = (dn ++ [(⟨v, insAll g ps⟩ : S64)]) ++ putGo v ps true (l.drop (k + 1)) by rw [HP.out, HD.out, putGo_eq (x := ⟨v, g⟩) rfl, List.append_assoc]; rfl)
     clear HP HD
     go_upto_region 12 with (fail)
     go_loopw [11, 12] (fun al j wi => ∃ (q : Nat) (xs : List Int) (A' : Option Addr) (c' : Nat), q ≤ ps.length ∧ j = .int .i64 q ∧ al = .slice A' xs.length c' ∧ xs.length ≤ c' ∧ xs.length ≤ 1000000 + q ∧ Hid (xs = insAll g (ps.take q)) ∧ Aside0 (Kd.F (Kd.int .i64) wi (fun y => (okp y ∧ y < w.heap.size) ∨ Bx + 1 ≤ y) A' xs.length xs) ∧ Aside0 (Below (Bx + 1) W0 wi))
      (fun _ j _ => ps.length - (intOf j).toNat)
     case atStart => exact ⟨0, g, A1, c1, Nat.zero_le _, rfl, rfl, HL1.out, by omega, Lib.hid rfl, ⟨Kd.F_mono HFX0.out (fun y hy => .inl hy)⟩, ⟨Below.refl _ _⟩⟩
     case round =>
      obtain ⟨q, xs, A', c', hq, rfl, rfl, hxc, hxl, HX, HF, HW⟩ := hrel
      have HS1 := Aside0.mk (show Bx + 1 ≤ wr.heap.size by have := HW.out.size; have := HS0.out; omega)
      by_cases hql : q < ps.length
      ·obtain ⟨pd, rfl, hpx⟩ := Kd.at_int (Kd.F_now (Kd.F_below HBF.out (HBL.out.trans (HW.out.mono (by omega))))) (q : Int) (by omega) (by omega)
       rw [Int.toNat_natCast, z0u ps q hql] at hpx
       have HWI := Aside0.mk (with_any xs ps[q] A' c' wr (Kd.F_now HF.out) hxc (by omega))
       have HTS := Lib.hid (List.take_succ_eq_append_getElem hql)
       obtain ⟨n, hn⟩ : ∃ n, ps[q] = n := ⟨_, rfl⟩
       rw [hn] at hpx HWI HTS
       clear hn
       have hqc : q ≤ cb := by have := HCB.out; omega
       go_wp2_with (go_at_call 70; (refine HWI.out.mono ?_); rintro e w4 ⟨u4, rfl, hu4, hb4⟩; obtain ⟨UA, uc, rfl⟩ := Kd.R_slice hu4)
       go_roundw
       case rel =>
        refine ⟨q + 1, insI xs n, UA, uc, by omega, by go_num, rfl, (Kd.R_reads' hu4).2.1, by rw [z9m]; omega, Lib.hid (by rw [HTS.out, z9u, ← HX.out]), ⟨?_⟩, ⟨HW.out.trans (hb4.mono HS1.out)⟩⟩
        exact Kd.F_mono (Kd.R_F (Kd.R_mono (Kd.R_bound hu4) (fun y hy => hy.2.1))) (fun y hy => .inr (Nat.le_trans HS1.out hy))
       case measure => simp [intOf]; omega
      ·obtain rfl : q = ps.length := by omega
       have HXE := Lib.hid (show xs = insAll g ps by have := HX.out; rw [List.take_length] at this; exact this)
       have hBk := HBK.out
       have hBk2 : wr.heap[Bx]? = some (.cells #[.int .i64 v, .slice A1 g.length c1] 64 (0, 0)) := (HW.out.block Bx (by omega)).trans hBk
       have d0 : wr.cell? ⟨Bx, 0, none⟩ = some (.int .i64 v) := (z0a hBk2 0).trans rfl
       have d1 : wr.cell? ⟨Bx, 1, none⟩ = some (.slice A1 g.length c1) := (z0a hBk2 1).trans rfl
       have e0 := z0d hBk2 0
       have e1 := z0d hBk2 1
       clear hBk b0 b1
       go_upto_region 16 with (fail)
       have hn5 := Kd.N_far (p := ⟨Bx, 1, none⟩) (Kd.N_far (p := ⟨Bx, 0, none⟩) (Kd.N_below HN0.out (HS0.out ▸ HW.out)) (fun y hy e => by have h1 : y < Bx := hy.2; have h2 : y = Bx := e; omega) (.int .i64 v)) (fun y hy e => by have h1 : y < Bx := hy.2; have h2 : y = Bx := e; omega) (.slice A' xs.length c')
       have hf5 := Kd.F_far (p := ⟨Bx, 1, none⟩) (Kd.F_far (p := ⟨Bx, 0, none⟩) HF.out (fun y hy e => by have h2 : y = Bx := e; exact hy.elim (fun h1 => by have := h1.2; omega) (fun h1 => by omega)) (.int .i64 v)) (fun y hy e => by have h2 : y = Bx := e; exact hy.elim (fun h1 => by have := h1.2; omega) (fun h1 => by omega)) (.slice A' xs.length c')
       have hb5 := ((HBL.out.trans (HW.out.mono (by omega))).setCell (p := ⟨Bx, 0, none⟩) hwb (.int .i64 v)).setCell (p := ⟨Bx, 1, none⟩) hwb (.slice A' xs.length c')
       have hk5 : ((wr.setCell ⟨Bx, 0, none⟩ (.int .i64 v)).setCell ⟨Bx, 1, none⟩ (.slice A' xs.length c')).heap[Bx]? = some (.cells #[.int .i64 v, .slice A' xs.length c'] 64 (0, 0)) := z0k (z0k hBk2 0 _ rfl) 1 _ rfl
       obtain ⟨W5, hW5⟩ : ∃ W5, (wr.setCell ⟨Bx, 0, none⟩ (.int .i64 v)).setCell ⟨Bx, 1, none⟩ (.slice A' xs.length c') = W5 := ⟨_, rfl⟩
       rw [hW5] at hn5 hf5 hb5 hk5 ⊢
       have f0 : W5.cell? ⟨Bx, 0, none⟩ = some (.int .i64 v) := (z0a hk5 0).trans rfl
       have f1 : W5.cell? ⟨Bx, 1, none⟩ = some (.slice A' xs.length c') := (z0a hk5 1).trans rfl
       have HN5 := Aside0.mk (Kd.N_mono (ok' := fun y => okp y ∨ w.heap.size ≤ y) hn5 (fun y hy => hy.1))
       have HB5 := Aside0.mk hb5
       have HFK := Aside0.mk (z1b W5 _ (⟨v, xs⟩ : S64) hxc hf5)
       have HOK := Aside0.mk (show ∀ y, ((okp y ∧ y < w.heap.size) ∨ Bx + 1 ≤ y) → (okp y ∨ w.heap.size ≤ y) ∧ some y ≠ (Value.slice O dn.length co).ownBlock from fun y hy => ⟨hy.elim (fun h => .inl h.1) (fun h => .inr (by omega)), fun e => by have := HOW.out y e.symm; exact hy.elim (fun h => by have := h.2; omega) (fun h => by omega)⟩)
       clear hn5 hf5 hb5 hk5 hW5 hBk2 d0 d1 e0 e1
       go_wp2_with (at_builtin; refine Kd.N_append k64 (w0 := w) w.heap.size rfl (.tmp 62) (.tmp 64) 26 64 (.agg #[.int .i64 0, .slice none 0 0]) 32 rfl Tryz.underlying26 info64 rfl (by decide) (by decide) (.slice O dn.length co) dn (⟨v, xs⟩ : S64) [.int .i64 v, .slice A' xs.length c'] (fun y => okp y ∨ w.heap.size ≤ y) (fun y => (okp y ∧ y < w.heap.size) ∨ Bx + 1 ≤ y) rfl rfl HFK.out HOK.out (fun y hy => .inr (Nat.le_trans HB5.out.size hy)) HN5.out HB5.out HB5.out.size (by have := HLD.out; omega) ?_; intro v6 w6 hn6 hb6 hg6 hat6)
       go_roundw
       case rel => exact ⟨k + 1, dn ++ [⟨v, xs⟩], true, by omega, by go_num, rfl, Lib.hid (by rw [HXE.out]; exact HPE.out), by simp; omega, ⟨hn6⟩, ⟨hb6⟩⟩
       case measure => simp [intOf]; omega
    ·have hev : (v == ver) = false := beq_eq_false_iff_ne.2 he
     have hpo : w.heap.size ≤ W0.heap.size := by have := HS0.out; omega
     have HPO := Aside0.mk hpo
     have HOKL : ∀ (u : Value) (base : Nat), (∀ y, u.ownBlock = some y → w.heap.size ≤ y) → ∀ y, (okp y ∧ y < w.heap.size) → (okp y ∨ w.heap.size ≤ y) ∧ some y ≠ u.ownBlock := fun u _ h y hy => ⟨.inl hy.1, fun e => by have := h y e.symm; have := hy.2; omega⟩
     have HOK0 := Aside0.mk (HOKL (.slice O dn.length co) 0 (fun y hy => (HOW.out y hy).1))
     have HN1 := Aside0.mk (Kd.N_mono (ok' := fun y => okp y ∨ w.heap.size ≤ y) HN0.out (fun y hy => hy.1))
     have HFKX := Aside0.mk (z1b W0 _ (⟨v, g⟩ : S64) HL1.out HFX0.out)
     clear hpo
     by_cases hg : ver < v ∧ db = false
     ·obtain ⟨hvv, rfl⟩ := hg
      have hdv : decide (ver < v) = true := decide_eq_true hvv
      have HPE := Lib.hid (show R = (dn ++ [(⟨ver, ps⟩ : S64)] ++ [⟨v, g⟩]) ++ putGo ver ps true (l.drop (k + 1)) by rw [HP.out, HD.out, putGo_gt (x := ⟨v, g⟩) hvv, List.append_assoc, List.append_assoc]; rfl)
      have HFKP := Aside0.mk (z1b W0 _ (⟨ver, ps⟩ : S64) HCB.out (Kd.F_below HBF.out HBL.out))
      clear HP HD
      go_upto_region 20 with (at_builtin; refine Kd.N_append k64 (w0 := w) w.heap.size rfl (.tmp 56) (.tmp 60) 26 64 (.agg #[.int .i64 0, .slice none 0 0]) 32 rfl Tryz.underlying26 info64 rfl (by decide) (by decide) (.slice O dn.length co) dn (⟨ver, ps⟩ : S64) [.int .i64 ver, .slice B ps.length cb] (fun y => okp y ∨ w.heap.size ≤ y) (fun y => okp y ∧ y < w.heap.size) rfl rfl HFKP.out HOK0.out (fun y hy => .inr (Nat.le_trans HPO.out hy)) HN1.out HBL.out HPO.out (by have := HLD.out; omega) ?_; intro v6 w6 hn6 hb6 hg6 hat6)
      have hbk6 := z1t HBK.out hg6 (fun e => by have := HOW.out Bx e.symm; omega)
      have f0 : w6.cell? ⟨Bx, 0, none⟩ = some (.int .i64 v) := (z0a hbk6 0).trans rfl
      have f1 : w6.cell? ⟨Bx, 1, none⟩ = some (.slice A1 g.length c1) := (z0a hbk6 1).trans rfl
      obtain ⟨d2, hd2⟩ : ∃ d, dn ++ [(⟨ver, ps⟩ : S64)] = d := ⟨_, rfl⟩
      rw [hd2] at hn6 HPE
      have hdl : d2.length = dn.length + 1 := by rw [← hd2]; simp
      have HDL := Lib.hid hdl
      obtain ⟨O6, c6, rfl⟩ := Kd.N_slice hn6
      clear hd2 hdl
      have HN6 := Aside0.mk hn6
      have HB6 := Aside0.mk hb6
      have HOK6 := Aside0.mk (HOKL (.slice O6 d2.length c6) 0 (fun y hy => Kd.N_base hn6 y hy))
      have HFK6 := Aside0.mk (z1b w6 (fun y => okp y ∧ y < w.heap.size) (⟨v, g⟩ : S64) HL1.out (Kd.F_step HFX.out (fun y hy _ => (hb6.block y hy.2).trans (HB.out.block y hy.2).symm)))
      clear hn6 hb6 hg6 hat6 hbk6 b0 b1
      go_wp2_with (at_builtin; refine Kd.N_append k64 (w0 := w) w.heap.size rfl (.tmp 62) (.tmp 64) 26 64 (.agg #[.int .i64 0, .slice none 0 0]) 32 rfl Tryz.underlying26 info64 rfl (by decide) (by decide) (.slice O6 d2.length c6) d2 (⟨v, g⟩ : S64) [.int .i64 v, .slice A1 g.length c1] (fun y => okp y ∨ w.heap.size ≤ y) (fun y => okp y ∧ y < w.heap.size) rfl rfl HFK6.out HOK6.out (fun y hy => .inr (Nat.le_trans HB6.out.size hy)) HN6.out HB6.out HB6.out.size (by have := HLD.out; have := HDL.out; omega) ?_; intro v7 w7 hn7 hb7 hg7 hat7)
      go_roundw
      case rel => exact ⟨k + 1, d2 ++ [⟨v, g⟩], true, by omega, by go_num, rfl, Lib.hid HPE.out, by rw [List.length_append, HDL.out]; simp; omega, ⟨hn7⟩, ⟨hb7⟩⟩
      case measure => simp [intOf]; omega
     ·have HPE := Lib.hid (show R = (dn ++ [(⟨v, g⟩ : S64)]) ++ putGo ver ps db (l.drop (k + 1)) by
       rw [HP.out, HD.out, z9t (x := ⟨v, g⟩) he (fun h => by cases db with | true => rfl | false => exact absurd ⟨h, rfl⟩ hg), List.append_assoc]
       rfl)
      clear HP HD
      by_cases hvv : ver < v
      ·have hdv : decide (ver < v) = true := decide_eq_true hvv
       obtain rfl : db = true := by cases db with | true => rfl | false => exact absurd ⟨hvv, rfl⟩ hg
       clear hg
       go_wp2_with (at_builtin; refine Kd.N_append k64 (w0 := w) w.heap.size rfl (.tmp 62) (.tmp 64) 26 64 (.agg #[.int .i64 0, .slice none 0 0]) 32 rfl Tryz.underlying26 info64 rfl (by decide) (by decide) (.slice O dn.length co) dn (⟨v, g⟩ : S64) [.int .i64 v, .slice A1 g.length c1] (fun y => okp y ∨ w.heap.size ≤ y) (fun y => okp y ∧ y < w.heap.size) rfl rfl HFKX.out HOK0.out (fun y hy => .inr (Nat.le_trans HPO.out hy)) HN1.out HBL.out HPO.out (by have := HLD.out; omega) ?_; intro v6 w6 hn6 hb6 hg6 hat6)
       go_roundw
       case rel => exact ⟨k + 1, dn ++ [⟨v, g⟩], true, by omega, by go_num, rfl, Lib.hid HPE.out, by simp; omega, ⟨hn6⟩, ⟨hb6⟩⟩
       case measure => simp [intOf]; omega
      ·have hdv : decide (ver < v) = false := decide_eq_false hvv
       clear hg
       go_wp2_with (at_builtin; refine Kd.N_append k64 (w0 := w) w.heap.size rfl (.tmp 62) (.tmp 64) 26 64 (.agg #[.int .i64 0, .slice none 0 0]) 32 rfl Tryz.underlying26 info64 rfl (by decide) (by decide) (.slice O dn.length co) dn (⟨v, g⟩ : S64) [.int .i64 v, .slice A1 g.length c1] (fun y => okp y ∨ w.heap.size ≤ y) (fun y => okp y ∧ y < w.heap.size) rfl rfl HFKX.out HOK0.out (fun y hy => .inr (Nat.le_trans HPO.out hy)) HN1.out HBL.out HPO.out (by have := HLD.out; omega) ?_; intro v6 w6 hn6 hb6 hg6 hat6)
       go_roundw
       case rel => exact ⟨k + 1, dn ++ [⟨v, g⟩], db, by omega, by go_num, rfl, Lib.hid HPE.out, by simp; omega, ⟨hn6⟩, ⟨hb6⟩⟩
       case measure => simp [intOf]; omega
   ·obtain rfl : k = l.length := by omega
    have hdr : l.drop l.length = [] := List.drop_length
    obtain ⟨O, co, hO⟩ := Kd.N_slice HN.out
    subst hO
    cases db with
    | true =>
     have HE := Lib.hid (show R = dn by rw [HP.out, hdr, putGo, if_pos rfl, List.append_nil])
     clear hdr HP
     go_wp2
     go_ret
     have h2 := (Kd.N_reads' HN.out).2.1
     have h3 := Kd.N_F HN.out
     rw [HE.out]
     exact ⟨O, co, rfl, h2, h3, HB.out⟩
    | false =>
     have HE := Lib.hid (show R = dn ++ [⟨ver, ps⟩] by rw [HP.out, hdr, putGo, if_neg (by simp)])
     have HFKP := Aside0.mk (z1b wr _ (⟨ver, ps⟩ : S64) HCB.out (Kd.F_below HBF.out HB.out))
     have HOK0 := Aside0.mk (show ∀ y, (okp y ∧ y < w.heap.size) → (okp y ∨ w.heap.size ≤ y) ∧ some y ≠ (Value.slice O dn.length co).ownBlock from fun y hy => ⟨.inl hy.1, fun e => by have := Kd.N_base HN.out y e.symm; have := hy.2; omega⟩)
     have HLD := Aside0.mk (show (dn.length + 1) * 32 ≤ 140737488355328 by omega)
     have HPO := Aside0.mk HB.out.size
     clear hdr HP
     go_wp2_with (at_builtin; refine Kd.N_append k64 (w0 := w) w.heap.size rfl (.tmp 68) (.tmp 72) 26 64 (.agg #[.int .i64 0, .slice none 0 0]) 32 rfl Tryz.underlying26 info64 rfl (by decide) (by decide) (.slice O dn.length co) dn (⟨ver, ps⟩ : S64) [.int .i64 ver, .slice B ps.length cb] (fun y => okp y ∨ w.heap.size ≤ y) (fun y => okp y ∧ y < w.heap.size) rfl rfl HFKP.out HOK0.out (fun y hy => .inr (Nat.le_trans HPO.out hy)) HN.out HB.out HPO.out HLD.out ?_; intro v6 w6 hn6 hb6 hg6 hat6)
     obtain ⟨O6, c6, rfl⟩ := Kd.N_slice hn6
     go_ret
     have h2 := (Kd.N_reads' hn6).2.1
     have h3 := Kd.N_F hn6
     rw [HE.out]
     exact ⟨O6, c6, rfl, h2, h3, hb6⟩
def tinyL (l : List S64) : Prop := l.length ≤ 1000 ∧ (pagesOf l).length ≤ 1000
theorem z7b {l : List S64} (h : tinyL l) : smallL l := ⟨by have := h.1; omega, by have := h.2; omega⟩
theorem z47 (l : List S64) (k : Nat) (h : k < l.length) : pagesOf (l.take (k + 1)) = pagesOf (l.take k) ++ (rd_T64 l (k : Int)).f1 := by
 rw [z2d l k h, z0y, z02]
theorem z48 (l : List S64) (no : List Int) (v : Int) : (listPg l no v).length = no.length := by unfold listPg; rw [z3h, z1y]
theorem z7c (l : List S64) (no : List Int) (v : Int) (i : Nat) (hi : i < no.length) :
  (listPg l no v)[i]? = some ⟨4, rd no (i : Int), v, 0, 0, false, (none, 0, 0), if i + 1 < no.length then rd no ((i + 1 : Nat) : Int) else 0, ⟨#[]⟩, if i < (partsOf l).length then rd_L3 (partsOf l) (i : Int) else []⟩ := by
 have hf : (fillTo (partsOf l).length no.length (partsOf l))[i]? = some (if i < (partsOf l).length then { z89 with freed := rd_L3 (partsOf l) (i : Int) } else z89) := by
  unfold fillTo
  simp [hi]
 unfold listPg chTo
 rw [List.getElem?_mapIdx, hf, z1y]
 simp only [Option.map_some, if_pos hi]
 unfold chP
 split <;> rfl
theorem load117 {w : World} {g : Nat} {x y : Value} (h : w.heap[g]? = some (.cells #[x, y] 117 (0, 0))) : (loadVar 117 ⟨g, 0, none⟩).run Tryz.prog w = .ok (.agg #[x, y]) w := by
 have h0 : w.cell? ⟨g, 0, none⟩ = some x := (z0a h 0).trans rfl
 have h1 : w.cell? ⟨g, 1, none⟩ = some y := (z0a h 1).trans rfl
 simp [h0, h1, go_sem]
set_option maxRecDepth 100000 in
set_option maxHeartbeats 1000000 in
theorem listpages65 (l : List S64) (no : List Int) (v : Int) (A B : Option Addr) (c cb : Nat) (w : World) (okp : Nat → Prop) (hF : Kd.F k64 w okp A l.length l) (hc : l.length ≤ c) (hs : smallL l) (hf : formP 4096 l) (hB : (Kd.int .i64).C w B no.length no) (hcb : no.length ≤ cb) (hl : no.length ≤ 1000000) (hn : (partsOf l).length ≤ no.length) (hnum : numB no v = true) :
  Calls Tryz.prog 65 #[.slice A l.length c, .slice B no.length cb, .int .i64 v] w fun e w' => ∃ u, e = .returned (.agg #[u, .int .i64 0]) ∧ Kd.N k89 89 w' w.heap.size (fun k => okp k ∨ w.heap.size ≤ k) u (listPg l no v) ∧ Below w.heap.size w w' := by
 have HFR := Aside0.mk (fun (w1 : World) (hb : Below w.heap.size w w1) => z61 l A c w1 (Kd.C_below (Kd.F_now hF) hb) hc hs hf)
 have HPA := Aside0.mk (fun (w1 : World) (hb : Below w.heap.size w w1) => z65 l A c w1 (fun k => okp k ∧ k < w.heap.size) (Kd.F_below (Kd.F_bound hF) hb) hc hs (z1r hf))
 have HNU := Aside0.mk (fun (w1 : World) (hb : Below w.heap.size w w1) => rnum_any no v B cb w1 (Kd.C_below hB hb) hcb hnum hl)
 have hln : decide (no.length < (partsOf l).length) = false := decide_eq_false (by omega)
 have HBC := Aside0.mk hB
 have HCB := Aside0.mk hcb
 have hll := z48 l no v
 have hat := z7c l no v
 obtain ⟨ps, hps⟩ : ∃ ps, partsOf l = ps := ⟨_, rfl⟩
 rw [hps] at HPA hln hn hat
 obtain ⟨P, hP⟩ : ∃ P, listPg l no v = P := ⟨_, rfl⟩
 simp only [hP] at hll hat ⊢
 have HAT := Aside0.mk hat
 have HHN := Aside0.mk hn
 have hb0 := z0i w (.cells #[.slice none 0 0, .int .i64 0] 117)
 have hk0 := z0l w (.cells #[.slice none 0 0, .int .i64 0] 117)
 obtain ⟨W0, hW0⟩ : ∃ W0, w.alloc (.cells #[.slice none 0 0, .int .i64 0] 117) = W0 := ⟨_, rfl⟩
 rw [hW0] at hb0 hk0
 have HB0 := Aside0.mk hb0
 have HK0 := Aside0.mk hk0
 obtain ⟨b, hb⟩ : ∃ b, w.heap.size = b := ⟨_, rfl⟩
 have HW0 := Lib.hid hW0
 clear hF hs hf hB hcb hnum hps hP hat hb0 hk0 hn hW0
 go_enter Tryz.func65, Tryz.ntmps65
 go_upto_region 1 with (fail)
 rw [HW0.out]
 go_upto_region 6 with (first
  | (go_at_call 107; (refine (HFR.out _ HB0.out).mono ?_); rintro e w1 ⟨rfl, hd1⟩; have HB1 := Aside0.mk (HB0.out.trans (hd1.mono HB0.out.size)); have HK1 := Aside0.mk (z0g HK0.out hd1); clear hd1)
  | (go_at_call 108; (refine (HPA.out _ HB1.out).mono ?_); rintro e w2 ⟨u, rfl, hu, hb2⟩; obtain ⟨UA, uc, rfl⟩ := Kd.N_slice hu; have HU2 := Aside0.mk hu; have HB2 := Aside0.mk (HB1.out.trans (hb2.mono HB1.out.size)); have HK2 := Aside0.mk (z0g HK1.out hb2); have HS2 := Aside0.mk HB1.out.size; have HS22 := Aside0.mk (z0w HK1.out); clear hu hb2)
  | (go_at_call 110; (refine (HNU.out _ HB2.out).mono ?_); rintro e w3 ⟨rfl, hd3⟩; have HU3 := Aside0.mk (Kd.N_below HU2.out hd3.below); have HB3 := Aside0.mk (HB2.out.trans (hd3.below.mono HB2.out.size)); have HK3 := Aside0.mk (z0g HK2.out hd3.below); clear hd3))
 obtain ⟨okq, hokq⟩ : ∃ f : Nat → Prop, f = fun y => (okp y ∧ y < w.heap.size) ∨ w.heap.size < y := ⟨_, rfl⟩
 have hq : ∀ y, ((okp y ∧ y < w.heap.size) ∨ w.heap.size < y) → okq y := fun y h => by rw [hokq]; exact h
 have HQ := Aside0.mk (show ∀ y, okq y → ((okp y ∧ y < w.heap.size) ∨ w.heap.size < y) from fun y h => by rw [hokq] at h; exact h)
 clear hokq
 have HS1 := Aside0.mk (show w.heap.size ≤ w3.heap.size from HB3.out.size)
 have HS0 := Aside0.mk (show w.heap.size < w3.heap.size from z0w HK3.out)
 obtain ⟨b3, hb3⟩ : ∃ b3, w3.heap.size = b3 := ⟨_, rfl⟩
 have HN0 : Aside0 (Kd.N k89 89 w3 b3 okq (.slice none 0 0) (P.take 0)) := ⟨by rw [List.take_zero]; exact Kd.N_nil _ _ _ _ _⟩
 have HU0 : Aside0 (Kd.N (Kd.slice 64 k64) 26 w3 w.heap.size (fun k => okq k ∧ k < b3) (.slice UA ps.length uc) ps) := ⟨Kd.N_mono (Kd.N_bound (Kd.N_lower HU3.out HS2.out)) (fun k hk => ⟨hq k (hk.1.elim (fun h => .inl h) (fun h => .inr (Nat.lt_of_lt_of_le HS22.out h))), by have := hk.2; omega⟩)⟩
 have hbw : w.heap.size ≤ b3 := by have := HS1.out; omega
 have hbb : b < b3 := by have := HS0.out; omega
 have hnl : no.length ≤ 1000000 := hl
 have HB33 := Aside0.mk (Below.refl b3 w3)
 have HBN := Aside0.mk (fun (w1 : World) (hb1 : Below b3 w3 w1) => Kd.C_below HBC.out (HB3.out.trans (hb1.mono hbw)))
 have HHN' := HHN.out
 clear HU2 HU3 hln HS1 HS0 HB0 HK0 HK1 HK2 HB1 HB2 HS2 HFR HPA HNU HBC
 go_upto_region 8 with (fail)
 go_loopw [8, 9] (fun o i wr => ∃ k : Nat, k ≤ no.length ∧ i = .int .i64 k ∧ Aside0 (Kd.N k89 89 wr b3 okq o (P.take k)) ∧ Aside0 (Below b3 w3 wr))
  (fun _ i _ => no.length - (intOf i).toNat)
 case atStart => exact ⟨0, Nat.zero_le _, rfl, HN0, HB33⟩
 case round =>
  clear HN0 HB33
  obtain ⟨k, hk, rfl, HN, HB⟩ := hrel
  obtain ⟨O, co, rfl⟩ := Kd.N_slice HN.out
  have HUW := Aside0.mk (Kd.N_below HU0.out (by rw [hb3]; exact HB.out))
  by_cases hlt : k < no.length
  ·have hPk := HAT.out k hlt
   obtain ⟨ad, had, hxc⟩ := Kd.at_int (HBN.out _ HB.out) (k : Int) (by omega) (by omega)
   subst had
   rw [Int.toNat_natCast, z0u no k hlt] at hxc
   rw [z0u no k hlt] at hPk
   have hkl : k < P.length := by omega
   have HPK := Lib.hid (List.take_succ_eq_append_getElem hkl)
   have HTL := Lib.hid (show (P.take k).length = k by rw [List.length_take]; omega)
   have hPg : P[k] = _ := Option.some.inj ((List.getElem?_eq_getElem hkl).symm.trans hPk)
   have HPG := Lib.hid hPg
   obtain ⟨n0, hn0⟩ : ∃ x, no[k] = x := ⟨_, rfl⟩
   rw [hn0] at hxc HPG
   clear hPk hPg hn0
   rw [HTL.out] at HN ⊢
   go_upto_region 11 with (fail)
   have hbk := z0l wr (.cells #[.int .i64 4, .int .i64 n0, .int .i64 v, .int .i64 0, .int .i64 0, .bool false, .slice none 0 0, .int .i64 0, .string ⟨#[]⟩, .slice none 0 0] 89)
   have hb1 := z0i wr (.cells #[.int .i64 4, .int .i64 n0, .int .i64 v, .int .i64 0, .int .i64 0, .bool false, .slice none 0 0, .int .i64 0, .string ⟨#[]⟩, .slice none 0 0] 89)
   obtain ⟨B, hBe⟩ : ∃ B, wr.heap.size = B := ⟨_, rfl⟩
   obtain ⟨W1, hW1⟩ : ∃ W1, wr.alloc (.cells #[.int .i64 4, .int .i64 n0, .int .i64 v, .int .i64 0, .int .i64 0, .bool false, .slice none 0 0, .int .i64 0, .string ⟨#[]⟩, .slice none 0 0] 89) = W1 := ⟨_, rfl⟩
   have hs1 : W1.heap.size = B + 1 := by rw [← hW1, ← hBe]; simp
   rw [hW1] at hbk hb1 ⊢
   rw [hBe] at hbk hb1 ⊢
   have hBk : W1.heap[B]? = some (.cells #[.int .i64 4, .int .i64 n0, .int .i64 v, .int .i64 0, .int .i64 0, .bool false, .slice none 0 0, .int .i64 0, .string ⟨#[]⟩, .slice none 0 0] 89 (0, 0)) := hbk
   have hbB : b3 ≤ B := by have := HB.out.size; omega
   have HN1 := Aside0.mk (Kd.N_mono (ok' := fun y => okq y ∧ y < B) (Kd.N_below (Kd.N_bound HN.out) (by rw [hBe]; exact hb1)) (fun y hy => ⟨hy.1, by have := hy.2; omega⟩))
   have HU1 := Aside0.mk (Kd.N_below HUW.out (by rw [hBe]; exact hb1))
   have HBL := Aside0.mk hb1
   have HBK := Aside0.mk hBk
   have HS1 := Lib.hid hs1
   have HOB : Aside0 (∀ q, (Value.slice O k co).ownBlock = some q → q < B) := ⟨fun q hq => by have := Kd.N_lt HN.out q hq; omega⟩
   clear hbk hb1 hW1 hBk hs1 HN HUW hxc
   obtain ⟨fr, hfr⟩ : ∃ x, (if k < ps.length then rd_L3 ps (k : Int) else []) = x := ⟨_, rfl⟩
   rw [hfr] at HPG
   have HFR := Lib.hid hfr
   clear hfr
   have hkb := HBK.out
   have y9 : W1.cell? ⟨B, 9, none⟩ = some (.slice none 0 0) := (z0a hkb 9).trans rfl
   have z9 := z0d hkb 9
   clear hkb
   go_upto_if 44 with (fail)
   go_cut [] from 29 to 64 (fun wx => ∃ A1 c1, Aside0 (wx.heap[B]? = some (.cells #[.int .i64 4, .int .i64 n0, .int .i64 v, .int .i64 0, .int .i64 0, .bool false, .slice none 0 0, .int .i64 0, .string ⟨#[]⟩, .slice A1 fr.length c1] 89 (0, 0))) ∧ Aside0 (fr.length ≤ c1) ∧ Aside0 (Kd.F k64 wx (fun y => okq y ∧ y < b3) A1 fr.length fr) ∧ Aside0 (Below B W1 wx) ∧ Aside0 (B + 1 ≤ wx.heap.size))
   case first =>
    by_cases hkp : k < ps.length
    ·obtain ⟨g', vc', hVe, _, _, _⟩ := Kd.N_form HU1.out (by omega)
     injection hVe with e1 _ e2
     subst e1 e2
     obtain ⟨c1, hcl1, hFK1, hcc1, _⟩ := Kd.N_elem HU1.out ([] : List S64) (k : Int) (by omega) (by omega)
     obtain ⟨A1, c2, rfl, hl2, hF2⟩ := Kd.FK_slice_open hFK1
     have hx := hcc1 0 _ rfl
     have hsz1 : (Kd.slice 64 k64).sz = 1 := rfl
     have hq : ps.getD ((k : Int)).toNat [] = fr := by rw [← HFR.out, if_pos hkp]; rfl
     rw [hq] at hl2 hF2 hx
     simp only [Int.toNat_natCast, hsz1, Nat.mul_one, Nat.add_zero] at hx
     have HL2 := Aside0.mk hl2
     have HF2 := Aside0.mk (Kd.F_mono hF2 (fun y hy => hy.1))
     have hkB : (⟨g', k, none⟩ : Addr) ≠ ⟨B, 9, none⟩ := by
      intro e
      have h1 := Kd.N_lt HU1.out g' (by simp [Value.ownBlock])
      have h2 := (HU1.out.1 g' (by simp [Value.ownBlock])).2
      injection e with e _ _
      omega
     clear hcl1 hFK1 hcc1 hq hl2 hF2 hsz1
     go_wp2
     go_meet
     case rel => exact ⟨A1, c2, ⟨z0k HBK.out 9 _ rfl⟩, HL2, ⟨Kd.F_far (p := ⟨B, 9, none⟩) HF2.out (fun y hy => by have := hy.2; show y ≠ B; omega) _⟩, ⟨(Below.refl B W1).setCell (p := ⟨B, 9, none⟩) (Nat.le_refl _) _⟩, ⟨by rw [World.size_setCell, HS1.out]; exact Nat.le_refl _⟩⟩
    ·have hfe : fr = [] := by rw [← HFR.out, if_neg hkp]
     have HFE := Lib.hid hfe
     clear hfe
     go_wp2
     go_meet
     case rel =>
      rw [HFE.out]
      exact ⟨none, 0, HBK, ⟨Nat.le_refl _⟩, ⟨Kd.F_nil _ _ _⟩, ⟨Below.refl _ _⟩, ⟨Nat.le_of_eq HS1.out.symm⟩⟩
   case rest =>
    obtain ⟨A1, c1, HBX, HLC, HFX, HBW, HSX⟩ := hcut
    clear y9 z9
    obtain ⟨nx, hnx⟩ : ∃ x, (if k + 1 < no.length then rd no ((k + 1 : Nat) : Int) else 0) = x := ⟨_, rfl⟩
    rw [hnx] at HPG
    have HNX := Lib.hid hnx
    clear hnx
    have hkb := HBX.out
    have y7 : wc.cell? ⟨B, 7, none⟩ = some (.int .i64 0) := (z0a hkb 7).trans rfl
    have z7 := z0d hkb 7
    clear hkb
    have HBW3 := Aside0.mk (show Below b3 w3 wc from HB.out.trans ((HBL.out.trans (HBW.out.mono (by have := HS1.out; omega))).mono hbB))
    go_upto_if 54 with (fail)
    go_cut [] from 29 to 64 (fun wx => Aside0 (wx.heap[B]? = some (.cells #[.int .i64 4, .int .i64 n0, .int .i64 v, .int .i64 0, .int .i64 0, .bool false, .slice none 0 0, .int .i64 nx, .string ⟨#[]⟩, .slice A1 fr.length c1] 89 (0, 0))) ∧ Aside0 (Kd.F k64 wx (fun y => okq y ∧ y < b3) A1 fr.length fr) ∧ Aside0 (Below B W1 wx) ∧ Aside0 (B + 1 ≤ wx.heap.size))
    case first =>
     by_cases hk1 : k + 1 < no.length
     ·obtain ⟨ad', had', hxc⟩ := Kd.at_int (HBN.out _ HBW3.out) ((k + 1 : Nat) : Int) (by omega) (by omega)
      obtain rfl : ad = ad' := by injection had'
      rw [Int.toNat_natCast, show rd no ((k + 1 : Nat) : Int) = nx by rw [← HNX.out, if_pos hk1]] at hxc
      clear had'
      replace hxc : wc.cell? ⟨ad.block, ad.off + (k + 1), none⟩ = some (.int .i64 nx) := hxc
      go_wp2
      go_meet
      case rel => exact ⟨⟨z0k HBX.out 7 _ rfl⟩, ⟨Kd.F_far (p := ⟨B, 7, none⟩) HFX.out (fun y hy => by have := hy.2; show y ≠ B; omega) _⟩, ⟨HBW.out.setCell (p := ⟨B, 7, none⟩) (Nat.le_refl _) _⟩, ⟨by rw [World.size_setCell]; exact HSX.out⟩⟩
     ·have hne : nx = 0 := by rw [← HNX.out, if_neg hk1]
      have HNE := Lib.hid hne
      clear hne
      go_wp2
      go_meet
      case rel =>
       rw [HNE.out]
       exact ⟨HBX, HFX, HBW, HSX⟩
    case rest =>
     obtain ⟨HBY, HFY, HBV, HSY⟩ := hcut
     clear y7 z7 HBX HFX HBW HSX HBW3
     have hkb := HBY.out
     have u0 : wc.cell? ⟨B, 0, none⟩ = some (.int .i64 4) := (z0a hkb 0).trans rfl
     have u1 : wc.cell? ⟨B, 1, none⟩ = some (.int .i64 n0) := (z0a hkb 1).trans rfl
     have u2 : wc.cell? ⟨B, 2, none⟩ = some (.int .i64 v) := (z0a hkb 2).trans rfl
     have u3 : wc.cell? ⟨B, 3, none⟩ = some (.int .i64 0) := (z0a hkb 3).trans rfl
     have u4 : wc.cell? ⟨B, 4, none⟩ = some (.int .i64 0) := (z0a hkb 4).trans rfl
     have u5 : wc.cell? ⟨B, 5, none⟩ = some (.bool false) := (z0a hkb 5).trans rfl
     have u6 : wc.cell? ⟨B, 6, none⟩ = some (.slice none 0 0) := (z0a hkb 6).trans rfl
     have u7 : wc.cell? ⟨B, 7, none⟩ = some (.int .i64 nx) := (z0a hkb 7).trans rfl
     have u8 : wc.cell? ⟨B, 8, none⟩ = some (.string ⟨#[]⟩) := (z0a hkb 8).trans rfl
     have u9 : wc.cell? ⟨B, 9, none⟩ = some (.slice A1 fr.length c1) := (z0a hkb 9).trans rfl
     have HBZ := Aside0.mk (show Below b3 w3 wc from HB.out.trans ((HBL.out.trans (HBV.out.mono (by have := HS1.out; omega))).mono hbB))
     have HNZ := Aside0.mk (Kd.N_mono (ok' := okq) (Kd.N_step (w1 := wc) HN1.out (fun y hy _ => HBV.out.block y hy.2)) (fun y hy => hy.1))
     have HFZ := Aside0.mk (show Kd.FK k89 wc (fun y => okq y ∧ y < b3) ⟨4, n0, v, 0, 0, false, (none, 0, 0), nx, ⟨#[]⟩, fr⟩ (cells89 ⟨4, n0, v, 0, 0, false, (none, 0, 0), nx, ⟨#[]⟩, fr⟩ A1 c1) from z2g _ _ _ HLC.out HFY.out)
     have HBS := Aside0.mk (show b3 ≤ wc.heap.size by have := HSY.out; omega)
     clear hkb HN1 HFY HLC HBY
     go_wp2_with (at_builtin; refine Kd.N_append k89 (w0 := w3) b3 rfl (.tmp 61) (.tmp 63) 22 89 (.agg (cells89 z89 none 0).toArray) 120 rfl Tryz.underlying22 info89 rfl (by decide) (by decide) (.slice O k co) (P.take k) ⟨4, n0, v, 0, 0, false, (none, 0, 0), nx, ⟨#[]⟩, fr⟩ (cells89 ⟨4, n0, v, 0, 0, false, (none, 0, 0), nx, ⟨#[]⟩, fr⟩ A1 c1) okq (fun y => okq y ∧ y < b3) rfl rfl HFZ.out (fun y hy => ⟨hy.1, fun e => by have := Kd.N_base HNZ.out y e.symm; have := hy.2; omega⟩) (fun y hy => hq y (.inr (by have := HBS.out; omega))) HNZ.out HBZ.out HBS.out (by rw [HTL.out]; omega) ?_; intro v1 w9 hn9 hb9 hg9 hat9; obtain ⟨VA, vc, rfl⟩ := Kd.N_slice hn9)
     have HN9 : Aside0 (Kd.N k89 89 w9 b3 okq (.slice VA (k + 1) vc) (P.take (k + 1))) := ⟨by
      rw [HPK.out, HPG.out]
      have e : (P.take k ++ [(⟨4, n0, v, 0, 0, false, (none, 0, 0), nx, ⟨#[]⟩, fr⟩ : S89)]).length = k + 1 := by rw [List.length_append, HTL.out]; rfl
      rw [e] at hn9
      exact hn9⟩
     have HB9 := Aside0.mk hb9
     clear hn9 hb9 hg9 hat9
     go_roundw
     case rel => exact ⟨k + 1, by omega, by go_num, HN9, HB9⟩
     case measure => simp [intOf]; omega
  ·obtain rfl : k = no.length := by omega
   have HNP : Aside0 (Kd.N k89 89 wr b3 okq (.slice O no.length co) P) := ⟨by have h := HN.out; rw [List.take_of_length_le (by omega), hll] at h; exact h⟩
   rw [show (P.take no.length).length = no.length by rw [List.take_of_length_le (by omega), hll]]
   have hkb : wr.heap[w.heap.size]? = some (.cells #[.slice none 0 0, .int .i64 0] 117 (0, 0)) := (HB.out.block _ (by omega)).trans HK3.out
   have HKB := Aside0.mk hkb
   have hc0 : wr.cell? ⟨b, 0, none⟩ = some (.slice none 0 0) := hb ▸ (z0a hkb 0).trans rfl
   have hc1 : wr.cell? ⟨b, 1, none⟩ = some (.int .i64 0) := hb ▸ (z0a hkb 1).trans rfl
   have hz0 : wr.frozen? ⟨b, 0, none⟩ = false := hb ▸ z0d hkb 0
   have hz1 : wr.frozen? ⟨b, 1, none⟩ = false := hb ▸ z0d hkb 1
   have HBE := Aside0.mk (HB3.out.trans (HB.out.mono hbw))
   clear hkb HN HUW
   go_wp2
   subst hb
   refine bodyPost_ret (z00 rfl _ _ _ _ rfl (load117 (z0k (z0k HKB.out 0 (.slice O no.length co) rfl) 1 (.int .i64 0) rfl))) rfl ?_
   refine ⟨_, rfl, ?_, ?_⟩
   rotate_left
   ·exact (HBE.out.setCell (p := ⟨w.heap.size, 0, none⟩) (Nat.le_refl _) _).setCell (p := ⟨w.heap.size, 1, none⟩) (Nat.le_refl _) _
   refine Kd.N_mono (ok := fun y => (okp y ∨ w.heap.size ≤ y) ∧ y ≠ w.heap.size) ?_ (fun y hy => hy.1)
   exact Kd.N_far (p := ⟨w.heap.size, 1, none⟩) (Kd.N_far (p := ⟨w.heap.size, 0, none⟩) (Kd.N_mono (ok' := fun y => (okp y ∨ w.heap.size ≤ y) ∧ y ≠ w.heap.size) (Kd.N_lower HNP.out hbw) (fun y hy => ⟨(HQ.out y hy).elim (fun h => .inl h.1) (fun h => .inr (Nat.le_of_lt h)), (HQ.out y hy).elim (fun h => Nat.ne_of_lt h.2) (fun h => Nat.ne_of_gt h)⟩)) (fun y hy => hy.2) _) (fun y hy => hy.2) _
def off2 (b q : Nat) : Prop := q < b ∨ b + 2 ≤ q
def REC (W : World) (b : Nat) (sp : Array Value) : Prop := W.heap[b]? = some (.cells sp 25 (0, 0)) ∧ W.heap[b + 1]? = some (.cells #[.slice none 0 0, .slice none 0 0, .slice none 0 0, .slice none 0 0, .int .i64 0, .int .i64 0, .slice none 0 0, .int .i64 0, .int .i64 0] 34 (0, 0))
theorem REC.keep {W W' : World} {b : Nat} {sp : Array Value} (h : REC W b sp) (hk : ∀ k, b ≤ k → k < b + 2 → k < W.heap.size → W'.heap[k]? = W.heap[k]?) : REC W' b sp :=
 ⟨(hk _ (by omega) (by omega) (z0w h.1)).trans h.1, (hk _ (by omega) (by omega) (z0w h.2)).trans h.2⟩
theorem REC.below {W W' : World} {b : Nat} {sp : Array Value} (h : REC W b sp) (hb : Below W.heap.size W W') : REC W' b sp := h.keep fun k _ _ hk => hb.block k hk
def RM (w0 : World) (b : Nat) (sp : Array Value) (PV LV OV : Value) (pg : List S89) (l : List S64) (own : List Int) (W : World) : Prop :=
 Kd.N k89 89 W (b + 2) (fun k => off2 b k ∧ some k ≠ OV.ownBlock) PV pg ∧
 (∃ A c, LV = .slice A l.length c ∧ l.length ≤ c ∧ Kd.F k64 W (fun k => (off2 b k ∧ some k ≠ PV.ownBlock) ∧ some k ≠ OV.ownBlock) A l.length l) ∧
 (Kd.int .i64).R 3 W (b + 2) (fun k => off2 b k ∧ some k ≠ PV.ownBlock) OV own ∧ REC W b sp ∧ Below b w0 W ∧ b + 2 ≤ W.heap.size
theorem RM.below {w0 W W' : World} {b : Nat} {sp : Array Value} {PV LV OV : Value} {pg : List S89} {l : List S64} {own : List Int} (h : RM w0 b sp PV LV OV pg l own W) (hb : Below W.heap.size W W') : RM w0 b sp PV LV OV pg l own W' := by
 obtain ⟨h1, ⟨A, c, rfl, hc, hF⟩, h3, h4, h5, h6⟩ := h
 exact ⟨Kd.N_below h1 hb, ⟨A, c, rfl, hc, Kd.F_below hF hb⟩, Kd.R_below h3 hb, h4.below hb, h5.trans (hb.mono (by omega)), Nat.le_trans h6 hb.size⟩
theorem RM.list {w0 W W' : World} {b : Nat} {sp : Array Value} {PV LV OV : Value} {pg : List S89} {l l' : List S64} {own : List Int} (h : RM w0 b sp PV LV OV pg l own W) (hb : Below W.heap.size W W') {A : Option Addr} {c : Nat} (hc : l'.length ≤ c)
  (hF : Kd.F k64 W' (fun k => ((off2 b k ∧ some k ≠ PV.ownBlock) ∧ some k ≠ OV.ownBlock) ∨ W.heap.size ≤ k) A l'.length l') : RM w0 b sp PV (.slice A l'.length c) OV pg l' own W' := by
 have hP := Kd.N_lt h.1
 have hO := Kd.R_lt h.2.2.1
 have h6 := h.2.2.2.2.2
 obtain ⟨h1, _, h3, h4, h5, h6⟩ := h.below hb
 exact ⟨h1, ⟨A, c, rfl, hc, Kd.F_mono hF (fun k hk => hk.elim id fun hk => ⟨⟨.inr (by have := h.2.2.2.2.2; omega), fun e => by have := hP k e.symm; omega⟩, fun e => by have := hO k e.symm; omega⟩)⟩, h3, h4, h5, h6⟩
theorem RM.pages {w0 W W' : World} {b : Nat} {sp : Array Value} {PV PV' LV OV : Value} {pg pg' : List S89} {l : List S64} {own : List Int} (h : RM w0 b sp PV LV OV pg l own W)
  (hN : Kd.N k89 89 W' (b + 2) (fun k => off2 b k ∧ some k ≠ OV.ownBlock) PV' pg') (hB : Below (b + 2) W W') (hg : W.grownBy W' PV.ownBlock) (hat : PV'.ownBlock = PV.ownBlock ∨ ∃ q, PV'.ownBlock = some q ∧ W.heap.size ≤ q) : RM w0 b sp PV' LV OV pg' l own W' := by
 obtain ⟨h1, ⟨A, c, rfl, hc, hF⟩, h3, h4, h5, h6⟩ := h
 have hbase := Kd.N_base h1
 refine ⟨hN, ⟨A, c, rfl, hc, ?_⟩, ?_, h4.keep (fun k _ h7 hk => hB.block k (by omega)), h5.trans (hB.mono (by omega)), Nat.le_trans h6 hg.size⟩
 ·refine Kd.F_mono (Kd.F_after (ok := fun k => off2 b k ∧ some k ≠ OV.ownBlock) (Kd.F_mono hF (fun k hk => ⟨⟨hk.1.1, hk.2⟩, hk.1.2⟩)) hg hat) (fun k hk => ⟨⟨hk.1.1, hk.2⟩, hk.1.2⟩)
 ·have hO := Kd.R_lt h3
  have hOP := h3.1
  refine Kd.R_mono (Kd.R_step (Kd.R_tight rfl h3) (fun k hk hlt => hg.block k hlt (fun e => (hOP k hk.symm).2 e))) (fun k hk => ?_)
  refine ⟨(hOP k hk.symm).1, fun e => ?_⟩
  rcases hat with ha | ⟨q, ha, hq⟩
  ·exact (hOP k hk.symm).2 (e.trans ha)
  ·rw [ha] at e
   injection e with e
   have := hO k hk.symm
   omega
theorem RM.taken {w0 W W' : World} {b : Nat} {sp : Array Value} {PV LV OV OV' : Value} {pg : List S89} {l : List S64} {own own' : List Int} (h : RM w0 b sp PV LV OV pg l own W)
  (hR : (Kd.int .i64).R 3 W' (b + 2) (fun k => off2 b k ∧ some k ≠ PV.ownBlock) OV' own') (hB : Below (b + 2) W W') (hg : W.grownBy W' OV.ownBlock) (hat : OV'.ownBlock = OV.ownBlock ∨ ∃ q, OV'.ownBlock = some q ∧ W.heap.size ≤ q) : RM w0 b sp PV LV OV' pg l own' W' := by
 obtain ⟨h1, ⟨A, c, rfl, hc, hF⟩, h3, h4, h5, h6⟩ := h
 refine ⟨Kd.N_after h1 hg hat, ⟨A, c, rfl, hc, Kd.F_after hF hg hat⟩, hR, h4.keep (fun k _ h7 hk => hB.block k (by omega)), h5.trans (hB.mono (by omega)), Nat.le_trans h6 hg.size⟩
theorem zero_take (pg : List S89) (n i j : Nat) (hn : n ≤ pg.length) : (pg.take n ++ List.replicate j z89).set i z89 = (pg.set i z89).take n ++ List.replicate j z89 := by
 refine List.ext_getElem? fun q => ?_
 by_cases hq : q < n
 ·rw [List.getElem?_append_left (by simp; omega), List.getElem?_take_of_lt hq, List.getElem?_set, List.getElem?_set]
  rw [List.getElem?_append_left (by simp; omega), List.getElem?_take_of_lt hq]
  by_cases e : i = q
  ·rw [if_pos e, if_pos e, if_pos (by simp; omega), if_pos (by omega)]
  ·rw [if_neg e, if_neg e]
 ·rw [List.getElem?_append_right (by simp; omega), List.getElem?_set]
  have hl : ((pg.set i z89).take n).length = n := by simp; omega
  have hl2 : (pg.take n).length = n := by simp; omega
  rw [hl]
  by_cases e : i = q
  ·subst e
   rw [if_pos rfl]
   by_cases c : i < (pg.take n ++ List.replicate j z89).length
   ·rw [if_pos c, List.getElem?_replicate, if_pos (by rw [List.length_append, hl2, List.length_replicate] at c; omega)]
   ·rw [if_neg c, List.getElem?_replicate, if_neg (by rw [List.length_append, hl2, List.length_replicate] at c; omega)]
  ·rw [if_neg e, List.getElem?_append_right (by rw [hl2]; omega), hl2]
theorem z9v (free : List Int) (n j : Nat) : ∀ (pg : List S89), n ≤ pg.length → zeroAll free (pg.take n ++ List.replicate j z89) = (zeroAll free pg).take n ++ List.replicate j z89 := by
 induction free with
 | nil => intro pg _; rfl
 | cons x t ih =>
  intro pg hn
  show zeroAll t ((pg.take n ++ List.replicate j z89).set x.toNat z89) = (zeroAll t (pg.set x.toNat z89)).take n ++ _
  rw [zero_take pg n x.toNat j hn, ih (pg.set x.toNat z89) (by rw [List.length_set]; exact hn)]
def REndA (w : World) (ver tree : Int) (r : Except Int (List S89 × Int × List S64)) (e : Ending) (w' : World) : Prop :=
 match r with
 | .error x => e = .returned (.agg #[.slice none 0 0, .slice none 0 0, .slice none 0 0, .slice none 0 0, .int .i64 0, .int .i64 0, .slice none 0 0, .int .i64 0, .int .i64 x]) ∧ Below w.heap.size w w'
 | .ok (pg, first, l) => ∃ PV LA lc, e = .returned (.agg #[PV, .slice none 0 0, .slice none 0 0, .slice none 0 0, .int .i64 ver, .int .i64 tree, .slice LA l.length lc, .int .i64 first, .int .i64 0]) ∧ Kd.N k89 89 w' w.heap.size (fun _ => True) PV pg ∧ (l.length ≤ lc ∧ k64.C w' LA l.length l) ∧ Below w.heap.size w w'
theorem load34 {w : World} {g : Nat} {x0 x1 x2 x3 x4 x5 x6 x7 x8 : Value} (h : w.heap[g]? = some (.cells #[x0, x1, x2, x3, x4, x5, x6, x7, x8] 34 (0, 0))) : (loadVar 34 ⟨g, 0, none⟩).run Tryz.prog w = .ok (.agg #[x0, x1, x2, x3, x4, x5, x6, x7, x8]) w := by
 have h0 : w.cell? ⟨g, 0, none⟩ = some x0 := (z0a h 0).trans rfl
 have h1 : w.cell? ⟨g, 1, none⟩ = some x1 := (z0a h 1).trans rfl
 have h2 : w.cell? ⟨g, 2, none⟩ = some x2 := (z0a h 2).trans rfl
 have h3 : w.cell? ⟨g, 3, none⟩ = some x3 := (z0a h 3).trans rfl
 have h4 : w.cell? ⟨g, 4, none⟩ = some x4 := (z0a h 4).trans rfl
 have h5 : w.cell? ⟨g, 5, none⟩ = some x5 := (z0a h 5).trans rfl
 have h6 : w.cell? ⟨g, 6, none⟩ = some x6 := (z0a h 6).trans rfl
 have h7 : w.cell? ⟨g, 7, none⟩ = some x7 := (z0a h 7).trans rfl
 have h8 : w.cell? ⟨g, 8, none⟩ = some x8 := (z0a h 8).trans rfl
 simp [h0, h1, h2, h3, h4, h5, h6, h7, h8, go_sem]
theorem z7d {p : Int} {xs : List Int} (h : incB p xs = true) : ∀ x ∈ xs, 0 ≤ x ∧ x < p := fun x hx => by have := (of_decide_eq_true h).1 x hx; omega
theorem z9w {p : Int} {l : List S64} (h : validB p l = true) : ∀ x ∈ pagesOf l, 0 ≤ x ∧ x < p := by
 intro x hx
 obtain ⟨f, hf, hxf⟩ := z60.1 hx
 have := ((of_decide_eq_true h).2.1.1 f hf).2.2.2.1 x hxf
 omega
theorem z49 {p : Int} {ver : Int} {ps : List Int} {l : List S64} (hl : validP p l) (hi : incB p ps = true) (hv : 0 ≤ ver ∧ ver ≤ 1099511627776) : validP p (putL ver ps l) ↔ ∀ x ∈ ps, x ∉ pagesOf l := by
 unfold putL
 by_cases h : ps = []
 ·rw [if_pos h, h]; simp [hl]
 ·rw [if_neg h]
  have hq := of_decide_eq_true hi
  have h1 : validP p [(⟨ver, ps⟩ : S64)] := by
   refine ⟨hl.1, ⟨fun f hf => ?_, by simp⟩, ?_⟩
   ·obtain rfl := List.mem_singleton.1 hf
    exact ⟨hv.1, hv.2, h, hq⟩
   ·rw [z02]; exact hq.2.imp fun h => by omega
  rw [z9s hl h1, z02]
theorem z7e {p : Int} {free gone : List Int} {rest : List S64} {ver : Int} (hv : 1 ≤ ver ∧ ver ≤ 1099511627776) (h1 : validB p rest = true) (h2 : incB p free = true) (h3 : incB p gone = true) :
  decide ((gone ++ free ++ pagesOf rest).Nodup) = validB p (endL2 free gone rest ver) := by
 have hr := of_decide_eq_true h1
 have hi2 := of_decide_eq_true h2
 have hi3 := of_decide_eq_true h3
 have hng : gone.Nodup := hi3.2.imp fun h => by omega
 have hnf : free.Nodup := hi2.2.imp fun h => by omega
 have pl := z49 (ver := ver - 1) hr h3 (by omega)
 have hpm : (pagesOf (putL (ver - 1) gone rest)).Perm (pagesOf rest ++ gone) := by
  unfold putL
  by_cases h : gone = []
  ·rw [if_pos h, h, List.append_nil]
  ·rw [if_neg h]
   have := z44 rest [(⟨ver - 1, gone⟩ : S64)]
   rw [z02] at this
   exact this
 unfold endL2 validB
 congr 1
 refine propext ⟨fun hn => ?_, fun hv2 => ?_⟩
 ·rw [List.nodup_append, List.nodup_append] at hn
  obtain ⟨⟨_, _, n1⟩, n2, n3⟩ := hn
  have hp1 := pl.2 fun x hx hx2 => n3 x (List.mem_append_left _ hx) x hx2 rfl
  refine (z49 hp1 h2 (by omega)).2 fun x hx hx2 => ?_
  rcases List.mem_append.1 (hpm.mem_iff.1 hx2) with h | h
  ·exact n3 x (List.mem_append_right _ hx) x h rfl
  ·exact n1 x h x hx rfl
 ·have hpp : (pagesOf (putL 0 free (putL (ver - 1) gone rest))).Perm (pagesOf (putL (ver - 1) gone rest) ++ free) := by
   unfold putL
   by_cases h : free = []
   ·rw [if_pos h, h, List.append_nil]
   ·rw [if_neg h]
    have := z44 (if gone = [] then rest else mergeL rest [⟨ver - 1, gone⟩]) [(⟨0, free⟩ : S64)]
    rw [z02] at this
    exact this
  have hn := hpp.nodup_iff.1 hv2.2.2
  have hn2 := ((hpm.append_right free).nodup_iff).1 hn
  refine (List.Perm.nodup_iff ?_).1 hn2
  refine (List.perm_append_comm (l₁ := pagesOf rest ++ gone) (l₂ := free)).trans ?_
  refine (List.Perm.append_left free List.perm_append_comm).trans ?_
  rw [← List.append_assoc]
  exact List.Perm.append_right _ List.perm_append_comm
theorem z7f {p : Int} {ver : Int} {ps : List Int} {l : List S64} (h : formP p l) : putR ver ps l = putL ver ps l := by
 unfold putR putL
 by_cases h0 : ps = []
 ·rw [if_pos h0, if_pos h0]
 ·rw [if_neg h0, if_neg h0]
  exact z9q ver ps l h.2 fun f hf => (h.1 f hf).2.2.2.2.imp fun h => by omega
end Go.Proofs.YtpnhelcemodnmaaGreat
namespace Go.Proofs.YtpnhelcemodnmaaGreat
open Go.RowKit Go.Shelf Go.Proofs.YtpnhelcemodnmaaGreatW.PrintWords Go.Proofs.YtpnhelcemodnmaaGreatW.PrintLast Go.Proofs.YtpnhelcemodnmaaGreatW.PrintMore PA
set_option linter.unusedVariables false
set_option linter.unusedSimpArgs false
section
variable {P : Program} {ops : Array Oper} {Q : Exit → Act → World → Prop} {md : Region.Mode} {S : World → Prop} {k : Nat}
def wpAnyK (P : Program) (md : Region.Mode) (ops : Array Oper) (Q : Exit → Act → World → Prop) (S : World → Prop) (k : Nat) : Nat → Array Bool → Act → World → Prop
 | 0, l, a, w => Region.ready md ops l = [] ∧ Q .normal a w
 | f + 1, l, a, w => (Region.ready md ops l = [] → Q .normal a w) ∧
  ∀ i ∈ Region.ready md ops l, wpOp P ops Q i (fun a' w' => ((l.setIfInBounds i true).getD k true = true ∨ S w') ∧ wpAnyK P md ops Q S k f (l.setIfInBounds i true) a' w') a w
theorem z7g : ∀ (f : Nat) (l : Array Bool) (a : Act) (w : World), wpAnyK P md ops Q S k f l a w → wpAny P md ops Q f l a w
 | 0, _, _, _, h => h
 | f + 1, _, _, _, h => ⟨h.1, fun i hi => wpOp_mono (fun a' w' h' => z7g f _ a' w' h'.2) (h.2 i hi)⟩
theorem z7h {l : Array Bool} (h : l.getD k true = false) : l.getD k false = false := by
 rcases Nat.lt_or_ge k l.size with h' | h'
 ·simp [h'] at h ⊢; exact h
 ·simp [Array.getElem?_eq_none h'] at h
def waitsFor (md : Region.Mode) (ops : Array Oper) (k i : Nat) : Bool := match ops[k]? with
 | some o => o.after.any fun e => Region.binds md e && e.on == i
 | none => false
theorem z9x {m i : Nat} (h : waitsFor md ops m i = true) : ∃ om, ops[m]? = some om ∧ ∃ e ∈ om.after, Region.binds md e = true ∧ e.on = i := by
 unfold waitsFor at h
 cases ho : ops[m]? with
 | none => rw [ho] at h; cases h
 | some o =>
  rw [ho] at h
  obtain ⟨e, he, h2⟩ := Array.any_eq_true'.1 h
  rw [Bool.and_eq_true] at h2
  exact ⟨o, rfl, e, he, h2.1, eq_of_beq h2.2⟩
def waitsChain (md : Region.Mode) (ops : Array Oper) : Nat → List Nat → Bool
 | _, [] => true
 | i, y :: ys => waitsFor md ops y i && waitsChain md ops y ys
theorem z7i {l : Array Bool} {j : Nat} (hj : j ∈ Region.ready md ops l) : ∀ (ps : List Nat) (i : Nat), waitsChain md ops i ps = true → l.getD i true = false → (∀ x ∈ ps, l.getD x true = false) → j ∉ ps
 | [], _, _, _, _ => by simp
 | y :: ys, i, h, hi, hun => by
  rw [waitsChain, Bool.and_eq_true] at h
  rw [List.mem_cons]
  rintro (rfl | hm)
  ·obtain ⟨om, h2, e, he, hb, heq⟩ := z9x h.1
   obtain ⟨_, oj, h3, h4⟩ := mem_ready.1 hj
   rw [h3] at h2
   cases h2
   have h5 := h4 e he hb
   rw [heq, z7h hi] at h5
   cases h5
  ·exact z7i hj ys y h.2 (hun y (List.mem_cons_self ..)) (fun x hx => hun x (List.mem_cons_of_mem _ hx)) hm
theorem z9y {i : Nat} {oi : Oper} {v : Value} (hi : ops[i]? = some oi) (hsel : ∀ (j : Nat) (o : Oper) cs b, ops[j]? = some o → o.op ≠ .select cs b)
  (hQ : ∀ c a w, Q (.panic c) (a.put oi.dst v) w → Q (.panic c) a w) (ps : List Nat) (hki : waitsChain md ops i ps = true) (hkp : k ∈ ps) (hip : i ∉ ps) :
  ∀ (f : Nat) (l : Array Bool) (a : Act) (w : World), (∀ x ∈ ps, l.getD x true = false) →
   (∀ j oj, ops[j]? = some oj → j ≠ i → l.getD j true = false → (∀ e ∈ oj.after, Region.binds md e = true → e.on ≠ i) → oi.apart ops oj = true) →
   i ∈ Region.ready md ops l → YieldsIf P ops S oi v a → S w → wpAnyK P md ops Q S k f (l.setIfInBounds i true) (a.put oi.dst v) w → wpAnyK P md ops Q S k (f + 1) l a w := by
 intro f
 induction f with
 | zero =>
  intro l a w hlk _ hr hy hS H
  refine ⟨fun h => (by rw [h] at hr; cases hr), fun j hj => ?_⟩
  by_cases hji : j = i
  ·subst hji; exact hy.wpOp hi hS ⟨.inr hS, H⟩
  ·have := ready_mono hj hji
   rw [H.1] at this
   cases this
 | succ f ih =>
  intro l a w hlk hfree hr hy hS H
  refine ⟨fun h => (by rw [h] at hr; cases hr), fun j hj => ?_⟩
  by_cases hji : j = i
  ·subst hji; exact hy.wpOp hi hS ⟨.inr hS, H⟩
  ·have h1 := H.2 j (ready_mono hj hji)
   obtain ⟨hjun, oj, hoj, hall⟩ := mem_ready.1 hj
   have hun := (mem_ready.1 hr).1
   have hnot : ∀ e ∈ oj.after, Region.binds md e = true → e.on ≠ i := fun e he hb heq => by
    have h2 := hall e he hb
    rw [heq, z7h hun] at h2
    cases h2
   have hjp : j ∉ ps := z7i hj ps i hki hun hlk
   have hjk : j ≠ k := fun e => hjp (e ▸ hkp)
   have hik : i ≠ k := fun e => hip (e ▸ hkp)
   have h2 := wpOp_putIf hoj (hfree j oj hoj hji hjun hnot) (fun cs b => hsel i oi cs b hi) (fun cs b => hsel j oj cs b hoj) hQ hy h1
   refine wpOp_mono (fun a' w' h3 => ?_) h2
   have hSk : S w' := h3.2.1.resolve_left (by rw [getD_set_ne true hjk, getD_set_ne true hik, hlk k hkp]; simp)
   refine ⟨.inr hSk, ih (l.setIfInBounds j true) a' w' (fun x hx => by
    have hxj : j ≠ x := by rintro rfl; exact hjp hx
    rw [getD_set_ne true hxj]; exact hlk x hx) (fun m om hm hmi hmun hno => hfree m om hm hmi ?_ hno) (ready_mono hr (Ne.symm hji)) h3.1 hSk ?_⟩
   ·by_cases hjm : j = m
    ·subst hjm; exact hjun
    ·rw [getD_set_ne true hjm] at hmun; exact hmun
   ·rw [Array.setIfInBounds_comm _ _ hji]
    exact h3.2.2
theorem z03 {i : Nat} {oi : Oper} {f : Nat} {l : Array Bool} {t : Array Value} {df : List Deferred} {w : World} (d : Nat) (v : Value) (ps : List Nat) (hi : ops[i]? = some oi) (hd : oi.dst = some d) (hw : waitsChain md ops i ps = true) (hkp : k ∈ ps) (hip : i ∉ ps) (hlk : ps.all (fun x => !l.getD x true) = true)
  (hs : Region.noSelect ops = true) (hf : Region.free md ops l i = true) (hr : (Region.ready md ops l).contains i = true)
  (hQ : ∀ c a w, Q (.panic c) (a.put oi.dst v) w → Q (.panic c) a w) (hy : YieldsIf P ops S oi v { tmps := t, defers := df }) (hS : S w)
  (h : wpAnyK P md ops Q S k f (l.setIfInBounds i true) { tmps := t.setIfInBounds d v, defers := df } w) : wpAnyK P md ops Q S k (f + 1) l { tmps := t, defers := df } w := by
 refine z9y hi (Region.noSelect_spec hs) hQ ps hw hkp hip f l _ w (fun x hx => ?_) (Region.free_spec hi hf) (by simpa using hr) hy hS ?_
 ·have := List.all_eq_true.1 hlk x hx
  simpa using this
 ·rw [hd]
  exact h
def AllReadyK (P : Program) (md : Region.Mode) (ops : Array Oper) (Q : Exit → Act → World → Prop) (S : World → Prop) (k f : Nat) (l : Array Bool) (a : Act) (w : World) (rs : List Nat) : Prop :=
 ∀ i ∈ rs, wpOp P ops Q i (fun a' w' => ((l.setIfInBounds i true).getD k true = true ∨ S w') ∧ wpAnyK P md ops Q S k f (l.setIfInBounds i true) a' w') a w
theorem AllReadyK.nil {f : Nat} {l : Array Bool} {a : Act} {w : World} : AllReadyK P md ops Q S k f l a w [] := fun _ h => by cases h
theorem AllReadyK.cons {f : Nat} {l : Array Bool} {a : Act} {w : World} {i : Nat} {o : Oper} {rs : List Nat} (ho : ops[i]? = some o)
  (h : ∀ K' : Act → World → Prop, Shut (∀ a w, S w → (S w → wpAnyK P md ops Q S k f (l.setIfInBounds i true) a w) → K' a w) → if Region.wanted o (yielded ops a.tmps) = true then Oper.wp P o a w K' Q else K' (a.put o.dst undef) w)
  (hs : AllReadyK P md ops Q S k f l a w rs) : AllReadyK P md ops Q S k f l a w (i :: rs) := fun j hj => by
 rcases List.mem_cons.1 hj with rfl | hj
 ·exact wpOp_step ho (fun K' hK => h K' (fun a w hS hW => hK a w ⟨.inr hS, hW hS⟩))
 ·exact hs j hj
theorem z9z {rs : List Nat} {f : Nat} {l : Array Bool} {a : Act} {w : World} (hr : Region.ready md ops l = rs) (hne : rs ≠ [])
  (h : AllReadyK P md ops Q S k f l a w rs) : wpAnyK P md ops Q S k (f + 1) l a w :=
 ⟨fun h0 => absurd (hr ▸ h0) hne, hr ▸ h⟩
theorem z7j : ∀ (f : Nat) (l : Array Bool) (a : Act) (w : World), l.getD k true = true → wpAnyH P md ops Q (fun _ => True) f l a w → wpAnyK P md ops Q S k f l a w
 | 0, _, _, _, _, h => h
 | f + 1, l, a, w, hl, h => ⟨h.1, fun i hi => by
   have hl' : (l.setIfInBounds i true).getD k true = true := by
    by_cases e : i = k
    ·subst e
     rcases Nat.lt_or_ge i l.size with h' | h'
     ·simp [h']
     ·simp [h']
    ·rw [getD_set_ne true e]; exact hl
   exact wpOp_mono (fun a' w' h' => ⟨.inl hl', z7j f _ a' w' hl' h'.2⟩) (h.2 i hi)⟩
theorem storeK {f : Nat} {l : Array Bool} {a : Act} {w : World} {o : Oper} (hr : Region.ready md ops l = [k]) (hk : k < l.size) (ho : ops[k]? = some o) (hgd : o.guard = none)
  (h : ∀ K' : Act → World → Prop, Shut (∀ a w, wpAnyH P md ops Q (fun _ => True) f (l.setIfInBounds k true) a w → K' a w) → Oper.wp P o a w K' Q) : wpAnyK P md ops Q S k (f + 1) l a w := by
 refine ⟨fun h0 => absurd (hr ▸ h0) (by simp), fun i hi => ?_⟩
 rw [hr, List.mem_singleton] at hi
 subst hi
 have hl : (l.setIfInBounds i true).getD i true = true := by simp [hk]
 refine wpOp_step ho fun K' hK => ?_
 have hw : Region.wanted o (yielded ops a.tmps) = true := by simp [Region.wanted, hgd]
 rw [if_pos hw]
 exact h K' (fun a w hW => hK a w ⟨.inl hl, z7j f _ a w hl hW⟩)
theorem z7k {id : Nat} {a : Act} {w : World} (k : Nat) (hm : P.follows .mixedOrders = true) (hS : S w.drew)
  (h : S w.drew → wpAnyK P .any ops Q S k ops.size (Array.replicate ops.size false) a w.drew) : (Code.region id ops true).wp P Q a w :=
 wp_region_any hm (z7g _ _ _ _ (h hS))
end
end Go.Proofs.YtpnhelcemodnmaaGreat
