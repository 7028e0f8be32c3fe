/- Texts put together for one claim: part 4. -/
import Derived.BigQuiet
import Derived.Test.YtpnhelcemodnmaaGreatV3
namespace Go.Proofs.YtpnhelcemodnmaaGreat
open Go.RowKit Go.Shelf Go.Proofs.YtpnhelcemodnmaaGreatW.PrintWords Go.Proofs.YtpnhelcemodnmaaGreatW.PrintLast Go.Proofs.YtpnhelcemodnmaaGreatW.PrintMore PA
set_option linter.unusedVariables false
set_option linter.unusedSimpArgs false
attribute [local go_sem] Oper.semAt_some
def EndS (W : World) (b : Nat) (sp C1 : Array Value) (x2 x3 : Value) : Prop :=
 W.heap[b]? = some (.cells sp 25 (0, 0)) ∧ W.heap[b + 1]? = some (.cells C1 25 (0, 0)) ∧ W.heap[b + 1 + 1]? = some (.cells #[x2] 3 (0, 0)) ∧ W.heap[b + 1 + 1 + 1]? = some (.cells #[x3] 26 (0, 0)) ∧ W.heap[b + 1 + 1 + 1 + 1]? = some (.cells #[.int .i64 0] 30 (0, 0))
def EndT (w0 : World) (b g : Nat) (sp C1 : Array Value) (x2 x3 P : Value) (pg : List S89) (l : List S64) (W : World) : Prop :=
 Kd.N k89 89 W b (fun q => q ≠ g ∧ off5 b q) P pg ∧ AccX (off5 b) W g P l ∧ EndS W b sp C1 x2 x3 ∧ Below b w0 W ∧ g + 1 ≤ W.heap.size ∧ b + 5 ≤ g ∧ ∀ q, P.ownBlock = some q → b + 5 ≤ q
theorem EndS.below {W W' : World} {b : Nat} {sp C1 : Array Value} {x2 x3 : Value} (h : EndS W b sp C1 x2 x3) (hb : Below W.heap.size W W') : EndS W' b sp C1 x2 x3 :=
 ⟨z0g h.1 hb, z0g h.2.1 hb, z0g h.2.2.1 hb, z0g h.2.2.2.1 hb, z0g h.2.2.2.2 hb⟩
theorem EndT.below {w0 W W' : World} {b g : Nat} {sp C1 : Array Value} {x2 x3 P : Value} {pg : List S89} {l : List S64} (h : EndT w0 b g sp C1 x2 x3 P pg l W) (hb : Below W.heap.size W W') : EndT w0 b g sp C1 x2 x3 P pg l W' := by
 obtain ⟨hN, hA, hE, hB, hS, hg, hq⟩ := h
 exact ⟨Kd.N_below hN hb, hA.below hb, hE.below hb, hB.trans (hb.mono (by omega)), Nat.le_trans hS hb.size, hg, hq⟩
theorem EndT.far {w0 W : World} {b g : Nat} {sp C1 C1' : Array Value} {x2 x3 x2' x3' P : Value} {pg : List S89} {l : List S64} (h : EndT w0 b g sp C1 x2 x3 P pg l W) (p : Addr) (v : Value) (hp : b ≤ p.block ∧ p.block < b + 5) (hs : EndS (W.setCell p v) b sp C1' x2' x3') : EndT w0 b g sp C1' x2' x3' P pg l (W.setCell p v) := by
 obtain ⟨hN, hA, hE, hB, hS, hg, hq⟩ := h
 have hoff : ∀ k, off5 b k → k ≠ p.block := fun k hk e => by rcases hk with hk | hk <;> omega
 obtain ⟨A, c, h1, h2, h3⟩ := hA
 exact ⟨Kd.N_far hN (fun k hk => hoff k hk.2) v, ⟨A, c, (Below.heap_setCell W p v g (by omega)).trans h1, h2, Kd.F_far h3 (fun k hk => hoff k hk.2) v⟩, hs, hB.setCell (p := p) hp.1 v, by rw [World.size_setCell]; exact hS, hg, hq⟩
theorem EndS.set1 {W : World} {b : Nat} {sp C1 C1' : Array Value} {x2 x3 : Value} (h : EndS W b sp C1 x2 x3) (j : Nat) (v : Value) (hc : C1.setIfInBounds j v = C1') : EndS (W.setCell ⟨b + 1, j, none⟩ v) b sp C1' x2 x3 :=
 ⟨z0v h.1 (p := ⟨b + 1, j, none⟩) (by show b ≠ b + 1; omega) v, z0k h.2.1 j v hc, z0v h.2.2.1 (p := ⟨b + 1, j, none⟩) (by show b + 1 + 1 ≠ b + 1; omega) v, z0v h.2.2.2.1 (p := ⟨b + 1, j, none⟩) (by show b + 1 + 1 + 1 ≠ b + 1; omega) v, z0v h.2.2.2.2 (p := ⟨b + 1, j, none⟩) (by show b + 1 + 1 + 1 + 1 ≠ b + 1; omega) v⟩
theorem EndS.set2 {W : World} {b : Nat} {sp C1 : Array Value} {x2 x3 : Value} (h : EndS W b sp C1 x2 x3) (v : Value) : EndS (W.setCell ⟨b + 1 + 1, 0, none⟩ v) b sp C1 v x3 :=
 ⟨z0v h.1 (p := ⟨b + 1 + 1, 0, none⟩) (by show b ≠ b + 1 + 1; omega) v, z0v h.2.1 (p := ⟨b + 1 + 1, 0, none⟩) (by show b + 1 ≠ b + 1 + 1; omega) v, z0k h.2.2.1 0 v rfl, z0v h.2.2.2.1 (p := ⟨b + 1 + 1, 0, none⟩) (by show b + 1 + 1 + 1 ≠ b + 1 + 1; omega) v, z0v h.2.2.2.2 (p := ⟨b + 1 + 1, 0, none⟩) (by show b + 1 + 1 + 1 + 1 ≠ b + 1 + 1; omega) v⟩
theorem EndS.set3 {W : World} {b : Nat} {sp C1 : Array Value} {x2 x3 : Value} (h : EndS W b sp C1 x2 x3) (v : Value) : EndS (W.setCell ⟨b + 1 + 1 + 1, 0, none⟩ v) b sp C1 x2 v :=
 ⟨z0v h.1 (p := ⟨b + 1 + 1 + 1, 0, none⟩) (by show b ≠ b + 1 + 1 + 1; omega) v, z0v h.2.1 (p := ⟨b + 1 + 1 + 1, 0, none⟩) (by show b + 1 ≠ b + 1 + 1 + 1; omega) v, z0v h.2.2.1 (p := ⟨b + 1 + 1 + 1, 0, none⟩) (by show b + 1 + 1 ≠ b + 1 + 1 + 1; omega) v, z0k h.2.2.2.1 0 v rfl, z0v h.2.2.2.2 (p := ⟨b + 1 + 1 + 1, 0, none⟩) (by show b + 1 + 1 + 1 + 1 ≠ b + 1 + 1 + 1; omega) v⟩
theorem EndT.set1 {w0 W : World} {b g : Nat} {sp C1 : Array Value} {x2 x3 P : Value} {pg : List S89} {l : List S64} (h : EndT w0 b g sp C1 x2 x3 P pg l W) (j : Nat) (v : Value) (C1' : Array Value) (hc : C1.setIfInBounds j v = C1') : EndT w0 b g sp C1' x2 x3 P pg l (W.setCell ⟨b + 1, j, none⟩ v) :=
 h.far _ v ⟨by show b ≤ b + 1; omega, by show b + 1 < b + 5; omega⟩ (h.2.2.1.set1 j v hc)
theorem EndT.set2 {w0 W : World} {b g : Nat} {sp C1 : Array Value} {x2 x3 P : Value} {pg : List S89} {l : List S64} (h : EndT w0 b g sp C1 x2 x3 P pg l W) (v : Value) : EndT w0 b g sp C1 v x3 P pg l (W.setCell ⟨b + 1 + 1, 0, none⟩ v) :=
 h.far _ v ⟨by show b ≤ b + 1 + 1; omega, by show b + 1 + 1 < b + 5; omega⟩ (h.2.2.1.set2 v)
theorem EndT.set3 {w0 W : World} {b g : Nat} {sp C1 : Array Value} {x2 x3 P : Value} {pg : List S89} {l : List S64} (h : EndT w0 b g sp C1 x2 x3 P pg l W) (v : Value) : EndT w0 b g sp C1 x2 v P pg l (W.setCell ⟨b + 1 + 1 + 1, 0, none⟩ v) :=
 h.far _ v ⟨by show b ≤ b + 1 + 1 + 1; omega, by show b + 1 + 1 + 1 < b + 5; omega⟩ (h.2.2.1.set3 v)
theorem z87 {w : World} {b j : Nat} {C : Array Value} {t : TypeId} {v : Value} (h : w.heap[b]? = some (.cells C t (0, 0))) (hc : C.setIfInBounds j v = C) : Below w.heap.size w (w.setCell ⟨b, j, none⟩ v) := by
 refine ⟨rfl, rfl, rfl, by simp, fun k hk => ?_⟩
 by_cases e : k = b
 ·subst e
  exact (z0k h j v hc).trans h.symm
 ·exact Below.heap_setCell w ⟨b, j, none⟩ v k e
theorem z37 {w : World} {b : Nat} {a0 a1 a2 a3 a4 a5 : Value} {t : TypeId} (h : w.heap[b]? = some (.cells #[a0, a1, a2, a3, a4, a5] t (0, 0))) : Below w.heap.size w (w.setCells b 0 [a0, a1, a2, a3, a4, a5]) := by
 have s : ∀ (W : World), Below w.heap.size w W → w.heap.size = W.heap.size → ∀ (j : Nat) (v : Value), (#[a0, a1, a2, a3, a4, a5] : Array Value).setIfInBounds j v = #[a0, a1, a2, a3, a4, a5] → Below w.heap.size w (W.setCell ⟨b, j, none⟩ v) ∧ w.heap.size = (W.setCell ⟨b, j, none⟩ v).heap.size := fun W hb hs j v hc => by
  have hW := z0g h hb
  exact ⟨hb.trans ((z87 hW hc).mono (by omega)), by rw [World.size_setCell]; exact hs⟩
 obtain ⟨b0, s0⟩ := s w (Below.refl _ _) rfl 0 a0 rfl
 obtain ⟨b1, s1⟩ := s _ b0 s0 1 a1 rfl
 obtain ⟨b2, s2⟩ := s _ b1 s1 2 a2 rfl
 obtain ⟨b3, s3⟩ := s _ b2 s2 3 a3 rfl
 obtain ⟨b4, s4⟩ := s _ b3 s3 4 a4 rfl
 exact (s _ b4 s4 5 a5 rfl).1
def EndL (b g : Nat) (PV LV vv tv x2 : Value) (W : World) : Prop := W.cell? ⟨g, 0, none⟩ = some PV ∧ W.cell? ⟨g, 1, none⟩ = some LV ∧ W.cell? ⟨b, 4, none⟩ = some vv ∧ W.cell? ⟨b, 5, none⟩ = some tv ∧ W.cell? ⟨b + 1 + 1, 0, none⟩ = some x2
theorem EndL.below {b g : Nat} {PV LV vv tv x2 : Value} {W W' : World} (h : EndL b g PV LV vv tv x2 W) (hb : Below W.heap.size W W') : EndL b g PV LV vv tv x2 W' :=
 ⟨cellB hb (Nat.le_refl _) h.1, cellB hb (Nat.le_refl _) h.2.1, cellB hb (Nat.le_refl _) h.2.2.1, cellB hb (Nat.le_refl _) h.2.2.2.1, cellB hb (Nat.le_refl _) h.2.2.2.2⟩
theorem EndL.far {b g : Nat} {PV LV vv tv x2 : Value} {W : World} (h : EndL b g PV LV vv tv x2 W) (p : Addr) (v : Value) (h1 : p.block ≠ g) (h2 : p.block ≠ b) (h3 : p.block ≠ b + 1 + 1) : EndL b g PV LV vv tv x2 (W.setCell p v) :=
 ⟨(World.cell?_setCell_other W p _ v (fun e => h1 (by rw [e]))).trans h.1, (World.cell?_setCell_other W p _ v (fun e => h1 (by rw [e]))).trans h.2.1, (World.cell?_setCell_other W p _ v (fun e => h2 (by rw [e]))).trans h.2.2.1, (World.cell?_setCell_other W p _ v (fun e => h2 (by rw [e]))).trans h.2.2.2.1, (World.cell?_setCell_other W p _ v (fun e => h3 (by rw [e]))).trans h.2.2.2.2⟩
theorem EndC.s {W : World} {b : Nat} {sp : Array Value} (h : EndC W b sp) : EndS W b sp #[.slice none 0 0, .slice none 0 0, .slice none 0 0, .slice none 0 0, .int .i64 0, .int .i64 0] (.int .i64 0) (.slice none 0 0) := h
theorem EndT.merge {w0 W : World} {b g : Nat} {sp C1 : Array Value} {x2 x3 P : Value} {pg : List S89} {l : List S64} {A7 : Option Addr} {c7 : Nat} (h : EndT w0 b g sp C1 x2 x3 P pg l W) (hc : W.cell? ⟨g, 1, none⟩ = some (.slice A7 l.length c7)) (hs : smallL l) :
  Calls Tryz.prog 56 #[.slice A7 l.length c7, .slice none 0 0] W fun e w' => ∃ v, e = .returned v ∧ Kd.N k64 64 w' b (fun k => b + 5 ≤ k) v l ∧ Below W.heap.size W w' := by
 obtain ⟨hN, ⟨A, c, h1, h2, h3⟩, hE, hB, hS, hg, hq⟩ := h
 have e : (.slice A l.length c : Value) = .slice A7 l.length c7 := by
  have := (z0a h1 1).symm.trans hc
  simpa using this
 injection e with e1 _ e2
 subst e1 e2
 refine (z6i l [] A c none 0 W (Kd.F_now h3) h2 (Kd.C_nil k64 W) (Nat.le_refl _) hs ⟨by simp, by simp [pagesOf, flat]⟩).mono ?_
 rintro e w' ⟨v, rfl, hv, hb⟩
 rw [z1q] at hv
 exact ⟨v, rfl, Kd.N_mono (Kd.N_lower hv (by omega)) (fun k hk => Nat.le_trans (by omega) (hk : _ ≤ k)), hb⟩
theorem AccX.mono {X X' : Nat → Prop} {w : World} {g : Nat} {P : Value} {l : List S64} (h : AccX X w g P l) (hX : ∀ k, X k → X' k) : AccX X' w g P l := by
 obtain ⟨A, c, h1, h2, h3⟩ := h
 exact ⟨A, c, h1, h2, Kd.F_mono h3 (fun k hk => ⟨hk.1, hX k hk.2⟩)⟩
def EndV (b : Nat) (v : Value) (l : List S64) (W : World) : Prop := Kd.N k64 64 W b (fun k => b + 5 ≤ k) v l
theorem EndV.below {b : Nat} {v : Value} {l : List S64} {W W' : World} (h : EndV b v l W) (hb : Below W.heap.size W W') : EndV b v l W' := Kd.N_below h hb
theorem EndV.far {b : Nat} {v : Value} {l : List S64} {W : World} (h : EndV b v l W) (p : Addr) (u : Value) (hp : p.block < b + 5) : EndV b v l (W.setCell p u) := Kd.N_far h (fun k hk e => by have h1 : b + 5 ≤ k := hk; omega) u
theorem z2i {P : Program} {md : Region.Mode} {ops : Array Oper} {Q : Exit → Act → World → Prop} {S T U : World → Prop} {fuel : Nat} {listed : Array Bool} {a : Act} {W : World} (h : T W) (hu : U W) (hS : S W) (k : ∀ W', T W' → U W' → S W' → wpAnyH P md ops Q S fuel listed a W') : wpAnyH P md ops Q S fuel listed a W := k W h hu hS
theorem z6q (tmps : Array Value) (W : World) (b : Nat) (p0 p1 p2 p3 p4 p5 x2 x3 x4 : Value) (h6 : tmps[6]?.getD undef = .pointer (some ⟨b + 1, 0, none⟩)) (h7 : tmps[7]?.getD undef = .pointer (some ⟨b + 1 + 1, 0, none⟩)) (h8 : tmps[8]?.getD undef = .pointer (some ⟨b + 1 + 1 + 1, 0, none⟩)) (h9 : tmps[9]?.getD undef = .pointer (some ⟨b + 1 + 1 + 1 + 1, 0, none⟩))
  (c10 : W.cell? ⟨b + 1, 0, none⟩ = some p0) (c11 : W.cell? ⟨b + 1, 1, none⟩ = some p1) (c12 : W.cell? ⟨b + 1, 2, none⟩ = some p2) (c13 : W.cell? ⟨b + 1, 3, none⟩ = some p3) (c14 : W.cell? ⟨b + 1, 4, none⟩ = some p4) (c15 : W.cell? ⟨b + 1, 5, none⟩ = some p5)
  (c20 : W.cell? ⟨b + 1 + 1, 0, none⟩ = some x2) (c30 : W.cell? ⟨b + 1 + 1 + 1, 0, none⟩ = some x3) (c40 : W.cell? ⟨b + 1 + 1 + 1 + 1, 0, none⟩ = some x4) : (results Tryz.f15 tmps).run Tryz.prog W = .ok (.tuple #[.agg #[p0, p1, p2, p3, p4, p5], x2, x3, x4]) W := by
 unfold results
 rw [Tryz.results15]
 simp [h6, h7, h8, h9, c10, c11, c12, c13, c14, c15, c20, c30, c40, go_sem]
set_option maxHeartbeats 400000 in
theorem reset44 (b : Nat) (a0 a1 a2 a3 a4 a5 x y : Value) (w : World) (h1 : w.heap[b + 1]? = some (.cells #[a0, a1, a2, a3, a4, a5] 25 (0, 0))) (h2 : w.heap[b + 2]? = some (.cells #[x] 3 (0, 0))) (h3 : w.heap[b + 3]? = some (.cells #[y] 26 (0, 0))) :
  Calls Tryz.prog 44 #[.pointer (some ⟨b + 1, 0, none⟩), .pointer (some ⟨b + 2, 0, none⟩), .pointer (some ⟨b + 3, 0, none⟩)] w fun e w' => e = .returned (.tuple #[]) ∧
   w' = ((w.setCells (b + 1) 0 [.slice none 0 0, .slice none 0 0, .slice none 0 0, .slice none 0 0, .int .i64 0, .int .i64 0]).setCell ⟨b + 2, 0, none⟩ (.int .i64 0)).setCell ⟨b + 3, 0, none⟩ (.slice none 0 0) := by
 have c0 := z0a h1 0
 have c1 := z0a h1 1
 have c2 := z0a h1 2
 have c3 := z0a h1 3
 have c4 := z0a h1 4
 have c5 := z0a h1 5
 have d0 := z0a h2 0
 have e0 := z0a h3 0
 have z0 := z0d h1 0
 have z1 := z0d h1 1
 have z2 := z0d h1 2
 have z3 := z0d h1 3
 have z4 := z0d h1 4
 have z5 := z0d h1 5
 have z6 := z0d h2 0
 have z7 := z0d h3 0
 clear h1 h2 h3
 go_enter Tryz.func44, Tryz.ntmps44
 go_wp2
 go_end0
 exact ⟨rfl, rfl⟩
def first0 : List S64 → List Int
 | [] => []
 | f :: _ => if f.f0 = 0 then f.f1 else []
theorem z3l {f : S64} {t : List S64} (h : f.f0 = 0) : first0 (f :: t) = f.f1 := by rw [first0, if_pos h]
theorem z38 {f : S64} {t : List S64} (h : ¬ f.f0 = 0) : first0 (f :: t) = [] := by rw [first0, if_neg h]
theorem z39 {k : Int} {f : S64} {t : List S64} (h : f.f0 = 0) : keepAll k (f :: t) = keepL k f.f1 t := by rw [keepAll, if_pos h]
theorem z4a {k : Int} {f : S64} {t : List S64} (h : ¬ f.f0 = 0) : keepAll k (f :: t) = f :: t := by rw [keepAll, if_neg h]
theorem form_mono {p q : Int} {l : List S64} (h : formP p l) (hq : p ≤ q) : formP q l :=
 ⟨fun f hf => ⟨(h.1 f hf).1, (h.1 f hf).2.1, (h.1 f hf).2.2.1, fun n hn => ⟨((h.1 f hf).2.2.2.1 n hn).1, by have := ((h.1 f hf).2.2.2.1 n hn).2; omega⟩, (h.1 f hf).2.2.2.2⟩, h.2⟩
theorem z3m {p : Int} {f : S64} {t : List S64} (h : formP p (f :: t)) : (∀ y ∈ t, f.f0 < y.f0) ∧ formP p t := by
 obtain ⟨h1, h2⟩ := h
 rw [List.map_cons, List.pairwise_cons] at h2
 exact ⟨fun y hy => h2.1 _ (List.mem_map_of_mem hy), fun g hg => h1 g (List.mem_cons_of_mem _ hg), h2.2⟩
theorem z40 {p : Int} {l : List S64} (h : formP p l) : (∀ x ∈ first0 l, 2 ≤ x ∧ x ≤ p - 1) ∧ (first0 l).Pairwise (· < ·) := by
 cases l with
 | nil => exact ⟨fun x hx => (by cases hx), List.Pairwise.nil⟩
 | cons f t =>
  by_cases e : f.f0 = 0
  ·rw [z3l e]; exact (h.1 f (List.mem_cons_self)).2.2.2
  ·rw [z38 e]; exact ⟨fun x hx => (by cases hx), List.Pairwise.nil⟩
theorem z88 {p : Int} {f : S64} {t : List S64} (h : formP p (f :: t)) : first0 t = [] := by
 obtain ⟨h1, h2⟩ := z3m h
 have h0 := (h.1 f (List.mem_cons_self)).1
 cases t with
 | nil => rfl
 | cons g t =>
  have := h1 g (List.mem_cons_self)
  exact z38 (by omega)
theorem z4b {p : Int} {f : S64} {t : List S64} (h : formP p (f :: t)) (qs : List Int) : first0 (restL qs t) = qs := by
 unfold restL
 split
 ·next e => rw [z88 h, e]
 ·exact z3l rfl
def TI (n : Nat) (l : List S64) (own : List Int) : Prop := formP 4096 l ∧ smallL l ∧ 2 ≤ n ∧ n ≤ 4096 ∧ (∀ x ∈ first0 l, x < n) ∧ own.Nodup ∧ (∀ x ∈ own, 2 ≤ x ∧ x < n) ∧ ∀ x ∈ own, x ∉ first0 l
theorem z41 {n n' : Nat} {l l' : List S64} {own : List Int} {p : Int} (h : TI n l own) (hs : takeStep l n = some (p, l', n')) : TI n' l' (own ++ [p]) := by
 obtain ⟨h1, h2, h3, h4, h5, h6, h7, h8⟩ := h
 obtain ⟨k1, k2, k3, k4⟩ := z4y hs h1 h2
 rcases z3k hs with ⟨q, qs, t, rfl, rfl, rfl, rfl⟩ | ⟨h0, hm, rfl, rfl, rfl⟩
 ·have e : first0 ((⟨0, p :: qs⟩ : S64) :: t) = p :: qs := z3l rfl
  have hF := z40 h1
  rw [e] at h5 h8 hF
  rw [List.pairwise_cons] at hF
  refine ⟨k1, k2, h3, k4 h4, ?_, ?_, ?_, ?_⟩
  ·rw [z4b h1]; exact fun x hx => h5 x (List.mem_cons_of_mem _ hx)
  ·rw [List.nodup_append]
   refine ⟨h6, (by simp), fun a ha b hb e9 => ?_⟩
   obtain rfl := List.mem_singleton.1 hb
   exact h8 a ha (by rw [e9]; exact List.mem_cons_self)
  ·intro x hx
   rcases List.mem_append.1 hx with hx | hx
   ·exact h7 x hx
   ·obtain rfl := List.mem_singleton.1 hx
    exact ⟨(hF.1 x (List.mem_cons_self)).1, h5 x (List.mem_cons_self)⟩
  ·rw [z4b h1]
   intro x hx
   rcases List.mem_append.1 hx with hx | hx
   ·exact fun hq => h8 x hx (List.mem_cons_of_mem _ hq)
   ·obtain rfl := List.mem_singleton.1 hx
    exact fun hq => absurd (hF.2.1 x hq) (by omega)
 ·have e : first0 l' = [] := by
   cases l' with
   | nil => rfl
   | cons f t =>
    rcases h0 with h0 | h0
    ·cases h0
    ·exact z38 (by simpa [rd_T64] using h0)
  refine ⟨k1, k2, by omega, k4 h4, ?_, ?_, ?_, ?_⟩
  ·rw [e]; intro x hx; cases hx
  ·rw [List.nodup_append]
   refine ⟨h6, (by simp), fun a ha b hb e9 => ?_⟩
   obtain rfl := List.mem_singleton.1 hb
   have := (h7 a ha).2
   omega
  ·intro x hx
   rcases List.mem_append.1 hx with hx | hx
   ·have := h7 x hx; omega
   ·obtain rfl := List.mem_singleton.1 hx; omega
  ·rw [e]; intro x _ hx; cases hx
theorem TI_run {k : Nat} : ∀ {n m : Nat} {l l4 : List S64} {own own4 : List Int}, TI n l own → takeRun k l n own = some (l4, m, own4) → TI m l4 own4 ∧ n ≤ m ∧ (partsOf l4).length ≤ own4.length := by
 induction k with
 | zero => intro n m l l4 own own4 _ h; simp [takeRun] at h
 | succ k ih =>
  intro n m l l4 own own4 hT h
  rw [takeRun] at h
  split at h
  ·next hd =>
   obtain ⟨rfl, rfl, rfl⟩ : l = l4 ∧ n = m ∧ own = own4 := by simpa using h
   exact ⟨hT, Nat.le_refl _, hd⟩
  ·split at h
   ·next p l' n' he =>
    obtain ⟨a, b, c⟩ := ih (z41 hT he) h
    exact ⟨a, Nat.le_trans (z4y he hT.1 hT.2.1).2.2.1 b, c⟩
   ·simp at h
def roundsL (l : List S64) (n : Nat) : Nat := (first0 l).length + (4096 - n)
theorem z6r {n n' : Nat} {l l' : List S64} {p : Int} (h1 : formP 4096 l) (hn : n ≤ 4096) (hs : takeStep l n = some (p, l', n')) : roundsL l' n' < roundsL l n := by
 unfold roundsL
 rcases z3k hs with ⟨q, qs, t, rfl, rfl, rfl, rfl⟩ | ⟨h0, hm, rfl, rfl, rfl⟩
 ·have e : first0 ((⟨0, p :: qs⟩ : S64) :: t) = p :: qs := z3l rfl
  rw [z4b h1, e, List.length_cons]
  omega
 ·omega
theorem TI_num {n : Nat} {l : List S64} {own : List Int} {ver : Int} (h : TI n l own) (hv : 0 ≤ ver ∧ ver ≤ 1099511627776) : numB own ver = true := by
 obtain ⟨h1, h2, h3, h4, h5, h6, h7, h8⟩ := h
 exact decide_eq_true ⟨h6, fun x hx => by have := h7 x hx; omega, hv⟩
theorem listPg_no {l : List S64} {own : List Int} {v : Int} : ∀ p ∈ listPg l own v, p.no ∈ own := by
 intro p hp
 unfold listPg chTo at hp
 obtain ⟨i, hi, rfl⟩ := List.mem_mapIdx.1 hp
 rw [z1y] at hi
 rw [if_pos hi]
 show rd own (i : Int) ∈ own
 rw [z0u own i hi]
 exact List.getElem_mem hi
theorem TI_idx {n : Nat} {l : List S64} {own : List Int} {ver : Int} (h : TI n l own) : ∀ p ∈ listPg l own ver, 0 ≤ p.no ∧ p.no < n := by
 intro p hp
 have := h.2.2.2.2.2.2.1 p.no (listPg_no p hp)
 omega
def endL2 (free gone : List Int) (rest : List S64) (ver : Int) : List S64 := putL 0 free (putL (ver - 1) gone rest)
def endL3 (free gone : List Int) (rest : List S64) (ver : Int) (n : Nat) (shrink : Bool) : List S64 :=
 if shrink then keepAll (tailN (endL2 free gone rest ver) n) (endL2 free gone rest ver) else endL2 free gone rest ver
def endN3 (free gone : List Int) (rest : List S64) (ver : Int) (n : Nat) (shrink : Bool) : Nat :=
 if shrink then (tailN (endL2 free gone rest ver) n).toNat else n
theorem z9a {p k : Int} {l : List S64} (h : formP p l) : formP p (keepAll k l) := by
 cases l with
 | nil => exact h
 | cons f t =>
  by_cases e : f.f0 = 0
  ·rw [z39 e]
   unfold keepL restL
   split
   ·exact (z3m h).2
   ·next hne =>
    have hf := h.1 f (List.mem_cons_self)
    refine ⟨fun g hg => ?_, ?_⟩
    ·rcases List.mem_cons.1 hg with rfl | hg
     ·refine ⟨by show (0 : Int) ≤ 0; omega, by show (0 : Int) ≤ _; omega, hne, fun x hx => hf.2.2.2.1 x (List.mem_filter.1 hx).1, hf.2.2.2.2.filter _⟩
     ·exact h.1 g (List.mem_cons_of_mem _ hg)
    ·rw [List.map_cons, List.pairwise_cons]
     refine ⟨fun a ha => ?_, (z3m h).2.2⟩
     obtain ⟨y, hy, rfl⟩ := List.mem_map.1 ha
     have := (z3m h).1 y hy
     show (0 : Int) < y.f0
     omega
  ·rw [z4a e]; exact h
theorem z9b {k : Int} {l : List S64} (h : smallL l) : smallL (keepAll k l) := by
 cases l with
 | nil => exact h
 | cons f t =>
  by_cases e : f.f0 = 0
  ·rw [z39 e]
   unfold smallL at *
   unfold keepL restL
   rw [z1h] at h
   have := List.length_filter_le (fun x => decide (x < k)) f.f1
   simp only [List.length_cons] at h
   split
   ·omega
   ·rw [z1h]; simp only [List.length_cons]; omega
  ·rw [z4a e]; exact h
theorem z9c {p k : Int} {l : List S64} (h : formP p l) : first0 (keepAll k l) = (first0 l).filter fun x => decide (x < k) := by
 cases l with
 | nil => rfl
 | cons f t =>
  by_cases e : f.f0 = 0
  ·rw [z39 e]
   unfold keepL
   rw [z4b h, z3l e]
  ·rw [z4a e, z38 e]
   rfl
theorem end_TI {free gone : List Int} {rest : List S64} {ver : Int} {n : Nat} {shrink : Bool} (hs : free.length ≤ 1000 ∧ gone.length ≤ 1000 ∧ (pagesOf rest).length ≤ 10000 ∧ rest.length ≤ 10000) (hn : 2 ≤ n ∧ n ≤ 4096) (h : validB n (endL2 free gone rest ver) = true) :
  TI (endN3 free gone rest ver n shrink) (endL3 free gone rest ver n shrink) [] ∧ endN3 free gone rest ver n shrink ≤ n := by
 have hV := of_decide_eq_true h
 have hf4 := form_mono hV.2.1 (show (n : Int) ≤ 4096 by omega)
 have hsm : smallL (endL2 free gone rest ver) := by
  unfold endL2
  have q1 := z2h (ver - 1) gone rest
  have q2 := z2h 0 free (putL (ver - 1) gone rest)
  exact ⟨by omega, by omega⟩
 have h0 := (z40 hV.2.1).1
 have ht := z4x _ n hV.2.1 (by omega)
 unfold endN3 endL3
 cases shrink with
 | false =>
  simp only [Bool.false_eq_true, if_false]
  exact ⟨⟨hf4, hsm, hn.1, hn.2, fun x hx => by have := h0 x hx; omega, List.nodup_nil, (fun x hx => by cases hx), (fun x hx => by cases hx)⟩, Nat.le_refl _⟩
 | true =>
  simp only [if_true]
  obtain ⟨m, hm⟩ : ∃ m : Nat, tailN (endL2 free gone rest ver) n = (m : Int) := ⟨(tailN (endL2 free gone rest ver) n).toNat, by omega⟩
  rw [hm] at ht ⊢
  rw [Int.toNat_natCast]
  refine ⟨⟨z9a hf4, z9b hsm, by omega, by omega, ?_, List.nodup_nil, (fun x hx => by cases hx), (fun x hx => by cases hx)⟩, by omega⟩
  rw [z9c hV.2.1]
  intro x hx
  exact of_decide_eq_true (List.mem_filter.1 hx).2
theorem inc_len : ∀ (l : List Int) (a b : Int), l.Pairwise (· < ·) → (∀ x ∈ l, a ≤ x ∧ x ≤ b) → l.length ≤ (b - a + 1).toNat := by
 intro l
 induction l with
 | nil => intro a b _ _; simp
 | cons x t ih =>
  intro a b hp hm
  rw [List.pairwise_cons] at hp
  have hx := hm x (List.mem_cons_self)
  have := ih (x + 1) b hp.2 (fun y hy => by have h1 := hp.1 y hy; have h2 := hm y (List.mem_cons_of_mem _ hy); omega)
  rw [List.length_cons]
  omega
theorem z6s {l : List S64} {n : Nat} (h : formP 4096 l) : roundsL l n ≤ 8192 := by
 have h1 := z40 h
 have := inc_len _ 2 (4096 - 1) h1.2 h1.1
 unfold roundsL
 omega
theorem z6t {k : Nat} {l : List S64} {n : Nat} {own : List Int} (hd : (partsOf l).length ≤ own.length) : takeRun (k + 1) l n own = some (l, n, own) := by
 rw [takeRun, if_pos hd]
theorem z6u {k : Nat} {l l' : List S64} {n n' : Nat} {own : List Int} {p : Int} (hd : ¬ (partsOf l).length ≤ own.length) (hs : takeStep l n = some (p, l', n')) : takeRun (k + 1) l n own = takeRun k l' n' (own ++ [p]) := by
 rw [takeRun, if_neg hd, hs]
theorem z6v {k : Nat} {l : List S64} {n : Nat} {own : List Int} (hd : ¬ (partsOf l).length ≤ own.length) (hs : takeStep l n = none) : takeRun (k + 1) l n own = none := by
 rw [takeRun, if_neg hd, hs]
theorem z6w {l : List S64} {n : Nat} (h : takeStep l n = none) (hf : fullL l) : (l = [] ∨ (rd_T64 l 0).f0 ≠ 0) ∧ ¬ n < 4096 := by
 rcases l with _ | ⟨⟨v, _ | ⟨q, qs⟩⟩, t⟩
 ·rw [takeStep] at h
  split at h
  ·simp at h
  ·next hm => exact ⟨.inl rfl, hm⟩
 ·exact absurd rfl (hf ⟨v, []⟩ (List.mem_cons_self))
 ·rw [takeStep] at h
  split at h
  ·simp at h
  ·next hv =>
   split at h
   ·simp at h
   ·next hm => exact ⟨.inr hv, hm⟩
def endP3 (pg : List S89) (free gone : List Int) (rest : List S64) (ver : Int) (shrink : Bool) : List S89 :=
 if shrink then (zeroAll free pg).take (endN3 free gone rest ver pg.length true) else zeroAll free pg
def endX (pg : List S89) (free gone : List Int) (rest : List S64) (ver : Int) (shrink : Bool) : Except Int (List S89 × Int × List S64) :=
 if (1 ≤ ver ∧ ver ≤ 1099511627776) ∧ 2 ≤ pg.length ∧ pg.length ≤ 4096 then
  if (validB pg.length rest = true ∧ incB pg.length free = true ∧ incB pg.length gone = true) ∧ validB pg.length (endL2 free gone rest ver) = true then
   match takeRun 1000000 (endL3 free gone rest ver pg.length shrink) (endN3 free gone rest ver pg.length shrink) [] with
   | none => .error 7
   | some (l, m, own) => .ok (layAll (listPg l own ver) (endP3 pg free gone rest ver shrink ++ List.replicate (m - endN3 free gone rest ver pg.length shrink) z89), own.headD 0, l)
  else .error 2
 else .error 1
theorem z3n {pg : List S89} {free gone : List Int} {rest : List S64} {ver : Int} {shrink : Bool} (h : ¬ ((1 ≤ ver ∧ ver ≤ 1099511627776) ∧ 2 ≤ pg.length ∧ pg.length ≤ 4096)) : endX pg free gone rest ver shrink = .error 1 := by
 unfold endX; rw [if_neg h]
theorem z10 {pg : List S89} {free gone : List Int} {rest : List S64} {ver : Int} {shrink : Bool} (h : (1 ≤ ver ∧ ver ≤ 1099511627776) ∧ 2 ≤ pg.length ∧ pg.length ≤ 4096) (h2 : ¬ ((validB pg.length rest = true ∧ incB pg.length free = true ∧ incB pg.length gone = true) ∧ validB pg.length (endL2 free gone rest ver) = true)) : endX pg free gone rest ver shrink = .error 2 := by
 unfold endX; rw [if_pos h, if_neg h2]
theorem endX_7 {pg : List S89} {free gone : List Int} {rest : List S64} {ver : Int} {shrink : Bool} (h : (1 ≤ ver ∧ ver ≤ 1099511627776) ∧ 2 ≤ pg.length ∧ pg.length ≤ 4096) (h2 : (validB pg.length rest = true ∧ incB pg.length free = true ∧ incB pg.length gone = true) ∧ validB pg.length (endL2 free gone rest ver) = true)
  (h3 : takeRun 1000000 (endL3 free gone rest ver pg.length shrink) (endN3 free gone rest ver pg.length shrink) [] = none) : endX pg free gone rest ver shrink = .error 7 := by
 unfold endX; rw [if_pos h, if_pos h2, h3]
theorem endX_0 {pg : List S89} {free gone : List Int} {rest : List S64} {ver : Int} {shrink : Bool} (h : (1 ≤ ver ∧ ver ≤ 1099511627776) ∧ 2 ≤ pg.length ∧ pg.length ≤ 4096) (h2 : (validB pg.length rest = true ∧ incB pg.length free = true ∧ incB pg.length gone = true) ∧ validB pg.length (endL2 free gone rest ver) = true)
  {l : List S64} {m : Nat} {own : List Int} (h3 : takeRun 1000000 (endL3 free gone rest ver pg.length shrink) (endN3 free gone rest ver pg.length shrink) [] = some (l, m, own)) :
  endX pg free gone rest ver shrink = .ok (layAll (listPg l own ver) (endP3 pg free gone rest ver shrink ++ List.replicate (m - endN3 free gone rest ver pg.length shrink) z89), own.headD 0, l) := by
 unfold endX; rw [if_pos h, if_pos h2, h3]
def EndA (w : World) (ver tree : Int) (r : Except Int (List S89 × Int × List S64)) (e : Ending) (w' : World) : Prop :=
 match r with
 | .error x => e = .returned (.tuple #[.agg #[.slice none 0 0, .slice none 0 0, .slice none 0 0, .slice none 0 0, .int .i64 0, .int .i64 0], .int .i64 0, .slice none 0 0, .int .i64 x]) ∧ Below w.heap.size w w'
 | .ok (pg, first, l) => EndR w ver tree first pg l e w'
theorem take_none {w0 : World} {b g : Nat} {sp : Array Value} {pg : List S89} {l : List S64} {X : Nat → Prop} (w : World) (h : EndM w0 b g sp pg l X w) (hst : takeStep l pg.length = none) (hf : fullL l) (hl : pg.length ≤ 1000000) :
  Calls Tryz.prog 54 #[.pointer (some ⟨g, 0, none⟩)] w fun e w' => e = .panicked [failE 7] ∧ w = w' := by
 obtain ⟨P, hN, hA, hE, hB, hS, hq⟩ := h
 obtain ⟨h0, hm⟩ := z6w hst hf
 exact take_full l g P pg b w hA.acc h0 (Kd.N_mono hN (fun k hk => hk.1)) hm hl
end Go.Proofs.YtpnhelcemodnmaaGreat
namespace Go.Proofs.YtpnhelcemodnmaaGreat.PA
open Go.RowKit Go.Proofs.YtpnhelcemodnmaaGreatW.PrintWords Go.Proofs.YtpnhelcemodnmaaGreatW.PrintLast Go.Proofs.YtpnhelcemodnmaaGreatW.PrintMore
attribute [local go_sem] z1c z1d z1e z1f z1i z1j z1k z1l
set_option linter.unusedVariables false
set_option linter.unusedSimpArgs false
mutual
def understorylaw12_short.l0 : Nat → List (List (S64)) → Int → Option (Bool)
 | 0, _, _ => none
 | k + 1, x0, x3 => if x3 < (x0.length : Int) then (understorylaw12_short.l1 k x0 x3 0 0) else (some true)
def understorylaw12_short.l1 : Nat → List (List (S64)) → Int → Int → Int → Option (Bool)
 | 0, _, _, _, _ => none
 | k + 1, x0, x3, x4, x5 => if 0 ≤ x3 then (if x3 < (x0.length : Int) then (if x5 < ((rd_L3 x0 x3).length : Int) then (if x5 ≤ 200 then (if 0 ≤ x5 then (understorylaw12_short.l1 k x0 x3 (wrap64 (x4 + (((rd_T64 (rd_L3 x0 x3) x5).f1).length : Int))) (wrap64 (x5 + 1))) else (none)) else (if x4 > 900 then (some false) else (if ((rd_L3 x0 x3).length : Int) > 200 then (some false) else (understorylaw12_short.l0 k x0 (wrap64 (x3 + 1)))))) else (if x4 > 900 then (some false) else (if ((rd_L3 x0 x3).length : Int) > 200 then (some false) else (understorylaw12_short.l0 k x0 (wrap64 (x3 + 1)))))) else (none)) else (none)
end
def understorylaw12_short.f (k : Nat) (l0 : List (List (S64))) : Option (Bool) := understorylaw12_short.l0 k l0 0
theorem understorylaw12_short.mono_l : ∀ k, (∀ y0 y1, LeO (understorylaw12_short.l0 k y0 y1) (understorylaw12_short.l0 (k + 1) y0 y1)) ∧ (∀ y0 y1 y2 y3, LeO (understorylaw12_short.l1 k y0 y1 y2 y3) (understorylaw12_short.l1 (k + 1) y0 y1 y2 y3))
 | 0 => ⟨fun _ _ r h => by simp [understorylaw12_short.l0] at h, fun _ _ _ _ r h => by simp [understorylaw12_short.l1] at h⟩
 | k + 1 => by
  obtain ⟨ih0, ih1⟩ := understorylaw12_short.mono_l k
  refine ⟨?_, ?_⟩
  ·intro y0 y1
   unfold understorylaw12_short.l0
   repeat' first
   | (with_reducible exact ih0 _ _)
   | (with_reducible exact ih1 _ _ _ _)
   | (with_reducible exact LeO.refl _)
   | (with_reducible exact LeO.none _)
   | (with_reducible refine LeO.ite ?_ ?_)
   | (with_reducible refine LeO.bind ?_ (fun _ => ?_))
   | exact ih0 _ _
   | exact ih1 _ _ _ _
   | exact LeO.none _
   | refine LeO.ite ?_ ?_
   | refine LeO.bind ?_ (fun _ => ?_)
  ·intro y0 y1 y2 y3
   unfold understorylaw12_short.l1
   repeat' first
   | (with_reducible exact ih0 _ _)
   | (with_reducible exact ih1 _ _ _ _)
   | (with_reducible exact LeO.refl _)
   | (with_reducible exact LeO.none _)
   | (with_reducible refine LeO.ite ?_ ?_)
   | (with_reducible refine LeO.bind ?_ (fun _ => ?_))
   | exact ih0 _ _
   | exact ih1 _ _ _ _
   | exact LeO.none _
   | refine LeO.ite ?_ ?_
   | refine LeO.bind ?_ (fun _ => ?_)
theorem understorylaw12_short.mono : ∀ a0 k, LeO (understorylaw12_short.f k a0) (understorylaw12_short.f (k + 1) a0) := by
 intro a0 k
 obtain ⟨ih0, ih1⟩ := understorylaw12_short.mono_l k
 unfold understorylaw12_short.f
 repeat' first
   | (with_reducible exact ih0 _ _)
   | (with_reducible exact ih1 _ _ _ _)
   | (with_reducible exact LeO.refl _)
   | (with_reducible exact LeO.none _)
   | (with_reducible refine LeO.ite ?_ ?_)
   | (with_reducible refine LeO.bind ?_ (fun _ => ?_))
   | exact ih0 _ _
   | exact ih1 _ _ _ _
   | exact LeO.none _
   | refine LeO.ite ?_ ?_
   | refine LeO.bind ?_ (fun _ => ?_)
set_option maxHeartbeats 8000000 in
set_option maxRecDepth 100000 in
theorem understorylaw12_short.calls (k : Nat) (A0 : Option Addr) (c0 : Nat) (l0 : List (List (S64))) (r : Bool) (w : World) (hr0 : Kd.C (Kd.slice 64 k64) w A0 l0.length l0) (hc0 : l0.length ≤ c0) (h : understorylaw12_short.f k l0 = some r) :
  Calls Tryz.prog 14 #[.slice A0 l0.length c0] w fun e w' => e = .returned (.bool r) ∧ Drawn0 w w' := by
 have HR0 := Aside0.mk hr0
 have HC0 := Aside0.mk hc0
 clear hr0 hc0
 have H : (understorylaw12_short.l0 k l0 0) = some r := h
 clear h
 have H' := Aside0.mk H
 clear H
 go_enter Tryz.func14, Tryz.ntmps14
 go_wp2
 go_loopg [3] k (fun kq v3 w' => ∃ (x3_1 : Int), v3 = .int .i64 x3_1 ∧ Aside0 (understorylaw12_short.l0 kq l0 x3_1 = some r) ∧ Aside0 (kq ≤ k) ∧ Drawn0 w w')
 case atStart => exact ⟨(0), (by first | rfl | (simp; done) | (simp [*]; done)), H', ⟨Nat.le_refl _⟩, by repeat (first | exact Drawn0.refl _ | apply Drawn0.step)⟩
 case round =>
  clear H'
  try clear c1
  obtain ⟨x3_1, rfl, HA, HK1, ⟨m1, rfl⟩⟩ := hrel
  cases gk with
  | zero => exact absurd HA.out (by simp [understorylaw12_short.l0])
  | succ k1 =>
   have H := HA.out
   clear HA
   simp only [understorylaw12_short.l0] at H
   by_cases c2 : x3_1 < (l0.length : Int)
   ·rw [if_pos c2] at H
    have c2b0 : decide (x3_1 < (l0.length : Int)) = true := decide_eq_true c2
    clear c2
    have H' := Aside0.mk H
    clear H
    go_wp2
    go_loopg [4, 5] k1 (fun kq v4 v5 w' => ∃ (x4_2 : Int) (x5_2 : Int), v4 = .int .i64 x4_2 ∧ v5 = .int .i64 x5_2 ∧ Aside0 (understorylaw12_short.l1 kq l0 x3_1 x4_2 x5_2 = some r) ∧ Aside0 (kq ≤ k1) ∧ Drawn0 w w')
    case atStart => exact ⟨(0), (0), (by first | rfl | (simp; done) | (simp [*]; done)), (by first | rfl | (simp; done) | (simp [*]; done)), H', ⟨Nat.le_refl _⟩, by repeat (first | exact Drawn0.refl _ | apply Drawn0.step)⟩
    case round =>
     clear H'
     try clear c1
     try clear c2
     try clear c2b0
     try clear p2
     obtain ⟨x4_2, x5_2, rfl, rfl, HA, HK2, ⟨m2, rfl⟩⟩ := hrel
     cases gk with
     | zero => exact absurd HA.out (by simp [understorylaw12_short.l1])
     | succ k2 =>
      have H := HA.out
      clear HA
      simp only [understorylaw12_short.l1] at H
      by_cases c3 : 0 ≤ x3_1
      ·rw [if_pos c3] at H
       have c3b0 : decide (0 ≤ x3_1) = true := decide_eq_true c3
       clear c3
       by_cases c4 : x3_1 < (l0.length : Int)
       ·rw [if_pos c4] at H
        have c4b0 : decide (x3_1 < (l0.length : Int)) = true := decide_eq_true c4
        clear c4
        by_cases c5 : x5_2 < ((rd_L3 l0 x3_1).length : Int)
        ·rw [if_pos c5] at H
         have c5b0 : decide (x5_2 < ((rd_L3 l0 x3_1).length : Int)) = true := decide_eq_true c5
         clear c5
         by_cases c6 : x5_2 ≤ 200
         ·rw [if_pos c6] at H
          have c6b0 : decide (x5_2 ≤ 200) = true := decide_eq_true c6
          clear c6
          by_cases c7 : 0 ≤ x5_2
          ·rw [if_pos c7] at H
           have c7b0 : decide (0 ≤ x5_2) = true := decide_eq_true c7
           clear c7
           have H' := Aside0.mk H
           clear H
           have p290 : 0 ≤ (x3_1 : Int) := of_decide_eq_true (by first | (with_reducible assumption) | assumption)
           have q290 : x3_1 < (l0.length : Int) := of_decide_eq_true (by first | (with_reducible assumption) | assumption)
           obtain ⟨ad290, A290_0, c290_0, e290, hx290_0, hl290_0, hi290_0⟩ := z1g HR0.out x3_1 p290 q290
           cases e290
           have HR290_0 := Aside0.mk hi290_0
           have HC290_0 := Aside0.mk hl290_0
           clear hi290_0 hl290_0
           replace p290 := eq_true p290
           replace q290 := eq_true q290
           have p291 : 0 ≤ (x3_1 : Int) := of_decide_eq_true (by first | (with_reducible assumption) | assumption)
           have q291 : x3_1 < (l0.length : Int) := of_decide_eq_true (by first | (with_reducible assumption) | assumption)
           obtain ⟨ad291, A291_0, c291_0, e291, hx291_0, hl291_0, hi291_0⟩ := z1g HR0.out x3_1 p291 q291
           obtain rfl : ad290 = ad291 := (by injection e291)
           have HR291_0 := Aside0.mk hi291_0
           have HC291_0 := Aside0.mk hl291_0
           clear hi291_0 hl291_0
           replace p291 := eq_true p291
           replace q291 := eq_true q291
           have ea_ := Option.some.inj (hx290_0.symm.trans hx291_0)
           injection ea_ with ea_ en_ ec_
           subst ea_
           subst ec_
           clear en_
           have p292 : 0 ≤ (x5_2 : Int) := of_decide_eq_true (by first | (with_reducible assumption) | assumption)
           have q292 : x5_2 < ((rd_L3 l0 x3_1).length : Int) := of_decide_eq_true (by first | (with_reducible assumption) | assumption)
           obtain ⟨ad292, A292_1, c292_1, e292, hx292_0, hx292_1, hl292_1, hi292_1⟩ := z0n HR291_0.out x5_2 p292 q292
           cases e292
           have HR292_1 := Aside0.mk hi292_1
           have HC292_1 := Aside0.mk hl292_1
           clear hi292_1 hl292_1
           replace p292 := eq_true p292
           replace q292 := eq_true q292
           go_wp2
           go_roundg k2
           case measure => have := HK1.out; have := HK2.out; omega
           case rel => exact ⟨(wrap64 (x4_2 + (((rd_T64 (rd_L3 l0 x3_1) x5_2).f1).length : Int))), (wrap64 (x5_2 + 1)), (by first | rfl | (simp; done) | (simp [*]; done)), (by first | rfl | (simp; done) | (simp [*]; done)), H', ⟨by have := HK1.out; have := HK2.out; omega⟩, by repeat (first | exact Drawn0.refl _ | apply Drawn0.step)⟩
          ·rw [if_neg c7] at H
           exact absurd H (by simp)
         ·rw [if_neg c6] at H
          have c6b0 : decide (x5_2 ≤ 200) = false := decide_eq_false c6
          clear c6
          by_cases c8 : x4_2 > 900
          ·rw [if_pos c8] at H
           have c8b0 : decide (900 < x4_2) = true := decide_eq_true c8
           clear c8
           obtain rfl := Option.some.inj H
           have p290 : 0 ≤ (x3_1 : Int) := of_decide_eq_true (by first | (with_reducible assumption) | assumption)
           have q290 : x3_1 < (l0.length : Int) := of_decide_eq_true (by first | (with_reducible assumption) | assumption)
           obtain ⟨ad290, A290_0, c290_0, e290, hx290_0, hl290_0, hi290_0⟩ := z1g HR0.out x3_1 p290 q290
           cases e290
           have HR290_0 := Aside0.mk hi290_0
           have HC290_0 := Aside0.mk hl290_0
           clear hi290_0 hl290_0
           replace p290 := eq_true p290
           replace q290 := eq_true q290
           go_wp2
           go_ret
           exact ⟨by first | rfl | (simp; done) | (simp [*]; done), by repeat (first | exact Drawn0.refl _ | apply Drawn0.step)⟩
          ·rw [if_neg c8] at H
           have c8b0 : decide (900 < x4_2) = false := decide_eq_false c8
           clear c8
           by_cases c9 : ((rd_L3 l0 x3_1).length : Int) > 200
           ·rw [if_pos c9] at H
            have c9b0 : decide (200 < ((rd_L3 l0 x3_1).length : Int)) = true := decide_eq_true c9
            have c9b1 : decide (200 < (rd_L3 l0 x3_1).length) = true := decide_eq_true (by omega)
            clear c9
            obtain rfl := Option.some.inj H
            have p290 : 0 ≤ (x3_1 : Int) := of_decide_eq_true (by first | (with_reducible assumption) | assumption)
            have q290 : x3_1 < (l0.length : Int) := of_decide_eq_true (by first | (with_reducible assumption) | assumption)
            obtain ⟨ad290, A290_0, c290_0, e290, hx290_0, hl290_0, hi290_0⟩ := z1g HR0.out x3_1 p290 q290
            cases e290
            have HR290_0 := Aside0.mk hi290_0
            have HC290_0 := Aside0.mk hl290_0
            clear hi290_0 hl290_0
            replace p290 := eq_true p290
            replace q290 := eq_true q290
            have p293 : 0 ≤ (x3_1 : Int) := of_decide_eq_true (by first | (with_reducible assumption) | assumption)
            have q293 : x3_1 < (l0.length : Int) := of_decide_eq_true (by first | (with_reducible assumption) | assumption)
            obtain ⟨ad293, A293_0, c293_0, e293, hx293_0, hl293_0, hi293_0⟩ := z1g HR0.out x3_1 p293 q293
            obtain rfl : ad290 = ad293 := (by injection e293)
            have HR293_0 := Aside0.mk hi293_0
            have HC293_0 := Aside0.mk hl293_0
            clear hi293_0 hl293_0
            replace p293 := eq_true p293
            replace q293 := eq_true q293
            have ea_ := Option.some.inj (hx290_0.symm.trans hx293_0)
            injection ea_ with ea_ en_ ec_
            subst ea_
            subst ec_
            clear en_
            go_wp2
            go_ret
            exact ⟨by first | rfl | (simp; done) | (simp [*]; done), by repeat (first | exact Drawn0.refl _ | apply Drawn0.step)⟩
           ·rw [if_neg c9] at H
            have c9b0 : decide (200 < ((rd_L3 l0 x3_1).length : Int)) = false := decide_eq_false c9
            have c9b1 : decide (200 < (rd_L3 l0 x3_1).length) = false := decide_eq_false (by omega)
            clear c9
            have H' := Aside0.mk H
            clear H
            have p290 : 0 ≤ (x3_1 : Int) := of_decide_eq_true (by first | (with_reducible assumption) | assumption)
            have q290 : x3_1 < (l0.length : Int) := of_decide_eq_true (by first | (with_reducible assumption) | assumption)
            obtain ⟨ad290, A290_0, c290_0, e290, hx290_0, hl290_0, hi290_0⟩ := z1g HR0.out x3_1 p290 q290
            cases e290
            have HR290_0 := Aside0.mk hi290_0
            have HC290_0 := Aside0.mk hl290_0
            clear hi290_0 hl290_0
            replace p290 := eq_true p290
            replace q290 := eq_true q290
            have p293 : 0 ≤ (x3_1 : Int) := of_decide_eq_true (by first | (with_reducible assumption) | assumption)
            have q293 : x3_1 < (l0.length : Int) := of_decide_eq_true (by first | (with_reducible assumption) | assumption)
            obtain ⟨ad293, A293_0, c293_0, e293, hx293_0, hl293_0, hi293_0⟩ := z1g HR0.out x3_1 p293 q293
            obtain rfl : ad290 = ad293 := (by injection e293)
            have HR293_0 := Aside0.mk hi293_0
            have HC293_0 := Aside0.mk hl293_0
            clear hi293_0 hl293_0
            replace p293 := eq_true p293
            replace q293 := eq_true q293
            have ea_ := Option.some.inj (hx290_0.symm.trans hx293_0)
            injection ea_ with ea_ en_ ec_
            subst ea_
            subst ec_
            clear en_
            go_wp2
            go_roundg k2
            case measure => have := HK1.out; have := HK2.out; omega
            case rel => exact ⟨(wrap64 (x3_1 + 1)), (by first | rfl | (simp; done) | (simp [*]; done)), H', ⟨by have := HK1.out; have := HK2.out; omega⟩, by repeat (first | exact Drawn0.refl _ | apply Drawn0.step)⟩
        ·rw [if_neg c5] at H
         have c5b0 : decide (x5_2 < ((rd_L3 l0 x3_1).length : Int)) = false := decide_eq_false c5
         clear c5
         by_cases c10 : x4_2 > 900
         ·rw [if_pos c10] at H
          have c10b0 : decide (900 < x4_2) = true := decide_eq_true c10
          clear c10
          obtain rfl := Option.some.inj H
          have p290 : 0 ≤ (x3_1 : Int) := of_decide_eq_true (by first | (with_reducible assumption) | assumption)
          have q290 : x3_1 < (l0.length : Int) := of_decide_eq_true (by first | (with_reducible assumption) | assumption)
          obtain ⟨ad290, A290_0, c290_0, e290, hx290_0, hl290_0, hi290_0⟩ := z1g HR0.out x3_1 p290 q290
          cases e290
          have HR290_0 := Aside0.mk hi290_0
          have HC290_0 := Aside0.mk hl290_0
          clear hi290_0 hl290_0
          replace p290 := eq_true p290
          replace q290 := eq_true q290
          go_wp2
          go_ret
          exact ⟨by first | rfl | (simp; done) | (simp [*]; done), by repeat (first | exact Drawn0.refl _ | apply Drawn0.step)⟩
         ·rw [if_neg c10] at H
          have c10b0 : decide (900 < x4_2) = false := decide_eq_false c10
          clear c10
          by_cases c11 : ((rd_L3 l0 x3_1).length : Int) > 200
          ·rw [if_pos c11] at H
           have c11b0 : decide (200 < ((rd_L3 l0 x3_1).length : Int)) = true := decide_eq_true c11
           have c11b1 : decide (200 < (rd_L3 l0 x3_1).length) = true := decide_eq_true (by omega)
           clear c11
           obtain rfl := Option.some.inj H
           have p290 : 0 ≤ (x3_1 : Int) := of_decide_eq_true (by first | (with_reducible assumption) | assumption)
           have q290 : x3_1 < (l0.length : Int) := of_decide_eq_true (by first | (with_reducible assumption) | assumption)
           obtain ⟨ad290, A290_0, c290_0, e290, hx290_0, hl290_0, hi290_0⟩ := z1g HR0.out x3_1 p290 q290
           cases e290
           have HR290_0 := Aside0.mk hi290_0
           have HC290_0 := Aside0.mk hl290_0
           clear hi290_0 hl290_0
           replace p290 := eq_true p290
           replace q290 := eq_true q290
           have p294 : 0 ≤ (x3_1 : Int) := of_decide_eq_true (by first | (with_reducible assumption) | assumption)
           have q294 : x3_1 < (l0.length : Int) := of_decide_eq_true (by first | (with_reducible assumption) | assumption)
           obtain ⟨ad294, A294_0, c294_0, e294, hx294_0, hl294_0, hi294_0⟩ := z1g HR0.out x3_1 p294 q294
           obtain rfl : ad290 = ad294 := (by injection e294)
           have HR294_0 := Aside0.mk hi294_0
           have HC294_0 := Aside0.mk hl294_0
           clear hi294_0 hl294_0
           replace p294 := eq_true p294
           replace q294 := eq_true q294
           have ea_ := Option.some.inj (hx290_0.symm.trans hx294_0)
           injection ea_ with ea_ en_ ec_
           subst ea_
           subst ec_
           clear en_
           go_wp2
           go_ret
           exact ⟨by first | rfl | (simp; done) | (simp [*]; done), by repeat (first | exact Drawn0.refl _ | apply Drawn0.step)⟩
          ·rw [if_neg c11] at H
           have c11b0 : decide (200 < ((rd_L3 l0 x3_1).length : Int)) = false := decide_eq_false c11
           have c11b1 : decide (200 < (rd_L3 l0 x3_1).length) = false := decide_eq_false (by omega)
           clear c11
           have H' := Aside0.mk H
           clear H
           have p290 : 0 ≤ (x3_1 : Int) := of_decide_eq_true (by first | (with_reducible assumption) | assumption)
           have q290 : x3_1 < (l0.length : Int) := of_decide_eq_true (by first | (with_reducible assumption) | assumption)
           obtain ⟨ad290, A290_0, c290_0, e290, hx290_0, hl290_0, hi290_0⟩ := z1g HR0.out x3_1 p290 q290
           cases e290
           have HR290_0 := Aside0.mk hi290_0
           have HC290_0 := Aside0.mk hl290_0
           clear hi290_0 hl290_0
           replace p290 := eq_true p290
           replace q290 := eq_true q290
           have p294 : 0 ≤ (x3_1 : Int) := of_decide_eq_true (by first | (with_reducible assumption) | assumption)
           have q294 : x3_1 < (l0.length : Int) := of_decide_eq_true (by first | (with_reducible assumption) | assumption)
           obtain ⟨ad294, A294_0, c294_0, e294, hx294_0, hl294_0, hi294_0⟩ := z1g HR0.out x3_1 p294 q294
           obtain rfl : ad290 = ad294 := (by injection e294)
           have HR294_0 := Aside0.mk hi294_0
           have HC294_0 := Aside0.mk hl294_0
           clear hi294_0 hl294_0
           replace p294 := eq_true p294
           replace q294 := eq_true q294
           have ea_ := Option.some.inj (hx290_0.symm.trans hx294_0)
           injection ea_ with ea_ en_ ec_
           subst ea_
           subst ec_
           clear en_
           go_wp2
           go_roundg k2
           case measure => have := HK1.out; have := HK2.out; omega
           case rel => exact ⟨(wrap64 (x3_1 + 1)), (by first | rfl | (simp; done) | (simp [*]; done)), H', ⟨by have := HK1.out; have := HK2.out; omega⟩, by repeat (first | exact Drawn0.refl _ | apply Drawn0.step)⟩
       ·rw [if_neg c4] at H
        exact absurd H (by simp)
      ·rw [if_neg c3] at H
       exact absurd H (by simp)
   ·rw [if_neg c2] at H
    have c2b0 : decide (x3_1 < (l0.length : Int)) = false := decide_eq_false c2
    clear c2
    obtain rfl := Option.some.inj H
    go_wp2
    go_ret
    exact ⟨by first | rfl | (simp; done) | (simp [*]; done), by repeat (first | exact Drawn0.refl _ | apply Drawn0.step)⟩
def understoryref12_in.l0 : Nat → List Int → Int → Int → Option (Bool)
 | 0, _, _, _ => none
 | k + 1, x0, x1, x5 => if x5 < (x0.length : Int) then (if 0 ≤ x5 then (if (rd x0 x5) = x1 then (some true) else (understoryref12_in.l0 k x0 x1 (wrap64 (x5 + 1)))) else (none)) else (some false)
def understoryref12_in.f (k : Nat) (l0 : List Int) (a1 : Int) : Option (Bool) := understoryref12_in.l0 k l0 a1 0
theorem understoryref12_in.mono_l : ∀ k, (∀ y0 y1 y2, LeO (understoryref12_in.l0 k y0 y1 y2) (understoryref12_in.l0 (k + 1) y0 y1 y2))
 | 0 => fun _ _ _ r h => by simp [understoryref12_in.l0] at h
 | k + 1 => by
  have ih0 := understoryref12_in.mono_l k
  ·intro y0 y1 y2
   unfold understoryref12_in.l0
   repeat' first
   | (with_reducible exact ih0 _ _ _)
   | (with_reducible exact LeO.refl _)
   | (with_reducible exact LeO.none _)
   | (with_reducible refine LeO.ite ?_ ?_)
   | (with_reducible refine LeO.bind ?_ (fun _ => ?_))
   | exact ih0 _ _ _
   | exact LeO.none _
   | refine LeO.ite ?_ ?_
   | refine LeO.bind ?_ (fun _ => ?_)
theorem understoryref12_in.mono : ∀ a0 a1 k, LeO (understoryref12_in.f k a0 a1) (understoryref12_in.f (k + 1) a0 a1) := by
 intro a0 a1 k
 have ih0 := understoryref12_in.mono_l k
 unfold understoryref12_in.f
 repeat' first
   | (with_reducible exact ih0 _ _ _)
   | (with_reducible exact LeO.refl _)
   | (with_reducible exact LeO.none _)
   | (with_reducible refine LeO.ite ?_ ?_)
   | (with_reducible refine LeO.bind ?_ (fun _ => ?_))
   | exact ih0 _ _ _
   | exact LeO.none _
   | refine LeO.ite ?_ ?_
   | refine LeO.bind ?_ (fun _ => ?_)
set_option maxHeartbeats 8000000 in
set_option maxRecDepth 100000 in
theorem understoryref12_in.calls (k : Nat) (A0 : Option Addr) (c0 : Nat) (l0 : List Int) (a1 : Int) (r : Bool) (w : World) (hr0 : Kd.C (Kd.int .i64) w A0 l0.length l0) (hc0 : l0.length ≤ c0) (h : understoryref12_in.f k l0 a1 = some r) :
  Calls Tryz.prog 67 #[.slice A0 l0.length c0, .int .i64 a1] w fun e w' => e = .returned (.bool r) ∧ Drawn0 w w' := by
 have HR0 := Aside0.mk hr0
 have HC0 := Aside0.mk hc0
 clear hr0 hc0
 have H : (understoryref12_in.l0 k l0 a1 0) = some r := h
 clear h
 have H' := Aside0.mk H
 clear H
 go_enter Tryz.func67, Tryz.ntmps67
 go_wp2
 go_loopg [5] k (fun kq v5 w' => ∃ (x5_1 : Int), v5 = .int .i64 x5_1 ∧ Aside0 (understoryref12_in.l0 kq l0 a1 x5_1 = some r) ∧ Aside0 (kq ≤ k) ∧ Drawn0 w w')
 case atStart => exact ⟨(0), (by first | rfl | (simp; done) | (simp [*]; done)), H', ⟨Nat.le_refl _⟩, by repeat (first | exact Drawn0.refl _ | apply Drawn0.step)⟩
 case round =>
  clear H'
  try clear p2
  obtain ⟨x5_1, rfl, HA, HK1, ⟨m1, rfl⟩⟩ := hrel
  cases gk with
  | zero => exact absurd HA.out (by simp [understoryref12_in.l0])
  | succ k1 =>
   have H := HA.out
   clear HA
   simp only [understoryref12_in.l0] at H
   by_cases c3 : x5_1 < (l0.length : Int)
   ·rw [if_pos c3] at H
    have c3b0 : decide (x5_1 < (l0.length : Int)) = true := decide_eq_true c3
    clear c3
    by_cases c4 : 0 ≤ x5_1
    ·rw [if_pos c4] at H
     have c4b0 : decide (0 ≤ x5_1) = true := decide_eq_true c4
     clear c4
     by_cases c5 : (rd l0 x5_1) = a1
     ·rw [if_pos c5] at H
      have c5b0 : ((rd l0 x5_1) == a1) = true := beq_iff_eq.mpr c5
      have c5b1 : ((rd l0 x5_1) != a1) = false := bne_eq_false_iff_eq.mpr c5
      clear c5
      obtain rfl := Option.some.inj H
      have p295 : 0 ≤ (x5_1 : Int) := of_decide_eq_true (by first | (with_reducible assumption) | assumption)
      have q295 : x5_1 < (l0.length : Int) := of_decide_eq_true (by first | (with_reducible assumption) | assumption)
      obtain ⟨ad295, e295, hx295_0⟩ := Kd.at_int HR0.out x5_1 p295 q295
      cases e295
      replace p295 := eq_true p295
      replace q295 := eq_true q295
      go_wp2
      go_ret
      exact ⟨by first | rfl | (simp; done) | (simp [*]; done), by repeat (first | exact Drawn0.refl _ | apply Drawn0.step)⟩
     ·rw [if_neg c5] at H
      have c5b0 : ((rd l0 x5_1) == a1) = false := beq_eq_false_iff_ne.mpr c5
      have c5b1 : ((rd l0 x5_1) != a1) = true := bne_iff_ne.mpr c5
      have H' := Aside0.mk H
      clear H
      have p295 : 0 ≤ (x5_1 : Int) := of_decide_eq_true (by first | (with_reducible assumption) | assumption)
      have q295 : x5_1 < (l0.length : Int) := of_decide_eq_true (by first | (with_reducible assumption) | assumption)
      obtain ⟨ad295, e295, hx295_0⟩ := Kd.at_int HR0.out x5_1 p295 q295
      cases e295
      replace p295 := eq_true p295
      replace q295 := eq_true q295
      go_wp2
      go_roundg k1
      case measure => have := HK1.out; omega
      case rel => exact ⟨(wrap64 (x5_1 + 1)), (by first | rfl | (simp; done) | (simp [*]; done)), H', ⟨by have := HK1.out; omega⟩, by repeat (first | exact Drawn0.refl _ | apply Drawn0.step)⟩
    ·rw [if_neg c4] at H
     exact absurd H (by simp)
   ·rw [if_neg c3] at H
    have c3b0 : decide (x5_1 < (l0.length : Int)) = false := decide_eq_false c3
    clear c3
    obtain rfl := Option.some.inj H
    go_wp2
    go_ret
    exact ⟨by first | rfl | (simp; done) | (simp [*]; done), by repeat (first | exact Drawn0.refl _ | apply Drawn0.step)⟩
mutual
def understoryref12_Tail.j0 : Nat → List (S64) → Int → Bool → Option (Int)
 | 0, _, _, _ => none
 | k + 1, x0, x1, x14 => if x14 = true then (some x1) else (understoryref12_Tail.l0 k x0 x1)
def understoryref12_Tail.l0 : Nat → List (S64) → Int → Option (Int)
 | 0, _, _ => none
 | k + 1, x0, x1 => if x1 > 2 then (if 0 < (x0.length : Int) then ((understoryref12_in.f k ((rd_T64 x0 0).f1) (wrap64 (x1 - 1))).bind fun t298 => (if t298 = true then (understoryref12_Tail.l0 k x0 (wrap64 (x1 - 1))) else (some x1))) else (none)) else (some x1)
end
def understoryref12_Tail.f (k : Nat) (l0 : List (S64)) (a1 : Int) : Option (Int) := if (l0.length : Int) = 0 then (understoryref12_Tail.j0 k l0 a1 true) else (if 0 < (l0.length : Int) then (understoryref12_Tail.j0 k l0 a1 (((rd_T64 l0 0).f0) != 0)) else (none))
theorem understoryref12_Tail.mono_l : ∀ k, (∀ y0 y1 y2, LeO (understoryref12_Tail.j0 k y0 y1 y2) (understoryref12_Tail.j0 (k + 1) y0 y1 y2)) ∧ (∀ y0 y1, LeO (understoryref12_Tail.l0 k y0 y1) (understoryref12_Tail.l0 (k + 1) y0 y1))
 | 0 => ⟨fun _ _ _ r h => by simp [understoryref12_Tail.j0] at h, fun _ _ r h => by simp [understoryref12_Tail.l0] at h⟩
 | k + 1 => by
  obtain ⟨ih0, ih1⟩ := understoryref12_Tail.mono_l k
  refine ⟨?_, ?_⟩
  ·intro y0 y1 y2
   unfold understoryref12_Tail.j0
   repeat' first
   | (with_reducible exact ih0 _ _ _)
   | (with_reducible exact ih1 _ _)
   | (with_reducible exact understoryref12_in.mono _ _ _)
   | (with_reducible exact LeO.refl _)
   | (with_reducible exact LeO.none _)
   | (with_reducible refine LeO.ite ?_ ?_)
   | (with_reducible refine LeO.bind ?_ (fun _ => ?_))
   | exact ih0 _ _ _
   | exact ih1 _ _
   | exact understoryref12_in.mono _ _ _
   | exact LeO.none _
   | refine LeO.ite ?_ ?_
   | refine LeO.bind ?_ (fun _ => ?_)
  ·intro y0 y1
   unfold understoryref12_Tail.l0
   repeat' first
   | (with_reducible exact ih0 _ _ _)
   | (with_reducible exact ih1 _ _)
   | (with_reducible exact understoryref12_in.mono _ _ _)
   | (with_reducible exact LeO.refl _)
   | (with_reducible exact LeO.none _)
   | (with_reducible refine LeO.ite ?_ ?_)
   | (with_reducible refine LeO.bind ?_ (fun _ => ?_))
   | exact ih0 _ _ _
   | exact ih1 _ _
   | exact understoryref12_in.mono _ _ _
   | exact LeO.none _
   | refine LeO.ite ?_ ?_
   | refine LeO.bind ?_ (fun _ => ?_)
theorem understoryref12_Tail.mono : ∀ a0 a1 k, LeO (understoryref12_Tail.f k a0 a1) (understoryref12_Tail.f (k + 1) a0 a1) := by
 intro a0 a1 k
 obtain ⟨ih0, ih1⟩ := understoryref12_Tail.mono_l k
 unfold understoryref12_Tail.f
 repeat' first
   | (with_reducible exact ih0 _ _ _)
   | (with_reducible exact ih1 _ _)
   | (with_reducible exact understoryref12_in.mono _ _ _)
   | (with_reducible exact LeO.refl _)
   | (with_reducible exact LeO.none _)
   | (with_reducible refine LeO.ite ?_ ?_)
   | (with_reducible refine LeO.bind ?_ (fun _ => ?_))
   | exact ih0 _ _ _
   | exact ih1 _ _
   | exact understoryref12_in.mono _ _ _
   | exact LeO.none _
   | refine LeO.ite ?_ ?_
   | refine LeO.bind ?_ (fun _ => ?_)
set_option maxHeartbeats 8000000 in
set_option maxRecDepth 100000 in
theorem understoryref12_Tail.calls (k : Nat) (A0 : Option Addr) (c0 : Nat) (l0 : List (S64)) (a1 : Int) (r : Int) (w : World) (hr0 : Kd.C k64 w A0 l0.length l0) (hc0 : l0.length ≤ c0) (h : understoryref12_Tail.f k l0 a1 = some r) :
  Calls Tryz.prog 21 #[.slice A0 l0.length c0, .int .i64 a1] w fun e w' => e = .returned (.int .i64 r) ∧ Drawn0 w w' := by
 have HR0 := Aside0.mk hr0
 have HC0 := Aside0.mk hc0
 clear hr0 hc0
 have H : (if (l0.length : Int) = 0 then (understoryref12_Tail.j0 k l0 a1 true) else (if 0 < (l0.length : Int) then (understoryref12_Tail.j0 k l0 a1 (((rd_T64 l0 0).f0) != 0)) else (none))) = some r := h
 clear h
 have HC3 := Aside0.mk H
 clear H
 go_enter Tryz.func21, Tryz.ntmps21
 go_upto_region 1 with (fail)
 go_cut [14] (fun v14 wc => ∃ (kq : Nat) (x14_2 : Bool), v14 = .bool x14_2 ∧ Aside0 (understoryref12_Tail.j0 kq l0 a1 x14_2 = some r) ∧ Aside0 (kq ≤ k) ∧ Drawn0 w wc)
 case first =>
  have H := HC3.out
  clear HC3
  by_cases c4 : (l0.length : Int) = 0
  ·rw [if_pos c4] at H
   have c4b0 : ((l0.length : Int) == 0) = true := beq_iff_eq.mpr c4
   have c4b1 : ((l0.length : Int) != 0) = false := bne_eq_false_iff_eq.mpr c4
   clear c4
   (first | rw [c4b0] | (simp only [z0o, z0t]; rw [c4b0]) | skip)
   have H' := Aside0.mk H
   clear H
   go_wp2
   go_meet
   case rel => exact ⟨_, (true), (by first | rfl | (simp; done) | (simp [*]; done)), H', ⟨by first | omega | exact Nat.le_refl _⟩, by repeat (first | exact Drawn0.refl _ | apply Drawn0.step)⟩
  ·rw [if_neg c4] at H
   have c4b0 : ((l0.length : Int) == 0) = false := beq_eq_false_iff_ne.mpr c4
   have c4b1 : ((l0.length : Int) != 0) = true := bne_iff_ne.mpr c4
   have c4b2 : ¬ (l0 = []) := fun h_ => c4 (by rw [h_]; rfl)
   (first | rw [c4b0] | (simp only [z0o, z0t]; rw [c4b0]) | skip)
   by_cases c5 : 0 < (l0.length : Int)
   ·rw [if_pos c5] at H
    have c5b0 : decide (0 < (l0.length : Int)) = true := decide_eq_true c5
    have c5b1 : decide (0 < l0.length) = true := decide_eq_true (by omega)
    clear c5
    have H' := Aside0.mk H
    clear H
    have p296 : 0 ≤ (0 : Int) := (by omega)
    have q296 : 0 < (l0.length : Int) := of_decide_eq_true (by first | (with_reducible assumption) | assumption)
    obtain ⟨ad296, A296_1, c296_1, e296, hx296_0, hx296_1, hl296_1, hi296_1⟩ := z0n HR0.out 0 p296 q296
    cases e296
    have qi296 : (0 < l0.length) = True := eq_true (by omega)
    (try rw [show ((0 : Int)).toNat = 0 from rfl] at hx296_0)
    (try rw [show 0 * 2 = 0 from rfl] at hx296_0)
    (try rw [Addr.add_zero'] at hx296_0)
    (try rw [show ((0 : Int)).toNat = 0 from rfl] at hx296_1)
    (try rw [show 0 * 2 = 0 from rfl] at hx296_1)
    (try rw [Addr.add_zero'] at hx296_1)
    have HR296_1 := Aside0.mk hi296_1
    have HC296_1 := Aside0.mk hl296_1
    clear hi296_1 hl296_1
    replace p296 := eq_true p296
    replace q296 := eq_true q296
    go_wp2
    go_meet
    case rel => exact ⟨_, ((((rd_T64 l0 0).f0) != 0)), (by first | rfl | (simp; done) | (simp [*]; done)), H', ⟨by first | omega | exact Nat.le_refl _⟩, by repeat (first | exact Drawn0.refl _ | apply Drawn0.step)⟩
   ·rw [if_neg c5] at H
    exact absurd H (by simp)
 case rest =>
  clear HC3
  try clear c2
  try clear p2
  try clear q2
  try clear hx2
  try clear qi2
  try clear c4
  try clear c4b0
  try clear c4b1
  try clear c4b2
  try clear c5
  try clear c5b0
  try clear c5b1
  try clear hx296_0
  try clear hx296_1
  try clear p296
  try clear q296
  obtain ⟨kq, x14_2, rfl, HA, HJ2, ⟨mc2, rfl⟩⟩ := hcut
  cases kq with
  | zero => exact absurd HA.out (by simp [understoryref12_Tail.j0])
  | succ kj2 =>
   have H := HA.out
   clear HA
   simp only [understoryref12_Tail.j0] at H
   by_cases c6 : x14_2 = true
   ·subst c6
    have H1 : (some a1) = some r := by rw [if_pos rfl] at H; exact H
    clear H
    have H := H1
    clear H1
    obtain rfl := Option.some.inj H
    go_wp2
    go_ret
    exact ⟨by first | rfl | (simp; done) | (simp [*]; done), by repeat (first | exact Drawn0.refl _ | apply Drawn0.step)⟩
   ·replace c6 := Bool.eq_false_iff.mpr c6
    subst c6
    have H1 : (understoryref12_Tail.l0 kj2 l0 a1) = some r := by rw [if_neg (show ¬ (false = true) by decide)] at H; exact H
    clear H
    have H := H1
    clear H1
    have H' := Aside0.mk H
    clear H
    go_wp2
    go_loopg [1] kj2 (fun kq v1 w' => ∃ (x1_2 : Int), v1 = .int .i64 x1_2 ∧ Aside0 (understoryref12_Tail.l0 kq l0 x1_2 = some r) ∧ Aside0 (kq ≤ kj2) ∧ Drawn0 w w')
    case atStart => exact ⟨(a1), (by first | rfl | (simp; done) | (simp [*]; done)), H', ⟨Nat.le_refl _⟩, by repeat (first | exact Drawn0.refl _ | apply Drawn0.step)⟩
    case round =>
     clear H'
     try clear c2
     try clear p2
     try clear q2
     try clear hx2
     try clear qi2
     try clear c4
     try clear c4b0
     try clear c4b1
     try clear c4b2
     try clear c5
     try clear c5b0
     try clear c5b1
     try clear c6
     try clear hx296_0
     try clear hx296_1
     try clear p2
     try clear p296
     try clear q2
     try clear q296
     obtain ⟨x1_2, rfl, HA, HK2, ⟨m2, rfl⟩⟩ := hrel
     cases gk with
     | zero => exact absurd HA.out (by simp [understoryref12_Tail.l0])
     | succ k2 =>
      have H := HA.out
      clear HA
      simp only [understoryref12_Tail.l0] at H
      by_cases c7 : x1_2 > 2
      ·rw [if_pos c7] at H
       have c7b0 : decide (2 < x1_2) = true := decide_eq_true c7
       clear c7
       by_cases c8 : 0 < (l0.length : Int)
       ·rw [if_pos c8] at H
        have c8b0 : decide (0 < (l0.length : Int)) = true := decide_eq_true c8
        have c8b1 : decide (0 < l0.length) = true := decide_eq_true (by omega)
        clear c8
        replace H := Option.bind_eq_some_iff.mp H
        obtain ⟨t298, A90, H⟩ := H
        replace H : (if t298 = true then (understoryref12_Tail.l0 k2 l0 (wrap64 (x1_2 - 1))) else (some x1_2)) = some r := H
        have A9 := Aside0.mk A90
        clear A90
        by_cases c10 : t298 = true
        ·subst c10
         have H1 : (understoryref12_Tail.l0 k2 l0 (wrap64 (x1_2 - 1))) = some r := by rw [if_pos rfl] at H; exact H
         clear H
         have H := H1
         clear H1
         have H' := Aside0.mk H
         clear H
         have p297 : 0 ≤ (0 : Int) := (by omega)
         have q297 : 0 < (l0.length : Int) := of_decide_eq_true (by first | (with_reducible assumption) | assumption)
         obtain ⟨ad297, A297_1, c297_1, e297, hx297_0, hx297_1, hl297_1, hi297_1⟩ := z0n HR0.out 0 p297 q297
         cases e297
         have qi297 : (0 < l0.length) = True := eq_true (by omega)
         (try rw [show ((0 : Int)).toNat = 0 from rfl] at hx297_0)
         (try rw [show 0 * 2 = 0 from rfl] at hx297_0)
         (try rw [Addr.add_zero'] at hx297_0)
         (try rw [show ((0 : Int)).toNat = 0 from rfl] at hx297_1)
         (try rw [show 0 * 2 = 0 from rfl] at hx297_1)
         (try rw [Addr.add_zero'] at hx297_1)
         have HR297_1 := Aside0.mk hi297_1
         have HC297_1 := Aside0.mk hl297_1
         clear hi297_1 hl297_1
         replace p297 := eq_true p297
         replace q297 := eq_true q297
         go_wp2_with (first | (go_at_call 67; (with_reducible refine (understoryref12_in.calls k2 _ _ ((rd_T64 l0 0).f1) (wrap64 (x1_2 - 1)) true _ ?side1 ?side2 A9.out).mono ?_); (case side1 => repeat (first | exact HR297_1.out | (with_reducible refine Kd.C_alloc ?_ _) | (with_reducible refine Kd.C_drewN ?_ _) | (with_reducible refine Kd.C_drew ?_))); (case side2 => exact HC297_1.out); rintro e w' ⟨rfl, ⟨nd, rfl⟩⟩))
         go_roundg k2
         case measure => have := HJ2.out; have := HK2.out; omega
         case rel => exact ⟨(wrap64 (x1_2 - 1)), (by first | rfl | (simp; done) | (simp [*]; done)), H', ⟨by have := HJ2.out; have := HK2.out; omega⟩, by repeat (first | exact Drawn0.refl _ | apply Drawn0.step)⟩
        ·replace c10 := Bool.eq_false_iff.mpr c10
         subst c10
         have H1 : (some x1_2) = some r := by rw [if_neg (show ¬ (false = true) by decide)] at H; exact H
         clear H
         have H := H1
         clear H1
         obtain rfl := Option.some.inj H
         have p297 : 0 ≤ (0 : Int) := (by omega)
         have q297 : 0 < (l0.length : Int) := of_decide_eq_true (by first | (with_reducible assumption) | assumption)
         obtain ⟨ad297, A297_1, c297_1, e297, hx297_0, hx297_1, hl297_1, hi297_1⟩ := z0n HR0.out 0 p297 q297
         cases e297
         have qi297 : (0 < l0.length) = True := eq_true (by omega)
         (try rw [show ((0 : Int)).toNat = 0 from rfl] at hx297_0)
         (try rw [show 0 * 2 = 0 from rfl] at hx297_0)
         (try rw [Addr.add_zero'] at hx297_0)
         (try rw [show ((0 : Int)).toNat = 0 from rfl] at hx297_1)
         (try rw [show 0 * 2 = 0 from rfl] at hx297_1)
         (try rw [Addr.add_zero'] at hx297_1)
         have HR297_1 := Aside0.mk hi297_1
         have HC297_1 := Aside0.mk hl297_1
         clear hi297_1 hl297_1
         replace p297 := eq_true p297
         replace q297 := eq_true q297
         go_wp2_with (first | (go_at_call 67; (with_reducible refine (understoryref12_in.calls k2 _ _ ((rd_T64 l0 0).f1) (wrap64 (x1_2 - 1)) false _ ?side1 ?side2 A9.out).mono ?_); (case side1 => repeat (first | exact HR297_1.out | (with_reducible refine Kd.C_alloc ?_ _) | (with_reducible refine Kd.C_drewN ?_ _) | (with_reducible refine Kd.C_drew ?_))); (case side2 => exact HC297_1.out); rintro e w' ⟨rfl, ⟨nd, rfl⟩⟩))
         go_ret
         exact ⟨by first | rfl | (simp; done) | (simp [*]; done), by repeat (first | exact Drawn0.refl _ | apply Drawn0.step)⟩
       ·rw [if_neg c8] at H
        exact absurd H (by simp)
      ·rw [if_neg c7] at H
       have c7b0 : decide (2 < x1_2) = false := decide_eq_false c7
       clear c7
       obtain rfl := Option.some.inj H
       go_wp2
       go_ret
       exact ⟨by first | rfl | (simp; done) | (simp [*]; done), by repeat (first | exact Drawn0.refl _ | apply Drawn0.step)⟩
def understoryref12_size.f (a0 : Int) : Option (Bool) := if a0 ≥ 2 then (some (decide (a0 ≤ 4096))) else (some false)
set_option maxHeartbeats 8000000 in
set_option maxRecDepth 100000 in
theorem understoryref12_size.calls (a0 : Int) (r : Bool) (w : World) (h : understoryref12_size.f a0 = some r) :
  Calls Tryz.prog 57 #[.int .i64 a0] w fun e w' => e = .returned (.bool r) ∧ Drawn0 w w' := by
 have H : (if a0 ≥ 2 then (some (decide (a0 ≤ 4096))) else (some false)) = some r := h
 clear h
 by_cases c2 : a0 ≥ 2
 ·rw [if_pos c2] at H
  have c2b0 : decide (2 ≤ a0) = true := decide_eq_true c2
  clear c2
  obtain rfl := Option.some.inj H
  go_enter Tryz.func57, Tryz.ntmps57
  go_wp2
  go_ret
  exact ⟨by first | rfl | (simp; done) | (simp [*]; done), by repeat (first | exact Drawn0.refl _ | apply Drawn0.step)⟩
 ·rw [if_neg c2] at H
  have c2b0 : decide (2 ≤ a0) = false := decide_eq_false c2
  clear c2
  obtain rfl := Option.some.inj H
  go_enter Tryz.func57, Tryz.ntmps57
  go_wp2
  go_ret
  exact ⟨by first | rfl | (simp; done) | (simp [*]; done), by repeat (first | exact Drawn0.refl _ | apply Drawn0.step)⟩
end Go.Proofs.YtpnhelcemodnmaaGreat.PA
namespace Go.Proofs.YtpnhelcemodnmaaGreat
open Go.RowKit Go.Shelf Go.Proofs.YtpnhelcemodnmaaGreatW.PrintWords Go.Proofs.YtpnhelcemodnmaaGreatW.PrintLast Go.Proofs.YtpnhelcemodnmaaGreatW.PrintMore PA
set_option linter.unusedVariables false
set_option linter.unusedSimpArgs false
attribute [local go_sem] Oper.semAt_some
def Met (w : World) (g p : Nat) (S : List Int) : Prop := ∃ cs, w.heap[g]? = some (.cells cs 4 (0, 0)) ∧ ∀ j, j < p → cs[j]? = some (.bool (setOf S j))
theorem Met.cell {w : World} {g p : Nat} {S : List Int} (h : Met w g p S) (n : Nat) (hn : n < p) : w.cell? ⟨g, n, none⟩ = some (.bool (setOf S n)) := by
 obtain ⟨cs, h1, h3⟩ := h
 exact (z0a h1 n).trans (h3 n hn)
theorem Met.free {w : World} {g p : Nat} {S : List Int} (h : Met w g p S) (n : Nat) : w.frozen? ⟨g, n, none⟩ = false := by
 obtain ⟨cs, h1, h3⟩ := h
 exact z0d h1 n
theorem Met.lt {w : World} {g p : Nat} {S : List Int} (h : Met w g p S) : g < w.heap.size := by
 obtain ⟨cs, h1, h3⟩ := h
 exact z0w h1
theorem Met.kept {w w1 : World} {g p : Nat} {S : List Int} (h : Met w g p S) (e : w1.heap[g]? = w.heap[g]?) : Met w1 g p S := by
 obtain ⟨cs, h1, h2⟩ := h
 exact ⟨cs, e.trans h1, h2⟩
theorem Met.add {w : World} {g p : Nat} {S : List Int} (h : Met w g p S) (n : Nat) (hn : n < p) : Met (w.setCell ⟨g, n, none⟩ (.bool true)) g p (S ++ [(n : Int)]) := by
 obtain ⟨cs, h1, h3⟩ := h
 refine ⟨cs.setIfInBounds n (.bool true), z1a h1 n _, fun j hj => ?_⟩
 have hs : n < cs.size := (Array.getElem?_eq_some_iff.1 (h3 n hn)).1
 rw [z52]
 unfold addB
 by_cases e : j = n
 ·subst e; rw [if_pos rfl]; simp [hs]
 ·rw [if_neg e, Array.getElem?_setIfInBounds_ne (Ne.symm e)]; exact h3 j hj
def okHead (l : List S64) (i : Nat) : Prop := (0 ≤ (rd_T64 l i).f0 ∧ (rd_T64 l i).f0 ≤ 1099511627776) ∧ (∀ j, i = j + 1 → (rd_T64 l j).f0 < (rd_T64 l i).f0) ∧ (rd_T64 l i).f1 ≠ []
def okIn (p : Int) (S g : List Int) (q : Nat) : Prop := ((2 ≤ rd g q ∧ rd g q < p) ∧ rd g q ∉ S) ∧ ∀ j, q = j + 1 → rd g j < rd g q
theorem okAt_iff (p : Int) (l : List S64) (i : Nat) : okAt p l i ↔ okHead l i ∧ incP p (rd_T64 l i).f1 := by
 unfold okAt okHead
 constructor
 ·exact fun h => ⟨⟨h.1, h.2.1, h.2.2.1⟩, h.2.2.2⟩
 ·exact fun h => ⟨h.1.1, h.1.2.1, h.1.2.2, h.2⟩
theorem okIn_step {p : Int} {S g : List Int} {q : Nat} (h : q < g.length) : okIn p (S ++ g.take q) g q ∧ incP p (g.take q) ∧ (S ++ g.take q).Nodup ↔ incP p (g.take (q + 1)) ∧ (S ++ g.take (q + 1)).Nodup := by
 rw [z3b p g q h, show S ++ g.take (q + 1) = (S ++ g.take q) ++ [g[q]] by rw [List.take_succ_eq_append_getElem h, List.append_assoc], List.nodup_append (l₂ := [g[q]])]
 unfold okIn
 rw [z3x g q h]
 constructor
 ·rintro ⟨⟨⟨h1, h2⟩, h3⟩, h4, h5⟩
  exact ⟨⟨h4, ⟨h1.1, by omega⟩, fun j hj hl => by have := h3 j hj; rwa [z3x g j hl] at this⟩, h5, by simp, fun a ha b hb e => h2 (by rw [List.mem_singleton] at hb; rw [← hb, ← e]; exact ha)⟩
 ·rintro ⟨⟨h4, h1, h3⟩, h5, _, h6⟩
  exact ⟨⟨⟨⟨h1.1, by omega⟩, fun hm => h6 _ hm _ (List.mem_singleton.2 rfl) rfl⟩, fun j hj => by have hl : j < g.length := (by omega); have := h3 j hj hl; rwa [z3x g j hl]⟩, h4, h5⟩
theorem valid_no {p : Int} {l : List S64} {i : Nat} (h : i < l.length) (hn : ¬ (incP p (rd_T64 l i).f1 ∧ (pagesOf (l.take i) ++ (rd_T64 l i).f1).Nodup)) : validB p l = false := by
 refine decide_eq_false fun hv => hn ⟨((z1u p l i h).1 (z3d p l (i + 1) hv.2.1)).2.2.2.2, ?_⟩
 have e := z2d l i h
 have h6 : pagesOf l = pagesOf (l.take (i + 1)) ++ pagesOf (l.drop (i + 1)) := by rw [← z0y, List.take_append_drop]
 have h7 := hv.2.2
 rw [h6, e, z0y, z02] at h7
 exact (List.nodup_append.1 h7).1
theorem valid_no2 {p : Int} {l : List S64} {i q : Nat} (h : i < l.length) (hn : ¬ (incP p ((rd_T64 l i).f1.take q) ∧ (pagesOf (l.take i) ++ (rd_T64 l i).f1.take q).Nodup)) : validB p l = false :=
 valid_no h fun hh => hn ⟨z2o p _ _ hh.1, hh.2.sublist (List.Sublist.append_left (List.take_sublist _ _) _)⟩
set_option maxRecDepth 100000 in
set_option maxHeartbeats 1000000 in
theorem is_walk (l : List S64) (p : Nat) (A : Option Addr) (c : Nat) (w : World) (hC : k64.C w A l.length l) (hc : l.length ≤ c) (hp : 2 ≤ p ∧ p ≤ 4096) :
  Calls Tryz.prog 58 #[.slice A l.length c, .int .i64 (p : Int)] w fun e w' => e = .returned (.bool (validB p l)) ∧ Below w.heap.size w w' := by
 have hlm := Kd.C_max hC
 have HC := Aside0.mk hC
 have HP := Aside0.mk hp
 have hp2 := hp.1
 have hp4 := hp.2
 clear hp hC
 go_enter Tryz.func58, Tryz.ntmps58
 go_upto_region 3 with ((with_reducible refine z01 (N := 11) rfl ?_); refine Kd.R_make Kd.bool (w0 := w) w.heap.size 4 rfl (N := 11) rfl 123 _ _ rfl (p : Int) rfl rfl Tryz.underlying123 (.bool false) 1 info4 rfl (by decide) (by omega) false (ok := fun _ => True) (okp := fun _ => True) rfl (fun _ hk => hk) trivial (by omega) (by omega) (Below.refl _ _) (Nat.le_refl _) ?_; intro v5 w5 ho5 hb5 hg5 hn5; have hrl : (List.replicate (p : Int).toNat false).length = p := (by simp); obtain ⟨g, mc, hv5, hbg, hgs, cells, hcells⟩ := Kd.R_form ho5 (by rw [hrl]; omega); rw [hrl] at hv5; subst hv5)
 have HM5 : Aside0 (Met w5 g p []) := ⟨cells, hcells, fun j hj => by
  have h2 := (Kd.R_celln false ho5 (j : Int) (by omega) (by omega)).1
  rw [Int.toNat_natCast, z0a hcells j] at h2
  rw [h2]
  simp [rdOf, hj, setOf]⟩
 have HB5 := Aside0.mk hb5
 clear hb5 ho5 hg5 hn5 hcells hrl
 go_loopw [6] (fun i wr => ∃ k : Nat, k ≤ l.length ∧ i = .int .i64 k ∧ Hid (formP p (l.take k)) ∧ Hid ((pagesOf (l.take k)).Nodup) ∧ Aside0 (Met wr g p (pagesOf (l.take k))) ∧ Aside0 (Below w.heap.size w wr))
  (fun i _ => l.length - (intOf i).toNat)
 case atStart => exact ⟨0, Nat.zero_le _, rfl, Lib.hid ⟨by simp, by simp⟩, Lib.hid (by simp [pagesOf, flat]), ⟨by simpa [pagesOf, flat] using HM5.out⟩, HB5⟩
 case round =>
  clear HM5 HB5
  obtain ⟨k, hk, rfl, HF, HND, HM, HB⟩ := hrel
  by_cases hlt : k < l.length
  ·obtain ⟨ad, A1, c1, rfl, hx0, hx1, hl1, hC1⟩ := z0n HC.out (k : Int) (by omega) (by omega)
   rw [Int.toNat_natCast] at hx0 hx1
   replace hx0 := cellB HB.out (Nat.le_refl _) hx0
   replace hx1 := cellB HB.out (Nat.le_refl _) hx1
   have hpv : ∀ j, k = j + 1 → wr.cell? (ad.add (j * 2)) = some (.int .i64 (rd_T64 l (j : Int)).f0) := fun j hj => by
    obtain ⟨ad2, A2, c2, e2, hy0, _⟩ := z0n HC.out (j : Int) (by omega) (by omega)
    obtain rfl : ad = ad2 := by injection e2
    rw [Int.toNat_natCast] at hy0
    exact cellB HB.out (Nat.le_refl _) hy0
   have HOF := Lib.hid (fun hh => (z1u p l k hlt).2 ⟨HF.out, hh⟩ : okAt p l k → formP p (l.take (k + 1)))
   have HON := Lib.hid (z5z p l k hlt)
   have HVN := Aside0.mk (fun q => valid_no2 (p := (p : Int)) (q := q) hlt)
   have HPT := Lib.hid (show pagesOf (l.take (k + 1)) = pagesOf (l.take k) ++ (rd_T64 l k).f1 by rw [z2d l k hlt, z0y, z02])
   have HIF := Lib.hid (okAt_iff p l k)
   have HDF : Hid (okHead l k ↔ (0 ≤ (rd_T64 l k).f0 ∧ (rd_T64 l k).f0 ≤ 1099511627776) ∧ (∀ j, k = j + 1 → (rd_T64 l j).f0 < (rd_T64 l k).f0) ∧ (rd_T64 l k).f1 ≠ []) := Lib.hid Iff.rfl
   obtain ⟨H, hH⟩ : ∃ H, okHead l k = H := ⟨_, rfl⟩
   obtain ⟨T, hT⟩ : ∃ T, rd_T64 l (k : Int) = T := ⟨_, rfl⟩
   obtain ⟨S, hS⟩ : ∃ S, pagesOf (l.take k) = S := ⟨_, rfl⟩
   rw [hT] at hx0 hx1 hl1 hC1 HPT HIF HDF HVN
   rw [hH] at HIF HDF
   rw [hS] at HPT HM HND HVN
   obtain ⟨v, xs⟩ := T
   dsimp only at hx0 hx1 hl1 hC1
   replace HDF : Hid (H ↔ (0 ≤ v ∧ v ≤ 1099511627776) ∧ (∀ j : Nat, k = j + 1 → (rd_T64 l (j : Int)).f0 < v) ∧ xs ≠ []) := HDF
   replace HIF : Hid (okAt p l k ↔ H ∧ incP p xs) := HIF
   replace HPT : Hid (pagesOf (l.take (k + 1)) = S ++ xs) := HPT
   replace HVN : Aside0 (∀ q : Nat, ¬ (incP p (xs.take q) ∧ (S ++ xs.take q).Nodup) → validB p l = false) := HVN
   have HCX := Aside0.mk hC1
   have HL1 := Aside0.mk hl1
   clear hH hT hS hl1 hC1 HF
   go_upto_region 6 with (fail)
   have hbk := z0l wr (.cells #[.int .i64 v, .slice A1 xs.length c1] 64)
   have hb1 := z0i wr (.cells #[.int .i64 v, .slice A1 xs.length c1] 64)
   have hm1 := HM.out.lt
   obtain ⟨B, hBe⟩ : ∃ B, wr.heap.size = B := ⟨_, rfl⟩
   obtain ⟨W0, hW0⟩ : ∃ W0, wr.alloc (.cells #[.int .i64 v, .slice A1 xs.length c1] 64) = W0 := ⟨_, rfl⟩
   rw [hW0] at hbk hb1 ⊢
   rw [hBe] at hbk hm1 ⊢
   have HBK : Aside0 (W0.heap[B]? = some (.cells #[.int .i64 v, .slice A1 xs.length c1] 64 (0, 0))) := ⟨hbk⟩
   have HB0 := Aside0.mk (HB.out.trans (hb1.mono HB.out.size))
   have HM0 := Aside0.mk (HM.out.kept (hb1.block g (by omega)))
   have hgB : g ≠ B := by omega
   replace hpv := fun j hj => cellB hb1 (Nat.le_refl _) (hpv j hj)
   have HPV := Aside0.mk hpv
   have b0 : W0.cell? ⟨B, 0, none⟩ = some (.int .i64 v) := (z0a HBK.out 0).trans rfl
   have b1 : W0.cell? ⟨B, 1, none⟩ = some (.slice A1 xs.length c1) := (z0a HBK.out 1).trans rfl
   clear hbk hb1 hm1 hW0 hBe hpv hx0 hx1 HB HM
   have hdec := Classical.propDecidable H
   go_cut [50] from 12 to 92 (fun cc wx => cc = .bool (decide (¬ H)) ∧ Drawn0 W0 wx)
   case first =>
    by_cases c1 : v < 0
    ·have hH : decide (¬ H) = true := decide_eq_true fun h => by have := (HDF.out.1 h).1.1; omega
     have d1 : decide (v < 0) = true := decide_eq_true c1
     clear c1 HPV
     repeat (go_quiet (fail); try go_wp2)
     go_meet
     case rel => refine ⟨by rw [hH], ?_⟩; repeat (first | exact Drawn0.refl _ | apply Drawn0.step)
    have d1 : decide (v < 0) = false := decide_eq_false c1
    by_cases c2 : 1099511627776 < v
    ·have hH : decide (¬ H) = true := decide_eq_true fun h => by have := (HDF.out.1 h).1.2; omega
     have d2 : decide (1099511627776 < v) = true := decide_eq_true c2
     clear c1 c2 HPV
     repeat (go_quiet (fail); try go_wp2)
     go_meet
     case rel => refine ⟨by rw [hH], ?_⟩; repeat (first | exact Drawn0.refl _ | apply Drawn0.step)
    have d2 : decide (1099511627776 < v) = false := decide_eq_false c2
    by_cases c3 : k = 0
    ·have d3 : decide (0 < k) = false := decide_eq_false (by omega)
     by_cases c4 : xs = []
     ·have hH : decide (¬ H) = true := decide_eq_true fun h => (HDF.out.1 h).2.2 c4
      have d4 : ((xs.length : Int) == 0) = true := by rw [c4]; rfl
      have d5 : (xs.length == 0) = true := by rw [c4]; rfl
      clear c1 c2 c3 c4 HPV
      repeat (go_quiet (fail); try go_wp2)
      go_meet
      case rel => refine ⟨by rw [hH], ?_⟩; repeat (first | exact Drawn0.refl _ | apply Drawn0.step)
     ·have hH : decide (¬ H) = false := decide_eq_false (not_not_intro (HDF.out.2 ⟨⟨by omega, by omega⟩, fun j hj => by omega, c4⟩))
      have d4 : ((xs.length : Int) == 0) = false := by have := List.length_pos_iff.2 c4; simp; omega
      have d5 : (xs.length == 0) = false := by have := List.length_pos_iff.2 c4; simp; omega
      clear c1 c2 c3 c4 HPV
      repeat (go_quiet (fail); try go_wp2)
      go_meet
      case rel => refine ⟨by rw [hH], ?_⟩; repeat (first | exact Drawn0.refl _ | apply Drawn0.step)
    ·have d3 : decide (0 < k) = true := decide_eq_true (by omega)
     have hy0 := HPV.out (k - 1) (by omega)
     obtain ⟨u, hu⟩ : ∃ u, u = (rd_T64 l ((k - 1 : Nat) : Int)).f0 := ⟨_, rfl⟩
     rw [← hu] at hy0
     have hkl : k - 1 < l.length := by omega
     have hw : IntKind.i64.wrap ((k : Int) - 1) = ((k - 1 : Nat) : Int) := by rw [IntKind.wrap_i64]; omega
     have HU := Lib.hid hu
     clear hu
     by_cases c5 : v ≤ u
     ·have hH : decide (¬ H) = true := decide_eq_true fun h => absurd ((HDF.out.1 h).2.1 (k - 1) (by omega)) (by rw [← HU.out]; omega)
      have d6 : decide (v ≤ u) = true := decide_eq_true c5
      clear c1 c2 c3 c5 HPV
      repeat (go_quiet (fail); try go_wp2)
      go_meet
      case rel => refine ⟨by rw [hH], ?_⟩; repeat (first | exact Drawn0.refl _ | apply Drawn0.step)
     have d6 : decide (v ≤ u) = false := decide_eq_false c5
     by_cases c4 : xs = []
     ·have hH : decide (¬ H) = true := decide_eq_true fun h => (HDF.out.1 h).2.2 c4
      have d4 : ((xs.length : Int) == 0) = true := by rw [c4]; rfl
      have d5 : (xs.length == 0) = true := by rw [c4]; rfl
      clear c1 c2 c3 c4 c5 HPV
      repeat (go_quiet (fail); try go_wp2)
      go_meet
      case rel => refine ⟨by rw [hH], ?_⟩; repeat (first | exact Drawn0.refl _ | apply Drawn0.step)
     ·have hH : decide (¬ H) = false := decide_eq_false (not_not_intro (HDF.out.2 ⟨⟨by omega, by omega⟩, fun j hj => by obtain rfl : j = k - 1 := (by omega); rw [← HU.out]; omega, c4⟩))
      have d4 : ((xs.length : Int) == 0) = false := by have := List.length_pos_iff.2 c4; simp; omega
      have d5 : (xs.length == 0) = false := by have := List.length_pos_iff.2 c4; simp; omega
      clear c1 c2 c3 c4 c5 HPV
      repeat (go_quiet (fail); try go_wp2)
      go_meet
      case rel => refine ⟨by rw [hH], ?_⟩; repeat (first | exact Drawn0.refl _ | apply Drawn0.step)
   case rest =>
    obtain ⟨rfl, nd, rfl⟩ := hcut
    by_cases hH : H
    ·have hHb : decide (¬ H) = false := decide_eq_false (not_not_intro hH)
     rw [hHb]
     go_upto_region 9 with (fail)
     have HBK1 : Aside0 ((W0.drewN nd).heap[B]? = some (.cells #[.int .i64 v, .slice A1 xs.length c1] 64 (0, 0))) := ⟨z0p HBK.out nd⟩
     have HB1 := Aside0.mk (z0c HB0.out nd)
     have HM1 := Aside0.mk (HM0.out.kept (w1 := W0.drewN nd) rfl)
     obtain ⟨W1, hW1⟩ : ∃ W1, W0.drewN nd = W1 := ⟨_, rfl⟩
     rw [hW1] at HBK1 HB1 HM1 ⊢
     clear hW1 b0 b1 HBK HB0 HM0 HPV HDF hHb
     go_loopw [8] (fun i wi => ∃ q : Nat, q ≤ xs.length ∧ i = .int .i64 q ∧ Hid (incP p (xs.take q)) ∧ Hid ((S ++ xs.take q).Nodup) ∧ Aside0 (Met wi g p (S ++ xs.take q)) ∧ Aside0 (wi.heap[B]? = some (.cells #[.int .i64 v, .slice A1 xs.length c1] 64 (0, 0))) ∧ Aside0 (Below w.heap.size w wi))
      (fun i _ => xs.length - (intOf i).toNat)
     case atStart => exact ⟨0, Nat.zero_le _, rfl, Lib.hid ⟨by simp, by simp⟩, Lib.hid (by simpa using HND.out), ⟨by simpa using HM1.out⟩, HBK1, HB1⟩
     case round =>
      clear HM1 HBK1 HB1
      obtain ⟨q, hq, rfl, HIN, HNS, HMI, HBI, HBW⟩ := hrel
      have y1 : wr.cell? ⟨B, 1, none⟩ = some (.slice A1 xs.length c1) := (z0a HBI.out 1).trans rfl
      have hxl := Kd.C_max HCX.out
      by_cases hql : q < xs.length
      ·obtain ⟨bd, rfl, hx⟩ := Kd.at_int (Kd.C_below HCX.out HBW.out) (q : Int) (by omega) (by omega)
       rw [Int.toNat_natCast] at hx
       have hpx : ∀ j, q = j + 1 → wr.cell? (bd.add j) = some (.int .i64 (rd xs (j : Int))) := fun j hj => by
        obtain ⟨bd2, e2, hy⟩ := Kd.at_int (Kd.C_below HCX.out HBW.out) (j : Int) (by omega) (by omega)
        obtain rfl : bd = bd2 := by injection e2
        rwa [Int.toNat_natCast] at hy
       have HST := Lib.hid (okIn_step (p := (p : Int)) (S := S) hql)
       have HDO : Hid (okIn p (S ++ xs.take q) xs q ↔ ((2 ≤ rd xs q ∧ rd xs q < p) ∧ rd xs q ∉ S ++ xs.take q) ∧ ∀ j, q = j + 1 → rd xs j < rd xs q) := Lib.hid Iff.rfl
       have HTS := Lib.hid (show S ++ xs.take (q + 1) = (S ++ xs.take q) ++ [rd xs (q : Int)] by rw [List.take_succ_eq_append_getElem hql, List.append_assoc, z3x xs q hql])
       obtain ⟨O, hO⟩ : ∃ O, okIn p (S ++ xs.take q) xs q = O := ⟨_, rfl⟩
       obtain ⟨x, hxx⟩ : ∃ x, rd xs (q : Int) = x := ⟨_, rfl⟩
       obtain ⟨R, hR⟩ : ∃ R, S ++ xs.take q = R := ⟨_, rfl⟩
       rw [hO] at HST HDO
       rw [hxx] at hx HTS HDO
       rw [hR] at HMI HNS HST HDO HTS
       have HPX := Aside0.mk hpx
       clear hO hxx hR hpx
       have hdec2 := Classical.propDecidable O
       go_upto_region 12 with (fail)
       go_cut [89] from 51 to 92 (fun cc wx => cc = .bool (decide (¬ O)) ∧ wx = wr)
       case first =>
        by_cases c1 : x < 2
        ·have hO : decide (¬ O) = true := decide_eq_true fun h => by have := (HDO.out.1 h).1.1; omega
         have d1 : decide (x < 2) = true := decide_eq_true c1
         clear c1 HPX
         go_wp2
         go_meet
         case rel => exact ⟨by rw [hO], rfl⟩
        have d1 : decide (x < 2) = false := decide_eq_false c1
        by_cases c2 : (p : Int) ≤ x
        ·have hO : decide (¬ O) = true := decide_eq_true fun h => by have := (HDO.out.1 h).1.1; omega
         have d2 : decide ((p : Int) ≤ x) = true := decide_eq_true c2
         clear c1 c2 HPX
         go_wp2
         go_meet
         case rel => exact ⟨by rw [hO], rfl⟩
        have d2 : decide ((p : Int) ≤ x) = false := decide_eq_false c2
        obtain ⟨n, rfl⟩ : ∃ n : Nat, x = (n : Int) := ⟨x.toNat, by omega⟩
        have hc1 := HMI.out.cell n (by omega)
        have hnp : (n : Int) < (p : Int) := by omega
        have hn0 : (0 : Int) ≤ (n : Int) := by omega
        have d2n : decide (p ≤ n) = false := decide_eq_false (by omega)
        cases hb : setOf R n with
        | true =>
         have hO : decide (¬ O) = true := decide_eq_true fun h => (HDO.out.1 h).1.2 (by unfold setOf at hb; rwa [List.contains_iff_mem] at hb)
         rw [hb] at hc1
         clear c1 c2 HPX hb
         go_wp2
         go_meet
         case rel => exact ⟨by rw [hO], rfl⟩
        | false =>
         rw [hb] at hc1
         have hnm : (n : Int) ∉ R := fun hm => by
          have : setOf R n = true := by unfold setOf; rwa [List.contains_iff_mem]
          rw [hb] at this; cases this
         clear hb
         by_cases c3 : q = 0
         ·have hO : decide (¬ O) = false := decide_eq_false (not_not_intro (HDO.out.2 ⟨⟨⟨by omega, by omega⟩, hnm⟩, fun j hj => by omega⟩))
          have d3 : decide (0 < q) = false := decide_eq_false (by omega)
          clear c1 c2 c3 HPX hnm
          go_wp2
          go_meet
          case rel => exact ⟨by rw [hO], rfl⟩
         ·have d3 : decide (0 < q) = true := decide_eq_true (by omega)
          have hy0 := HPX.out (q - 1) (by omega)
          obtain ⟨u, hu⟩ : ∃ u, u = rd xs ((q - 1 : Nat) : Int) := ⟨_, rfl⟩
          rw [← hu] at hy0
          have hkl : q - 1 < xs.length := by omega
          have hw : IntKind.i64.wrap ((q : Int) - 1) = ((q - 1 : Nat) : Int) := by rw [IntKind.wrap_i64]; omega
          by_cases c5 : (n : Int) ≤ u
          ·have hO : decide (¬ O) = true := decide_eq_true fun h => absurd ((HDO.out.1 h).2 (q - 1) (by omega)) (by rw [← hu]; omega)
           have d6 : decide ((n : Int) ≤ u) = true := decide_eq_true c5
           clear c1 c2 c3 c5 HPX hnm hu
           go_wp2
           go_meet
           case rel => exact ⟨by rw [hO], rfl⟩
          ·have hO : decide (¬ O) = false := decide_eq_false (not_not_intro (HDO.out.2 ⟨⟨⟨by omega, by omega⟩, hnm⟩, fun j hj => by obtain rfl : j = q - 1 := (by omega); rw [← hu]; omega⟩))
           have d6 : decide ((n : Int) ≤ u) = false := decide_eq_false c5
           clear c1 c2 c3 c5 HPX hnm hu
           go_wp2
           go_meet
           case rel => exact ⟨by rw [hO], rfl⟩
       case rest =>
        obtain ⟨rfl, rfl⟩ := hcut
        by_cases hO : O
        ·have hOb : decide (¬ O) = false := decide_eq_false (not_not_intro hO)
         rw [hOb]
         have h1 := (HDO.out.1 hO).1.1
         obtain ⟨n, rfl⟩ : ∃ n : Nat, x = (n : Int) := ⟨x.toNat, by omega⟩
         have hz := HMI.out.free n
         have HAD := Aside0.mk (HMI.out.add n (by omega))
         have hc1 := HMI.out.cell n (by omega)
         obtain ⟨b, hb⟩ : ∃ b, setOf R n = b := ⟨_, rfl⟩
         rw [hb] at hc1
         have hnp : (n : Int) < (p : Int) := by omega
         have hn0 : (0 : Int) ≤ (n : Int) := by omega
         have HNX := Lib.hid (HST.out.1 ⟨hO, HIN.out, HNS.out⟩)
         clear h1 hb hOb HPX HDO
         go_wp2
         go_roundw
         case rel => exact ⟨q + 1, by omega, by go_num, Lib.hid HNX.out.1, Lib.hid HNX.out.2, ⟨by rw [HTS.out]; exact HAD.out⟩, ⟨z0v HBI.out (p := ⟨g, n, none⟩) (by show B ≠ g; omega) _⟩, ⟨HBW.out.setCell (p := ⟨g, n, none⟩) hbg _⟩⟩
         case measure => simp [intOf]; omega
        ·have hOb : decide (¬ O) = true := decide_eq_true hO
         rw [hOb]
         have HVF := Lib.hid (HVN.out (q + 1) fun hh => hO (HST.out.2 hh).1)
         go_wp2
         go_ret
         exact ⟨by rw [HVF.out]; rfl, HBW.out⟩
      ·obtain rfl : q = xs.length := by omega
       have hin := HIN.out
       have hns := HNS.out
       rw [List.take_length] at hin hns
       have HM2 := HMI.out
       rw [List.take_length] at HM2
       have HOK := Lib.hid (HOF.out (HIF.out.2 ⟨hH, hin⟩))
       have HNP := Lib.hid (show (pagesOf (l.take (k + 1))).Nodup by rw [HPT.out]; exact hns)
       have HM3 := Aside0.mk (show Met wr g p (pagesOf (l.take (k + 1))) by rw [HPT.out]; exact HM2)
       clear hin hns HM2
       go_wp2
       go_roundw
       case rel => exact ⟨k + 1, by omega, by go_num, HOK, HNP, HM3, HBW⟩
       case measure => simp [intOf]; omega
    ·have hHb : decide (¬ H) = true := decide_eq_true hH
     rw [hHb]
     have HVF := Lib.hid (HON.out fun h => hH (HIF.out.1 h).1)
     go_wp2
     go_ret
     exact ⟨by rw [HVF.out]; rfl, z0c HB0.out _⟩
  ·obtain rfl : k = l.length := by omega
   rw [List.take_length] at HF HND
   have HVT := Lib.hid (show validB p l = true from decide_eq_true ⟨HP.out |> fun h => ⟨by omega, by omega⟩, HF.out, HND.out⟩)
   go_wp2
   go_ret
   exact ⟨by rw [HVT.out]; rfl, HB.out⟩
def metOf (p : Int) (S : List Int) : List Bool := (List.range p.toNat).map fun i : Nat => decide ((i : Int) ∈ S)
theorem z9d (p : Int) (S : List Int) : (metOf p S).length = p.toNat := by simp [metOf]
theorem z6x (p : Int) : metOf p [] = List.replicate p.toNat false := by
 refine List.ext_getElem (by simp [metOf]) fun i h1 h2 => ?_
 simp [metOf]
theorem metOf_at (p : Int) (S : List Int) (n : Int) (h0 : 0 ≤ n) (h1 : n < p) : rdOf false (metOf p S) n = decide (n ∈ S) := by
 have hlt : n.toNat < p.toNat := by omega
 have e : ((n.toNat : Nat) : Int) = n := by omega
 simp [rdOf, metOf, hlt, e]
theorem metOf_set (p : Int) (S : List Int) (n : Int) (h0 : 0 ≤ n) (h1 : n < p) : (metOf p S).set n.toNat true = metOf p (S ++ [n]) := by
 refine List.ext_getElem (by simp [metOf]) fun i h1 h2 => ?_
 simp only [List.getElem_set, metOf, List.getElem_map, List.getElem_range, List.mem_append, List.mem_singleton]
 by_cases e : n.toNat = i
 ·have : (i : Int) = n := by omega
  rw [if_pos e]
  simp [this]
 ·have : ¬ (i : Int) = n := by omega
  rw [if_neg e]
  simp [this]
theorem z3o (l : List S64) (p : Int) (hp : 2 ≤ p ∧ p ≤ 4096) : decide (formP p l ∧ (pagesOf l).Nodup) = validB p l := by
 unfold validB validP
 by_cases h : formP p l ∧ (pagesOf l).Nodup
 ·simp [h, hp]
 ·simp [h, hp]
theorem is_any (l : List S64) (p : Int) (A : Option Addr) (c : Nat) (w : World) (hC : k64.C w A l.length l) (hc : l.length ≤ c) (h0 : 2 ≤ p) (h1 : p ≤ 4096) (hs : smallL l) :
  Calls Tryz.prog 58 #[.slice A l.length c, .int .i64 p] w fun e w' => e = .returned (.bool (decide (formP p l ∧ (pagesOf l).Nodup))) ∧ Below w.heap.size w w' := by
 rw [z3o l p ⟨h0, h1⟩]
 obtain ⟨n, rfl⟩ : ∃ n : Nat, p = (n : Int) := ⟨p.toNat, by omega⟩
 exact is_walk l n A c w hC hc ⟨by omega, by omega⟩
theorem size_some (p : Int) : understoryref12_size.f p = some (decide (2 ≤ p ∧ p ≤ 4096)) := by
 unfold understoryref12_size.f
 by_cases h : 2 ≤ p <;> by_cases h2 : p ≤ 4096 <;> simp [h, h2] <;> omega
theorem size_any (p : Int) (w : World) : Calls Tryz.prog 57 #[.int .i64 p] w fun e w' => e = .returned (.bool (decide (2 ≤ p ∧ p ≤ 4096))) ∧ Drawn0 w w' := understoryref12_size.calls p _ w (size_some p)
end Go.Proofs.YtpnhelcemodnmaaGreat
namespace Go.Proofs.YtpnhelcemodnmaaGreat.PA
open Go.RowKit Go.Proofs.YtpnhelcemodnmaaGreatW.PrintWords Go.Proofs.YtpnhelcemodnmaaGreatW.PrintLast Go.Proofs.YtpnhelcemodnmaaGreatW.PrintMore
attribute [local go_sem] z1c z1d z1e z1f z1i z1j z1k z1l
set_option linter.unusedVariables false
set_option linter.unusedSimpArgs false
def understoryref12_once.l0 : Nat → List Int → Int → Int → Option (Bool)
 | 0, _, _, _ => none
 | k + 1, x0, x1, x5 => if x5 < (x0.length : Int) then (if 0 ≤ x5 then (if (rd x0 x5) < 2 then (some false) else (if (rd x0 x5) ≥ x1 then (some false) else (if x5 > 0 then (if 0 ≤ (wrap64 (x5 - 1)) then (if (wrap64 (x5 - 1)) < (x0.length : Int) then (if (rd x0 x5) ≤ (rd x0 (wrap64 (x5 - 1))) then (some false) else (understoryref12_once.l0 k x0 x1 (wrap64 (x5 + 1)))) else (none)) else (none)) else (understoryref12_once.l0 k x0 x1 (wrap64 (x5 + 1)))))) else (none)) else (some true)
def understoryref12_once.f (k : Nat) (l0 : List Int) (a1 : Int) : Option (Bool) := understoryref12_once.l0 k l0 a1 0
theorem understoryref12_once.mono_l : ∀ k, (∀ y0 y1 y2, LeO (understoryref12_once.l0 k y0 y1 y2) (understoryref12_once.l0 (k + 1) y0 y1 y2))
 | 0 => fun _ _ _ r h => by simp [understoryref12_once.l0] at h
 | k + 1 => by
  have ih0 := understoryref12_once.mono_l k
  ·intro y0 y1 y2
   unfold understoryref12_once.l0
   repeat' first
   | (with_reducible exact ih0 _ _ _)
   | (with_reducible exact LeO.refl _)
   | (with_reducible exact LeO.none _)
   | (with_reducible refine LeO.ite ?_ ?_)
   | (with_reducible refine LeO.bind ?_ (fun _ => ?_))
   | exact ih0 _ _ _
   | exact LeO.none _
   | refine LeO.ite ?_ ?_
   | refine LeO.bind ?_ (fun _ => ?_)
theorem understoryref12_once.mono : ∀ a0 a1 k, LeO (understoryref12_once.f k a0 a1) (understoryref12_once.f (k + 1) a0 a1) := by
 intro a0 a1 k
 have ih0 := understoryref12_once.mono_l k
 unfold understoryref12_once.f
 repeat' first
   | (with_reducible exact ih0 _ _ _)
   | (with_reducible exact LeO.refl _)
   | (with_reducible exact LeO.none _)
   | (with_reducible refine LeO.ite ?_ ?_)
   | (with_reducible refine LeO.bind ?_ (fun _ => ?_))
   | exact ih0 _ _ _
   | exact LeO.none _
   | refine LeO.ite ?_ ?_
   | refine LeO.bind ?_ (fun _ => ?_)
set_option maxHeartbeats 8000000 in
set_option maxRecDepth 100000 in
theorem understoryref12_once.calls (k : Nat) (A0 : Option Addr) (c0 : Nat) (l0 : List Int) (a1 : Int) (r : Bool) (w : World) (hr0 : Kd.C (Kd.int .i64) w A0 l0.length l0) (hc0 : l0.length ≤ c0) (h : understoryref12_once.f k l0 a1 = some r) :
  Calls Tryz.prog 59 #[.slice A0 l0.length c0, .int .i64 a1] w fun e w' => e = .returned (.bool r) ∧ Drawn0 w w' := by
 have HR0 := Aside0.mk hr0
 have HC0 := Aside0.mk hc0
 clear hr0 hc0
 have H : (understoryref12_once.l0 k l0 a1 0) = some r := h
 clear h
 have H' := Aside0.mk H
 clear H
 go_enter Tryz.func59, Tryz.ntmps59
 go_wp2
 repeat (go_quiet (fail); try go_wp2)
 go_loopg [5] k (fun kq v5 w' => ∃ (x5_1 : Int), v5 = .int .i64 x5_1 ∧ Aside0 (understoryref12_once.l0 kq l0 a1 x5_1 = some r) ∧ Aside0 (kq ≤ k) ∧ Drawn0 w w')
 case atStart => exact ⟨(0), (by first | rfl | (simp; done) | (simp [*]; done)), H', ⟨Nat.le_refl _⟩, by repeat (first | exact Drawn0.refl _ | apply Drawn0.step)⟩
 case round =>
  clear H'
  try clear p2
  obtain ⟨x5_1, rfl, HA, HK1, ⟨m1, rfl⟩⟩ := hrel
  cases gk with
  | zero => exact absurd HA.out (by simp [understoryref12_once.l0])
  | succ k1 =>
   have H := HA.out
   clear HA
   simp only [understoryref12_once.l0] at H
   by_cases c3 : x5_1 < (l0.length : Int)
   ·rw [if_pos c3] at H
    have c3b0 : decide (x5_1 < (l0.length : Int)) = true := decide_eq_true c3
    clear c3
    by_cases c4 : 0 ≤ x5_1
    ·rw [if_pos c4] at H
     have c4b0 : decide (0 ≤ x5_1) = true := decide_eq_true c4
     clear c4
     by_cases c5 : (rd l0 x5_1) < 2
     ·rw [if_pos c5] at H
      have c5b0 : decide ((rd l0 x5_1) < 2) = true := decide_eq_true c5
      clear c5
      obtain rfl := Option.some.inj H
      have p310 : 0 ≤ (x5_1 : Int) := of_decide_eq_true (by first | (with_reducible assumption) | assumption)
      have q310 : x5_1 < (l0.length : Int) := of_decide_eq_true (by first | (with_reducible assumption) | assumption)
      obtain ⟨ad310, e310, hx310_0⟩ := Kd.at_int HR0.out x5_1 p310 q310
      cases e310
      replace p310 := eq_true p310
      replace q310 := eq_true q310
      go_wp2
      repeat (go_quiet (fail); try go_wp2)
      go_ret
      exact ⟨by first | rfl | (simp; done) | (simp [*]; done), by repeat (first | exact Drawn0.refl _ | apply Drawn0.step)⟩
     ·rw [if_neg c5] at H
      have c5b0 : decide ((rd l0 x5_1) < 2) = false := decide_eq_false c5
      clear c5
      by_cases c6 : (rd l0 x5_1) ≥ a1
      ·rw [if_pos c6] at H
       have c6b0 : decide (a1 ≤ (rd l0 x5_1)) = true := decide_eq_true c6
       clear c6
       obtain rfl := Option.some.inj H
       have p310 : 0 ≤ (x5_1 : Int) := of_decide_eq_true (by first | (with_reducible assumption) | assumption)
       have q310 : x5_1 < (l0.length : Int) := of_decide_eq_true (by first | (with_reducible assumption) | assumption)
       obtain ⟨ad310, e310, hx310_0⟩ := Kd.at_int HR0.out x5_1 p310 q310
       cases e310
       replace p310 := eq_true p310
       replace q310 := eq_true q310
       have p311 : 0 ≤ (x5_1 : Int) := of_decide_eq_true (by first | (with_reducible assumption) | assumption)
       have q311 : x5_1 < (l0.length : Int) := of_decide_eq_true (by first | (with_reducible assumption) | assumption)
       obtain ⟨ad311, e311, hx311_0⟩ := Kd.at_int HR0.out x5_1 p311 q311
       obtain rfl : ad310 = ad311 := (by injection e311)
       replace p311 := eq_true p311
       replace q311 := eq_true q311
       go_wp2
       repeat (go_quiet (fail); try go_wp2)
       go_ret
       exact ⟨by first | rfl | (simp; done) | (simp [*]; done), by repeat (first | exact Drawn0.refl _ | apply Drawn0.step)⟩
      ·rw [if_neg c6] at H
       have c6b0 : decide (a1 ≤ (rd l0 x5_1)) = false := decide_eq_false c6
       clear c6
       by_cases c7 : x5_1 > 0
       ·rw [if_pos c7] at H
        have c7b0 : decide (0 < x5_1) = true := decide_eq_true c7
        clear c7
        obtain ⟨ji8, hji8⟩ : ∃ j_ : Int, (wrap64 (x5_1 - 1)) = j_ := ⟨_, rfl⟩
        replace H : (if 0 ≤ (ji8) then (if (ji8) < (l0.length : Int) then (if (rd l0 x5_1) ≤ (rd l0 (ji8)) then (some false) else (understoryref12_once.l0 k1 l0 a1 (wrap64 (x5_1 + 1)))) else (none)) else (none)) = some r := by first | (rw [hji8] at H; exact H) | (simp only [hji8] at H ⊢; exact H)
        have hji8w : (IntKind.i64.wrap (x5_1 - 1)) = ji8 := (z0o _).trans hji8
        by_cases c9 : 0 ≤ (ji8)
        ·rw [if_pos c9] at H
         have c9b0 : decide (0 ≤ (ji8)) = true := decide_eq_true c9
         clear c9
         by_cases c10 : (ji8) < (l0.length : Int)
         ·rw [if_pos c10] at H
          have c10b0 : decide ((ji8) < (l0.length : Int)) = true := decide_eq_true c10
          clear c10
          by_cases c11 : (rd l0 x5_1) ≤ (rd l0 (ji8))
          ·rw [if_pos c11] at H
           have c11b0 : decide ((rd l0 x5_1) ≤ (rd l0 (ji8))) = true := decide_eq_true c11
           clear c11
           obtain rfl := Option.some.inj H
           have p310 : 0 ≤ (x5_1 : Int) := of_decide_eq_true (by first | (with_reducible assumption) | assumption)
           have q310 : x5_1 < (l0.length : Int) := of_decide_eq_true (by first | (with_reducible assumption) | assumption)
           obtain ⟨ad310, e310, hx310_0⟩ := Kd.at_int HR0.out x5_1 p310 q310
           cases e310
           replace p310 := eq_true p310
           replace q310 := eq_true q310
           have p311 : 0 ≤ (x5_1 : Int) := of_decide_eq_true (by first | (with_reducible assumption) | assumption)
           have q311 : x5_1 < (l0.length : Int) := of_decide_eq_true (by first | (with_reducible assumption) | assumption)
           obtain ⟨ad311, e311, hx311_0⟩ := Kd.at_int HR0.out x5_1 p311 q311
           obtain rfl : ad310 = ad311 := (by injection e311)
           replace p311 := eq_true p311
           replace q311 := eq_true q311
           have p312 : 0 ≤ (x5_1 : Int) := of_decide_eq_true (by first | (with_reducible assumption) | assumption)
           have q312 : x5_1 < (l0.length : Int) := of_decide_eq_true (by first | (with_reducible assumption) | assumption)
           obtain ⟨ad312, e312, hx312_0⟩ := Kd.at_int HR0.out x5_1 p312 q312
           obtain rfl : ad310 = ad312 := (by injection e312)
           replace p312 := eq_true p312
           replace q312 := eq_true q312
           have p313 : 0 ≤ ((ji8) : Int) := of_decide_eq_true (by first | (with_reducible assumption) | assumption)
           have q313 : (ji8) < (l0.length : Int) := of_decide_eq_true (by first | (with_reducible assumption) | assumption)
           obtain ⟨ad313, e313, hx313_0⟩ := Kd.at_int HR0.out (ji8) p313 q313
           obtain rfl : ad310 = ad313 := (by injection e313)
           replace p313 := eq_true p313
           replace q313 := eq_true q313
           go_wp2
           repeat (go_quiet (fail); try go_wp2)
           go_ret
           exact ⟨by first | rfl | (simp; done) | (simp only [← hji8] <;> (first | rfl | simp)) | (simp [*]; done), by repeat (first | exact Drawn0.refl _ | apply Drawn0.step)⟩
          ·rw [if_neg c11] at H
           have c11b0 : decide ((rd l0 x5_1) ≤ (rd l0 (ji8))) = false := decide_eq_false c11
           clear c11
           have H' := Aside0.mk H
           clear H
           have p310 : 0 ≤ (x5_1 : Int) := of_decide_eq_true (by first | (with_reducible assumption) | assumption)
           have q310 : x5_1 < (l0.length : Int) := of_decide_eq_true (by first | (with_reducible assumption) | assumption)
           obtain ⟨ad310, e310, hx310_0⟩ := Kd.at_int HR0.out x5_1 p310 q310
           cases e310
           replace p310 := eq_true p310
           replace q310 := eq_true q310
           have p311 : 0 ≤ (x5_1 : Int) := of_decide_eq_true (by first | (with_reducible assumption) | assumption)
           have q311 : x5_1 < (l0.length : Int) := of_decide_eq_true (by first | (with_reducible assumption) | assumption)
           obtain ⟨ad311, e311, hx311_0⟩ := Kd.at_int HR0.out x5_1 p311 q311
           obtain rfl : ad310 = ad311 := (by injection e311)
           replace p311 := eq_true p311
           replace q311 := eq_true q311
           have p312 : 0 ≤ (x5_1 : Int) := of_decide_eq_true (by first | (with_reducible assumption) | assumption)
           have q312 : x5_1 < (l0.length : Int) := of_decide_eq_true (by first | (with_reducible assumption) | assumption)
           obtain ⟨ad312, e312, hx312_0⟩ := Kd.at_int HR0.out x5_1 p312 q312
           obtain rfl : ad310 = ad312 := (by injection e312)
           replace p312 := eq_true p312
           replace q312 := eq_true q312
           have p313 : 0 ≤ ((ji8) : Int) := of_decide_eq_true (by first | (with_reducible assumption) | assumption)
           have q313 : (ji8) < (l0.length : Int) := of_decide_eq_true (by first | (with_reducible assumption) | assumption)
           obtain ⟨ad313, e313, hx313_0⟩ := Kd.at_int HR0.out (ji8) p313 q313
           obtain rfl : ad310 = ad313 := (by injection e313)
           replace p313 := eq_true p313
           replace q313 := eq_true q313
           go_wp2
           repeat (go_quiet (fail); try go_wp2)
           go_roundg k1
           case measure => have := HK1.out; omega
           case rel => exact ⟨(wrap64 (x5_1 + 1)), (by first | rfl | (simp; done) | (simp [*]; done)), H', ⟨by have := HK1.out; omega⟩, by repeat (first | exact Drawn0.refl _ | apply Drawn0.step)⟩
         ·rw [if_neg c10] at H
          exact absurd H (by simp)
        ·rw [if_neg c9] at H
         exact absurd H (by simp)
       ·rw [if_neg c7] at H
        have c7b0 : decide (0 < x5_1) = false := decide_eq_false c7
        clear c7
        have H' := Aside0.mk H
        clear H
        have p310 : 0 ≤ (x5_1 : Int) := of_decide_eq_true (by first | (with_reducible assumption) | assumption)
        have q310 : x5_1 < (l0.length : Int) := of_decide_eq_true (by first | (with_reducible assumption) | assumption)
        obtain ⟨ad310, e310, hx310_0⟩ := Kd.at_int HR0.out x5_1 p310 q310
        cases e310
        replace p310 := eq_true p310
        replace q310 := eq_true q310
        have p311 : 0 ≤ (x5_1 : Int) := of_decide_eq_true (by first | (with_reducible assumption) | assumption)
        have q311 : x5_1 < (l0.length : Int) := of_decide_eq_true (by first | (with_reducible assumption) | assumption)
        obtain ⟨ad311, e311, hx311_0⟩ := Kd.at_int HR0.out x5_1 p311 q311
        obtain rfl : ad310 = ad311 := (by injection e311)
        replace p311 := eq_true p311
        replace q311 := eq_true q311
        go_wp2
        repeat (go_quiet (fail); try go_wp2)
        go_roundg k1
        case measure => have := HK1.out; omega
        case rel => exact ⟨(wrap64 (x5_1 + 1)), (by first | rfl | (simp; done) | (simp [*]; done)), H', ⟨by have := HK1.out; omega⟩, by repeat (first | exact Drawn0.refl _ | apply Drawn0.step)⟩
    ·rw [if_neg c4] at H
     exact absurd H (by simp)
   ·rw [if_neg c3] at H
    have c3b0 : decide (x5_1 < (l0.length : Int)) = false := decide_eq_false c3
    clear c3
    obtain rfl := Option.some.inj H
    go_wp2
    repeat (go_quiet (fail); try go_wp2)
    go_ret
    exact ⟨by first | rfl | (simp; done) | (simp [*]; done), by repeat (first | exact Drawn0.refl _ | apply Drawn0.step)⟩
mutual
def understoryref12_apart.l0 : Nat → List (S64) → List Bool → List Int → Int → Option (Bool)
 | 0, _, _, _, _ => none
 | k + 1, x2, x9, x10, x11 => if x11 < (x2.length : Int) then (if 0 ≤ x11 then (if x10.length + ((rd_T64 x2 x11).f1).length < 17592186044416 then (understoryref12_apart.l0 k x2 x9 (x10 ++ ((rd_T64 x2 x11).f1)) (wrap64 (x11 + 1))) else (none)) else (none)) else (understoryref12_apart.l1 k x9 x10 0)
def understoryref12_apart.l1 : Nat → List Bool → List Int → Int → Option (Bool)
 | 0, _, _, _ => none
 | k + 1, x9, x10, x12 => if x12 < (x10.length : Int) then (if 0 ≤ x12 then (if 0 ≤ (rd x10 x12) then (if (rd x10 x12) < (x9.length : Int) then (if rdOf false x9 (rd x10 x12) = true then (some false) else (understoryref12_apart.l1 k (x9.set ((rd x10 x12) : Int).toNat true) x10 (wrap64 (x12 + 1)))) else (none)) else (none)) else (none)) else (some true)
end
def understoryref12_apart.f (k : Nat) (l0 : List Int) (l1 : List Int) (l2 : List (S64)) (a3 : Int) : Option (Bool) := if 0 ≤ a3 then (if (a3 : Int).toNat ≤ 281474976710656 then ((some (([] : List Int) : List Int)).bind fun y317 => (if y317.length + l0.length < 17592186044416 then ((some (y317 ++ l0 : List Int)).bind fun y320 => (if y320.length + l1.length < 17592186044416 then (understoryref12_apart.l0 k l2 (List.replicate (a3 : Int).toNat false) (y320 ++ l1) 0) else (none))) else (none))) else (none)) else (none)
theorem understoryref12_apart.mono_l : ∀ k, (∀ y0 y1 y2 y3, LeO (understoryref12_apart.l0 k y0 y1 y2 y3) (understoryref12_apart.l0 (k + 1) y0 y1 y2 y3)) ∧ (∀ y0 y1 y2, LeO (understoryref12_apart.l1 k y0 y1 y2) (understoryref12_apart.l1 (k + 1) y0 y1 y2))
 | 0 => ⟨fun _ _ _ _ r h => by simp [understoryref12_apart.l0] at h, fun _ _ _ r h => by simp [understoryref12_apart.l1] at h⟩
 | k + 1 => by
  obtain ⟨ih0, ih1⟩ := understoryref12_apart.mono_l k
  refine ⟨?_, ?_⟩
  ·intro y0 y1 y2 y3
   unfold understoryref12_apart.l0
   repeat' first
   | (with_reducible exact ih0 _ _ _ _)
   | (with_reducible exact ih1 _ _ _)
   | (with_reducible exact LeO.refl _)
   | (with_reducible exact LeO.none _)
   | (with_reducible refine LeO.ite ?_ ?_)
   | (with_reducible refine LeO.bind ?_ (fun _ => ?_))
   | exact ih0 _ _ _ _
   | exact ih1 _ _ _
   | exact LeO.none _
   | refine LeO.ite ?_ ?_
   | refine LeO.bind ?_ (fun _ => ?_)
  ·intro y0 y1 y2
   unfold understoryref12_apart.l1
   repeat' first
   | (with_reducible exact ih0 _ _ _ _)
   | (with_reducible exact ih1 _ _ _)
   | (with_reducible exact LeO.refl _)
   | (with_reducible exact LeO.none _)
   | (with_reducible refine LeO.ite ?_ ?_)
   | (with_reducible refine LeO.bind ?_ (fun _ => ?_))
   | exact ih0 _ _ _ _
   | exact ih1 _ _ _
   | exact LeO.none _
   | refine LeO.ite ?_ ?_
   | refine LeO.bind ?_ (fun _ => ?_)
theorem understoryref12_apart.mono : ∀ a0 a1 a2 a3 k, LeO (understoryref12_apart.f k a0 a1 a2 a3) (understoryref12_apart.f (k + 1) a0 a1 a2 a3) := by
 intro a0 a1 a2 a3 k
 obtain ⟨ih0, ih1⟩ := understoryref12_apart.mono_l k
 unfold understoryref12_apart.f
 repeat' first
   | (with_reducible exact ih0 _ _ _ _)
   | (with_reducible exact ih1 _ _ _)
   | (with_reducible exact LeO.refl _)
   | (with_reducible exact LeO.none _)
   | (with_reducible refine LeO.ite ?_ ?_)
   | (with_reducible refine LeO.bind ?_ (fun _ => ?_))
   | exact ih0 _ _ _ _
   | exact ih1 _ _ _
   | exact LeO.none _
   | refine LeO.ite ?_ ?_
   | refine LeO.bind ?_ (fun _ => ?_)
set_option maxHeartbeats 8000000 in
set_option maxRecDepth 100000 in
theorem understoryref12_apart.calls (k : Nat) (A0 : Option Addr) (c0 : Nat) (l0 : List Int) (A1 : Option Addr) (c1 : Nat) (l1 : List Int) (A2 : Option Addr) (c2 : Nat) (l2 : List (S64)) (a3 : Int) (r : Bool) (w : World) (hr0 : Kd.C (Kd.int .i64) w A0 l0.length l0) (hc0 : l0.length ≤ c0) (hr1 : Kd.C (Kd.int .i64) w A1 l1.length l1) (hc1 : l1.length ≤ c1) (hr2 : Kd.C k64 w A2 l2.length l2) (hc2 : l2.length ≤ c2) (h : understoryref12_apart.f k l0 l1 l2 a3 = some r) :
  Calls Tryz.prog 60 #[.slice A0 l0.length c0, .slice A1 l1.length c1, .slice A2 l2.length c2, .int .i64 a3] w fun e w' => e = .returned (.bool r) ∧ Below w.heap.size w w' := by
 have HR0 := Aside0.mk hr0
 have HC0 := Aside0.mk hc0
 clear hr0 hc0
 have HR1 := Aside0.mk hr1
 have HC1 := Aside0.mk hc1
 clear hr1 hc1
 have HR2 := Aside0.mk hr2
 have HC2 := Aside0.mk hc2
 clear hr2 hc2
 have HB := Aside0.mk (Below.refl w.heap.size w)
 have H : (if 0 ≤ a3 then (if (a3 : Int).toNat ≤ 281474976710656 then ((some (([] : List Int) : List Int)).bind fun y317 => (if y317.length + l0.length < 17592186044416 then ((some (y317 ++ l0 : List Int)).bind fun y320 => (if y320.length + l1.length < 17592186044416 then (understoryref12_apart.l0 k l2 (List.replicate (a3 : Int).toNat false) (y320 ++ l1) 0) else (none))) else (none))) else (none)) else (none)) = some r := h
 clear h
 by_cases c5 : 0 ≤ a3
 ·rw [if_pos c5] at H
  have c5b0 := eq_true c5
  have c5b1 : decide (0 ≤ a3) = true := decide_eq_true c5
  clear c5
  by_cases c6 : (a3 : Int).toNat ≤ 281474976710656
  ·rw [if_pos c6] at H
   have c6b0 := eq_true c6
   have c6b1 : decide ((a3 : Int).toNat ≤ 281474976710656) = true := decide_eq_true c6
   clear c6
   obtain ⟨y314, hy314⟩ : ∃ y_ : List Bool, y_ = (List.replicate (a3 : Int).toNat false) := ⟨_, rfl⟩
   replace H : ((some (([] : List Int) : List Int)).bind fun y317 => (if y317.length + l0.length < 17592186044416 then ((some (y317 ++ l0 : List Int)).bind fun y320 => (if y320.length + l1.length < 17592186044416 then (understoryref12_apart.l0 k l2 y314 (y320 ++ l1) 0) else (none))) else (none))) = some r := by first | (rw [hy314]; with_reducible exact H) | (have H2_ := (Option.bind_some _ _).symm.trans H; rw [hy314]; with_reducible exact H2_) | (have H2_ := (Option.bind_some _ _).symm.trans H; with_reducible exact H2_) | with_reducible exact H | (rw [hy314]; exact H) | exact H
   have Ny314 := Aside0.mk hy314
   clear hy314
   obtain ⟨y317, hy317⟩ : ∃ y_ : List Int, y_ = (([] : List Int)) := ⟨_, rfl⟩
   replace H : (if y317.length + l0.length < 17592186044416 then ((some (y317 ++ l0 : List Int)).bind fun y320 => (if y320.length + l1.length < 17592186044416 then (understoryref12_apart.l0 k l2 y314 (y320 ++ l1) 0) else (none))) else (none)) = some r := by first | (rw [hy317]; with_reducible exact H) | (have H2_ := (Option.bind_some _ _).symm.trans H; rw [hy317]; with_reducible exact H2_) | (have H2_ := (Option.bind_some _ _).symm.trans H; with_reducible exact H2_) | with_reducible exact H | (rw [hy317]; exact H) | exact H
   have Ny317 := Aside0.mk hy317
   clear hy317
   by_cases c7 : y317.length + l0.length < 17592186044416
   ·rw [if_pos c7] at H
    have LMc7 := Aside0.mk c7
    clear c7
    obtain ⟨y320, hy320⟩ : ∃ y_ : List Int, y_ = (y317 ++ l0) := ⟨_, rfl⟩
    replace H : (if y320.length + l1.length < 17592186044416 then (understoryref12_apart.l0 k l2 y314 (y320 ++ l1) 0) else (none)) = some r := by first | (rw [hy320]; with_reducible exact H) | (have H2_ := (Option.bind_some _ _).symm.trans H; rw [hy320]; with_reducible exact H2_) | (have H2_ := (Option.bind_some _ _).symm.trans H; with_reducible exact H2_) | with_reducible exact H | (rw [hy320]; exact H) | exact H
    have Ny320 := Aside0.mk hy320
    clear hy320
    by_cases c8 : y320.length + l1.length < 17592186044416
    ·rw [if_pos c8] at H
     have LMc8 := Aside0.mk c8
     clear c8
     obtain ⟨y323, hy323⟩ : ∃ y_ : List Int, y_ = (y320 ++ l1) := ⟨_, rfl⟩
     replace H : (understoryref12_apart.l0 k l2 y314 y323 0) = some r := by first | (rw [hy323]; with_reducible exact H) | (have H2_ := (Option.bind_some _ _).symm.trans H; rw [hy323]; with_reducible exact H2_) | (have H2_ := (Option.bind_some _ _).symm.trans H; with_reducible exact H2_) | with_reducible exact H | (rw [hy323]; exact H) | exact H
     have Ny323 := Aside0.mk hy323
     clear hy323
     have H' := Aside0.mk H
     clear H
     go_enter Tryz.func60, Tryz.ntmps60
     go_wp2_with (first | ((with_reducible refine z01 (N := 14) rfl ?_); refine Kd.R_make Kd.bool _ 4 rfl (N := 14) rfl 123 _ _ rfl a3 rfl rfl Tryz.underlying123 (.bool false) 1 info4 rfl (by decide) (by omega) false (ok := fun _ => True) (okp := fun _ => True) rfl (fun _ hk => hk) trivial (of_decide_eq_true (by first | (with_reducible assumption) | assumption)) (Nat.le_trans (Nat.mul_le_mul_right _ (of_decide_eq_true (by first | (with_reducible assumption) | assumption) : a3.toNat ≤ 281474976710656)) (by omega)) (Below.refl _ _) (Nat.le_refl _) ?_; intro v315 w9 ho10 hb hg_ hnew_; clear hg_ hnew_; (first | rw [← Ny314.out] at ho10 | (simp only [Int.reduceToNat] at ho10; rw [← Ny314.out] at ho10)); have n0_ := Aside0.mk (Kd.R_lower ho10 (z0m (by repeat (first | (with_reducible first | exact HB.out | apply z0f | apply z0c | apply z0e) | exact HB.out)))); have n1_ := Aside0.mk (z04 (by repeat (first | (with_reducible first | exact HB.out | apply z0f | apply z0c | apply z0e) | exact HB.out)) hb); clear HB; have HO316 := n0_; have HB := n1_; clear n0_ n1_; clear hb ho10) | ((with_reducible refine z01 (N := 15) rfl ?_); refine Kd.R_lit (Kd.int .i64) _ 3 ?hg (N := 15) ?hd (xs := ([] : List Int)) (inner := []) (ok := fun _ => True) (okp := fun _ => True) ?hr ?hp (fun _ hk => hk) trivial (Below.refl _ _) (Nat.le_refl _) (by simp) ?_; (case hd => rfl); (case hg => rfl); (case hr => first | (go_simp; done) | (go_simp; rfl)); (case hp => exact (Reps.none _ _)); intro v318 w11 ho12 hb hg_ hnew_; clear hg_ hnew_; (first | rw [← Ny317.out] at ho12 | (simp only [Int.reduceToNat] at ho12; rw [← Ny317.out] at ho12)); have n0_ := Aside0.mk (Kd.R_below (by (with_reducible repeat (first | apply Kd.R_alloc | apply Kd.R_drewN | apply Kd.R_drew)); exact HO316.out) hb); have n1_ := Aside0.mk (Kd.R_lower ho12 (z0m (by repeat (first | (with_reducible first | exact HB.out | apply z0f | apply z0c | apply z0e) | exact HB.out)))); have n2_ := Aside0.mk (z04 (by repeat (first | (with_reducible first | exact HB.out | apply z0f | apply z0c | apply z0e) | exact HB.out)) hb); clear HO316; clear HB; have HO316 := n0_; have HO319 := n1_; have HB := n2_; clear n0_ n1_ n2_; clear hb ho12) | ((with_reducible refine z1n (b := .append) (xs := #[.tmp 15, .tmp 16]) rfl ?_); at_builtin; refine Kd.R_append_rows (Kd.int .i64) (w0 := w) w.heap.size rfl (.tmp 15) (.tmp 16) 23 3 (.int .i64 0) 8 rfl Tryz.underlying23 info3 rfl (by decide) (by omega) v318 y317 l0 _ _ _ (fun _ => True) (fun _ => False) rfl rfl ?aO ?aR (fun _ _ h => h) (fun _ h => h.elim) ?aF ?aB ?aS ?aL ?_; (case aR => repeat (first | exact (Kd.C_below HR0.out HB.out) | (with_reducible refine Kd.C_alloc ?_ _) | (with_reducible refine Kd.C_drewN ?_ _) | (with_reducible refine Kd.C_drew ?_))); (case aB => exact (by repeat (first | (with_reducible first | exact HB.out | apply z0f | apply z0c | apply z0e) | exact HB.out))); (case aF => exact (fun _ _ => trivial)); (case aO => exact (by (with_reducible repeat (first | apply Kd.R_alloc | apply Kd.R_drewN | apply Kd.R_drew)); exact HO319.out)); (case aS => exact (z0m (by repeat (first | (with_reducible first | exact HB.out | apply z0f | apply z0c | apply z0e) | exact HB.out)))); (case aL => have := LMc7.out; omega); intro v321 w13 ho hb hg hat; rw [← Ny320.out] at ho; have n0_ := Aside0.mk (Kd.R_over' (by (with_reducible repeat (first | apply Kd.R_alloc | apply Kd.R_drewN | apply Kd.R_drew)); exact HO316.out) (Kd.R_typed (by (with_reducible repeat (first | apply Kd.R_alloc | apply Kd.R_drewN | apply Kd.R_drew)); exact HO319.out)) (by decide) hg); have n1_ := Aside0.mk (hb); have n2_ := Aside0.mk (ho); clear HO316; clear HB; clear HO319; have HO316 := n0_; have HB := n1_; have HO322 := n2_; clear n0_ n1_ n2_; clear ho hb hg hat) | ((with_reducible refine z1n (b := .append) (xs := #[.tmp 17, .tmp 18]) rfl ?_); at_builtin; refine Kd.R_append_rows (Kd.int .i64) (w0 := w) w.heap.size rfl (.tmp 17) (.tmp 18) 23 3 (.int .i64 0) 8 rfl Tryz.underlying23 info3 rfl (by decide) (by omega) v321 y320 l1 _ _ _ (fun _ => True) (fun _ => False) rfl rfl ?aO ?aR (fun _ _ h => h) (fun _ h => h.elim) ?aF ?aB ?aS ?aL ?_; (case aR => repeat (first | exact (Kd.C_below HR1.out HB.out) | (with_reducible refine Kd.C_alloc ?_ _) | (with_reducible refine Kd.C_drewN ?_ _) | (with_reducible refine Kd.C_drew ?_))); (case aB => exact (by repeat (first | (with_reducible first | exact HB.out | apply z0f | apply z0c | apply z0e) | exact HB.out))); (case aF => exact (fun _ _ => trivial)); (case aO => exact (by (with_reducible repeat (first | apply Kd.R_alloc | apply Kd.R_drewN | apply Kd.R_drew)); exact HO322.out)); (case aS => exact (z0m (by repeat (first | (with_reducible first | exact HB.out | apply z0f | apply z0c | apply z0e) | exact HB.out)))); (case aL => have := LMc8.out; omega); intro v324 w14 ho hb hg hat; rw [← Ny323.out] at ho; have n0_ := Aside0.mk (Kd.R_over' (by (with_reducible repeat (first | apply Kd.R_alloc | apply Kd.R_drewN | apply Kd.R_drew)); exact HO316.out) (Kd.R_typed (by (with_reducible repeat (first | apply Kd.R_alloc | apply Kd.R_drewN | apply Kd.R_drew)); exact HO322.out)) (by decide) hg); have n1_ := Aside0.mk (hb); have n2_ := Aside0.mk (ho); clear HO316; clear HB; clear HO322; have HO316 := n0_; have HB := n1_; have HO325 := n2_; clear n0_ n1_ n2_; clear ho hb hg hat))
     go_loopg [10, 11] k (fun kq v10 v11 w' => ∃ (x10_1 : List Int) (x11_1 : Int), v11 = .int .i64 x11_1 ∧ Aside0 (understoryref12_apart.l0 kq l2 y314 x10_1 x11_1 = some r) ∧ Aside0 (kq ≤ k) ∧ Aside0 (Kd.R Kd.bool 4 w' w.heap.size (fun _ => True) v315 y314) ∧ Aside0 (Kd.R (Kd.int .i64) 3 w' w.heap.size (fun _ => True) v10 x10_1) ∧ Aside0 (Below w.heap.size w w'))
     case atStart => exact ⟨(y323), (0), (by first | rfl | (simp; done) | (simp [*]; done)), H', ⟨Nat.le_refl _⟩, ⟨by (with_reducible repeat (first | apply Kd.R_alloc | apply Kd.R_drewN | apply Kd.R_drew)); exact HO316.out⟩, ⟨by (with_reducible repeat (first | apply Kd.R_alloc | apply Kd.R_drewN | apply Kd.R_drew)); exact HO325.out⟩, ⟨by repeat (first | (with_reducible first | exact HB.out | apply z0f | apply z0c | apply z0e) | exact HB.out)⟩⟩
     case round =>
      clear H'
      try clear c1
      try clear c2
      try clear p2
      try clear c5
      try clear c5b0
      try clear c5b1
      try clear c6
      try clear c6b0
      try clear c6b1
      try clear c7
      try clear c8
      obtain ⟨x10_1, x11_1, rfl, HA, HK1, HO_9, HO_10, HB⟩ := hrel
      cases gk with
      | zero => exact absurd HA.out (by simp [understoryref12_apart.l0])
      | succ k1 =>
       have H := HA.out
       clear HA
       simp only [understoryref12_apart.l0] at H
       by_cases c15 : x11_1 < (l2.length : Int)
       ·rw [if_pos c15] at H
        have c15b0 : decide (x11_1 < (l2.length : Int)) = true := decide_eq_true c15
        clear c15
        by_cases c16 : 0 ≤ x11_1
        ·rw [if_pos c16] at H
         have c16b0 : decide (0 ≤ x11_1) = true := decide_eq_true c16
         clear c16
         by_cases c17 : x10_1.length + ((rd_T64 l2 x11_1).f1).length < 17592186044416
         ·rw [if_pos c17] at H
          have LMc17 := Aside0.mk c17
          clear c17
          obtain ⟨y327, hy327⟩ : ∃ y_ : List Int, y_ = (x10_1 ++ ((rd_T64 l2 x11_1).f1)) := ⟨_, rfl⟩
          replace H : (understoryref12_apart.l0 k1 l2 y314 y327 (wrap64 (x11_1 + 1))) = some r := by first | (rw [hy327]; with_reducible exact H) | (have H2_ := (Option.bind_some _ _).symm.trans H; rw [hy327]; with_reducible exact H2_) | (have H2_ := (Option.bind_some _ _).symm.trans H; with_reducible exact H2_) | with_reducible exact H | (rw [hy327]; exact H) | exact H
          have Ny327 := Aside0.mk hy327
          clear hy327
          have H' := Aside0.mk H
          clear H
          have p326 : 0 ≤ (x11_1 : Int) := of_decide_eq_true (by first | (with_reducible assumption) | assumption)
          have q326 : x11_1 < (l2.length : Int) := of_decide_eq_true (by first | (with_reducible assumption) | assumption)
          obtain ⟨ad326, A326_1, c326_1, e326, hx326_0, hx326_1, hl326_1, hi326_1⟩ := z0n HR2.out x11_1 p326 q326
          cases e326
          replace hx326_0 := (HB.out.cell (World.block_lt_of_cell? w _ hx326_0)).trans hx326_0
          replace hx326_1 := (HB.out.cell (World.block_lt_of_cell? w _ hx326_1)).trans hx326_1
          have HR326_1 := Aside0.mk hi326_1
          have HC326_1 := Aside0.mk hl326_1
          clear hi326_1 hl326_1
          replace p326 := eq_true p326
          replace q326 := eq_true q326
          go_wp2_with (first | ((with_reducible refine z1n (b := .append) (xs := #[.tmp 26, .tmp 31]) rfl ?_); at_builtin; refine Kd.R_append_rows (Kd.int .i64) (w0 := w) w.heap.size rfl (.tmp 26) (.tmp 31) 23 3 (.int .i64 0) 8 rfl Tryz.underlying23 info3 rfl (by decide) (by omega) u10 x10_1 ((rd_T64 l2 x11_1).f1) _ _ _ (fun _ => True) (fun _ => False) rfl rfl ?aO ?aR (fun _ _ h => h) (fun _ h => h.elim) ?aF ?aB ?aS ?aL ?_; (case aR => repeat (first | exact (Kd.C_below HR326_1.out HB.out) | (with_reducible refine Kd.C_alloc ?_ _) | (with_reducible refine Kd.C_drewN ?_ _) | (with_reducible refine Kd.C_drew ?_))); (case aB => exact (by repeat (first | (with_reducible first | exact HB.out | apply z0f | apply z0c | apply z0e) | exact HB.out))); (case aF => exact (fun _ _ => trivial)); (case aO => exact (by (with_reducible repeat (first | apply Kd.R_alloc | apply Kd.R_drewN | apply Kd.R_drew)); exact HO_10.out)); (case aS => exact (z0m (by repeat (first | (with_reducible first | exact HB.out | apply z0f | apply z0c | apply z0e) | exact HB.out)))); (case aL => have := LMc17.out; omega); intro v328 w18 ho hb hg hat; rw [← Ny327.out] at ho; have n0_ := Aside0.mk (Kd.R_over' (by (with_reducible repeat (first | apply Kd.R_alloc | apply Kd.R_drewN | apply Kd.R_drew)); exact HO_9.out) (Kd.R_typed (by (with_reducible repeat (first | apply Kd.R_alloc | apply Kd.R_drewN | apply Kd.R_drew)); exact HO_10.out)) (by decide) hg); have n1_ := Aside0.mk (hb); have n2_ := Aside0.mk (ho); clear HO_9; clear HB; clear HO_10; have HO_9 := n0_; have HB := n1_; have HO329 := n2_; clear n0_ n1_ n2_; clear ho hb hg hat))
          go_roundg k1
          case measure => have := HK1.out; omega
          case rel => exact ⟨(y327), (wrap64 (x11_1 + 1)), (by first | rfl | (simp; done) | (simp [*]; done)), H', ⟨by have := HK1.out; omega⟩, ⟨by (with_reducible repeat (first | apply Kd.R_alloc | apply Kd.R_drewN | apply Kd.R_drew)); exact HO_9.out⟩, ⟨by (with_reducible repeat (first | apply Kd.R_alloc | apply Kd.R_drewN | apply Kd.R_drew)); exact HO329.out⟩, ⟨by repeat (first | (with_reducible first | exact HB.out | apply z0f | apply z0c | apply z0e) | exact HB.out)⟩⟩
         ·rw [if_neg c17] at H
          exact absurd H (by simp)
        ·rw [if_neg c16] at H
         exact absurd H (by simp)
       ·rw [if_neg c15] at H
        have c15b0 : decide (x11_1 < (l2.length : Int)) = false := decide_eq_false c15
        clear c15
        have H' := Aside0.mk H
        clear H
        go_wp2
        go_loopg [12] k1 (fun kq v12 w' => ∃ (x9_2 : List Bool) (x12_2 : Int), v12 = .int .i64 x12_2 ∧ Aside0 (understoryref12_apart.l1 kq x9_2 x10_1 x12_2 = some r) ∧ Aside0 (kq ≤ k1) ∧ Aside0 (Kd.R Kd.bool 4 w' w.heap.size (fun _ => True) v315 x9_2) ∧ Aside0 (Kd.R (Kd.int .i64) 3 w' w.heap.size (fun _ => True) u10 x10_1) ∧ Aside0 (Below w.heap.size w w'))
        case atStart => exact ⟨(y314), (0), (by first | rfl | (simp; done) | (simp [*]; done)), H', ⟨Nat.le_refl _⟩, ⟨by (with_reducible repeat (first | apply Kd.R_alloc | apply Kd.R_drewN | apply Kd.R_drew)); exact HO_9.out⟩, ⟨by (with_reducible repeat (first | apply Kd.R_alloc | apply Kd.R_drewN | apply Kd.R_drew)); exact HO_10.out⟩, ⟨by repeat (first | (with_reducible first | exact HB.out | apply z0f | apply z0c | apply z0e) | exact HB.out)⟩⟩
        case round =>
         clear H'
         try clear c1
         try clear c2
         try clear p2
         try clear c3
         try clear p3
         try clear q3
         try clear hx3
         try clear c5
         try clear c5b0
         try clear c5b1
         try clear c6
         try clear c6b0
         try clear c6b1
         try clear p6
         try clear c7
         try clear c8
         try clear c15
         try clear c15b0
         try clear c16
         try clear c16b0
         try clear c17
         try clear hx326_0
         try clear hx326_1
         try clear p2
         try clear p326
         try clear q326
         obtain ⟨x9_2, x12_2, rfl, HA, HK2, HO_9, HO_10, HB⟩ := hrel
         cases gk with
         | zero => exact absurd HA.out (by simp [understoryref12_apart.l1])
         | succ k2 =>
          have H := HA.out
          clear HA
          simp only [understoryref12_apart.l1] at H
          by_cases c19 : x12_2 < (x10_1.length : Int)
          ·rw [if_pos c19] at H
           have c19b0 : decide (x12_2 < (x10_1.length : Int)) = true := decide_eq_true c19
           clear c19
           by_cases c20 : 0 ≤ x12_2
           ·rw [if_pos c20] at H
            have c20b0 : decide (0 ≤ x12_2) = true := decide_eq_true c20
            clear c20
            by_cases c21 : 0 ≤ (rd x10_1 x12_2)
            ·rw [if_pos c21] at H
             have c21b0 : decide (0 ≤ (rd x10_1 x12_2)) = true := decide_eq_true c21
             clear c21
             by_cases c22 : (rd x10_1 x12_2) < (x9_2.length : Int)
             ·rw [if_pos c22] at H
              have c22b0 : decide ((rd x10_1 x12_2) < (x9_2.length : Int)) = true := decide_eq_true c22
              clear c22
              obtain ⟨bq23, hbq23⟩ : ∃ b_ : Bool, b_ = (rdOf false x9_2 (rd x10_1 x12_2)) := ⟨_, rfl⟩
              replace H : (if bq23 = true then (some false) else (understoryref12_apart.l1 k2 (x9_2.set ((rd x10_1 x12_2) : Int).toNat true) x10_1 (wrap64 (x12_2 + 1)))) = some r := by rw [← hbq23] at H; exact H
              have Nbq23 := Aside0.mk hbq23
              clear hbq23
              by_cases c24 : bq23 = true
              ·subst c24
               have H1 : (some false) = some r := by rw [if_pos rfl] at H; exact H
               clear H
               have H := H1
               clear H1
               obtain rfl := Option.some.inj H
               obtain ⟨Ao25, co25, eo25⟩ := Kd.R_slice HO_10.out
               subst eo25
               have p330 : 0 ≤ (x12_2 : Int) := of_decide_eq_true (by first | (with_reducible assumption) | assumption)
               have q330 : x12_2 < (x10_1.length : Int) := of_decide_eq_true (by first | (with_reducible assumption) | assumption)
               obtain ⟨ad330, e330, hx330_0⟩ := Kd.at_int (Kd.R_reads' HO_10.out).2.2 x12_2 p330 q330
               cases e330
               replace p330 := eq_true p330
               replace q330 := eq_true q330
               obtain ⟨Ao26, co26, eo26⟩ := Kd.R_slice HO_9.out
               subst eo26
               have p331 : 0 ≤ ((rd x10_1 x12_2) : Int) := of_decide_eq_true (by first | (with_reducible assumption) | assumption)
               have q331 : (rd x10_1 x12_2) < (x9_2.length : Int) := of_decide_eq_true (by first | (with_reducible assumption) | assumption)
               obtain ⟨ad331, e331, hx331_0⟩ := Kd.at_bool (Kd.R_reads' HO_9.out).2.2 (rd x10_1 x12_2) p331 q331
               (try rw [← Nbq23.out] at hx331_0)
               cases e331
               replace p331 := eq_true p331
               replace q331 := eq_true q331
               go_wp2
               go_ret
               exact ⟨by first | rfl | (simp [z0r, z0s] <;> rfl) | (simp [*, z0r, z0s] <;> rfl), by repeat (first | (with_reducible first | exact HB.out | apply z0f | apply z0c | apply z0e) | exact HB.out)⟩
              ·replace c24 := Bool.eq_false_iff.mpr c24
               subst c24
               have H1 : (understoryref12_apart.l1 k2 (x9_2.set ((rd x10_1 x12_2) : Int).toNat true) x10_1 (wrap64 (x12_2 + 1))) = some r := by rw [if_neg (show ¬ (false = true) by decide)] at H; exact H
               clear H
               have H := H1
               clear H1
               obtain ⟨y333, hy333⟩ : ∃ y_ : List Bool, y_ = (x9_2.set ((rd x10_1 x12_2) : Int).toNat true) := ⟨_, rfl⟩
               replace H : (understoryref12_apart.l1 k2 y333 x10_1 (wrap64 (x12_2 + 1))) = some r := by first | (rw [hy333]; with_reducible exact H) | (have H2_ := (Option.bind_some _ _).symm.trans H; rw [hy333]; with_reducible exact H2_) | (have H2_ := (Option.bind_some _ _).symm.trans H; with_reducible exact H2_) | with_reducible exact H | (rw [hy333]; exact H) | exact H
               have Ny333 := Aside0.mk hy333
               clear hy333
               have H' := Aside0.mk H
               clear H
               obtain ⟨Ao28, co28, eo28⟩ := Kd.R_slice HO_10.out
               subst eo28
               have p330 : 0 ≤ (x12_2 : Int) := of_decide_eq_true (by first | (with_reducible assumption) | assumption)
               have q330 : x12_2 < (x10_1.length : Int) := of_decide_eq_true (by first | (with_reducible assumption) | assumption)
               obtain ⟨ad330, e330, hx330_0⟩ := Kd.at_int (Kd.R_reads' HO_10.out).2.2 x12_2 p330 q330
               cases e330
               replace p330 := eq_true p330
               replace q330 := eq_true q330
               obtain ⟨Ao29, co29, eo29⟩ := Kd.R_slice HO_9.out
               subst eo29
               have p331 : 0 ≤ ((rd x10_1 x12_2) : Int) := of_decide_eq_true (by first | (with_reducible assumption) | assumption)
               have q331 : (rd x10_1 x12_2) < (x9_2.length : Int) := of_decide_eq_true (by first | (with_reducible assumption) | assumption)
               obtain ⟨ad331, e331, hx331_0⟩ := Kd.at_bool (Kd.R_reads' HO_9.out).2.2 (rd x10_1 x12_2) p331 q331
               (try rw [← Nbq23.out] at hx331_0)
               cases e331
               replace p331 := eq_true p331
               replace q331 := eq_true q331
               have p332 : 0 ≤ (x12_2 : Int) := of_decide_eq_true (by first | (with_reducible assumption) | assumption)
               have q332 : x12_2 < (x10_1.length : Int) := of_decide_eq_true (by first | (with_reducible assumption) | assumption)
               obtain ⟨ad332, e332, hx332_0⟩ := Kd.at_int (Kd.R_reads' HO_10.out).2.2 x12_2 p332 q332
               obtain rfl : ad330 = ad332 := (by injection e332)
               replace p332 := eq_true p332
               replace q332 := eq_true q332
               have p27 : 0 ≤ ((rd x10_1 x12_2) : Int) := of_decide_eq_true (by first | (with_reducible assumption) | assumption)
               have q27 : ((rd x10_1 x12_2) : Int) < ((x9_2.length : Int) : Int) := of_decide_eq_true (by first | (with_reducible assumption) | assumption)
               obtain ⟨go27, co27, eo27, gb27, gl27, cl27, HG27⟩ := Kd.R_form HO_9.out (by omega)
               (first | cases eo27 | (injection eo27 with ea_ en_ ec_; (first | subst ea_ | (injection ea_ with ea_; subst ea_)); subst ec_; clear en_))
               have GB27 := Aside0.mk gb27
               have GG27 := Aside0.mk HG27
               clear gb27 gl27 HG27
               (first | simp only [z2x] at hx331_0 | skip)
               obtain ⟨hx27_0, hf27_0⟩ := Kd.R_celln false HO_9.out ((rd x10_1 x12_2) : Int) p27 q27
               replace p27 := eq_true p27
               replace q27 := eq_true q27
               have HP30 := Kd.R_putg HO_9.out ((rd x10_1 x12_2) : Int) true
               go_wp2_with (first | ((with_reducible refine z8b (t := 4) (p := 51) rfl ?_); refine z8a (t := 4) (p := 51) (v := ?vo_w31) (w1 := (wr.setCell ⟨go27, ((rd x10_1 x12_2) : Int).toNat, none⟩ (.bool true))) ?hg ?ho ?hn ?hr ?_; (case ho => rfl); (case hg => rfl); (case hn => rfl); (case hr => first | (go_simp; done) | (go_simp; rfl)); intro w31 hw; have hg : wr.grownBy w31 (some go27) := (by rw [hw]; exact HP30.2); have hp_ : Kd.R Kd.bool 4 w31 w.heap.size (fun _ => True) (.slice (some ⟨go27, 0, none⟩) x9_2.length co29) y333 := (by rw [hw, Ny333.out]; exact HP30.1); clear HP30; have n0_ := Aside0.mk (hp_); have n1_ := Aside0.mk (Kd.R_over' (v := (.slice (some ⟨go27, 0, none⟩) x9_2.length co29)) (by (with_reducible repeat (first | apply Kd.R_alloc | apply Kd.R_drewN | apply Kd.R_drew)); exact HO_10.out) (Kd.R_typed HO_9.out) (by decide) hg); have n2_ := Aside0.mk ((by rw [hw]; exact z0z (HB.out) GB27.out : Below w.heap.size w w31)); clear HO_9; clear HO_10; clear HB; have HO_9 := n0_; have HO_10 := n1_; have HB := n2_; clear n0_ n1_ n2_; clear hg hw hp_))
               go_roundg k2
               case measure => have := HK1.out; have := HK2.out; omega
               case rel => exact ⟨(y333), (wrap64 (x12_2 + 1)), (by first | rfl | (simp; done) | (simp [*]; done)), H', ⟨by have := HK1.out; have := HK2.out; omega⟩, ⟨by (with_reducible repeat (first | apply Kd.R_alloc | apply Kd.R_drewN | apply Kd.R_drew)); exact HO_9.out⟩, ⟨by (with_reducible repeat (first | apply Kd.R_alloc | apply Kd.R_drewN | apply Kd.R_drew)); exact HO_10.out⟩, ⟨by repeat (first | (with_reducible first | exact HB.out | apply z0f | apply z0c | apply z0e) | exact HB.out)⟩⟩
             ·rw [if_neg c22] at H
              exact absurd H (by simp)
            ·rw [if_neg c21] at H
             exact absurd H (by simp)
           ·rw [if_neg c20] at H
            exact absurd H (by simp)
          ·rw [if_neg c19] at H
           have c19b0 : decide (x12_2 < (x10_1.length : Int)) = false := decide_eq_false c19
           clear c19
           obtain rfl := Option.some.inj H
           obtain ⟨Ao32, co32, eo32⟩ := Kd.R_slice HO_10.out
           subst eo32
           go_wp2
           go_ret
           exact ⟨by first | rfl | (simp [z0r, z0s] <;> rfl) | (simp [*, z0r, z0s] <;> rfl), by repeat (first | (with_reducible first | exact HB.out | apply z0f | apply z0c | apply z0e) | exact HB.out)⟩
    ·rw [if_neg c8] at H
     exact absurd H (by simp)
   ·rw [if_neg c7] at H
    exact absurd H (by simp)
  ·rw [if_neg c6] at H
   exact absurd H (by simp)
 ·rw [if_neg c5] at H
  exact absurd H (by simp)
def understoryref12_with.l0 : Nat → List Int → Int → List Int → Int → Option (List Int)
 | 0, _, _, _, _ => none
 | k + 1, x0, x1, x5, x6 => if x6 < (x0.length : Int) then (if 0 ≤ x6 then (if (rd x0 x6) < x1 then (if x5.length < 17592186044416 then (understoryref12_with.l0 k x0 x1 (x5 ++ [rd x0 x6]) (wrap64 (x6 + 1))) else (none)) else (if x5.length < 17592186044416 then ((some (x5 ++ [x1] : List Int)).bind fun y339 => (if x6 ≤ (x0.length : Int) then (if y339.length + (x0.drop (x6 : Int).toNat).length < 17592186044416 then (some (y339 ++ (x0.drop (x6 : Int).toNat))) else (none)) else (none))) else (none))) else (none)) else (if x5.length < 17592186044416 then ((some (x5 ++ [x1] : List Int)).bind fun y346 => (if 0 ≤ x6 then (if x6 ≤ (x0.length : Int) then (if y346.length + (x0.drop (x6 : Int).toNat).length < 17592186044416 then (some (y346 ++ (x0.drop (x6 : Int).toNat))) else (none)) else (none)) else (none))) else (none))
def understoryref12_with.f (k : Nat) (l0 : List Int) (a1 : Int) : Option (List Int) := understoryref12_with.l0 k l0 a1 ([] : List Int) 0
theorem understoryref12_with.mono_l : ∀ k, (∀ y0 y1 y2 y3, LeO (understoryref12_with.l0 k y0 y1 y2 y3) (understoryref12_with.l0 (k + 1) y0 y1 y2 y3))
 | 0 => fun _ _ _ _ r h => by simp [understoryref12_with.l0] at h
 | k + 1 => by
  have ih0 := understoryref12_with.mono_l k
  ·intro y0 y1 y2 y3
   unfold understoryref12_with.l0
   repeat' first
   | (with_reducible exact ih0 _ _ _ _)
   | (with_reducible exact LeO.refl _)
   | (with_reducible exact LeO.none _)
   | (with_reducible refine LeO.ite ?_ ?_)
   | (with_reducible refine LeO.bind ?_ (fun _ => ?_))
   | exact ih0 _ _ _ _
   | exact LeO.none _
   | refine LeO.ite ?_ ?_
   | refine LeO.bind ?_ (fun _ => ?_)
theorem understoryref12_with.mono : ∀ a0 a1 k, LeO (understoryref12_with.f k a0 a1) (understoryref12_with.f (k + 1) a0 a1) := by
 intro a0 a1 k
 have ih0 := understoryref12_with.mono_l k
 unfold understoryref12_with.f
 repeat' first
   | (with_reducible exact ih0 _ _ _ _)
   | (with_reducible exact LeO.refl _)
   | (with_reducible exact LeO.none _)
   | (with_reducible refine LeO.ite ?_ ?_)
   | (with_reducible refine LeO.bind ?_ (fun _ => ?_))
   | exact ih0 _ _ _ _
   | exact LeO.none _
   | refine LeO.ite ?_ ?_
   | refine LeO.bind ?_ (fun _ => ?_)
set_option maxHeartbeats 8000000 in
set_option maxRecDepth 100000 in
theorem understoryref12_with.calls (k : Nat) (A0 : Option Addr) (c0 : Nat) (l0 : List Int) (a1 : Int) (r : List Int) (w : World) (hr0 : Kd.C (Kd.int .i64) w A0 l0.length l0) (hc0 : l0.length ≤ c0) (h : understoryref12_with.f k l0 a1 = some r) :
  Calls Tryz.prog 70 #[.slice A0 l0.length c0, .int .i64 a1] w fun e w' => ∃ v0_ : Value, e = .returned (v0_) ∧ Kd.R (Kd.int .i64) 3 w' w.heap.size (fun _ => True) v0_ r ∧ Below w.heap.size w w' := by
 have HR0 := Aside0.mk hr0
 have HC0 := Aside0.mk hc0
 clear hr0 hc0
 have HB := Aside0.mk (Below.refl w.heap.size w)
 have H : (understoryref12_with.l0 k l0 a1 ([] : List Int) 0) = some r := h
 clear h
 have H' := Aside0.mk H
 clear H
 go_enter Tryz.func70, Tryz.ntmps70
 go_wp2
 go_loopg [5, 6] k (fun kq v5 v6 w' => ∃ (x5_1 : List Int) (x6_1 : Int), v6 = .int .i64 x6_1 ∧ Aside0 (understoryref12_with.l0 kq l0 a1 x5_1 x6_1 = some r) ∧ Aside0 (kq ≤ k) ∧ Aside0 (Kd.R (Kd.int .i64) 3 w' w.heap.size (fun _ => True) v5 x5_1) ∧ Aside0 (Below w.heap.size w w'))
 case atStart => exact ⟨(([] : List Int)), (0), (by first | rfl | (simp; done) | (simp [*]; done)), H', ⟨Nat.le_refl _⟩, ⟨by first | exact Kd.R_nil _ _ _ _ _ | exact Kd.N_nil _ _ _ _ _ | exact Kd.V_nil _ _ _ _ _ | exact Kd.Q_nil _ _ _ _ _ | exact Kd.S_nil _ _ _ _ _⟩, ⟨by repeat (first | (with_reducible first | exact HB.out | apply z0f | apply z0c | apply z0e) | exact HB.out)⟩⟩
 case round =>
  clear H'
  try clear p2
  obtain ⟨x5_1, x6_1, rfl, HA, HK1, HO_5, HB⟩ := hrel
  cases gk with
  | zero => exact absurd HA.out (by simp [understoryref12_with.l0])
  | succ k1 =>
   have H := HA.out
   clear HA
   simp only [understoryref12_with.l0] at H
   by_cases c3 : x6_1 < (l0.length : Int)
   ·rw [if_pos c3] at H
    have c3b0 : decide (x6_1 < (l0.length : Int)) = true := decide_eq_true c3
    clear c3
    by_cases c4 : 0 ≤ x6_1
    ·rw [if_pos c4] at H
     have c4b0 : decide (0 ≤ x6_1) = true := decide_eq_true c4
     clear c4
     by_cases c5 : (rd l0 x6_1) < a1
     ·rw [if_pos c5] at H
      have c5b0 : decide ((rd l0 x6_1) < a1) = true := decide_eq_true c5
      clear c5
      by_cases c6 : x5_1.length < 17592186044416
      ·rw [if_pos c6] at H
       have LMc6 := Aside0.mk c6
       clear c6
       obtain ⟨y336, hy336⟩ : ∃ y_ : List Int, y_ = (x5_1 ++ [rd l0 x6_1]) := ⟨_, rfl⟩
       replace H : (understoryref12_with.l0 k1 l0 a1 y336 (wrap64 (x6_1 + 1))) = some r := by first | (rw [hy336]; with_reducible exact H) | (have H2_ := (Option.bind_some _ _).symm.trans H; rw [hy336]; with_reducible exact H2_) | (have H2_ := (Option.bind_some _ _).symm.trans H; with_reducible exact H2_) | with_reducible exact H | (rw [hy336]; exact H) | exact H
       have Ny336 := Aside0.mk hy336
       clear hy336
       have H' := Aside0.mk H
       clear H
       have p334 : 0 ≤ (x6_1 : Int) := of_decide_eq_true (by first | (with_reducible assumption) | assumption)
       have q334 : x6_1 < (l0.length : Int) := of_decide_eq_true (by first | (with_reducible assumption) | assumption)
       obtain ⟨ad334, e334, hx334_0⟩ := Kd.at_int HR0.out x6_1 p334 q334
       cases e334
       replace hx334_0 := (HB.out.cell (World.block_lt_of_cell? w _ hx334_0)).trans hx334_0
       replace p334 := eq_true p334
       replace q334 := eq_true q334
       have p335 : 0 ≤ (x6_1 : Int) := of_decide_eq_true (by first | (with_reducible assumption) | assumption)
       have q335 : x6_1 < (l0.length : Int) := of_decide_eq_true (by first | (with_reducible assumption) | assumption)
       obtain ⟨ad335, e335, hx335_0⟩ := Kd.at_int HR0.out x6_1 p335 q335
       obtain rfl : ad334 = ad335 := (by injection e335)
       replace hx335_0 := (HB.out.cell (World.block_lt_of_cell? w _ hx335_0)).trans hx335_0
       replace p335 := eq_true p335
       replace q335 := eq_true q335
       go_wp2_with (first | ((with_reducible refine z1n (b := .append) (xs := #[.tmp 19, .tmp 24]) rfl ?_); at_builtin; refine Kd.R_append (Kd.int .i64) (w0 := w) w.heap.size rfl (.tmp 19) (.tmp 24) 23 3 (.int .i64 0) 8 rfl Tryz.underlying23 info3 rfl (by decide) (by omega) u5 x5_1 (rd l0 x6_1) [.int .i64 (rd l0 x6_1)] (fun _ => True) (fun _ => False) rfl rfl ?aP (fun _ hk => hk.elim) ?aF ?aO ?aB ?aS ?aL ?_; (case aP => exact rfl); (case aB => exact (by repeat (first | (with_reducible first | exact HB.out | apply z0f | apply z0c | apply z0e) | exact HB.out))); (case aF => exact (fun _ _ => trivial)); (case aO => exact (by (with_reducible repeat (first | apply Kd.R_alloc | apply Kd.R_drewN | apply Kd.R_drew)); exact HO_5.out)); (case aS => exact (z0m (by repeat (first | (with_reducible first | exact HB.out | apply z0f | apply z0c | apply z0e) | exact HB.out)))); (case aL => have := LMc6.out; omega); intro v337 w7 ho hb hg hat; rw [← Ny336.out] at ho; have n0_ := Aside0.mk (hb); have n1_ := Aside0.mk (ho); clear HB; clear HO_5; have HB := n0_; have HO338 := n1_; clear n0_ n1_; clear ho hb hg hat))
       go_roundg k1
       case measure => have := HK1.out; omega
       case rel => exact ⟨(y336), (wrap64 (x6_1 + 1)), (by first | rfl | (simp; done) | (simp [*]; done)), H', ⟨by have := HK1.out; omega⟩, ⟨by (with_reducible repeat (first | apply Kd.R_alloc | apply Kd.R_drewN | apply Kd.R_drew)); exact HO338.out⟩, ⟨by repeat (first | (with_reducible first | exact HB.out | apply z0f | apply z0c | apply z0e) | exact HB.out)⟩⟩
      ·rw [if_neg c6] at H
       exact absurd H (by simp)
     ·rw [if_neg c5] at H
      have c5b0 : decide ((rd l0 x6_1) < a1) = false := decide_eq_false c5
      clear c5
      by_cases c8 : x5_1.length < 17592186044416
      ·rw [if_pos c8] at H
       have LMc8 := Aside0.mk c8
       clear c8
       obtain ⟨y339, hy339⟩ : ∃ y_ : List Int, y_ = (x5_1 ++ [a1]) := ⟨_, rfl⟩
       replace H : (if x6_1 ≤ (l0.length : Int) then (if y339.length + (l0.drop (x6_1 : Int).toNat).length < 17592186044416 then (some (y339 ++ (l0.drop (x6_1 : Int).toNat))) else (none)) else (none)) = some r := by first | (rw [hy339]; with_reducible exact H) | (have H2_ := (Option.bind_some _ _).symm.trans H; rw [hy339]; with_reducible exact H2_) | (have H2_ := (Option.bind_some _ _).symm.trans H; with_reducible exact H2_) | with_reducible exact H | (rw [hy339]; exact H) | exact H
       have Ny339 := Aside0.mk hy339
       clear hy339
       have c9b0 := eq_true (of_decide_eq_true (by first | (with_reducible assumption) | assumption) : 0 ≤ x6_1)
       by_cases c10 : x6_1 ≤ (l0.length : Int)
       ·rw [if_pos c10] at H
        have c10b0 := eq_true c10
        have c10b1 : decide (x6_1 ≤ (l0.length : Int)) = true := decide_eq_true c10
        clear c10
        by_cases c11 : y339.length + (l0.drop (x6_1 : Int).toNat).length < 17592186044416
        ·rw [if_pos c11] at H
         have LMc11 := Aside0.mk c11
         clear c11
         obtain ⟨y343, hy343⟩ : ∃ y_ : List Int, y_ = (y339 ++ (l0.drop (x6_1 : Int).toNat)) := ⟨_, rfl⟩
         replace H : (some y343) = some r := by first | (rw [hy343]; with_reducible exact H) | (have H2_ := (Option.bind_some _ _).symm.trans H; rw [hy343]; with_reducible exact H2_) | (have H2_ := (Option.bind_some _ _).symm.trans H; with_reducible exact H2_) | with_reducible exact H | (rw [hy343]; exact H) | exact H
         have Ny343 := Aside0.mk hy343
         clear hy343
         obtain rfl := Option.some.inj H
         have p334 : 0 ≤ (x6_1 : Int) := of_decide_eq_true (by first | (with_reducible assumption) | assumption)
         have q334 : x6_1 < (l0.length : Int) := of_decide_eq_true (by first | (with_reducible assumption) | assumption)
         obtain ⟨ad334, e334, hx334_0⟩ := Kd.at_int HR0.out x6_1 p334 q334
         cases e334
         replace hx334_0 := (HB.out.cell (World.block_lt_of_cell? w _ hx334_0)).trans hx334_0
         replace p334 := eq_true p334
         replace q334 := eq_true q334
         go_wp2_with (first | ((with_reducible refine z1n (b := .append) (xs := #[.tmp 28, .tmp 30]) rfl ?_); at_builtin; refine Kd.R_append (Kd.int .i64) (w0 := w) w.heap.size rfl (.tmp 28) (.tmp 30) 23 3 (.int .i64 0) 8 rfl Tryz.underlying23 info3 rfl (by decide) (by omega) u5 x5_1 a1 [.int .i64 a1] (fun _ => True) (fun _ => False) rfl rfl ?aP (fun _ hk => hk.elim) ?aF ?aO ?aB ?aS ?aL ?_; (case aP => exact rfl); (case aB => exact (by repeat (first | (with_reducible first | exact HB.out | apply z0f | apply z0c | apply z0e) | exact HB.out))); (case aF => exact (fun _ _ => trivial)); (case aO => exact (by (with_reducible repeat (first | apply Kd.R_alloc | apply Kd.R_drewN | apply Kd.R_drew)); exact HO_5.out)); (case aS => exact (z0m (by repeat (first | (with_reducible first | exact HB.out | apply z0f | apply z0c | apply z0e) | exact HB.out)))); (case aL => have := LMc8.out; omega); intro v340 w12 ho hb hg hat; rw [← Ny339.out] at ho; have n0_ := Aside0.mk (hb); have n1_ := Aside0.mk (ho); clear HB; clear HO_5; have HB := n0_; have HO341 := n1_; clear n0_ n1_; clear ho hb hg hat; obtain ⟨i013, hi013, _, hsz13, _⟩ := info_parts info3; obtain ⟨A13, hcut13, hA13, hC13⟩ := z5e (P := Tryz.prog) (Value.int .i64) 0 23 3 .i64 Tryz.underlying23 hi013 hsz13 (some ad334) c0 l0 x6_1 (of_decide_eq_true (by first | (with_reducible assumption) | assumption)) (of_decide_eq_true (by first | (with_reducible assumption) | assumption)) HC0.out; have HR342 := Aside0.mk (Kd.C_of_reads (h1 := fun _ => rfl) (hA13 _ (Kd.reads_of_C HR0.out))); have HC342 := Aside0.mk hC13; clear hA13 hC13 hi013 hsz13) | ((with_reducible refine z1n (b := .append) (xs := #[.tmp 32, .tmp 35]) rfl ?_); at_builtin; refine Kd.R_append_rows (Kd.int .i64) (w0 := w) w.heap.size rfl (.tmp 32) (.tmp 35) 23 3 (.int .i64 0) 8 rfl Tryz.underlying23 info3 rfl (by decide) (by omega) v340 y339 (l0.drop (x6_1 : Int).toNat) _ _ _ (fun _ => True) (fun _ => False) rfl rfl ?aO ?aR (fun _ _ h => h) (fun _ h => h.elim) ?aF ?aB ?aS ?aL ?_; (case aR => first | (rw [← show (l0.drop (x6_1 : Int).toNat).length = (l0.length - x6_1.toNat) from List.length_drop]; repeat (first | exact (Kd.C_below HR342.out HB.out) | (with_reducible refine Kd.C_alloc ?_ _) | (with_reducible refine Kd.C_drewN ?_ _) | (with_reducible refine Kd.C_drew ?_))) | (repeat (first | exact (Kd.C_below HR342.out HB.out) | (with_reducible refine Kd.C_alloc ?_ _) | (with_reducible refine Kd.C_drewN ?_ _) | (with_reducible refine Kd.C_drew ?_)))); (case aB => exact (by repeat (first | (with_reducible first | exact HB.out | apply z0f | apply z0c | apply z0e) | exact HB.out))); (case aF => exact (fun _ _ => trivial)); (case aO => exact (by (with_reducible repeat (first | apply Kd.R_alloc | apply Kd.R_drewN | apply Kd.R_drew)); exact HO341.out)); (case aS => exact (z0m (by repeat (first | (with_reducible first | exact HB.out | apply z0f | apply z0c | apply z0e) | exact HB.out)))); (case aL => have := LMc11.out; have hlx_ := (show (l0.drop (x6_1 : Int).toNat).length = (l0.length - x6_1.toNat) from List.length_drop); omega); intro v344 w14 ho hb hg hat; rw [← Ny343.out] at ho; have n0_ := Aside0.mk (hb); have n1_ := Aside0.mk (ho); clear HB; clear HO341; have HB := n0_; have HO345 := n1_; clear n0_ n1_; clear ho hb hg hat))
         go_ret
         exact ⟨_, by first | rfl | (simp [z0r, z0s] <;> rfl) | (simp [*, z0r, z0s] <;> rfl), by (with_reducible repeat (first | apply Kd.R_alloc | apply Kd.R_drewN | apply Kd.R_drew)); exact HO345.out, by repeat (first | (with_reducible first | exact HB.out | apply z0f | apply z0c | apply z0e) | exact HB.out)⟩
        ·rw [if_neg c11] at H
         exact absurd H (by simp)
       ·rw [if_neg c10] at H
        exact absurd H (by simp)
      ·rw [if_neg c8] at H
       exact absurd H (by simp)
    ·rw [if_neg c4] at H
     exact absurd H (by simp)
   ·rw [if_neg c3] at H
    have c3b0 : decide (x6_1 < (l0.length : Int)) = false := decide_eq_false c3
    clear c3
    by_cases c15 : x5_1.length < 17592186044416
    ·rw [if_pos c15] at H
     have LMc15 := Aside0.mk c15
     clear c15
     obtain ⟨y346, hy346⟩ : ∃ y_ : List Int, y_ = (x5_1 ++ [a1]) := ⟨_, rfl⟩
     replace H : (if 0 ≤ x6_1 then (if x6_1 ≤ (l0.length : Int) then (if y346.length + (l0.drop (x6_1 : Int).toNat).length < 17592186044416 then (some (y346 ++ (l0.drop (x6_1 : Int).toNat))) else (none)) else (none)) else (none)) = some r := by first | (rw [hy346]; with_reducible exact H) | (have H2_ := (Option.bind_some _ _).symm.trans H; rw [hy346]; with_reducible exact H2_) | (have H2_ := (Option.bind_some _ _).symm.trans H; with_reducible exact H2_) | with_reducible exact H | (rw [hy346]; exact H) | exact H
     have Ny346 := Aside0.mk hy346
     clear hy346
     by_cases c16 : 0 ≤ x6_1
     ·rw [if_pos c16] at H
      have c16b0 := eq_true c16
      have c16b1 : decide (0 ≤ x6_1) = true := decide_eq_true c16
      clear c16
      by_cases c17 : x6_1 ≤ (l0.length : Int)
      ·rw [if_pos c17] at H
       have c17b0 := eq_true c17
       have c17b1 : decide (x6_1 ≤ (l0.length : Int)) = true := decide_eq_true c17
       clear c17
       by_cases c18 : y346.length + (l0.drop (x6_1 : Int).toNat).length < 17592186044416
       ·rw [if_pos c18] at H
        have LMc18 := Aside0.mk c18
        clear c18
        obtain ⟨y350, hy350⟩ : ∃ y_ : List Int, y_ = (y346 ++ (l0.drop (x6_1 : Int).toNat)) := ⟨_, rfl⟩
        replace H : (some y350) = some r := by first | (rw [hy350]; with_reducible exact H) | (have H2_ := (Option.bind_some _ _).symm.trans H; rw [hy350]; with_reducible exact H2_) | (have H2_ := (Option.bind_some _ _).symm.trans H; with_reducible exact H2_) | with_reducible exact H | (rw [hy350]; exact H) | exact H
        have Ny350 := Aside0.mk hy350
        clear hy350
        obtain rfl := Option.some.inj H
        go_wp2_with (first | ((with_reducible refine z1n (b := .append) (xs := #[.tmp 28, .tmp 30]) rfl ?_); at_builtin; refine Kd.R_append (Kd.int .i64) (w0 := w) w.heap.size rfl (.tmp 28) (.tmp 30) 23 3 (.int .i64 0) 8 rfl Tryz.underlying23 info3 rfl (by decide) (by omega) u5 x5_1 a1 [.int .i64 a1] (fun _ => True) (fun _ => False) rfl rfl ?aP (fun _ hk => hk.elim) ?aF ?aO ?aB ?aS ?aL ?_; (case aP => exact rfl); (case aB => exact (by repeat (first | (with_reducible first | exact HB.out | apply z0f | apply z0c | apply z0e) | exact HB.out))); (case aF => exact (fun _ _ => trivial)); (case aO => exact (by (with_reducible repeat (first | apply Kd.R_alloc | apply Kd.R_drewN | apply Kd.R_drew)); exact HO_5.out)); (case aS => exact (z0m (by repeat (first | (with_reducible first | exact HB.out | apply z0f | apply z0c | apply z0e) | exact HB.out)))); (case aL => have := LMc15.out; omega); intro v347 w19 ho hb hg hat; rw [← Ny346.out] at ho; have n0_ := Aside0.mk (hb); have n1_ := Aside0.mk (ho); clear HB; clear HO_5; have HB := n0_; have HO348 := n1_; clear n0_ n1_; clear ho hb hg hat; obtain ⟨i020, hi020, _, hsz20, _⟩ := info_parts info3; obtain ⟨A20, hcut20, hA20, hC20⟩ := z5e (P := Tryz.prog) (Value.int .i64) 0 23 3 .i64 Tryz.underlying23 hi020 hsz20 A0 c0 l0 x6_1 (of_decide_eq_true (by first | (with_reducible assumption) | assumption)) (of_decide_eq_true (by first | (with_reducible assumption) | assumption)) HC0.out; have HR349 := Aside0.mk (Kd.C_of_reads (h1 := fun _ => rfl) (hA20 _ (Kd.reads_of_C HR0.out))); have HC349 := Aside0.mk hC20; clear hA20 hC20 hi020 hsz20) | ((with_reducible refine z1n (b := .append) (xs := #[.tmp 32, .tmp 35]) rfl ?_); at_builtin; refine Kd.R_append_rows (Kd.int .i64) (w0 := w) w.heap.size rfl (.tmp 32) (.tmp 35) 23 3 (.int .i64 0) 8 rfl Tryz.underlying23 info3 rfl (by decide) (by omega) v347 y346 (l0.drop (x6_1 : Int).toNat) _ _ _ (fun _ => True) (fun _ => False) rfl rfl ?aO ?aR (fun _ _ h => h) (fun _ h => h.elim) ?aF ?aB ?aS ?aL ?_; (case aR => first | (rw [← show (l0.drop (x6_1 : Int).toNat).length = (l0.length - x6_1.toNat) from List.length_drop]; repeat (first | exact (Kd.C_below HR349.out HB.out) | (with_reducible refine Kd.C_alloc ?_ _) | (with_reducible refine Kd.C_drewN ?_ _) | (with_reducible refine Kd.C_drew ?_))) | (repeat (first | exact (Kd.C_below HR349.out HB.out) | (with_reducible refine Kd.C_alloc ?_ _) | (with_reducible refine Kd.C_drewN ?_ _) | (with_reducible refine Kd.C_drew ?_)))); (case aB => exact (by repeat (first | (with_reducible first | exact HB.out | apply z0f | apply z0c | apply z0e) | exact HB.out))); (case aF => exact (fun _ _ => trivial)); (case aO => exact (by (with_reducible repeat (first | apply Kd.R_alloc | apply Kd.R_drewN | apply Kd.R_drew)); exact HO348.out)); (case aS => exact (z0m (by repeat (first | (with_reducible first | exact HB.out | apply z0f | apply z0c | apply z0e) | exact HB.out)))); (case aL => have := LMc18.out; have hlx_ := (show (l0.drop (x6_1 : Int).toNat).length = (l0.length - x6_1.toNat) from List.length_drop); omega); intro v351 w21 ho hb hg hat; rw [← Ny350.out] at ho; have n0_ := Aside0.mk (hb); have n1_ := Aside0.mk (ho); clear HB; clear HO348; have HB := n0_; have HO352 := n1_; clear n0_ n1_; clear ho hb hg hat))
        go_ret
        exact ⟨_, by first | rfl | (simp [z0r, z0s] <;> rfl) | (simp [*, z0r, z0s] <;> rfl), by (with_reducible repeat (first | apply Kd.R_alloc | apply Kd.R_drewN | apply Kd.R_drew)); exact HO352.out, by repeat (first | (with_reducible first | exact HB.out | apply z0f | apply z0c | apply z0e) | exact HB.out)⟩
       ·rw [if_neg c18] at H
        exact absurd H (by simp)
      ·rw [if_neg c17] at H
       exact absurd H (by simp)
     ·rw [if_neg c16] at H
      exact absurd H (by simp)
    ·rw [if_neg c15] at H
     exact absurd H (by simp)
end Go.Proofs.YtpnhelcemodnmaaGreat.PA
namespace Go.Proofs.YtpnhelcemodnmaaGreat
open Go.RowKit Go.Shelf Go.Proofs.YtpnhelcemodnmaaGreatW.PrintWords Go.Proofs.YtpnhelcemodnmaaGreatW.PrintLast Go.Proofs.YtpnhelcemodnmaaGreatW.PrintMore PA
set_option linter.unusedVariables false
set_option linter.unusedSimpArgs false
attribute [local go_sem] Oper.semAt_some
theorem z42 {p : Int} {xs : List Int} {q : Nat} (hlt : q < xs.length) (h : ¬ ((2 ≤ xs[q] ∧ xs[q] ≤ p - 1) ∧ ∀ j, q = j + 1 → (hj : j < xs.length) → xs[j] < xs[q])) : incB p xs = false :=
 decide_eq_false fun hi => h ((z3b p xs q hlt).1 (z2o p xs _ hi)).2
theorem once_l0 (p : Int) (xs : List Int) (hlm : xs.length ≤ 9223372036854775806) (d : Nat) : ∀ (k q : Nat), q ≤ xs.length → xs.length - q = d → d < k → incP p (xs.take q) → understoryref12_once.l0 k xs p (q : Int) = some (incB p xs) := by
 induction d with
 | zero =>
  intro k q h1 h2 h3 h4
  obtain ⟨k, rfl⟩ : ∃ j, k = j + 1 := ⟨k - 1, by omega⟩
  obtain rfl : q = xs.length := by omega
  rw [List.take_length] at h4
  simp only [understoryref12_once.l0]
  rw [if_neg (by omega), show incB p xs = true from decide_eq_true h4]
 | succ d ih =>
  intro k q h1 h2 h3 h4
  obtain ⟨k, rfl⟩ : ∃ j, k = j + 1 := ⟨k - 1, by omega⟩
  have hlt : q < xs.length := by omega
  have hT := z3b p xs q hlt
  simp only [understoryref12_once.l0]
  rw [if_pos (by omega), if_pos (by omega), z0u xs q hlt]
  by_cases c1 : xs[q] < 2
  ·rw [if_pos c1, z42 hlt (fun h => by have := h.1.1; omega)]
  rw [if_neg c1]
  by_cases c2 : xs[q] ≥ p
  ·rw [if_pos c2, z42 hlt (fun h => by have := h.1.2; omega)]
  rw [if_neg c2]
  cases q with
  | zero =>
   rw [if_neg (by simp), wrapp _ (by omega)]
   exact ih k 1 (by omega) (by omega) (by omega) (hT.2 ⟨h4, ⟨by omega, by omega⟩, fun j hj => by omega⟩)
  | succ j =>
   rw [if_pos (by omega), wrapn _ (by omega), show ((j + 1 : Nat) : Int) - 1 = (j : Int) by omega, if_pos (by omega), if_pos (by omega), z0u xs j (by omega)]
   by_cases c3 : xs[j + 1] ≤ xs[j]
   ·rw [if_pos c3, z42 hlt (fun h => by have := h.2 j rfl (by omega); omega)]
   ·rw [if_neg c3, wrapp _ (by omega)]
    refine ih k _ (by omega) (by omega) (by omega) (hT.2 ⟨h4, ⟨by omega, by omega⟩, fun j' hj' hl => ?_⟩)
    obtain rfl : j = j' := by omega
    omega
theorem z4c (p : Int) (xs : List Int) (A : Option Addr) (c : Nat) (w : World) (h : (Kd.int .i64).C w A xs.length xs) (hc : xs.length ≤ c) (hl : xs.length ≤ 1000000) :
  Calls Tryz.prog 59 #[.slice A xs.length c, .int .i64 p] w fun e w' => e = .returned (.bool (incB p xs)) ∧ Drawn0 w w' :=
 understoryref12_once.calls (xs.length + 1) A c xs p _ w h hc (once_l0 p xs (by omega) xs.length _ 0 (Nat.zero_le _) rfl (by omega) ⟨by simp, by simp⟩)
theorem apart_l1 (p : Int) (xs : List Int) (hx : ∀ x ∈ xs, 0 ≤ x ∧ x < p) (hlm : xs.length ≤ 9223372036854775806) (d : Nat) : ∀ (k q : Nat), q ≤ xs.length → xs.length - q = d → d < k → (xs.take q).Nodup → understoryref12_apart.l1 k (metOf p (xs.take q)) xs (q : Int) = some (decide xs.Nodup) := by
 induction d with
 | zero =>
  intro k q h1 h2 h3 h4
  obtain ⟨k, rfl⟩ : ∃ j, k = j + 1 := ⟨k - 1, by omega⟩
  obtain rfl : q = xs.length := by omega
  rw [List.take_length] at h4
  simp only [understoryref12_apart.l1]
  rw [if_neg (by omega), decide_eq_true h4]
 | succ d ih =>
  intro k q h1 h2 h3 h4
  obtain ⟨k, rfl⟩ : ∃ j, k = j + 1 := ⟨k - 1, by omega⟩
  have hlt : q < xs.length := by omega
  have hq := hx _ (List.getElem_mem hlt)
  have htk : xs.take (q + 1) = xs.take q ++ [xs[q]] := List.take_succ_eq_append_getElem hlt
  simp only [understoryref12_apart.l1]
  rw [if_pos (by omega), if_pos (by omega), z0u xs q hlt, if_pos hq.1, if_pos (by rw [z9d]; omega), metOf_at p _ _ hq.1 hq.2]
  by_cases c1 : xs[q] ∈ xs.take q
  ·rw [if_pos (by simpa using c1)]
   rw [decide_eq_false]
   intro h
   have h5 := h.sublist (List.take_sublist (q + 1) xs)
   rw [htk, List.nodup_append] at h5
   exact h5.2.2 _ c1 _ (List.mem_singleton.2 rfl) rfl
  ·rw [if_neg (by simpa using c1), metOf_set p _ _ hq.1 hq.2, ← htk, wrapp _ (by omega)]
   refine ih k _ (by omega) (by omega) (by omega) ?_
   rw [htk, List.nodup_append]
   refine ⟨h4, (by simp), fun a ha b hb e => ?_⟩
   obtain rfl := List.mem_singleton.1 hb
   exact c1 (e ▸ ha)
theorem apart_l0 (l : List S64) (met : List Bool) (base : List Int) (hs : base.length + (pagesOf l).length ≤ 3000000) (hl : l.length ≤ 1000000) (d : Nat) : ∀ (k q : Nat), q ≤ l.length → l.length - q = d → understoryref12_apart.l0 (d + 1 + k) l met (base ++ pagesOf (l.take q)) (q : Int) = understoryref12_apart.l1 k met (base ++ pagesOf l) 0 := by
 induction d with
 | zero =>
  intro k q h1 h2
  obtain rfl : q = l.length := by omega
  rw [List.take_length, show 0 + 1 + k = k + 1 by omega]
  simp only [understoryref12_apart.l0]
  rw [if_neg (by omega)]
 | succ d ih =>
  intro k q h1 h2
  have hlt : q < l.length := by omega
  have hpg : pagesOf (l.take (q + 1)) = pagesOf (l.take q) ++ (rd_T64 l (q : Int)).f1 := by rw [z2d l q hlt, z0y, z02]
  have hle : (pagesOf (l.take (q + 1))).length ≤ (pagesOf l).length := by
   have : pagesOf l = pagesOf (l.take (q + 1)) ++ pagesOf (l.drop (q + 1)) := by rw [← z0y, List.take_append_drop]
   rw [this, List.length_append]; omega
  rw [hpg, List.length_append] at hle
  rw [show d + 1 + 1 + k = (d + 1 + k) + 1 by omega]
  simp only [understoryref12_apart.l0]
  rw [if_pos (by omega), if_pos (by omega), if_pos (by rw [List.length_append]; omega), wrapp _ (by omega), List.append_assoc, ← hpg]
  exact ih k _ (by omega) (by omega)
theorem apart_any (p : Int) (a b : List Int) (l : List S64) (A B C : Option Addr) (ca cb cc : Nat) (w : World) (hA : (Kd.int .i64).C w A a.length a) (hca : a.length ≤ ca) (hB : (Kd.int .i64).C w B b.length b) (hcb : b.length ≤ cb) (hC : k64.C w C l.length l) (hcc : l.length ≤ cc)
  (hp : 2 ≤ p ∧ p ≤ 4096) (ha : ∀ x ∈ a, 0 ≤ x ∧ x < p) (hb : ∀ x ∈ b, 0 ≤ x ∧ x < p) (hl : ∀ x ∈ pagesOf l, 0 ≤ x ∧ x < p) (hs : a.length ≤ 1000000 ∧ b.length ≤ 1000000 ∧ smallL l) :
  Calls Tryz.prog 60 #[.slice A a.length ca, .slice B b.length cb, .slice C l.length cc, .int .i64 p] w fun e w' => e = .returned (.bool (decide (a ++ b ++ pagesOf l).Nodup)) ∧ Below w.heap.size w w' := by
 have h2 := hs.2.2.2
 have h1 := hs.2.2.1
 have hx : ∀ x ∈ a ++ b ++ pagesOf l, 0 ≤ x ∧ x < p := by
  intro x hx
  rcases List.mem_append.1 hx with hx | hx
  ·rcases List.mem_append.1 hx with hx | hx
   ·exact ha x hx
   ·exact hb x hx
  ·exact hl x hx
 have hlen : (a ++ b ++ pagesOf l).length ≤ 3000000 := by rw [List.length_append, List.length_append]; omega
 refine understoryref12_apart.calls (l.length + 1 + ((a ++ b ++ pagesOf l).length + 1)) A ca a B cb b C cc l p _ w hA hca hB hcb hC hcc ?_
 unfold understoryref12_apart.f
 rw [if_pos (by omega), if_pos (by omega)]
 simp only [Option.bind_some, List.nil_append]
 rw [if_pos (by simp; omega), if_pos (by omega)]
 have e0 := apart_l0 l (metOf p []) (a ++ b) (by rw [List.length_append]; omega) (by omega) l.length ((a ++ b ++ pagesOf l).length + 1) 0 (Nat.zero_le _) rfl
 have e1 : pagesOf (l.take 0) = [] := by simp [pagesOf, flat]
 rw [e1, List.append_nil, z6x] at e0
 refine e0.trans ?_
 have e2 := apart_l1 p (a ++ b ++ pagesOf l) hx (by omega) _ ((a ++ b ++ pagesOf l).length + 1) 0 (Nat.zero_le _) rfl (by omega) (by simp)
 rw [List.take_zero, z6x] at e2
 exact e2
theorem in_l0 (xs : List Int) (n : Int) (hlm : xs.length ≤ 9223372036854775806) (d : Nat) : ∀ (k q : Nat), q ≤ xs.length → xs.length - q = d → d < k → n ∉ xs.take q → understoryref12_in.l0 k xs n (q : Int) = some (decide (n ∈ xs)) := by
 induction d with
 | zero =>
  intro k q h1 h2 h3 h4
  obtain ⟨k, rfl⟩ : ∃ j, k = j + 1 := ⟨k - 1, by omega⟩
  obtain rfl : q = xs.length := by omega
  rw [List.take_length] at h4
  simp only [understoryref12_in.l0]
  rw [if_neg (by omega), decide_eq_false h4]
 | succ d ih =>
  intro k q h1 h2 h3 h4
  obtain ⟨k, rfl⟩ : ∃ j, k = j + 1 := ⟨k - 1, by omega⟩
  have hlt : q < xs.length := by omega
  simp only [understoryref12_in.l0]
  rw [if_pos (by omega), if_pos (by omega), z0u xs q hlt]
  by_cases c1 : xs[q] = n
  ·rw [if_pos c1, decide_eq_true (c1 ▸ List.getElem_mem hlt)]
  ·rw [if_neg c1, wrapp _ (by omega)]
   refine ih k _ (by omega) (by omega) (by omega) ?_
   rw [List.take_succ_eq_append_getElem hlt]
   intro h
   rcases List.mem_append.1 h with h | h
   ·exact h4 h
   ·exact c1 (List.mem_singleton.1 h).symm
theorem in_f (xs : List Int) (n : Int) (hlm : xs.length ≤ 1000000) (k : Nat) (hk : xs.length < k) : understoryref12_in.f k xs n = some (decide (n ∈ xs)) :=
 in_l0 xs n (by omega) xs.length k 0 (Nat.zero_le _) rfl hk (by simp)
theorem rtail_l0 (f : S64) (t : List S64) (hl : f.f1.length ≤ 1000000) : ∀ (ys zs : List Int) (p : Int) (k : Nat), f.f1 = ys.reverse ++ zs → (∀ z ∈ zs, p ≤ z) → ys.Pairwise (· > ·) → (∀ y ∈ ys, 2 ≤ y ∧ y ≤ p - 1) → p ≤ 4096 → f.f1.length + ys.length + 2 ≤ k → -1000000 ≤ p →
  understoryref12_Tail.l0 k (f :: t) p = some (tailL ys p) := by
 intro ys
 induction ys with
 | nil =>
  intro zs p k h1 h2 h3 h4 h5 h6 h7
  obtain ⟨k, rfl⟩ : ∃ j, k = j + 1 := ⟨k - 1, by omega⟩
  simp only [understoryref12_Tail.l0]
  rw [show rd_T64 (f :: t) 0 = f from rfl, tailL]
  by_cases c : p > 2
  ·rw [if_pos c, if_pos (by simp), in_f _ _ hl k (by simp at h6; omega)]
   rw [decide_eq_false]
   ·simp
   ·rw [h1]
    intro h
    have hw : wrap64 (p - 1) = p - 1 := by unfold wrap64; omega
    rw [hw] at h
    have := h2 _ (by simpa using h)
    omega
  ·rw [if_neg c]
 | cons y ys ih =>
  intro zs p k h1 h2 h3 h4 h5 h6 h7
  obtain ⟨k, rfl⟩ : ∃ j, k = j + 1 := ⟨k - 1, by omega⟩
  have hy := h4 y (List.mem_cons_self)
  rw [List.pairwise_cons] at h3
  have hw : wrap64 (p - 1) = p - 1 := by unfold wrap64; omega
  rw [List.length_cons] at h6
  simp only [understoryref12_Tail.l0]
  rw [show rd_T64 (f :: t) 0 = f from rfl, tailL, if_pos (by omega), if_pos (by simp), in_f _ _ hl k (by omega), hw]
  by_cases c : y = p - 1
  ·rw [if_pos c, decide_eq_true (by rw [h1, ← c]; simp)]
   simp only [Option.bind_some, if_true]
   refine ih (y :: zs) (p - 1) k (by rw [h1]; simp) (fun z hz => ?_) h3.2 (fun x hx => ?_) (by omega) (by omega) (by omega)
   ·rcases List.mem_cons.1 hz with rfl | hz
    ·omega
    ·have := h2 z hz; omega
   ·have h8 := h3.1 x hx
    have h9 := h4 x (List.mem_cons_of_mem _ hx)
    omega
  ·rw [if_neg c, decide_eq_false]
   ·simp
   ·rw [h1]
    intro h
    rcases List.mem_append.1 h with h | h
    ·rcases List.mem_cons.1 (List.mem_reverse.1 h) with h | h
     ·exact c h.symm
     ·have := h3.1 _ h; omega
    ·have := h2 _ h; omega
theorem z6y (l : List S64) (p : Int) (A : Option Addr) (c : Nat) (w : World) (hC : k64.C w A l.length l) (hc : l.length ≤ c) (hs : smallL l) (hv : validP p l) :
  Calls Tryz.prog 21 #[.slice A l.length c, .int .i64 p] w fun e w' => e = .returned (.int .i64 (tailN l p)) ∧ Drawn0 w w' := by
 refine understoryref12_Tail.calls 3000010 A c l p _ w hC hc ?_
 unfold understoryref12_Tail.f
 cases l with
 | nil => rfl
 | cons f t =>
  rw [if_neg (by simp; omega), if_pos (by simp), show rd_T64 (f :: t) 0 = f from rfl]
  simp only [understoryref12_Tail.j0]
  unfold tailN
  by_cases c0 : f.f0 = 0
  ·rw [if_neg (by simp [c0])]
   simp only [c0, if_true]
   have hf := hv.2.1.1 f (List.mem_cons_self)
   have hl := z16 hs f (List.mem_cons_self)
   have hi := hf.2.2.2
   refine rtail_l0 f t hl f.f1.reverse [] p _ (by simp) (by simp) (List.pairwise_reverse.2 (hi.2.imp fun h => h)) (fun y hy => hi.1 y (List.mem_reverse.1 hy)) hv.1.2 (by simp; omega) (by have := hv.1; omega)
  ·rw [if_pos (by simpa using c0)]
   simp only [c0, if_false]
end Go.Proofs.YtpnhelcemodnmaaGreat
