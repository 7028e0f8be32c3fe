/- Texts put together for one claim: part 7. -/
import Derived.Deep.LoopGhost
import Derived.Deep.CutRange
import Derived.DeepKeys
import Derived.Laws.Cells
import Derived.Laws.StructEq
import Derived.Test.YtpnhelcemodnmaaGreatV6
namespace Go.Proofs.YtpnhelcemodnmaaGreat
open Go.RowKit Go.Shelf Go.Proofs.YtpnhelcemodnmaaGreatW.PrintWords Go.Proofs.YtpnhelcemodnmaaGreatW.PrintLast Go.Proofs.YtpnhelcemodnmaaGreatW.PrintMore PA
set_option linter.unusedVariables false
set_option linter.unusedSimpArgs false
attribute [local go_sem] Oper.semAt_some
theorem mid_valid {p : Int} {free gone : List Int} {rest : List S64} {ver : Int} (hv : 1 ≤ ver ∧ ver ≤ 1099511627776) (h1 : validB p rest = true) (h2 : incB p free = true) (h3 : incB p gone = true) (h4 : validB p (endL2 free gone rest ver) = true) : validP p (putL (ver - 1) gone rest) := by
 have hn := z7e hv h1 h2 h3
 rw [h4] at hn
 have hn := of_decide_eq_true hn
 rw [List.nodup_append, List.nodup_append] at hn
 exact (z49 (ver := ver - 1) (of_decide_eq_true h1) h3 (by omega)).2 fun x hx hx2 => hn.2.2 x (List.mem_append_left _ hx) x hx2 rfl
theorem z90 {b : Nat} {w W : World} {x : Int} (h : Below b w W) : Below b w (((((((((W.setCell ⟨b + 1, 0, none⟩ (.slice none 0 0)).setCell ⟨b + 1, 1, none⟩ (.slice none 0 0)).setCell ⟨b + 1, 2, none⟩ (.slice none 0 0)).setCell ⟨b + 1, 3, none⟩ (.slice none 0 0)).setCell ⟨b + 1, 4, none⟩ (.int .i64 0)).setCell ⟨b + 1, 5, none⟩ (.int .i64 0)).setCell ⟨b + 1, 6, none⟩ (.slice none 0 0)).setCell ⟨b + 1, 7, none⟩ (.int .i64 0)).setCell ⟨b + 1, 8, none⟩ (.int .i64 x)) := by
 have s : ∀ {V : World} (h : Below b w V) (j : Nat) (v : Value), Below b w (V.setCell ⟨b + 1, j, none⟩ v) := fun h j v => h.setCell (p := ⟨b + 1, j, none⟩) (by show b ≤ b + 1; omega) v
 exact s (s (s (s (s (s (s (s (s h _ _) _ _) _ _) _ _) _ _) _ _) _ _) _ _) _ _
theorem REC.chain9 {W : World} {b : Nat} {sp : Array Value} (h : REC W b sp) (x : Int) : (((((((((W.setCell ⟨b + 1, 0, none⟩ (.slice none 0 0)).setCell ⟨b + 1, 1, none⟩ (.slice none 0 0)).setCell ⟨b + 1, 2, none⟩ (.slice none 0 0)).setCell ⟨b + 1, 3, none⟩ (.slice none 0 0)).setCell ⟨b + 1, 4, none⟩ (.int .i64 0)).setCell ⟨b + 1, 5, none⟩ (.int .i64 0)).setCell ⟨b + 1, 6, none⟩ (.slice none 0 0)).setCell ⟨b + 1, 7, none⟩ (.int .i64 0)).setCell ⟨b + 1, 8, none⟩ (.int .i64 x)).heap[b + 1]? = some (.cells #[.slice none 0 0, .slice none 0 0, .slice none 0 0, .slice none 0 0, .int .i64 0, .int .i64 0, .slice none 0 0, .int .i64 0, .int .i64 x] 34 (0, 0)) :=
 z0k (z0k (z0k (z0k (z0k (z0k (z0k (z0k (z0k h.2 0 _ rfl) 1 _ rfl) 2 _ rfl) 3 _ rfl) 4 _ rfl) 5 _ rfl) 6 _ rfl) 7 _ rfl) 8 _ rfl
theorem pos_succ {a k : Nat} (h : a < k) : ∃ j, k = j + 1 := ⟨k - 1, by omega⟩
theorem fld114 (a b : Value) (W : World) : (Instr.field 114 (.agg #[a, b]) 0).run Tryz.prog W = .ok a W := by kernel_rfl
theorem RM.take {w0 W : World} {b n m c : Nat} {A : Option Addr} {sp : Array Value} {LV OV : Value} {pg : List S89} {l : List S64} {own : List Int} (h : RM w0 b sp (.slice A n c) LV OV pg l own W) (hm : m ≤ pg.length) : RM w0 b sp (.slice A m c) LV OV (pg.take m) l own W := by
 have e : (Value.slice A m c).ownBlock = (Value.slice A n c).ownBlock := by cases A <;> rfl
 obtain ⟨h1, h2, h3, h4, h5, h6⟩ := h
 refine ⟨Kd.N_take h1 hm, ?_, ?_, h4, h5, h6⟩
 ·rw [e]; exact h2
 ·rw [e]; exact h3
theorem REC.cells {W : World} {b : Nat} {a0 a1 a2 a3 a4 a5 : Value} (h : REC W b #[a0, a1, a2, a3, a4, a5]) : W.cell? ⟨b, 0, none⟩ = some a0 ∧ W.cell? ⟨b, 1, none⟩ = some a1 ∧ W.cell? ⟨b, 3, none⟩ = some a3 ∧ W.cell? ⟨b, 4, none⟩ = some a4 ∧ W.cell? ⟨b, 5, none⟩ = some a5 :=
 ⟨(z0a h.1 0).trans rfl, (z0a h.1 1).trans rfl, (z0a h.1 3).trans rfl, (z0a h.1 4).trans rfl, (z0a h.1 5).trans rfl⟩
theorem far9 {W : World} {b : Nat} (v0 v1 v2 v3 v4 v5 v6 v7 v8 : Value) (k : Nat) (h : k ≠ b + 1) : (((((((((W.setCell ⟨b + 1, 0, none⟩ v0).setCell ⟨b + 1, 1, none⟩ v1).setCell ⟨b + 1, 2, none⟩ v2).setCell ⟨b + 1, 3, none⟩ v3).setCell ⟨b + 1, 4, none⟩ v4).setCell ⟨b + 1, 5, none⟩ v5).setCell ⟨b + 1, 6, none⟩ v6).setCell ⟨b + 1, 7, none⟩ v7).setCell ⟨b + 1, 8, none⟩ v8).heap[k]? = W.heap[k]? := by
 have s : ∀ {V : World} (j : Nat) (v : Value), (V.setCell ⟨b + 1, j, none⟩ v).heap[k]? = V.heap[k]? := fun j v => Below.heap_setCell _ ⟨b + 1, j, none⟩ v k h
 rw [s, s, s, s, s, s, s, s, s]
theorem put9 {W : World} {b : Nat} (h : W.heap[b + 1]? = some (.cells #[.slice none 0 0, .slice none 0 0, .slice none 0 0, .slice none 0 0, .int .i64 0, .int .i64 0, .slice none 0 0, .int .i64 0, .int .i64 0] 34 (0, 0))) (v0 v1 v2 v3 v4 v5 v6 v7 v8 : Value) : (((((((((W.setCell ⟨b + 1, 0, none⟩ v0).setCell ⟨b + 1, 1, none⟩ v1).setCell ⟨b + 1, 2, none⟩ v2).setCell ⟨b + 1, 3, none⟩ v3).setCell ⟨b + 1, 4, none⟩ v4).setCell ⟨b + 1, 5, none⟩ v5).setCell ⟨b + 1, 6, none⟩ v6).setCell ⟨b + 1, 7, none⟩ v7).setCell ⟨b + 1, 8, none⟩ v8).heap[b + 1]? = some (.cells #[v0, v1, v2, v3, v4, v5, v6, v7, v8] 34 (0, 0)) := by
 have p0 : (W.setCell ⟨b + 1, 0, none⟩ v0).heap[b + 1]? = some (.cells #[v0, .slice none 0 0, .slice none 0 0, .slice none 0 0, .int .i64 0, .int .i64 0, .slice none 0 0, .int .i64 0, .int .i64 0] 34 (0, 0)) := z0k h 0 v0 rfl
 have p1 : ((W.setCell ⟨b + 1, 0, none⟩ v0).setCell ⟨b + 1, 1, none⟩ v1).heap[b + 1]? = some (.cells #[v0, v1, .slice none 0 0, .slice none 0 0, .int .i64 0, .int .i64 0, .slice none 0 0, .int .i64 0, .int .i64 0] 34 (0, 0)) := z0k p0 1 v1 rfl
 have p2 : (((W.setCell ⟨b + 1, 0, none⟩ v0).setCell ⟨b + 1, 1, none⟩ v1).setCell ⟨b + 1, 2, none⟩ v2).heap[b + 1]? = some (.cells #[v0, v1, v2, .slice none 0 0, .int .i64 0, .int .i64 0, .slice none 0 0, .int .i64 0, .int .i64 0] 34 (0, 0)) := z0k p1 2 v2 rfl
 have p3 : ((((W.setCell ⟨b + 1, 0, none⟩ v0).setCell ⟨b + 1, 1, none⟩ v1).setCell ⟨b + 1, 2, none⟩ v2).setCell ⟨b + 1, 3, none⟩ v3).heap[b + 1]? = some (.cells #[v0, v1, v2, v3, .int .i64 0, .int .i64 0, .slice none 0 0, .int .i64 0, .int .i64 0] 34 (0, 0)) := z0k p2 3 v3 rfl
 have p4 : (((((W.setCell ⟨b + 1, 0, none⟩ v0).setCell ⟨b + 1, 1, none⟩ v1).setCell ⟨b + 1, 2, none⟩ v2).setCell ⟨b + 1, 3, none⟩ v3).setCell ⟨b + 1, 4, none⟩ v4).heap[b + 1]? = some (.cells #[v0, v1, v2, v3, v4, .int .i64 0, .slice none 0 0, .int .i64 0, .int .i64 0] 34 (0, 0)) := z0k p3 4 v4 rfl
 have p5 : ((((((W.setCell ⟨b + 1, 0, none⟩ v0).setCell ⟨b + 1, 1, none⟩ v1).setCell ⟨b + 1, 2, none⟩ v2).setCell ⟨b + 1, 3, none⟩ v3).setCell ⟨b + 1, 4, none⟩ v4).setCell ⟨b + 1, 5, none⟩ v5).heap[b + 1]? = some (.cells #[v0, v1, v2, v3, v4, v5, .slice none 0 0, .int .i64 0, .int .i64 0] 34 (0, 0)) := z0k p4 5 v5 rfl
 have p6 : (((((((W.setCell ⟨b + 1, 0, none⟩ v0).setCell ⟨b + 1, 1, none⟩ v1).setCell ⟨b + 1, 2, none⟩ v2).setCell ⟨b + 1, 3, none⟩ v3).setCell ⟨b + 1, 4, none⟩ v4).setCell ⟨b + 1, 5, none⟩ v5).setCell ⟨b + 1, 6, none⟩ v6).heap[b + 1]? = some (.cells #[v0, v1, v2, v3, v4, v5, v6, .int .i64 0, .int .i64 0] 34 (0, 0)) := z0k p5 6 v6 rfl
 have p7 : ((((((((W.setCell ⟨b + 1, 0, none⟩ v0).setCell ⟨b + 1, 1, none⟩ v1).setCell ⟨b + 1, 2, none⟩ v2).setCell ⟨b + 1, 3, none⟩ v3).setCell ⟨b + 1, 4, none⟩ v4).setCell ⟨b + 1, 5, none⟩ v5).setCell ⟨b + 1, 6, none⟩ v6).setCell ⟨b + 1, 7, none⟩ v7).heap[b + 1]? = some (.cells #[v0, v1, v2, v3, v4, v5, v6, v7, .int .i64 0] 34 (0, 0)) := z0k p6 7 v7 rfl
 have p8 : (((((((((W.setCell ⟨b + 1, 0, none⟩ v0).setCell ⟨b + 1, 1, none⟩ v1).setCell ⟨b + 1, 2, none⟩ v2).setCell ⟨b + 1, 3, none⟩ v3).setCell ⟨b + 1, 4, none⟩ v4).setCell ⟨b + 1, 5, none⟩ v5).setCell ⟨b + 1, 6, none⟩ v6).setCell ⟨b + 1, 7, none⟩ v7).setCell ⟨b + 1, 8, none⟩ v8).heap[b + 1]? = some (.cells #[v0, v1, v2, v3, v4, v5, v6, v7, v8] 34 (0, 0)) := z0k p7 8 v8 rfl
 exact p8
theorem RM.answer {w0 W : World} {b c9 : Nat} {sp : Array Value} {PV OV : Value} {A9 : Option Addr} {pg : List S89} {l : List S64} {own : List Int} (h : RM w0 b sp PV (.slice A9 l.length c9) OV pg l own W) (v0 v1 v2 v3 v4 v5 v6 v7 v8 : Value) :
  Kd.N k89 89 (((((((((W.setCell ⟨b + 1, 0, none⟩ v0).setCell ⟨b + 1, 1, none⟩ v1).setCell ⟨b + 1, 2, none⟩ v2).setCell ⟨b + 1, 3, none⟩ v3).setCell ⟨b + 1, 4, none⟩ v4).setCell ⟨b + 1, 5, none⟩ v5).setCell ⟨b + 1, 6, none⟩ v6).setCell ⟨b + 1, 7, none⟩ v7).setCell ⟨b + 1, 8, none⟩ v8) b (fun _ => True) PV pg ∧ (l.length ≤ c9 ∧ k64.C (((((((((W.setCell ⟨b + 1, 0, none⟩ v0).setCell ⟨b + 1, 1, none⟩ v1).setCell ⟨b + 1, 2, none⟩ v2).setCell ⟨b + 1, 3, none⟩ v3).setCell ⟨b + 1, 4, none⟩ v4).setCell ⟨b + 1, 5, none⟩ v5).setCell ⟨b + 1, 6, none⟩ v6).setCell ⟨b + 1, 7, none⟩ v7).setCell ⟨b + 1, 8, none⟩ v8) A9 l.length l) ∧ Below b w0 (((((((((W.setCell ⟨b + 1, 0, none⟩ v0).setCell ⟨b + 1, 1, none⟩ v1).setCell ⟨b + 1, 2, none⟩ v2).setCell ⟨b + 1, 3, none⟩ v3).setCell ⟨b + 1, 4, none⟩ v4).setCell ⟨b + 1, 5, none⟩ v5).setCell ⟨b + 1, 6, none⟩ v6).setCell ⟨b + 1, 7, none⟩ v7).setCell ⟨b + 1, 8, none⟩ v8) ∧ (((((((((W.setCell ⟨b + 1, 0, none⟩ v0).setCell ⟨b + 1, 1, none⟩ v1).setCell ⟨b + 1, 2, none⟩ v2).setCell ⟨b + 1, 3, none⟩ v3).setCell ⟨b + 1, 4, none⟩ v4).setCell ⟨b + 1, 5, none⟩ v5).setCell ⟨b + 1, 6, none⟩ v6).setCell ⟨b + 1, 7, none⟩ v7).setCell ⟨b + 1, 8, none⟩ v8).heap[b + 1]? = some (.cells #[v0, v1, v2, v3, v4, v5, v6, v7, v8] 34 (0, 0)) := by
 obtain ⟨h1, ⟨A, c, e, hc, hF⟩, h3, h4, h5, h6⟩ := h
 injection e with e1 _ e2
 subst e1 e2
 have s : ∀ {V : World} (h : Below b w0 V) (j : Nat) (v : Value), Below b w0 (V.setCell ⟨b + 1, j, none⟩ v) := fun h j v => h.setCell (p := ⟨b + 1, j, none⟩) (by show b ≤ b + 1; omega) v
 refine ⟨Kd.N_mono (Kd.N_lower (Kd.N_step h1 (fun k hk _ => far9 v0 v1 v2 v3 v4 v5 v6 v7 v8 k (by have := hk.1; unfold off2 at this; omega))) (by omega)) (fun _ _ => trivial), ⟨hc, Kd.F_now (Kd.F_step hF (fun k hk _ => far9 v0 v1 v2 v3 v4 v5 v6 v7 v8 k (by have := hk.1.1; unfold off2 at this; omega)))⟩, s (s (s (s (s (s (s (s (s h5 _ _) _ _) _ _) _ _) _ _) _ _) _ _) _ _) _ _, ?_⟩
 exact put9 h4.2 v0 v1 v2 v3 v4 v5 v6 v7 v8
theorem REC.out9 {W : World} {b : Nat} {sp : Array Value} (h : REC W b sp) : (W.cell? ⟨b + 1, 0, none⟩ = some (.slice none 0 0) ∧ W.cell? ⟨b + 1, 1, none⟩ = some (.slice none 0 0) ∧ W.cell? ⟨b + 1, 2, none⟩ = some (.slice none 0 0) ∧ W.cell? ⟨b + 1, 3, none⟩ = some (.slice none 0 0) ∧ W.cell? ⟨b + 1, 4, none⟩ = some (.int .i64 0) ∧ W.cell? ⟨b + 1, 5, none⟩ = some (.int .i64 0) ∧ W.cell? ⟨b + 1, 6, none⟩ = some (.slice none 0 0) ∧ W.cell? ⟨b + 1, 7, none⟩ = some (.int .i64 0) ∧ W.cell? ⟨b + 1, 8, none⟩ = some (.int .i64 0)) ∧ ∀ j, W.frozen? ⟨b + 1, j, none⟩ = false :=
 ⟨⟨(z0a h.2 0).trans rfl, (z0a h.2 1).trans rfl, (z0a h.2 2).trans rfl, (z0a h.2 3).trans rfl, (z0a h.2 4).trans rfl, (z0a h.2 5).trans rfl, (z0a h.2 6).trans rfl, (z0a h.2 7).trans rfl, (z0a h.2 8).trans rfl⟩, fun j => z0d h.2 j⟩
set_option maxRecDepth 100000 in
set_option maxHeartbeats 2000000 in
theorem rend_all (pg : List S89) (free gone : List Int) (rest : List S64) (ver tree : Int) (shrink : Bool) (PA FA RA GA A : Option Addr) (pc fc rn rc gc c : Nat) (w : World)
  (hPG : k89.C w PA pg.length pg) (hpc : pg.length ≤ pc) (hFR : (Kd.int .i64).C w FA free.length free) (hfc : free.length ≤ fc) (hGO : (Kd.int .i64).C w GA gone.length gone) (hgc : gone.length ≤ gc) (hRE : k64.C w A rest.length rest) (hc : rest.length ≤ c)
  (hsm : smallL rest ∧ free.length ≤ 1000 ∧ gone.length ≤ 1000 ∧ (pagesOf rest).length ≤ 10000 ∧ rest.length ≤ 10000) (hpl : pg.length ≤ 1000000) :
  Calls Tryz.prog 16 #[.agg #[.slice PA pg.length pc, .slice FA free.length fc, .slice RA rn rc, .slice GA gone.length gc, .int .i64 ver, .int .i64 tree], .slice A rest.length c, .bool shrink] w (REndA w ver tree (endX pg free gone rest ver shrink)) := by
 obtain ⟨R, hR⟩ : ∃ R, endX pg free gone rest ver shrink = R := ⟨_, rfl⟩
 rw [hR]
 have HR0 := Aside0.mk hR
 obtain ⟨K, hK⟩ : ∃ K : Nat, 1000000 = K := ⟨_, rfl⟩
 have HKK := Lib.hid hK
 clear hR
 obtain ⟨b, hb⟩ : ∃ b, w.heap.size = b := ⟨_, rfl⟩
 have hB0 : Below b w ((w.alloc (.cells #[.slice PA pg.length pc, .slice FA free.length fc, .slice RA rn rc, .slice GA gone.length gc, .int .i64 ver, .int .i64 tree] 25)).alloc (.cells #[.slice none 0 0, .slice none 0 0, .slice none 0 0, .slice none 0 0, .int .i64 0, .int .i64 0, .slice none 0 0, .int .i64 0, .int .i64 0] 34)) := by rw [← hb]; exact (z0i w _).alloc (by simp) _
 have hC0 : REC ((w.alloc (.cells #[.slice PA pg.length pc, .slice FA free.length fc, .slice RA rn rc, .slice GA gone.length gc, .int .i64 ver, .int .i64 tree] 25)).alloc (.cells #[.slice none 0 0, .slice none 0 0, .slice none 0 0, .slice none 0 0, .int .i64 0, .int .i64 0, .slice none 0 0, .int .i64 0, .int .i64 0] 34)) b #[.slice PA pg.length pc, .slice FA free.length fc, .slice RA rn rc, .slice GA gone.length gc, .int .i64 ver, .int .i64 tree] := ⟨by rw [← hb]; exact z0j (z0l w _) _, by have := z0l (w.alloc (.cells #[.slice PA pg.length pc, .slice FA free.length fc, .slice RA rn rc, .slice GA gone.length gc, .int .i64 ver, .int .i64 tree] 25)) (.cells #[.slice none 0 0, .slice none 0 0, .slice none 0 0, .slice none 0 0, .int .i64 0, .int .i64 0, .slice none 0 0, .int .i64 0, .int .i64 0] 34); rw [World.size_alloc, hb] at this; exact this⟩
 obtain ⟨W0, hW0⟩ : ∃ W0, (w.alloc (.cells #[.slice PA pg.length pc, .slice FA free.length fc, .slice RA rn rc, .slice GA gone.length gc, .int .i64 ver, .int .i64 tree] 25)).alloc (.cells #[.slice none 0 0, .slice none 0 0, .slice none 0 0, .slice none 0 0, .int .i64 0, .int .i64 0, .slice none 0 0, .int .i64 0, .int .i64 0] 34) = W0 := ⟨_, rfl⟩
 have hs0 : W0.heap.size = b + 2 := by rw [← hW0, ← hb]; simp
 rw [hW0] at hB0 hC0
 have HW0 := Lib.hid hW0
 have HB0 := Aside0.mk hB0
 have HC0 := Aside0.mk hC0
 have HS0 := Lib.hid hs0
 have HHB := Lib.hid hb
 have FAIL : Aside0 (∀ (x : Int) (W : World), Below b w W → REC W b #[.slice PA pg.length pc, .slice FA free.length fc, .slice RA rn rc, .slice GA gone.length gc, .int .i64 ver, .int .i64 tree] → R = .error x → REndA w ver tree R (.returned (.agg #[.slice none 0 0, .slice none 0 0, .slice none 0 0, .slice none 0 0, .int .i64 0, .int .i64 0, .slice none 0 0, .int .i64 0, .int .i64 x])) (((((((((W.setCell ⟨b + 1, 0, none⟩ (.slice none 0 0)).setCell ⟨b + 1, 1, none⟩ (.slice none 0 0)).setCell ⟨b + 1, 2, none⟩ (.slice none 0 0)).setCell ⟨b + 1, 3, none⟩ (.slice none 0 0)).setCell ⟨b + 1, 4, none⟩ (.int .i64 0)).setCell ⟨b + 1, 5, none⟩ (.int .i64 0)).setCell ⟨b + 1, 6, none⟩ (.slice none 0 0)).setCell ⟨b + 1, 7, none⟩ (.int .i64 0)).setCell ⟨b + 1, 8, none⟩ (.int .i64 x))) := ⟨by
  intro x W h1 h2 h3
  rw [h3]
  refine ⟨rfl, ?_⟩
  rw [hb]
  exact z90 h1⟩
 clear hW0 hB0 hC0 hs0
 go_enter Tryz.func16, Tryz.ntmps16
 go_upto_region 1 with (fail)
 rw [HW0.out]
 obtain ⟨x0, x1, x3, x4, x5⟩ : W0.cell? ⟨b, 0, none⟩ = some (.slice PA pg.length pc) ∧ W0.cell? ⟨b, 1, none⟩ = some (.slice FA free.length fc) ∧ W0.cell? ⟨b, 3, none⟩ = some (.slice GA gone.length gc) ∧ W0.cell? ⟨b, 4, none⟩ = some (.int .i64 ver) ∧ W0.cell? ⟨b, 5, none⟩ = some (.int .i64 tree) := ⟨(z0a HC0.out.1 0).trans rfl, (z0a HC0.out.1 1).trans rfl, (z0a HC0.out.1 3).trans rfl, (z0a HC0.out.1 4).trans rfl, (z0a HC0.out.1 5).trans rfl⟩
 go_upto_region 2 with (fail)
 by_cases hv : 1 ≤ ver ∧ ver ≤ 1099511627776
 rotate_left
 ·have hR1 := Lib.hid (show R = .error 1 by rw [← HR0.out]; exact z3n (fun h => hv h.1))
  by_cases hv1 : ver < 1
  ·have hvd : decide (ver < 1) = true := decide_eq_true hv1
   obtain ⟨⟨y0, y1, y2, y3, y4, y5, y6, y7, y8⟩, z⟩ := REC.out9 HC0.out
   have z0 := z 0; have z1 := z 1; have z2 := z 2; have z3 := z 3; have z4 := z 4; have z5 := z 5; have z6 := z 6; have z7 := z 7; have z8 := z 8
   clear z
   go_wp2
   refine bodyPost_ret (z00 rfl _ _ _ _ rfl (load34 (REC.chain9 HC0.out 1))) rfl ?_
   exact FAIL.out 1 _ HB0.out HC0.out hR1.out
  ·have hvd : decide (ver < 1) = false := decide_eq_false hv1
   have hvg : decide (ver > 1099511627776) = true := decide_eq_true (by omega)
   obtain ⟨⟨y0, y1, y2, y3, y4, y5, y6, y7, y8⟩, z⟩ := REC.out9 HC0.out
   have z0 := z 0; have z1 := z 1; have z2 := z 2; have z3 := z 3; have z4 := z 4; have z5 := z 5; have z6 := z 6; have z7 := z 7; have z8 := z 8
   clear z
   go_wp2
   refine bodyPost_ret (z00 rfl _ _ _ _ rfl (load34 (REC.chain9 HC0.out 1))) rfl ?_
   exact FAIL.out 1 _ HB0.out HC0.out hR1.out
 by_cases hn : 2 ≤ pg.length ∧ pg.length ≤ 4096
 rotate_left
 ·have hR1 := Lib.hid (show R = .error 1 by rw [← HR0.out]; exact z3n (fun h => hn h.2))
  have hvd : decide (ver < 1) = false := decide_eq_false (by omega)
  have hvg : decide (ver > 1099511627776) = false := decide_eq_false (by omega)
  have HD := Lib.hid (show decide ((2 : Int) ≤ (pg.length : Int) ∧ (pg.length : Int) ≤ 4096) = false from decide_eq_false (by omega))
  obtain ⟨⟨y0, y1, y2, y3, y4, y5, y6, y7, y8⟩, z⟩ := REC.out9 HC0.out
  have z0 := z 0; have z1 := z 1; have z2 := z 2; have z3 := z 3; have z4 := z 4; have z5 := z 5; have z6 := z 6; have z7 := z 7; have z8 := z 8
  clear z
  go_wp2_with (go_at_call 57; (refine (size_any _ _).mono ?_); rintro e w1 ⟨rfl, hd1⟩; rw [HD.out]; have HB1 := Aside0.mk (HB0.out.trans (hd1.below.mono (by have := HS0.out; omega))); have HC1 := Aside0.mk (HC0.out.below hd1.below); clear hd1 y0 y1 y2 y3 y4 y5 y6 y7 y8 z0 z1 z2 z3 z4 z5 z6 z7 z8; obtain ⟨⟨y0, y1, y2, y3, y4, y5, y6, y7, y8⟩, z⟩ := REC.out9 HC1.out; have z0 := z 0; have z1 := z 1; have z2 := z 2; have z3 := z 3; have z4 := z 4; have z5 := z 5; have z6 := z 6; have z7 := z 7; have z8 := z 8; clear z)
  refine bodyPost_ret (z00 rfl _ _ _ _ rfl (load34 (REC.chain9 HC1.out 1))) rfl ?_
  exact FAIL.out 1 _ HB1.out HC1.out hR1.out
 have hvd : decide (ver < 1) = false := decide_eq_false (by omega)
 have hvg : decide (ver > 1099511627776) = false := decide_eq_false (by omega)
 have HD := Lib.hid (show decide ((2 : Int) ≤ (pg.length : Int) ∧ (pg.length : Int) ≤ 4096) = true from decide_eq_true (by omega))
 go_upto_region 4 with (go_at_call 57; (refine (size_any _ _).mono ?_); rintro e w1 ⟨rfl, hd1⟩; rw [HD.out]; have HB1 := Aside0.mk (HB0.out.trans (hd1.below.mono (by have := HS0.out; omega))); have HC1 := Aside0.mk (HC0.out.below hd1.below); have HS1 := Aside0.mk (show b + 2 ≤ w1.heap.size by have := hd1.below.size; have := HS0.out; omega); clear hd1)
 clear x0 x1 x3 x4 x5 hvd hvg
 obtain ⟨x0, x1, x3, x4, x5⟩ := HC1.out.cells
 have HIS := Aside0.mk (fun (w1 : World) (hb1 : Below w.heap.size w w1) => is_any rest pg.length A c w1 (Kd.C_below hRE hb1) hc (by omega) (by omega) hsm.1)
 rw [z3o rest pg.length (by omega)] at HIS
 have HOG := Aside0.mk (fun (w1 : World) (hb1 : Below w.heap.size w w1) => z4c pg.length gone GA gc w1 (Kd.C_below hGO hb1) hgc (by omega))
 have HOF := Aside0.mk (fun (w1 : World) (hb1 : Below w.heap.size w w1) => z4c pg.length free FA fc w1 (Kd.C_below hFR hb1) hfc (by omega))
 simp only [hb] at HIS HOG HOF
 by_cases h1 : validB pg.length rest = true
 rotate_left
 ·have hR1 := Lib.hid (show R = .error 2 by rw [← HR0.out]; exact z10 ⟨hv, hn⟩ (fun h => h1 h.1.1))
  rw [show validB pg.length rest = false by simpa using h1] at HIS
  clear h1
  go_wp2_with (first
   | (go_at_call 58; (refine (HIS.out _ HB1.out).mono ?_); rintro e w2 ⟨rfl, hb2⟩; have HB2 := Aside0.mk (HB1.out.trans (hb2.mono (by have := HS1.out; omega))); have HC2 := Aside0.mk (HC1.out.below hb2); have HS2 := Aside0.mk (Nat.le_trans HS1.out hb2.size); clear hb2 x0 x1 x3 x4 x5; obtain ⟨x0, x1, x3, x4, x5⟩ := HC2.out.cells; obtain ⟨⟨y0, y1, y2, y3, y4, y5, y6, y7, y8⟩, z⟩ := REC.out9 HC2.out; have z0 := z 0; have z1 := z 1; have z2 := z 2; have z3 := z 3; have z4 := z 4; have z5 := z 5; have z6 := z 6; have z7 := z 7; have z8 := z 8; clear z))
  refine bodyPost_ret (z00 rfl _ _ _ _ rfl (load34 (REC.chain9 HC2.out 2))) rfl ?_
  exact FAIL.out 2 _ HB2.out HC2.out hR1.out
 rw [h1] at HIS
 by_cases h3 : incB pg.length gone = true
 rotate_left
 ·have hR1 := Lib.hid (show R = .error 2 by rw [← HR0.out]; exact z10 ⟨hv, hn⟩ (fun h => h3 h.1.2.2))
  rw [show incB pg.length gone = false by simpa using h3] at HOG
  clear h3
  go_wp2_with (first
   | (go_at_call 59; (with_reducible refine (HOG.out _ HB2.out).mono ?_); rintro e w3 ⟨rfl, hb3⟩; have HB3 := Aside0.mk (HB2.out.trans (hb3.below.mono (by have := HS2.out; omega))); have HC3 := Aside0.mk (HC2.out.below hb3.below); have HS3 := Aside0.mk (Nat.le_trans HS2.out hb3.below.size); clear hb3 x0 x1 x3 x4 x5; obtain ⟨x0, x1, x3, x4, x5⟩ := HC3.out.cells; obtain ⟨⟨y0, y1, y2, y3, y4, y5, y6, y7, y8⟩, z⟩ := REC.out9 HC3.out; have z0 := z 0; have z1 := z 1; have z2 := z 2; have z3 := z 3; have z4 := z 4; have z5 := z 5; have z6 := z 6; have z7 := z 7; have z8 := z 8; clear z)
   | (go_at_call 58; (refine (HIS.out _ HB1.out).mono ?_); rintro e w2 ⟨rfl, hb2⟩; have HB2 := Aside0.mk (HB1.out.trans (hb2.mono (by have := HS1.out; omega))); have HC2 := Aside0.mk (HC1.out.below hb2); have HS2 := Aside0.mk (Nat.le_trans HS1.out hb2.size); clear hb2 x0 x1 x3 x4 x5; obtain ⟨x0, x1, x3, x4, x5⟩ := HC2.out.cells))
  refine bodyPost_ret (z00 rfl _ _ _ _ rfl (load34 (REC.chain9 HC3.out 2))) rfl ?_
  exact FAIL.out 2 _ HB3.out HC3.out hR1.out
 rw [h3] at HOG
 by_cases h2 : incB pg.length free = true
 rotate_left
 ·have hR1 := Lib.hid (show R = .error 2 by rw [← HR0.out]; exact z10 ⟨hv, hn⟩ (fun h => h2 h.1.2.1))
  rw [show incB pg.length free = false by simpa using h2] at HOF
  clear h2
  go_wp2_with (first
   | (go_at_call 59; (with_reducible refine (HOF.out _ HB3.out).mono ?_); rintro e w4 ⟨rfl, hb4⟩; have HB4 := Aside0.mk (HB3.out.trans (hb4.below.mono (by have := HS3.out; omega))); have HC4 := Aside0.mk (HC3.out.below hb4.below); have HS4 := Aside0.mk (Nat.le_trans HS3.out hb4.below.size); clear hb4 x0 x1 x3 x4 x5; obtain ⟨x0, x1, x3, x4, x5⟩ := HC4.out.cells; obtain ⟨⟨y0, y1, y2, y3, y4, y5, y6, y7, y8⟩, z⟩ := REC.out9 HC4.out; have z0 := z 0; have z1 := z 1; have z2 := z 2; have z3 := z 3; have z4 := z 4; have z5 := z 5; have z6 := z 6; have z7 := z 7; have z8 := z 8; clear z)
   | (go_at_call 59; (with_reducible refine (HOG.out _ HB2.out).mono ?_); rintro e w3 ⟨rfl, hb3⟩; have HB3 := Aside0.mk (HB2.out.trans (hb3.below.mono (by have := HS2.out; omega))); have HC3 := Aside0.mk (HC2.out.below hb3.below); have HS3 := Aside0.mk (Nat.le_trans HS2.out hb3.below.size); clear hb3 x0 x1 x3 x4 x5; obtain ⟨x0, x1, x3, x4, x5⟩ := HC3.out.cells)
   | (go_at_call 58; (refine (HIS.out _ HB1.out).mono ?_); rintro e w2 ⟨rfl, hb2⟩; have HB2 := Aside0.mk (HB1.out.trans (hb2.mono (by have := HS1.out; omega))); have HC2 := Aside0.mk (HC1.out.below hb2); have HS2 := Aside0.mk (Nat.le_trans HS1.out hb2.size); clear hb2 x0 x1 x3 x4 x5; obtain ⟨x0, x1, x3, x4, x5⟩ := HC2.out.cells))
  refine bodyPost_ret (z00 rfl _ _ _ _ rfl (load34 (REC.chain9 HC4.out 2))) rfl ?_
  exact FAIL.out 2 _ HB4.out HC4.out hR1.out
 rw [h2] at HOF
 have HAP := Aside0.mk (fun (w1 : World) (hb1 : Below w.heap.size w w1) => apart_any pg.length gone free rest GA FA A gc fc c w1 (Kd.C_below hGO hb1) hgc (Kd.C_below hFR hb1) hfc (Kd.C_below hRE hb1) hc (by omega) (z7d h3) (z7d h2) (z9w h1) ⟨by omega, by omega, hsm.1⟩)
 rw [z7e hv h1 h2 h3] at HAP
 simp only [hb] at HAP
 by_cases h4 : validB pg.length (endL2 free gone rest ver) = true
 rotate_left
 ·have hR1 := Lib.hid (show R = .error 2 by rw [← HR0.out]; exact z10 ⟨hv, hn⟩ (fun h => h4 h.2))
  rw [show validB pg.length (endL2 free gone rest ver) = false by simpa using h4] at HAP
  clear h4
  go_wp2_with (first
   | (go_at_call 60; (refine (HAP.out _ HB4.out).mono ?_); rintro e w5 ⟨rfl, hb5⟩; have HB5 := Aside0.mk (HB4.out.trans (hb5.mono (by have := HS4.out; omega))); have HC5 := Aside0.mk (HC4.out.below hb5); have HS5 := Aside0.mk (Nat.le_trans HS4.out hb5.size); clear hb5 x0 x1 x3 x4 x5; obtain ⟨x0, x1, x3, x4, x5⟩ := HC5.out.cells; obtain ⟨⟨y0, y1, y2, y3, y4, y5, y6, y7, y8⟩, z⟩ := REC.out9 HC5.out; have z0 := z 0; have z1 := z 1; have z2 := z 2; have z3 := z 3; have z4 := z 4; have z5 := z 5; have z6 := z 6; have z7 := z 7; have z8 := z 8; clear z)
   | (go_at_call 59; (with_reducible refine (HOF.out _ HB3.out).mono ?_); rintro e w4 ⟨rfl, hb4⟩; have HB4 := Aside0.mk (HB3.out.trans (hb4.below.mono (by have := HS3.out; omega))); have HC4 := Aside0.mk (HC3.out.below hb4.below); have HS4 := Aside0.mk (Nat.le_trans HS3.out hb4.below.size); clear hb4 x0 x1 x3 x4 x5; obtain ⟨x0, x1, x3, x4, x5⟩ := HC4.out.cells)
   | (go_at_call 59; (with_reducible refine (HOG.out _ HB2.out).mono ?_); rintro e w3 ⟨rfl, hb3⟩; have HB3 := Aside0.mk (HB2.out.trans (hb3.below.mono (by have := HS2.out; omega))); have HC3 := Aside0.mk (HC2.out.below hb3.below); have HS3 := Aside0.mk (Nat.le_trans HS2.out hb3.below.size); clear hb3 x0 x1 x3 x4 x5; obtain ⟨x0, x1, x3, x4, x5⟩ := HC3.out.cells)
   | (go_at_call 58; (refine (HIS.out _ HB1.out).mono ?_); rintro e w2 ⟨rfl, hb2⟩; have HB2 := Aside0.mk (HB1.out.trans (hb2.mono (by have := HS1.out; omega))); have HC2 := Aside0.mk (HC1.out.below hb2); have HS2 := Aside0.mk (Nat.le_trans HS1.out hb2.size); clear hb2 x0 x1 x3 x4 x5; obtain ⟨x0, x1, x3, x4, x5⟩ := HC2.out.cells))
  refine bodyPost_ret (z00 rfl _ _ _ _ rfl (load34 (REC.chain9 HC5.out 2))) rfl ?_
  exact FAIL.out 2 _ HB5.out HC5.out hR1.out
 rw [h4] at HAP
 go_upto_region 6 with (first
  | (go_at_call 58; (refine (HIS.out _ HB1.out).mono ?_); rintro e w2 ⟨rfl, hb2⟩; have HB2 := Aside0.mk (HB1.out.trans (hb2.mono (by have := HS1.out; omega))); have HC2 := Aside0.mk (HC1.out.below hb2); have HS2 := Aside0.mk (Nat.le_trans HS1.out hb2.size); clear hb2 x0 x1 x3 x4 x5; obtain ⟨x0, x1, x3, x4, x5⟩ := HC2.out.cells)
  | (go_at_call 60; (refine (HAP.out _ HB4.out).mono ?_); rintro e w5 ⟨rfl, hb5⟩; have HB5 := Aside0.mk (HB4.out.trans (hb5.mono (by have := HS4.out; omega))); have HC5 := Aside0.mk (HC4.out.below hb5); have HS5 := Aside0.mk (Nat.le_trans HS4.out hb5.size); clear hb5 x0 x1 x3 x4 x5; obtain ⟨x0, x1, x3, x4, x5⟩ := HC5.out.cells)
  | (go_at_call 59; (with_reducible refine (HOF.out _ HB3.out).mono ?_); rintro e w4 ⟨rfl, hb4⟩; have HB4 := Aside0.mk (HB3.out.trans (hb4.below.mono (by have := HS3.out; omega))); have HC4 := Aside0.mk (HC3.out.below hb4.below); have HS4 := Aside0.mk (Nat.le_trans HS3.out hb4.below.size); clear hb4 x0 x1 x3 x4 x5; obtain ⟨x0, x1, x3, x4, x5⟩ := HC4.out.cells)
  | (go_at_call 59; (with_reducible refine (HOG.out _ HB2.out).mono ?_); rintro e w3 ⟨rfl, hb3⟩; have HB3 := Aside0.mk (HB2.out.trans (hb3.below.mono (by have := HS2.out; omega))); have HC3 := Aside0.mk (HC2.out.below hb3.below); have HS3 := Aside0.mk (Nat.le_trans HS2.out hb3.below.size); clear hb3 x0 x1 x3 x4 x5; obtain ⟨x0, x1, x3, x4, x5⟩ := HC3.out.cells))
 have hwv : IntKind.i64.wrap (ver - 1) = ver - 1 := by rw [IntKind.wrap_i64]; omega
 have HWV := Lib.hid hwv
 have hmv := mid_valid hv h1 h2 h3 h4
 have hr2 := of_decide_eq_true h1
 have hsm1 : smallL (putL (ver - 1) gone rest) := z6m hsm.2.2.2.2 hsm.2.2.2.1 (by omega)
 have hp1 := z7f (ver := ver - 1) (ps := gone) hr2.2.1
 have hp2 := z7f (ver := 0) (ps := free) hmv.2.1
 rw [show putL 0 free (putL (ver - 1) gone rest) = endL2 free gone rest ver from rfl] at hp2
 obtain ⟨m1, hm1⟩ : ∃ x, putL (ver - 1) gone rest = x := ⟨_, rfl⟩
 obtain ⟨l2, hl2⟩ : ∃ x, endL2 free gone rest ver = x := ⟨_, rfl⟩
 have HP1 : Aside0 (∀ W1, Below b w W1 → Calls Tryz.prog 61 #[.slice A rest.length c, .int .i64 (ver - 1), .slice GA gone.length gc] W1 (PutR (fun k => k < b) W1 m1)) := ⟨fun W1 hb1 => by
  have := put61 rest (ver - 1) gone A c GA gc W1 (fun k => k < b) (Kd.F_mono (Kd.F_below (Kd.C_F z2m hRE) (by rw [hb]; exact hb1)) (fun k hk => by omega)) hc (Kd.F_mono (Kd.F_below (Kd.C_F (Kd.heap_int _) hGO) (by rw [hb]; exact hb1)) (fun k hk => by omega)) hgc hsm.1 (by omega)
  rw [hp1, hm1] at this
  exact this⟩
 have HP2 : Aside0 (∀ W1 O oc, Below b w W1 → m1.length ≤ oc → Kd.F k64 W1 (off2 b) O m1.length m1 → Calls Tryz.prog 61 #[.slice O m1.length oc, .int .i64 0, .slice FA free.length fc] W1 (PutR (off2 b) W1 l2)) := ⟨fun W1 O oc hb1 ho hF => by
  have := put61 m1 0 free O oc FA fc W1 (off2 b) hF ho (Kd.F_mono (Kd.F_below (Kd.C_F (Kd.heap_int _) hFR) (by rw [hb]; exact hb1)) (fun k hk => .inl (by omega))) hfc (by rw [← hm1]; exact hsm1) (by omega)
  rw [← hm1, hp2, hl2] at this
  rw [hm1] at this
  exact this⟩
 rw [hl2] at h4
 have HLL := Lib.hid hl2
 have HTI := Aside0.mk (end_TI (shrink := shrink) ⟨hsm.2.1, hsm.2.2.1, hsm.2.2.2.1, hsm.2.2.2.2⟩ hn (show validB pg.length (endL2 free gone rest ver) = true from by rw [hl2]; exact h4))
 have HX7 := Aside0.mk (fun h => endX_7 (shrink := shrink) (pg := pg) (rest := rest) (free := free) (gone := gone) (ver := ver) ⟨hv, hn⟩ ⟨⟨h1, h2, h3⟩, show validB pg.length (endL2 free gone rest ver) = true from by rw [hl2]; exact h4⟩ h)
 have HX0 := Aside0.mk (fun l m own h => endX_0 (shrink := shrink) (pg := pg) (rest := rest) (free := free) (gone := gone) (ver := ver) (l := l) (m := m) (own := own) ⟨hv, hn⟩ ⟨⟨h1, h2, h3⟩, show validB pg.length (endL2 free gone rest ver) = true from by rw [hl2]; exact h4⟩ h)
 have hsl2 : smallL l2 := by rw [← hl2]; have q1 := z2h (ver - 1) gone rest; have q2 := z2h 0 free (putL (ver - 1) gone rest); exact ⟨by unfold endL2; omega, by unfold endL2; omega⟩
 have hc5 := HC5.out.1
 clear hwv hmv hr2 hsm1 hp1 hp2 hm1 hl2 x0 x1 x3 x4 x5 HIS HOG HOF HAP HB1 HB2 HB3 HB4 HC1 HC2 HC3 HC4 HS1 HS2 HS3 HS4 HB0 HC0 HS0
 refine wp_region_noPanic ?_
 refine wp_region_held_drew (S := fun W => W.heap[b]? = some (.cells #[.slice PA pg.length pc, .slice FA free.length fc, .slice RA rn rc, .slice GA gone.length gc, .int .i64 ver, .int .i64 tree] 25 (0, 0))) (by kernel_rfl) (hc5) (fun hS => ?_)
 simp only [List.size_toArray, List.length_cons, List.length_nil, Nat.reduceAdd, Array.replicate_succ, Array.replicate_zero, List.push_toArray, List.nil_append, List.cons_append]
 refine z0b (i := 0) 61 (.slice A rest.length c) rfl rfl (by kernel_rfl) (by kernel_rfl) (by kernel_rfl) (fun _ _ _ h => h) (Or.inl ⟨by rfl, fun W hW => by go_simp⟩) hS ?_
 try simp only [List.setIfInBounds_toArray, List.set_cons_zero, List.set_cons_succ]
 refine z0b (i := 1) 62 (.pointer (some ⟨b, 4, none⟩)) rfl rfl (by kernel_rfl) (by kernel_rfl) (by kernel_rfl) (fun _ _ _ h => h) (Or.inl ⟨by rfl, fun W hW => by go_simp⟩) hS ?_
 try simp only [List.setIfInBounds_toArray, List.set_cons_zero, List.set_cons_succ]
 refine z0b (i := 2) 63 (.int .i64 ver) rfl rfl (by kernel_rfl) (by kernel_rfl) (by kernel_rfl) (fun _ _ _ h => h) (Or.inl ⟨by rfl, fun W hW => by have h0 : W.cell? ⟨b, 4, none⟩ = some (.int .i64 ver) := (z0a hW 4).trans rfl; go_simp⟩) hS ?_
 try simp only [List.setIfInBounds_toArray, List.set_cons_zero, List.set_cons_succ]
 refine z0b (i := 3) 64 (.int .i64 (ver - 1)) rfl rfl (by kernel_rfl) (by kernel_rfl) (by kernel_rfl) (fun _ _ _ h => h) (Or.inl ⟨by rfl, fun W hW => by have h0 : IntKind.i64.wrap (ver - 1) = ver - 1 := HWV.out; go_simp⟩) hS ?_
 try simp only [List.setIfInBounds_toArray, List.set_cons_zero, List.set_cons_succ]
 refine z0b (i := 4) 65 (.pointer (some ⟨b, 3, none⟩)) rfl rfl (by kernel_rfl) (by kernel_rfl) (by kernel_rfl) (fun _ _ _ h => h) (Or.inl ⟨by rfl, fun W hW => by go_simp⟩) hS ?_
 try simp only [List.setIfInBounds_toArray, List.set_cons_zero, List.set_cons_succ]
 refine z0b (i := 5) 66 (.slice GA gone.length gc) rfl rfl (by kernel_rfl) (by kernel_rfl) (by kernel_rfl) (fun _ _ _ h => h) (Or.inl ⟨by rfl, fun W hW => by have h0 : W.cell? ⟨b, 3, none⟩ = some (.slice GA gone.length gc) := (z0a hW 3).trans rfl; go_simp⟩) hS ?_
 try simp only [List.setIfInBounds_toArray, List.set_cons_zero, List.set_cons_succ]
 refine z0b (i := 7) 68 (.pointer (some ⟨b, 1, none⟩)) rfl rfl (by kernel_rfl) (by kernel_rfl) (by kernel_rfl) (fun _ _ _ h => h) (Or.inl ⟨by rfl, fun W hW => by go_simp⟩) hS ?_
 try simp only [List.setIfInBounds_toArray, List.set_cons_zero, List.set_cons_succ]
 refine z0b (i := 8) 69 (.slice FA free.length fc) rfl rfl (by kernel_rfl) (by kernel_rfl) (by kernel_rfl) (fun _ _ _ h => h) (Or.inl ⟨by rfl, fun W hW => by have h0 : W.cell? ⟨b, 1, none⟩ = some (.slice FA free.length fc) := (z0a hW 1).trans rfl; go_simp⟩) hS ?_
 try simp only [List.setIfInBounds_toArray, List.set_cons_zero, List.set_cons_succ]
 refine wpAnyH_ready (rs := [6]) (by kernel_rfl) (by simp) ?_
 refine AllReadyH.cons rfl (fun K hK => ?_) AllReadyH.nil
 go_simp
 refine (HP1.out _ (HB5.out.drew)).mono ?_
 rintro e w6 ⟨O1, oc1, rfl, ho1, hF1, hb6⟩
 refine hK.out _ _ ((hb6.block b (by have := HS5.out; show b < w5.heap.size; omega)).trans hS) (fun hS => ?_)
 clear hK K
 have HF6 := Aside0.mk (Kd.F_mono (ok' := off2 b) hF1 (fun k hk => hk.elim (fun h => .inl h) (fun h => .inr (Nat.le_trans HS5.out h))))
 have HO1 := Aside0.mk ho1
 have HB6 := Aside0.mk (HB5.out.drew.trans (hb6.mono (show b ≤ w5.heap.size by have := HS5.out; omega)))
 have HC6 := Aside0.mk ((HC5.out.below (z0e (Below.refl _ _))).below hb6)
 have HS6 := Aside0.mk (Nat.le_trans HS5.out (show w5.heap.size ≤ w6.heap.size from hb6.size))
 clear hF1 ho1 hb6
 try simp only [Act.put, List.getElem_toArray, List.getElem_cons_succ, List.getElem_cons_zero, List.setIfInBounds_toArray, List.set_cons_zero, List.set_cons_succ]
 refine wpAnyH_ready (rs := [9]) (by kernel_rfl) (by simp) ?_
 refine AllReadyH.cons rfl (fun K hK => ?_) AllReadyH.nil
 go_simp
 refine (HP2.out _ O1 oc1 HB6.out HO1.out HF6.out).mono ?_
 rintro e w7 ⟨O2, oc2, rfl, ho2, hF2, hb7⟩
 refine hK.out _ _ ((hb7.block b (by have := HS6.out; omega)).trans hS) (fun hS => ?_)
 clear hK K
 have HF7 := Aside0.mk (Kd.F_mono (ok' := off2 b) hF2 (fun k hk => hk.elim (fun h => h) (fun h => .inr (Nat.le_trans HS6.out h))))
 have HO2 := Aside0.mk ho2
 have HB7 := Aside0.mk (HB6.out.trans (hb7.mono (by have := HS6.out; omega)))
 have HC7 := Aside0.mk (HC6.out.below hb7)
 have HS7 := Aside0.mk (Nat.le_trans HS6.out hb7.size)
 clear hF2 ho2 hb7 HF6 HO1 HB6 HC6 HS6
 try simp only [Act.put, List.getElem_toArray, List.getElem_cons_succ, List.getElem_cons_zero, List.setIfInBounds_toArray, List.set_cons_zero, List.set_cons_succ]
 refine z0b (i := 10) 8 (.slice O2 l2.length oc2) rfl rfl (by kernel_rfl) (by kernel_rfl) (by kernel_rfl) (fun _ _ _ h => h) (Or.inl ⟨by rfl, fun W hW => by go_simp⟩) hS ?_
 try simp only [List.setIfInBounds_toArray, List.set_cons_zero, List.set_cons_succ]
 refine wpAnyH_done (by kernel_rfl) ?_ _
 refine NoPanic.normal ?_
 go_upto_region 7 with (fail)
 have hz7 : Kd.N k89 89 (w7.alloc (.cells #[] 89)) w7.heap.size (off2 b) (.slice (some ⟨w7.heap.size, 0, none⟩) 0 0) [] := Kd.R_N (Kd.R_mono (ok' := off2 b) (Kd.R_bound (R_z k89 89 w7)) (fun k hk => .inr (Nat.le_trans HS7.out hk.2.1)))
 have HZ7 := Aside0.mk hz7
 have HPF := Aside0.mk (show Kd.F k89 (w7.alloc (.cells #[] 89)) (fun k => k < b) PA pg.length pg from Kd.F_below (Kd.F_mono (Kd.F_below (Kd.C_F z6g hPG) (by rw [hb]; exact HB7.out)) (fun k hk => by omega)) (z0i w7 _))
 have hx7 : (w7.alloc (.cells #[] 89)).cell? ⟨b, 0, none⟩ = some (.slice PA pg.length pc) := (z0a (z0j HC7.out.1 (.cells #[] 89)) 0).trans rfl
 have HBA := Aside0.mk (z0i w7 (.cells #[] 89))
 have HSA := Aside0.mk (show w7.heap.size ≤ (w7.alloc (.cells #[] 89)).heap.size by simp)
 have HNE := Aside0.mk (show ∀ k, k < b → off2 b k ∧ some k ≠ (Value.slice (some ⟨w7.heap.size, 0, none⟩) 0 0).ownBlock from fun k hk => ⟨.inl hk, fun e => by have := HS7.out; simp [Value.ownBlock] at e; omega⟩)
 have HFR := Aside0.mk (show ∀ k, (w7.alloc (.cells #[] 89)).heap.size ≤ k → off2 b k from fun k hk => .inr (by have := HS7.out; simp at hk; omega))
 have HN2 := Aside0.mk (show (([] : List S89).length + pg.length) * 120 ≤ 140737488355328 by simp; omega)
 clear hz7
 go_upto_region 8 with (at_builtin; refine Kd.N_append_rows k89 (w0 := w7) w7.heap.size rfl _ _ 22 89 (.agg (cells89 z89 none 0).toArray) 120 rfl Tryz.underlying22 info89 rfl (by decide) (by decide) _ [] pg PA pg.length pc (off2 b) (fun k => k < b) rfl rfl HZ7.out HPF.out HNE.out HFR.out HBA.out HSA.out HN2.out ?_; intro v8 w8 hn8 hb8 hg8 hat8)
 rw [List.nil_append] at hn8
 obtain ⟨QA, qc, rfl⟩ := Kd.N_slice hn8
 have hRM : RM w b #[.slice PA pg.length pc, .slice FA free.length fc, .slice RA rn rc, .slice GA gone.length gc, .int .i64 ver, .int .i64 tree] (.slice QA pg.length qc) (.slice O2 l2.length oc2) (.slice none 0 0) pg l2 [] w8 := by
  have hqb := Kd.N_base hn8
  refine ⟨Kd.N_mono (Kd.N_lower hn8 HS7.out) (fun k hk => ⟨hk, by simp [Value.ownBlock]⟩), ⟨O2, oc2, rfl, HO2.out, ?_⟩, Kd.R_nil _ _ _ _ _, HC7.out.below hb8, HB7.out.trans (hb8.mono (by have := HS7.out; omega)), Nat.le_trans HS7.out hb8.size⟩
  exact Kd.F_mono (Kd.F_below (Kd.F_bound HF7.out) hb8) (fun k hk => ⟨⟨hk.1, fun e => by have := hqb k e.symm; have := hk.2; omega⟩, by simp [Value.ownBlock]⟩)
 have HRM := Aside0.mk hRM
 have htl := z4x l2 pg.length (of_decide_eq_true h4).2.1 (by omega)
 obtain ⟨m, hm⟩ : ∃ m : Nat, tailN l2 pg.length = (m : Int) := ⟨(tailN l2 pg.length).toNat, by omega⟩
 have HM := Lib.hid hm
 have hck := cut_keep (of_decide_eq_true h4)
 rw [hm] at htl hck
 have hmn : m ≤ pg.length := by omega
 have HTA := Aside0.mk (fun (W1 : World) (hC : k64.C W1 O2 l2.length l2) => z6y l2 pg.length O2 oc2 W1 hC HO2.out hsl2 (of_decide_eq_true h4))
 rw [hm] at HTA
 have HCU := Aside0.mk (fun (W1 : World) (hC : k64.C W1 O2 l2.length l2) => cut_any l2 m O2 oc2 W1 hC HO2.out hsl2)
 rw [hck] at HCU
 have hmq : m ≤ qc := Nat.le_trans hmn (Kd.N_reads' hn8).2.1
 clear hRM htl hm hck hn8 hb8 hg8 hat8 HZ7 HPF hx7 HBA HSA HNE HFR HN2 HF7 HC7 HB7 hc5 HB5 HC5 HP1 HP2
 go_upto_if 75 with (fail)
 go_cut [7, 8, 9] from 75 (fun n lv pv wx => n = .int .i64 ((if shrink then m else pg.length : Nat) : Int) ∧ RM w b #[.slice PA pg.length pc, .slice FA free.length fc, .slice RA rn rc, .slice GA gone.length gc, .int .i64 ver, .int .i64 tree] pv lv (.slice none 0 0) (if shrink then pg.take m else pg) (if shrink then keepAll m l2 else l2) [] wx)
 case first =>
  cases shrink with
  | false =>
   go_wp2
   go_meet
   case rel => exact ⟨rfl, HRM.out⟩
  | true =>
   go_upto_region 11 with (first
    | (go_at_call 21; (refine (HTA.out _ (by obtain ⟨_, ⟨A9, c9, e9, _, hF9⟩, _⟩ := HRM.out; injection e9 with e1 _ e2; rw [e1]; exact Kd.F_now hF9)).mono ?_); rintro e w9 ⟨rfl, hd9⟩; have HRM9 := Aside0.mk (HRM.out.below hd9.below); clear hd9)
    | (go_at_call 62; (refine (HCU.out _ (by obtain ⟨_, ⟨A9, c9, e9, _, hF9⟩, _⟩ := HRM9.out; injection e9 with e1 _ e2; rw [e1]; exact Kd.F_now hF9)).mono ?_); rintro e w10 ⟨v10, rfl, hv10, hb10⟩; obtain ⟨CA, cc, rfl⟩ := Kd.S_slice hv10; have HRM10 := Aside0.mk (HRM9.out.list hb10 (Kd.S_reads' hv10).2.1 (Kd.F_mono (Kd.S_F (Kd.S_bound hv10)) (fun k hk => .inr hk.2.1))); clear hv10 hb10))
   go_wp2
   go_meet
   case rel => exact ⟨rfl, HRM10.out.take hmn⟩
 case rest =>
  obtain ⟨rfl, hrm⟩ := hcut
  have hti := HTI.out.1
  have hnle := HTI.out.2
  have hx7 := HX7.out
  have hx0 := HX0.out
  unfold endN3 endL3 at hti hx7 hx0
  unfold endN3 at hnle
  unfold endP3 endN3 at hx0
  rw [HLL.out, HM.out, Int.toNat_natCast] at hti hx7
  rw [HLL.out, HM.out, Int.toNat_natCast] at hx0
  rw [HLL.out, HM.out, Int.toNat_natCast] at hnle
  simp only [if_true] at hx0
  have hrg : (if shrink then pg.take m else pg) = pg.take (if shrink then m else pg.length) := by cases shrink <;> simp
  have hpz : (if shrink then (zeroAll free pg).take m else zeroAll free pg) = (zeroAll free pg).take (if shrink then m else pg.length) := by cases shrink <;> simp [List.take_of_length_le, z2a]
  rw [hrg] at hrm
  rw [hpz] at hx0
  obtain ⟨n3, hn3⟩ : ∃ x, (if shrink then m else pg.length) = x := ⟨_, rfl⟩
  obtain ⟨l3, hl3⟩ : ∃ x, (if shrink then keepAll m l2 else l2) = x := ⟨_, rfl⟩
  rw [hn3] at hti hx7 hx0 hnle hrm ⊢
  rw [hl3] at hti hx7 hx0 hrm
  rw [HKK.out] at hx7 hx0
  obtain ⟨r, hr⟩ : ∃ r, takeRun K l3 n3 [] = r := ⟨_, rfl⟩
  rw [hr, HR0.out] at hx7
  rw [hr, HR0.out] at hx0
  have hzt := fun j => (z9v free n3 j pg hnle).symm
  simp only [hzt] at hx0
  have hrl : (pg.take n3).length = n3 := by rw [List.length_take]; omega
  obtain ⟨rg3, hrg3⟩ : ∃ x, pg.take n3 = x := ⟨_, rfl⟩
  rw [hrg3] at hx0 hrm hrl
  have hrk : roundsL l3 n3 < K := by have h := z6s (n := n3) hti.1; have h' := HKK.out; omega
  have HX7' := Aside0.mk hx7
  have HX0' := Aside0.mk hx0
  have HTI' := Aside0.mk hti
  have HRK := Aside0.mk hrk
  have HRR := Aside0.mk hr
  have HRM0 := Aside0.mk hrm
  have HRL := Lib.hid hrl
  have HN3 := Aside0.mk (show n3 ≤ 4096 by have := hti.2.2.2.1; omega)
  clear hx7 hx0 hti hrk hr hrm hzt hrg3 hrl hrg hpz hn3 hl3 hnle HX7 HX0 HTI HRM HTA HCU hmq hmn h4 hsl2 HO2 HS7 HS5
  go_upto_region 13 with (fail)
  go_loopg [8, 9, 10] K (fun k lv pv ov wr => ∃ (l : List S64) (n : Nat) (own : List Int), Aside0 (takeRun k l n own = r) ∧ Aside0 (roundsL l n < k) ∧ Aside0 (TI n l own) ∧ Aside0 (RM w b #[.slice PA pg.length pc, .slice FA free.length fc, .slice RA rn rc, .slice GA gone.length gc, .int .i64 ver, .int .i64 tree] pv lv ov (rg3 ++ List.replicate (n - n3) z89) l own wr) ∧ Aside0 (n3 ≤ n ∧ n ≤ 4096 ∧ own.length + k ≤ K))
  case atStart => exact ⟨l3, n3, [], HRR, HRK, HTI', ⟨by rw [Nat.sub_self, List.replicate_zero, List.append_nil]; exact HRM0.out⟩, ⟨Nat.le_refl _, HN3.out, by simp⟩⟩
  case round =>
   clear HRR HRK HTI' HRM0
   obtain ⟨l, n, own, HRU, HRK, HTI, HRM, HBD⟩ := hrel
   obtain ⟨j, rfl⟩ := pos_succ HRK.out
   obtain ⟨A9, c9, rfl, hc9, hF9⟩ := HRM.out.2.1
   obtain ⟨QP, qp, rfl⟩ := Kd.N_slice HRM.out.1
   obtain ⟨TA, tc, rfl⟩ := Kd.R_slice HRM.out.2.2.1
   have hlen : (rg3 ++ List.replicate (n - n3) z89).length = n := by rw [List.length_append, List.length_replicate, HRL.out]; have := HBD.out.1; omega
   rw [hlen] at HRM ⊢
   have HNE := Aside0.mk (z9i l A9 c9 wr (Kd.F_now hF9) hc9 HTI.out.2.1 HTI.out.1)
   have HC9 := Aside0.mk hc9
   have HLN := Lib.hid hlen
   clear hc9 hF9 hlen
   by_cases hdn : (partsOf l).length ≤ own.length
   ·have hdd : decide ((own.length : Int) < ((partsOf l).length : Int)) = false := decide_eq_false (by omega)
    have hde : decide (own.length < (partsOf l).length) = false := decide_eq_false (by omega)
    have hx := HX0'.out l n own (by rw [← HRU.out]; exact z6t hdn)
    obtain ⟨P4, hP4⟩ : ∃ x, rg3 ++ List.replicate (n - n3) z89 = x := ⟨_, rfl⟩
    rw [hP4] at hx HRM HLN
    obtain ⟨PF, hPF⟩ : ∃ x, layAll (listPg l own ver) (zeroAll free P4) = x := ⟨_, rfl⟩
    obtain ⟨hd, hhd⟩ : ∃ x, own.headD 0 = x := ⟨_, rfl⟩
    rw [hPF, hhd] at hx
    subst hx
    have HPF := Lib.hid hPF
    have HHD := Lib.hid hhd
    have HNUM := Aside0.mk (TI_num HTI.out (show 0 ≤ ver ∧ ver ≤ 1099511627776 by omega))
    have HIDX := Aside0.mk (TI_idx (ver := ver) HTI.out)
    have HOL := Aside0.mk (show own.length ≤ 1000000 by have h1 := HBD.out; have h2 := HKK.out; omega)
    have HDN := Aside0.mk hdn
    have hfd := fld114
    clear hP4 hPF hhd hdn HX0' HX7' HRK HRU FAIL
    go_upto_region 21 with (go_at_call 63; (refine HNE.out.mono ?_); rintro e w8 ⟨rfl, hb8⟩)
    have HRM8 := Aside0.mk (HRM.out.below hb8)
    clear hb8 hdd hde hfd HNE HRM
    have HZ0 : Aside0 (RM w b #[.slice PA pg.length pc, .slice FA free.length fc, .slice RA rn rc, .slice GA gone.length gc, .int .i64 ver, .int .i64 tree] (.slice QP n qp) (.slice A9 l.length c9) (.slice TA own.length tc) (zeroTo 0 free P4) l own w8) := ⟨HRM8.out⟩
    have HI2 := Aside0.mk (of_decide_eq_true h2).1
    have h89 : (Tryz.prog.info? 89).map (·.size) = some 10 := by kernel_rfl
    clear HRM8
    go_upto_region 22 with (fail)
    go_loopw [11] (fun i wr => ∃ k : Nat, k ≤ free.length ∧ i = .int .i64 k ∧ Aside0 (RM w b #[.slice PA pg.length pc, .slice FA free.length fc, .slice RA rn rc, .slice GA gone.length gc, .int .i64 ver, .int .i64 tree] (.slice QP n qp) (.slice A9 l.length c9) (.slice TA own.length tc) (zeroTo k free P4) l own wr))
     (fun i _ => free.length - (intOf i).toNat)
    case atStart => exact ⟨0, Nat.zero_le _, rfl, HZ0⟩
    case round =>
     clear HZ0
     obtain ⟨k, hk, rfl, HRM⟩ := hrel
     obtain ⟨x0, x1, x3, x4, x5⟩ := REC.cells HRM.out.2.2.2.1
     have hzl : (zeroTo k free P4).length = n := by unfold zeroTo; rw [z2a, HLN.out]
     have HZL := Lib.hid hzl
     by_cases hlt : k < free.length
     ·obtain ⟨ad, had, hxc⟩ := Kd.at_int (Kd.C_below hFR (show Below w.heap.size w wr by rw [hb]; exact HRM.out.2.2.2.2.1)) (k : Int) (by omega) (by omega)
      subst had
      rw [Int.toNat_natCast, z0u free k hlt] at hxc
      have hx := HI2.out _ (List.getElem_mem hlt)
      have HZS := Lib.hid (z6n k free P4 hlt)
      obtain ⟨x, hxx⟩ : ∃ x, free[k] = x := ⟨_, rfl⟩
      rw [hxx] at hxc hx HZS
      by_cases hin : x < (n : Int)
      ·obtain ⟨q, qp', hve, hbq, hqs, _⟩ := Kd.N_form HRM.out.1 (by rw [hzl]; omega)
       rw [hzl] at hve
       injection hve with e1 _ e2
       subst e1 e2
       obtain ⟨cs, hcl, hFK, hcc, hfr⟩ := Kd.N_elem HRM.out.1 z89 x (by omega) (by omega)
       obtain ⟨A8, c8, rfl, _, _⟩ := z1s hFK
       have HCC := Aside0.mk hcc
       have hx0 : 0 ≤ x := by omega
       have HX0 := Aside0.mk hx0
       have HXL := Aside0.mk hin
       have hd1 : decide (x < (n : Int)) = true := decide_eq_true hin
       clear hFK hcc hfr hxx hzl x3 x4 x5
       go_wp2_with (refine Kd.N_store k89 (w0 := wr) (b + 2) rfl rfl 89 (.tmp 153) (.tmp 152) rfl 89 x 0 (zeroTo k free P4) z89 (.agg #[.int .i64 0, .int .i64 0, .int .i64 0, .int .i64 0, .int .i64 0, .bool false, .slice none 0 0, .int .i64 0, .string ⟨#[]⟩, .slice none 0 0]) [.int .i64 0, .int .i64 0, .int .i64 0, .int .i64 0, .int .i64 0, .bool false, .slice none 0 0, .int .i64 0, .string ⟨#[]⟩, .slice none 0 0] (cells89 _ A8 c8) (fun y => off2 b y ∧ some y ≠ (Value.slice TA own.length tc).ownBlock) (fun _ => False) rfl rfl rfl rfl h89 (by simp [Value.oneCell']) HRM.out.1 HX0.out HXL.out hcl HCC.out (by show 0 + 10 ≤ 10; omega) (by exact zero89F) (fun _ h => h.elim) (Below.refl _ _) ?_; intro w4 hn4 hb4 hg4; have HRM4 := Aside0.mk (HRM.out.pages hn4 hb4 hg4 (.inl rfl)); clear hn4 hb4 hg4)
       go_roundw
       case rel => exact ⟨k + 1, by omega, by go_num, ⟨by rw [HZS.out]; exact HRM4.out⟩⟩
       case measure => simp [intOf]; omega
      ·have hd1 : decide (x < (n : Int)) = false := decide_eq_false hin
       have HSE := Lib.hid (show (zeroTo k free P4).set x.toNat z89 = zeroTo k free P4 from List.set_eq_of_length_le (by omega))
       clear hxx hzl x3 x4 x5
       go_wp2
       go_roundw
       case rel => exact ⟨k + 1, by omega, by go_num, ⟨by rw [HZS.out, HSE.out]; exact HRM.out⟩⟩
       case measure => simp [intOf]; omega
     ·obtain rfl : k = free.length := by omega
      have hrm5 := HRM.out
      unfold zeroTo at hrm5
      rw [List.take_length] at hrm5
      have HRM5 := Aside0.mk hrm5
      have hz5 := z2a free P4
      obtain ⟨P5, hP5⟩ : ∃ x, zeroAll free P4 = x := ⟨_, rfl⟩
      rw [hP5] at HRM5 HPF hz5
      have HL5 := Lib.hid (show P5.length = n by rw [hz5, HLN.out])
      have hcO := Kd.R_reads' HRM5.out.2.2.1
      obtain ⟨_, ⟨A8, c8, e8, hc8, hF8⟩, _⟩ := HRM5.out
      injection e8 with e1 _ e2
      subst e1 e2
      have HLP := Aside0.mk (listpages65 l own ver A9 TA c9 tc wr _ hF8 hc8 HTI.out.2.1 HTI.out.1 hcO.2.2 hcO.2.1 HOL.out HDN.out HNUM.out)
      obtain ⟨ps, hps⟩ : ∃ x, listPg l own ver = x := ⟨_, rfl⟩
      rw [hps] at HLP HIDX HPF
      have HPL := Lib.hid (show ps.length = own.length by rw [← hps, z48])
      clear hrm5 hz5 hP5 hcO hc8 hF8 hzl HZL HRM x0 x3 x5 hps
      go_upto_region 27 with (go_at_call 65; (refine HLP.out.mono ?_); rintro e w10 ⟨u, rfl, hu, hb10⟩; obtain ⟨UA, uc, rfl⟩ := Kd.N_slice hu)
      have hPlt : ∀ y, (Value.slice QP n qp).ownBlock = some y → y < wr.heap.size := Kd.N_lt HRM5.out.1
      have hTlt : ∀ y, (Value.slice TA own.length tc).ownBlock = some y → y < wr.heap.size := Kd.R_lt HRM5.out.2.2.1
      have hwb : b + 2 ≤ wr.heap.size := HRM5.out.2.2.2.2.2
      have hbX := z0i w10 (.cells #[.slice UA ps.length uc, .int .i64 0] 117)
      have hkX := z0l w10 (.cells #[.slice UA ps.length uc, .int .i64 0] 117)
      have hsX : (w10.alloc (.cells #[.slice UA ps.length uc, .int .i64 0] 117)).heap.size = w10.heap.size + 1 := by simp
      have hrX := (HRM5.out.below hb10).below hbX
      have hwX := hb10.size
      have hU11 := Kd.N_mono (ok' := fun y => ((off2 b y ∧ some y ≠ (Value.slice QP n qp).ownBlock) ∧ some y ≠ (Value.slice TA own.length tc).ownBlock) ∧ y < w10.heap.size) (Kd.N_below (Kd.N_bound (Kd.N_lower hu hwb)) hbX) (fun y hy => ⟨hy.1.elim id (fun h => ⟨⟨.inr (by omega), fun e => by have := hPlt y e.symm; omega⟩, fun e => by have := hTlt y e.symm; omega⟩), hy.2⟩)
      obtain ⟨X, hX⟩ : ∃ X, w10.heap.size = X := ⟨_, rfl⟩
      obtain ⟨W11, hW11⟩ : ∃ V, w10.alloc (.cells #[.slice UA ps.length uc, .int .i64 0] 117) = V := ⟨_, rfl⟩
      rw [hW11] at hkX hsX hrX hU11 ⊢
      rw [hX] at hkX hsX hU11 hwX ⊢
      have HX11 : Aside0 (W11.heap[X]? = some (.cells #[.slice UA ps.length uc, .int .i64 0] 117 (0, 0))) := ⟨hkX⟩
      have HS11 : Aside0 (X + 1 ≤ W11.heap.size) := ⟨Nat.le_of_eq hsX.symm⟩
      have HU11 := Aside0.mk hU11
      have HRX : Aside0 (RM w b #[.slice PA pg.length pc, .slice FA free.length fc, .slice RA rn rc, .slice GA gone.length gc, .int .i64 ver, .int .i64 tree] (.slice QP n qp) (.slice A9 l.length c9) (.slice TA own.length tc) (layTo 0 ps P5) l own W11) := ⟨hrX⟩
      have HPX := Aside0.mk (show ∀ y, (Value.slice QP n qp).ownBlock = some y → y < X from fun y hy => by have := hPlt y hy; omega)
      have hpsl : ps.length ≤ 1000000 := by rw [HPL.out]; exact HOL.out
      clear hPlt hTlt hwb hbX hkX hsX hrX hwX hU11 hX hW11 hu hb10 HRM5 HLP x1 x4
      go_upto_region 28 with (fail)
      go_loopw [13] (fun i wr => ∃ k : Nat, k ≤ ps.length ∧ i = .int .i64 k ∧ Aside0 (RM w b #[.slice PA pg.length pc, .slice FA free.length fc, .slice RA rn rc, .slice GA gone.length gc, .int .i64 ver, .int .i64 tree] (.slice QP n qp) (.slice A9 l.length c9) (.slice TA own.length tc) (layTo k ps P5) l own wr) ∧ Aside0 (Kd.N k89 89 wr (b + 2) (fun y => ((off2 b y ∧ some y ≠ (Value.slice QP n qp).ownBlock) ∧ some y ≠ (Value.slice TA own.length tc).ownBlock) ∧ y < X) (.slice UA ps.length uc) ps) ∧ Aside0 (wr.heap[X]? = some (.cells #[.slice UA ps.length uc, .int .i64 0] 117 (0, 0))) ∧ Aside0 (X + 1 ≤ wr.heap.size))
       (fun i _ => ps.length - (intOf i).toNat)
      case atStart => exact ⟨0, Nat.zero_le _, rfl, HRX, HU11, HX11, HS11⟩
      case round =>
       clear HRX HU11 HX11 HS11
       obtain ⟨k, hk, rfl, HRM, HU, HXB, HSX⟩ := hrel
       have hxb := HXB.out
       have xb0 : wr.cell? ⟨X, 0, none⟩ = some (.slice UA ps.length uc) := (z0a hxb 0).trans rfl
       by_cases hlt : k < ps.length
       ·have HLT := Aside0.mk hlt
        have hx := HIDX.out ps[k] (List.getElem_mem hlt)
        have hgd : ps.getD (k : Int).toNat z89 = ps[k] := by rw [Int.toNat_natCast]; simp [hlt]
        have HZS := Lib.hid (z6o k ps P5 hlt)
        obtain ⟨x, hxx⟩ : ∃ x, ps[k] = x := ⟨_, rfl⟩
        rw [hxx] at hx hgd HZS
        have hlen : (layTo k ps P5).length = n := by unfold layTo; rw [z36, HL5.out]
        obtain ⟨q, qp', hve, hbq, hqs, _⟩ := Kd.N_form HRM.out.1 (by rw [hlen]; omega)
        rw [hlen] at hve
        injection hve with e1 _ e2
        subst e1 e2
        obtain ⟨ug, uc', hue, hub, hus, _⟩ := Kd.N_form HU.out (by omega)
        injection hue with e1 _ e2
        subst e1 e2
        obtain ⟨c1, hcl1, hFK1, hcc1, _⟩ := Kd.N_elem HU.out z89 (k : Int) (by omega) (by omega)
        rw [hgd] at hFK1
        obtain ⟨A1, c2, rfl, hl1, hF1⟩ := z1s hFK1
        have u0 := hcc1 0 _ rfl
        have u1 := hcc1 1 _ rfl
        have u2 := hcc1 2 _ rfl
        have u3 := hcc1 3 _ rfl
        have u4 := hcc1 4 _ rfl
        have u5 := hcc1 5 _ rfl
        have u6 := hcc1 6 _ rfl
        have u7 := hcc1 7 _ rfl
        have u8 := hcc1 8 _ rfl
        have u9 := hcc1 9 _ rfl
        simp only [Int.toNat_natCast, z1x, Nat.add_zero] at u0 u1 u2 u3 u4 u5 u6 u7 u8 u9
        have huq : ug ≠ q := fun e => by have h := (HU.out.1 ug (by simp [Value.ownBlock])).1.1.2; rw [e] at h; exact h (by simp [Value.ownBlock])
        have HUQ := Aside0.mk huq
        have HXQ := Aside0.mk (show X ≠ q from fun e => by have := HPX.out q (by simp [Value.ownBlock]); omega)
        have HRMd := Aside0.mk (HRM.out.below (z0e (Below.refl _ wr)))
        have HFX : Aside0 (Kd.FK k89 wr.drew (fun y => ((off2 b y ∧ some y ≠ (Value.slice (some ⟨q, 0, none⟩) n qp).ownBlock) ∧ some y ≠ (Value.slice TA own.length tc).ownBlock) ∧ y < X) x (cells89 x A1 c2)) := ⟨z2g _ _ x hl1 (Kd.F_drew (Kd.F_mono hF1 (fun y hy => hy.1)))⟩
        have HOK := Aside0.mk (show ∀ y, (((off2 b y ∧ some y ≠ (Value.slice (some ⟨q, 0, none⟩) n qp).ownBlock) ∧ some y ≠ (Value.slice TA own.length tc).ownBlock) ∧ y < X) → (off2 b y ∧ some y ≠ (Value.slice TA own.length tc).ownBlock) ∧ y ≠ q from fun y hy => ⟨⟨hy.1.1.1, hy.1.2⟩, fun e => hy.1.1.2 (by rw [e]; simp [Value.ownBlock])⟩)
        have HX0 := Aside0.mk hx.1
        have HXL := Aside0.mk hx.2
        obtain ⟨cs, hcl, hFK, hcc, hfr⟩ := Kd.N_elem HRMd.out.1 z89 x.no HX0.out HXL.out
        obtain ⟨A8, c8, rfl, _, _⟩ := z1s hFK
        have HCC := Aside0.mk hcc
        have hx0 := HX0.out
        have hxl := HXL.out
        have hsS : (wr.heap[X]? = some (.cells #[.slice (some ⟨ug, 0, none⟩) ps.length uc, .int .i64 0] 117 (0, 0)) ∧ wr.cell? ⟨ug, k * 10, none⟩ = some (.int .i64 x.kind) ∧ wr.cell? ⟨ug, k * 10 + 1, none⟩ = some (.int .i64 x.no) ∧ wr.cell? ⟨ug, k * 10 + 2, none⟩ = some (.int .i64 x.ver) ∧ wr.cell? ⟨ug, k * 10 + 3, none⟩ = some (.int .i64 x.tree) ∧ wr.cell? ⟨ug, k * 10 + 4, none⟩ = some (.int .i64 x.level) ∧ wr.cell? ⟨ug, k * 10 + 5, none⟩ = some (.bool x.top) ∧ wr.cell? ⟨ug, k * 10 + 6, none⟩ = some (.slice x.ent.1 x.ent.2.1 x.ent.2.2) ∧ wr.cell? ⟨ug, k * 10 + 7, none⟩ = some (.int .i64 x.next) ∧ wr.cell? ⟨ug, k * 10 + 8, none⟩ = some (.string x.data) ∧ wr.cell? ⟨ug, k * 10 + 9, none⟩ = some (.slice A1 x.freed.length c2)) := ⟨hxb, u0, u1, u2, u3, u4, u5, u6, u7, u8, u9⟩
        clear hFK hcc hfr u0 u1 u2 u3 u4 u5 u6 u7 u8 u9 hFK1 hcc1 hl1 hF1 hxx hgd hx hlen huq hxb HRM
        go_upto_region 30 with (fail)
        clear xb0
        refine wp_region_noPanic ?_
        refine wp_region_held_drew (S := fun W => W.heap[X]? = some (.cells #[.slice (some ⟨ug, 0, none⟩) ps.length uc, .int .i64 0] 117 (0, 0)) ∧ W.cell? ⟨ug, k * 10, none⟩ = some (.int .i64 x.kind) ∧ W.cell? ⟨ug, k * 10 + 1, none⟩ = some (.int .i64 x.no) ∧ W.cell? ⟨ug, k * 10 + 2, none⟩ = some (.int .i64 x.ver) ∧ W.cell? ⟨ug, k * 10 + 3, none⟩ = some (.int .i64 x.tree) ∧ W.cell? ⟨ug, k * 10 + 4, none⟩ = some (.int .i64 x.level) ∧ W.cell? ⟨ug, k * 10 + 5, none⟩ = some (.bool x.top) ∧ W.cell? ⟨ug, k * 10 + 6, none⟩ = some (.slice x.ent.1 x.ent.2.1 x.ent.2.2) ∧ W.cell? ⟨ug, k * 10 + 7, none⟩ = some (.int .i64 x.next) ∧ W.cell? ⟨ug, k * 10 + 8, none⟩ = some (.string x.data) ∧ W.cell? ⟨ug, k * 10 + 9, none⟩ = some (.slice A1 x.freed.length c2)) (by kernel_rfl) (hsS) (fun hS => ?_)
        simp only [List.size_toArray, List.length_cons, List.length_nil, Nat.reduceAdd, Array.replicate_succ, Array.replicate_zero, List.push_toArray, List.nil_append, List.cons_append]
        refine z0b (i := 0) 166 (.slice (some ⟨q, 0, none⟩) n qp) rfl rfl (by kernel_rfl) (by kernel_rfl) (by kernel_rfl) (fun _ _ _ h => h) (Or.inl ⟨by rfl, fun W hW => by go_simp⟩) hS ?_
        try simp only [List.setIfInBounds_toArray, List.set_cons_zero, List.set_cons_succ]
        refine z0b (i := 1) 167 (.pointer (some ⟨X, 0, none⟩)) rfl rfl (by kernel_rfl) (by kernel_rfl) (by kernel_rfl) (fun _ _ _ h => h) (Or.inl ⟨by rfl, fun W hW => by go_simp⟩) hS ?_
        try simp only [List.setIfInBounds_toArray, List.set_cons_zero, List.set_cons_succ]
        refine z0b (i := 2) 168 (.slice (some ⟨ug, 0, none⟩) ps.length uc) rfl rfl (by kernel_rfl) (by kernel_rfl) (by kernel_rfl) (fun _ _ _ h => h) (Or.inl ⟨by rfl, fun W hW => by have h0 : W.cell? ⟨X, 0, none⟩ = some (.slice (some ⟨ug, 0, none⟩) ps.length uc) := (z0a hW.1 0).trans rfl; go_simp⟩) hS ?_
        try simp only [List.setIfInBounds_toArray, List.set_cons_zero, List.set_cons_succ]
        refine z0b (i := 3) 169 (.int .i64 k) rfl rfl (by kernel_rfl) (by kernel_rfl) (by kernel_rfl) (fun _ _ _ h => h) (Or.inl ⟨by rfl, fun W hW => by go_simp⟩) hS ?_
        try simp only [List.setIfInBounds_toArray, List.set_cons_zero, List.set_cons_succ]
        refine z0b (i := 4) 170 (.pointer (some ⟨ug, k * 10, none⟩)) rfl rfl (by kernel_rfl) (by kernel_rfl) (by kernel_rfl) (fun _ _ _ h => h) (Or.inl ⟨by rfl, fun W hW => by go_simp⟩) hS ?_
        try simp only [List.setIfInBounds_toArray, List.set_cons_zero, List.set_cons_succ]
        refine z0b (i := 5) 171 (.pointer (some ⟨ug, k * 10 + 1, none⟩)) rfl rfl (by kernel_rfl) (by kernel_rfl) (by kernel_rfl) (fun _ _ _ h => h) (Or.inl ⟨by rfl, fun W hW => by go_simp⟩) hS ?_
        try simp only [List.setIfInBounds_toArray, List.set_cons_zero, List.set_cons_succ]
        refine z0b (i := 6) 172 (.int .i64 x.no) rfl rfl (by kernel_rfl) (by kernel_rfl) (by kernel_rfl) (fun _ _ _ h => h) (Or.inl ⟨by rfl, fun W hW => by have h0 := hW.2.2.1; go_simp⟩) hS ?_
        try simp only [List.setIfInBounds_toArray, List.set_cons_zero, List.set_cons_succ]
        refine z0b (i := 7) 173 (.pointer (some ⟨X, 0, none⟩)) rfl rfl (by kernel_rfl) (by kernel_rfl) (by kernel_rfl) (fun _ _ _ h => h) (Or.inl ⟨by rfl, fun W hW => by go_simp⟩) hS ?_
        try simp only [List.setIfInBounds_toArray, List.set_cons_zero, List.set_cons_succ]
        refine z0b (i := 8) 174 (.slice (some ⟨ug, 0, none⟩) ps.length uc) rfl rfl (by kernel_rfl) (by kernel_rfl) (by kernel_rfl) (fun _ _ _ h => h) (Or.inl ⟨by rfl, fun W hW => by have h0 : W.cell? ⟨X, 0, none⟩ = some (.slice (some ⟨ug, 0, none⟩) ps.length uc) := (z0a hW.1 0).trans rfl; go_simp⟩) hS ?_
        try simp only [List.setIfInBounds_toArray, List.set_cons_zero, List.set_cons_succ]
        refine z0b (i := 9) 175 (.int .i64 k) rfl rfl (by kernel_rfl) (by kernel_rfl) (by kernel_rfl) (fun _ _ _ h => h) (Or.inl ⟨by rfl, fun W hW => by go_simp⟩) hS ?_
        try simp only [List.setIfInBounds_toArray, List.set_cons_zero, List.set_cons_succ]
        refine z0b (i := 10) 176 (.pointer (some ⟨ug, k * 10, none⟩)) rfl rfl (by kernel_rfl) (by kernel_rfl) (by kernel_rfl) (fun _ _ _ h => h) (Or.inl ⟨by rfl, fun W hW => by go_simp⟩) hS ?_
        try simp only [List.setIfInBounds_toArray, List.set_cons_zero, List.set_cons_succ]
        refine z0b (i := 11) 177 (.agg #[.int .i64 x.kind, .int .i64 x.no, .int .i64 x.ver, .int .i64 x.tree, .int .i64 x.level, .bool x.top, .slice x.ent.1 x.ent.2.1 x.ent.2.2, .int .i64 x.next, .string x.data, .slice A1 x.freed.length c2]) rfl rfl (by kernel_rfl) (by kernel_rfl) (by kernel_rfl) (fun _ _ _ h => h) (Or.inl ⟨by rfl, fun W hW => by have h0 := hW.2.1; have h1 := hW.2.2.1; have h2 := hW.2.2.2.1; have h3 := hW.2.2.2.2.1; have h4 := hW.2.2.2.2.2.1; have h5 := hW.2.2.2.2.2.2.1; have h6 := hW.2.2.2.2.2.2.2.1; have h7 := hW.2.2.2.2.2.2.2.2.1; have h8 := hW.2.2.2.2.2.2.2.2.2.1; have h9 := hW.2.2.2.2.2.2.2.2.2.2; go_simp⟩) hS ?_
        try simp only [List.setIfInBounds_toArray, List.set_cons_zero, List.set_cons_succ]
        refine z0b (i := 12) 178 (.pointer (some ⟨q, x.no.toNat * 10, none⟩)) rfl rfl (by kernel_rfl) (by kernel_rfl) (by kernel_rfl) (fun _ _ _ h => h) (Or.inl ⟨by rfl, fun W hW => by go_simp⟩) hS ?_
        try simp only [List.setIfInBounds_toArray, List.set_cons_zero, List.set_cons_succ]
        refine wpAnyH_ready (rs := [13]) (by kernel_rfl) (by simp) ?_
        refine AllReadyH.cons rfl (fun K hK => ?_) AllReadyH.nil
        rw [if_pos (by rfl)]
        refine z6p k89 (w0 := wr.drew) (b + 2) rfl 89 (.tmp 178) (.tmp 177) rfl 89 x.no 0 (layTo k ps P5) x (.agg #[.int .i64 x.kind, .int .i64 x.no, .int .i64 x.ver, .int .i64 x.tree, .int .i64 x.level, .bool x.top, .slice x.ent.1 x.ent.2.1 x.ent.2.2, .int .i64 x.next, .string x.data, .slice A1 x.freed.length c2]) [.int .i64 x.kind, .int .i64 x.no, .int .i64 x.ver, .int .i64 x.tree, .int .i64 x.level, .bool x.top, .slice x.ent.1 x.ent.2.1 x.ent.2.2, .int .i64 x.next, .string x.data, .slice A1 x.freed.length c2] (cells89 _ A8 c8) (fun y => off2 b y ∧ some y ≠ (Value.slice TA own.length tc).ownBlock) (fun y => ((off2 b y ∧ some y ≠ (Value.slice (some ⟨q, 0, none⟩) n qp).ownBlock) ∧ some y ≠ (Value.slice TA own.length tc).ownBlock) ∧ y < X) rfl rfl rfl rfl h89 (by simp [Value.oneCell']) HRMd.out.1 HX0.out HXL.out hcl HCC.out (by show 0 + 10 ≤ 10; omega) (by exact HFX.out) HOK.out (Below.refl _ _) ?_
        intro w4 hn4 hb4 hg4
        refine hK.out _ _ (⟨z1t hS.1 hg4 (fun e => HXQ.out (by injection e)), cell_grown hg4 hS.2.1 (fun e => HUQ.out (by injection e)), cell_grown hg4 hS.2.2.1 (fun e => HUQ.out (by injection e)), cell_grown hg4 hS.2.2.2.1 (fun e => HUQ.out (by injection e)), cell_grown hg4 hS.2.2.2.2.1 (fun e => HUQ.out (by injection e)), cell_grown hg4 hS.2.2.2.2.2.1 (fun e => HUQ.out (by injection e)), cell_grown hg4 hS.2.2.2.2.2.2.1 (fun e => HUQ.out (by injection e)), cell_grown hg4 hS.2.2.2.2.2.2.2.1 (fun e => HUQ.out (by injection e)), cell_grown hg4 hS.2.2.2.2.2.2.2.2.1 (fun e => HUQ.out (by injection e)), cell_grown hg4 hS.2.2.2.2.2.2.2.2.2.1 (fun e => HUQ.out (by injection e)), cell_grown hg4 hS.2.2.2.2.2.2.2.2.2.2 (fun e => HUQ.out (by injection e))⟩) (fun hS => ?_)
        clear hK K
        try simp only [Act.put, List.getElem_toArray, List.getElem_cons_succ, List.getElem_cons_zero, List.setIfInBounds_toArray, List.set_cons_zero, List.set_cons_succ]
        refine wpAnyH_done (by kernel_rfl) ?_ _
        refine NoPanic.normal ?_
        have HRM4 := Aside0.mk (HRMd.out.pages hn4 hb4 hg4 (.inl rfl))
        have HU4 := Aside0.mk (Kd.N_grown (Kd.N_drew HU.out) hg4 (fun y hy e => by injection e with e; exact hy.1.1.2 (by rw [e]; simp [Value.ownBlock])))
        have HX4 := Aside0.mk (hS.1)
        have HS4 := Aside0.mk (Nat.le_trans HSX.out hg4.size)
        clear hn4 hb4 hg4 hS hcl
        go_wp2
        go_roundw
        case rel => exact ⟨k + 1, by have h1 := HLT.out; omega, by go_num, ⟨by rw [HZS.out]; exact HRM4.out⟩, HU4, HX4, HS4⟩
        case measure => have h1 := HLT.out; simp [intOf]; omega
       ·obtain rfl : k = ps.length := by omega
        have hrm5 := HRM.out
        unfold layTo at hrm5
        rw [List.take_length, HPF.out] at hrm5
        obtain ⟨z0, z1, z3, z4, z5⟩ := REC.cells hrm5.2.2.2.1
        have hRL := Kd.R_reads' hrm5.2.2.1
        have HRM5 := Aside0.mk hrm5
        have HRL' := Aside0.mk hRL
        clear z0 z1 z3 hrm5 hRL hxb HU HSX HRM HXB
        go_upto_region 32 with (fail)
        have hb12 := z0i wr (.cells #[.slice QP n qp, .slice none 0 0, .slice none 0 0, .slice none 0 0, .int .i64 ver, .int .i64 tree, .slice A9 l.length c9, .int .i64 0, .int .i64 0] 34)
        have hk12 := z0l wr (.cells #[.slice QP n qp, .slice none 0 0, .slice none 0 0, .slice none 0 0, .int .i64 ver, .int .i64 tree, .slice A9 l.length c9, .int .i64 0, .int .i64 0] 34)
        obtain ⟨Y, hY⟩ : ∃ y, wr.heap.size = y := ⟨_, rfl⟩
        obtain ⟨W12, hW12⟩ : ∃ V, wr.alloc (.cells #[.slice QP n qp, .slice none 0 0, .slice none 0 0, .slice none 0 0, .int .i64 ver, .int .i64 tree, .slice A9 l.length c9, .int .i64 0, .int .i64 0] 34) = V := ⟨_, rfl⟩
        rw [hW12] at hb12 hk12 ⊢
        rw [hY] at hk12 ⊢
        have HK12 : Aside0 (W12.heap[Y]? = some (.cells #[.slice QP n qp, .slice none 0 0, .slice none 0 0, .slice none 0 0, .int .i64 ver, .int .i64 tree, .slice A9 l.length c9, .int .i64 0, .int .i64 0] 34 (0, 0))) := ⟨hk12⟩
        have HRM12 := Aside0.mk (HRM5.out.below hb12)
        have hYb : b + 2 ≤ Y := by have := HRM5.out.2.2.2.2.2; omega
        have HC12 := Aside0.mk (Kd.C_below HRL'.out.2.2 hb12)
        have HB12 := Aside0.mk hb12
        have HYL := Lib.hid (Nat.le_of_eq hY)
        have hYs : Y = wr.heap.size := hY.symm
        clear hb12 hk12 hW12 hY z4 z5 xb0
        have HQN : Aside0 (∀ y, (Value.slice QP n qp).ownBlock = some y → y < Y) := ⟨fun y hy => by rw [hYs]; exact Kd.N_lt HRM5.out.1 y hy⟩
        clear hYs
        by_cases ho : own.length = 0
        ·have hd0 : hd = 0 := by rw [← HHD.out, List.length_eq_zero_iff.1 ho]; rfl
         have HD0 := Lib.hid hd0
         have hg0 : decide ((0 : Int) < (own.length : Int)) = false := decide_eq_false (by omega)
         have hg1 : decide (0 < own.length) = false := decide_eq_false (by omega)
         clear ho hd0
         have hkk := HK12.out
         have y0 := z0a hkk 0
         have yz0 := z0d hkk 0
         have y1 := z0a hkk 1
         have yz1 := z0d hkk 1
         have y2 := z0a hkk 2
         have yz2 := z0d hkk 2
         have y3 := z0a hkk 3
         have yz3 := z0d hkk 3
         have y4 := z0a hkk 4
         have yz4 := z0d hkk 4
         have y5 := z0a hkk 5
         have yz5 := z0d hkk 5
         have y6 := z0a hkk 6
         have yz6 := z0d hkk 6
         have y7 := z0a hkk 7
         have yz7 := z0d hkk 7
         have y8 := z0a hkk 8
         have yz8 := z0d hkk 8
         obtain ⟨⟨v0, v1, v2, v3, v4, v5, v6, v7, v8⟩, zz⟩ := REC.out9 HRM12.out.2.2.2.1
         have q0 := zz 0; have q1 := zz 1; have q2 := zz 2; have q3 := zz 3; have q4 := zz 4; have q5 := zz 5; have q6 := zz 6; have q7 := zz 7; have q8 := zz 8
         clear zz hkk
         go_wp2
         obtain ⟨a1, a2, a3, a4⟩ := RM.answer HRM12.out (.slice QP n qp) (.slice none 0 0) (.slice none 0 0) (.slice none 0 0) (.int .i64 ver) (.int .i64 tree) (.slice A9 l.length c9) (.int .i64 0) (.int .i64 0)
         refine bodyPost_ret (z00 rfl _ _ _ _ rfl (load34 a4)) rfl ?_
         refine ⟨_, A9, c9, by rw [HD0.out], ?_, a2, ?_⟩
         ·rw [hb]; exact a1
         ·rw [hb]; exact a3
        ·obtain ⟨ad, had, hxc⟩ := Kd.at_int HC12.out 0 (by omega) (by omega)
         subst had
         rw [show ad.add (0 : Int).toNat = ad from z09 ad, show rd own 0 = hd by rw [← HHD.out]; cases own with | nil => simp at ho | cons p t => rfl] at hxc
         have hol : 0 < own.length := by omega
         have hol2 : decide (0 < own.length) = true := decide_eq_true hol
         have y7 := z0a HK12.out 7
         have yz7 := z0d HK12.out 7
         go_upto_region 34 with (fail)
         have HRM13 := Aside0.mk (HRM5.out.below (HB12.out.setCell (p := ⟨Y, 7, none⟩) HYL.out (.int .i64 hd)))
         have HK13 : Aside0 ((W12.setCell ⟨Y, 7, none⟩ (.int .i64 hd)).heap[Y]? = some (.cells #[.slice QP n qp, .slice none 0 0, .slice none 0 0, .slice none 0 0, .int .i64 ver, .int .i64 tree, .slice A9 l.length c9, .int .i64 hd, .int .i64 0] 34 (0, 0))) := ⟨z0k HK12.out 7 _ rfl⟩
         obtain ⟨W13, hW13⟩ : ∃ V, W12.setCell ⟨Y, 7, none⟩ (.int .i64 hd) = V := ⟨_, rfl⟩
         rw [hW13] at HRM13 HK13 ⊢
         clear hW13 y7 yz7 hxc
         have hkk := HK13.out
         have y0 := z0a hkk 0
         have yz0 := z0d hkk 0
         have y1 := z0a hkk 1
         have yz1 := z0d hkk 1
         have y2 := z0a hkk 2
         have yz2 := z0d hkk 2
         have y3 := z0a hkk 3
         have yz3 := z0d hkk 3
         have y4 := z0a hkk 4
         have yz4 := z0d hkk 4
         have y5 := z0a hkk 5
         have yz5 := z0d hkk 5
         have y6 := z0a hkk 6
         have yz6 := z0d hkk 6
         have y7 := z0a hkk 7
         have yz7 := z0d hkk 7
         have y8 := z0a hkk 8
         have yz8 := z0d hkk 8
         obtain ⟨⟨v0, v1, v2, v3, v4, v5, v6, v7, v8⟩, zz⟩ := REC.out9 HRM13.out.2.2.2.1
         have q0 := zz 0; have q1 := zz 1; have q2 := zz 2; have q3 := zz 3; have q4 := zz 4; have q5 := zz 5; have q6 := zz 6; have q7 := zz 7; have q8 := zz 8
         clear zz hkk
         go_wp2
         obtain ⟨a1, a2, a3, a4⟩ := RM.answer HRM13.out (.slice QP n qp) (.slice none 0 0) (.slice none 0 0) (.slice none 0 0) (.int .i64 ver) (.int .i64 tree) (.slice A9 l.length c9) (.int .i64 hd) (.int .i64 0)
         refine bodyPost_ret (z00 rfl _ _ _ _ rfl (load34 a4)) rfl ?_
         refine ⟨_, A9, c9, rfl, ?_, a2, ?_⟩
         ·rw [hb]; exact a1
         ·rw [hb]; exact a3
   ·have hdd : decide ((own.length : Int) < ((partsOf l).length : Int)) = true := decide_eq_true (by omega)
    have hde : decide (own.length < (partsOf l).length) = true := decide_eq_true (by omega)
    rcases hst : takeStep l n with _ | ⟨p, l', n'⟩
    ·have hx := HX7'.out (by rw [← HRU.out]; exact z6v hdn hst)
     have hfu := z6w hst (z1r HTI.out.1)
     have hn4 : n = 4096 := by have := HBD.out.2.1; omega
     have hR1 := Lib.hid hx
     have HL0 := Aside0.mk hfu.1
     clear hst hx hfu
     have hfd := fld114
     go_upto_region 14 with (go_at_call 63; (refine HNE.out.mono ?_); rintro e w8 ⟨rfl, hb8⟩)
     have HRM8 := Aside0.mk (HRM.out.below hb8)
     have HB8 := Aside0.mk HRM8.out.2.2.2.2.1
     have HC8 := Aside0.mk HRM8.out.2.2.2.1
     obtain ⟨_, ⟨A8, c8, e8, _, hF8⟩, _⟩ := HRM8.out
     injection e8 with e1 _ e2
     subst e1 e2
     clear hdd hde hfd hb8 HRM8 HNE
     obtain ⟨⟨y0, y1, y2, y3, y4, y5, y6, y7, y8⟩, z⟩ := REC.out9 HC8.out
     have z0 := z 0; have z1 := z 1; have z2 := z 2; have z3 := z 3; have z4 := z 4; have z5 := z 5; have z6 := z 6; have z7 := z 7; have z8 := z 8
     clear z
     by_cases hl0 : l.length = 0
     ·clear hF8
      go_wp2
      refine bodyPost_ret (z00 rfl _ _ _ _ rfl (load34 (REC.chain9 HC8.out 7))) rfl ?_
      exact FAIL.out 7 _ HB8.out HC8.out hR1.out
     ·obtain ⟨ad, A1, c1, had, hx1, hx2, hl1, hF1⟩ := z2f hF8 0 (by omega)
      subst had
      rw [show ad.add (0 * 2) = ad from z09 ad] at hx1
      have hv0 : ((rd_T64 l ((0 : Nat) : Int)).f0 == 0) = false := by
       rcases HL0.out with h | h
       ·rw [h] at hl0; exact absurd rfl hl0
       ·simpa using h
      obtain ⟨v0, hv0e⟩ : ∃ x, (rd_T64 l ((0 : Nat) : Int)).f0 = x := ⟨_, rfl⟩
      rw [hv0e] at hx1 hv0
      have hlp : 0 < l.length := by omega
      clear hF8 hx2 hl1 hF1 hv0e hl0
      go_wp2
      refine bodyPost_ret (z00 rfl _ _ _ _ rfl (load34 (REC.chain9 HC8.out 7))) rfl ?_
      exact FAIL.out 7 _ HB8.out HC8.out hR1.out
    ·have hru : takeRun j l' n' (own ++ [p]) = r := by rw [← HRU.out]; exact (z6u hdn hst).symm
     have HRU' := Aside0.mk hru
     have HRK' := Aside0.mk (show roundsL l' n' < j from by have h := z6r HTI.out.1 HTI.out.2.2.2.1 hst; have h' := HRK.out; omega)
     have HTI' := Aside0.mk (z41 HTI.out hst)
     have hfd := fld114
     have hcs := z3k hst
     have HFU := Aside0.mk (z1r HTI.out.1)
     clear hru hst
     go_upto_region 14 with (go_at_call 63; (refine HNE.out.mono ?_); rintro e w8 ⟨rfl, hb8⟩)
     have HRM8 := Aside0.mk (HRM.out.below hb8)
     have HLT := Aside0.mk (show ∀ q, (Value.slice TA own.length tc).ownBlock = some q → q < w8.heap.size from Kd.R_lt HRM8.out.2.2.1)
     have HPT := Aside0.mk (show ∀ q, (Value.slice QP n qp).ownBlock = some q → q < w8.heap.size from Kd.N_lt HRM8.out.1)
     have HW8 := Aside0.mk HRM8.out.2.2.2.2.2
     obtain ⟨_, ⟨A8, c8, e8, _, hF8⟩, _⟩ := HRM8.out
     injection e8 with e1 _ e2
     subst e1 e2
     clear hdd hde hfd hb8 HNE HRM HRU
     rcases hcs with ⟨q, qs, t, hle, rfl, hl', hnn⟩ | ⟨h0, hm, hpn, hll, hnn⟩
     ·replace hnn := hnn.symm
      subst hnn
      have hr0 : rd_T64 l ((0 : Nat) : Int) = ⟨0, p :: qs⟩ := by rw [hle]; rfl
      have hlp : 0 < l.length := by rw [hle]; simp
      obtain ⟨ad, A1, c1, had, hx1, hx2, hl1, hF1⟩ := z2f hF8 0 hlp
      subst had
      rw [show ad.add (0 * 2) = ad from z09 ad] at hx1 hx2
      rw [hr0] at hx1 hx2 hl1 hF1
      replace hx1 : w8.cell? ad = some (.int .i64 0) := hx1
      obtain ⟨bd, rfl, hx3⟩ := Kd.at_int (Kd.F_now hF1) 0 (by omega) (by simp)
      rw [show bd.add (0 : Int).toNat = bd from z09 bd] at hx3
      replace hx3 : w8.cell? bd = some (.int .i64 p) := hx3
      have hmq : 0 < (p :: qs).length := by simp
      obtain ⟨mq, hmqe⟩ : ∃ x, (p :: qs).length = x := ⟨_, rfl⟩
      replace hx2 : w8.cell? ⟨ad.block, ad.off + 1, none⟩ = some (.slice (some bd) mq c1) := by rw [← hmqe]; exact hx2
      rw [hmqe] at hmq
      have HLE := Lib.hid hle
      have HL' := Lib.hid hl'
      have HR0' := Lib.hid hr0
      clear hF8 hl1 hF1 hmqe hle hl' hr0
      go_upto_region 16 with (at_builtin; refine Kd.R_append (Kd.int .i64) (w0 := w8) (b + 2) rfl (.tmp 101) (.tmp 108) 23 3 (.int .i64 0) 8 rfl Tryz.underlying23 info3 rfl (by decide) (by omega) (.slice TA own.length tc) own p [.int .i64 p] (fun k => off2 b k ∧ some k ≠ (Value.slice QP n qp).ownBlock) (fun _ => False) rfl rfl rfl (fun _ hk => hk.elim) (fun k hk => ⟨.inr (by have := HW8.out; omega), fun e => by have := HPT.out k e.symm; omega⟩) HRM8.out.2.2.1 (Below.refl _ _) HW8.out (by have h1 := HBD.out; have h2 := HKK.out; omega) ?_; intro v2 w3 hr3 hb3 hg3 hat3)
      have hrm3 := HRM8.out.taken hr3 hb3 hg3 hat3
      obtain ⟨VA, vc, rfl⟩ := Kd.R_slice hr3
      have HRM3 := Aside0.mk hrm3
      obtain ⟨_, ⟨A8, c8, e8, hc8, hF8⟩, _⟩ := HRM3.out
      injection e8 with e1 _ e2
      subst e1 e2
      clear hr3 hb3 hg3 hat3 hrm3 hx1 hx2 hx3 hmq
      obtain ⟨ad', A1', c1', had', hx1, hx2, hl1, hF1⟩ := z2f hF8 0 hlp
      obtain rfl : ad = ad' := by injection had'
      rw [show ad.add (0 * 2) = ad from z09 ad] at hx1 hx2
      rw [HR0'.out] at hx1 hx2 hl1 hF1
      obtain ⟨bd', rfl, hx3⟩ := Kd.at_int (Kd.F_now hF1) 0 (by omega) (by simp)
      rw [show bd'.add (0 : Int).toNat = bd' from z09 bd'] at hx3
      replace hx3 : w3.cell? bd' = some (.int .i64 p) := hx3
      have hmq : 0 < (p :: qs).length := by simp
      obtain ⟨mq', hmqe⟩ : ∃ x, (p :: qs).length = x := ⟨_, rfl⟩
      replace hx2 : w3.cell? ⟨ad.block, ad.off + 1, none⟩ = some (.slice (some bd') mq' c1') := by rw [← hmqe]; exact hx2
      rw [hmqe] at hmq
      have HRE : Aside0 (Calls Tryz.prog 64 #[.slice (some ad) l.length c9, .int .i64 p] w3 fun e w' => ∃ O oc, e = .returned (.slice O l'.length oc) ∧ l'.length ≤ oc ∧ Kd.F k64 w' (fun k => ((off2 b k ∧ some k ≠ (Value.slice QP n qp).ownBlock) ∧ some k ≠ (Value.slice VA (own ++ [p]).length vc).ownBlock) ∨ w3.heap.size ≤ k) O l'.length l' ∧ Below w3.heap.size w3 w') := ⟨by
       have hnd := ((HTI.out.1.1 _ (by rw [HLE.out]; exact List.mem_cons_self)).2.2.2.2 : (p :: qs).Pairwise (· < ·))
       rw [List.pairwise_cons] at hnd
       have := z9j p qs t (some ad) c9 w3 _ (by have h := hF8; rw [HLE.out] at h; exact h) (by rw [← HLE.out]; exact hc8) (fun h => by have := hnd.1 p h; omega) (by rw [← HLE.out]; exact HTI.out.2.1)
       rw [← HLE.out, ← HL'.out] at this
       exact this⟩
      clear hF8 hl1 hF1 hmqe hc8 had' hx1
      go_wp2_with (go_at_call 64; (refine HRE.out.mono ?_); rintro e w10 ⟨O, oc, rfl, ho10, hF10, hb10⟩; have HRM10 := Aside0.mk (HRM3.out.list hb10 ho10 hF10); clear ho10 hF10 hb10)
      go_roundg j
      case measure => omega
      case rel => exact ⟨l', n, own ++ [p], HRU', HRK', HTI', ⟨by have h := HRM10.out; rw [show (own ++ [p]).length = own.length + 1 by simp] at h; exact h⟩, ⟨HBD.out.1, HBD.out.2.1, by have h1 := HBD.out.2.2; simp; omega⟩⟩
     ·replace hll := hll.symm
      subst hll hpn hnn
      have hm1 : ((n : Int) == 4096) = false := beq_eq_false_iff_ne.2 (by omega)
      have HH0 := Aside0.mk h0
      clear h0
      go_cut [100] from 85 to 130 (fun cc wx => cc = .bool false ∧ wx = w8)
      case first =>
       by_cases hl0 : l.length = 0
       ·have hg0 : decide ((0 : Int) < (l.length : Int)) = false := decide_eq_false (by omega)
        have hg1 : decide (0 < l.length) = false := decide_eq_false (by omega)
        clear hF8 hl0
        go_wp2
        go_meet
        case rel => exact ⟨rfl, rfl⟩
       ·obtain ⟨ad, A1, c1, had, hx1, hx2, hl1, hF1⟩ := z2f hF8 0 (by omega)
        subst had
        rw [show ad.add (0 * 2) = ad from z09 ad] at hx1
        have hv0 : ((rd_T64 l ((0 : Nat) : Int)).f0 == 0) = false := by
         rcases HH0.out with h | h
         ·rw [h] at hl0; exact absurd rfl hl0
         ·simpa using h
        obtain ⟨v0, hv0e⟩ : ∃ x, (rd_T64 l ((0 : Nat) : Int)).f0 = x := ⟨_, rfl⟩
        rw [hv0e] at hx1 hv0
        have hlp : 0 < l.length := by omega
        clear hF8 hx2 hl1 hF1 hv0e hl0
        go_wp2
        go_meet
        case rel => exact ⟨rfl, rfl⟩
      case rest =>
       obtain ⟨rfl, rfl⟩ := hcut
       clear hF8
       go_wp2_with (first
        | (at_builtin; refine Kd.N_append k89 (w0 := w3) (b + 2) rfl (.tmp 127) (.tmp 129) 22 89 (.agg (cells89 z89 none 0).toArray) 120 rfl Tryz.underlying22 info89 rfl (by decide) (by decide) (.slice QP n qp) (rg3 ++ List.replicate (n - n3) z89) z89 [.int .i64 0, .int .i64 0, .int .i64 0, .int .i64 0, .int .i64 0, .bool false, .slice none 0 0, .int .i64 0, .string ⟨#[]⟩, .slice none 0 0] (fun k => off2 b k ∧ some k ≠ (Value.slice VA (own ++ [(n : Int)]).length vc).ownBlock) (fun _ => False) rfl rfl zero89F (fun _ h => h.elim) HFR3.out HRM3.out.1 (Below.refl _ _) HRM3.out.2.2.2.2.2 (by rw [HLN.out]; omega) ?_; intro v4 w4 hn4 hb4 hg4 hat4; have hrm4 := HRM3.out.pages hn4 hb4 hg4 hat4; obtain ⟨PA4, pc4, rfl⟩ := Kd.N_slice hn4; have HRM4 := Aside0.mk hrm4; clear hn4 hb4 hg4 hat4 hrm4)
        | (at_builtin; refine Kd.R_append (Kd.int .i64) (w0 := wc) (b + 2) rfl (.tmp 122) (.tmp 125) 23 3 (.int .i64 0) 8 rfl Tryz.underlying23 info3 rfl (by decide) (by omega) (.slice TA own.length tc) own (n : Int) [.int .i64 (n : Int)] (fun k => off2 b k ∧ some k ≠ (Value.slice QP n qp).ownBlock) (fun _ => False) rfl rfl rfl (fun _ hk => hk.elim) (fun k hk => ⟨.inr (by have := HW8.out; omega), fun e => by have := HPT.out k e.symm; omega⟩) HRM8.out.2.2.1 (Below.refl _ _) HW8.out (by have h1 := HBD.out; have h2 := HKK.out; omega) ?_; intro v2 w3 hr3 hb3 hg3 hat3; have hrm3 := HRM8.out.taken hr3 hb3 hg3 hat3; obtain ⟨VA, vc, rfl⟩ := Kd.R_slice hr3; have HRM3 := Aside0.mk hrm3; have HFR3 := Aside0.mk (show ∀ k, w3.heap.size ≤ k → off2 b k ∧ some k ≠ (Value.slice VA (own ++ [(n : Int)]).length vc).ownBlock from fun k hk => ⟨.inr (by have := HRM3.out.2.2.2.2.2; omega), fun e => by have := Kd.R_lt hr3 k e.symm; omega⟩); clear hr3 hb3 hg3 hat3 hrm3))
       go_roundg j
       case measure => omega
       case rel =>
        refine ⟨l, n + 1, own ++ [(n : Int)], HRU', HRK', HTI', ⟨?_⟩, ⟨by have := HBD.out.1; omega, by omega, by have h1 := HBD.out.2.2; simp; omega⟩⟩
        have h := HRM4.out
        have e1 : (own ++ [(n : Int)]).length = own.length + 1 := by simp
        have e2 : (rg3 ++ List.replicate (n - n3) z89 ++ [z89]).length = n + 1 := by rw [List.length_append, HLN.out]; rfl
        have e3 : rg3 ++ List.replicate (n - n3) z89 ++ [z89] = rg3 ++ List.replicate (n + 1 - n3) z89 := by
         rw [show n + 1 - n3 = n - n3 + 1 by have := HBD.out.1; omega, List.append_assoc, List.replicate_succ']
        have e4 : rg3.length + (n - n3 + 1) = n + 1 := by have h1 := HRL.out; have h2 := HBD.out.1; omega
        rw [e1, e2, e3] at h
        rw [e4]
        exact h
def EndF (b : Nat) (w : World) (sp : Array Value) (W : World) : Prop := Below b w W ∧ EndC W b sp ∧ b + 5 ≤ W.heap.size
theorem EndF.drawn {b : Nat} {w W W' : World} {sp : Array Value} (h1 : Below b w W) (h2 : EndC W b sp) (h3 : b + 5 ≤ W.heap.size) (hb : Below W.heap.size W W') : EndF b w sp W' := ⟨h1.trans (hb.mono (by omega)), h2.below hb, Nat.le_trans h3 hb.size⟩
def EndE (b : Nat) (x : Int) (W : World) : Prop :=
 W.heap[b + 1]? = some (.cells #[.slice none 0 0, .slice none 0 0, .slice none 0 0, .slice none 0 0, .int .i64 0, .int .i64 0] 25 (0, 0)) ∧ W.heap[b + 1 + 1]? = some (.cells #[.int .i64 0] 3 (0, 0)) ∧ W.heap[b + 1 + 1 + 1]? = some (.cells #[.slice none 0 0] 26 (0, 0)) ∧ W.heap[b + 1 + 1 + 1 + 1]? = some (.cells #[.int .i64 x] 30 (0, 0))
set_option maxHeartbeats 1000000 in
theorem z2k {b : Nat} {w W : World} {sp : Array Value} {x ver tree : Int} (tmps : Array Value) (h6 : tmps[6]?.getD undef = .pointer (some ⟨b + 1, 0, none⟩)) (h7 : tmps[7]?.getD undef = .pointer (some ⟨b + 1 + 1, 0, none⟩)) (h8 : tmps[8]?.getD undef = .pointer (some ⟨b + 1 + 1 + 1, 0, none⟩)) (h9 : tmps[9]?.getD undef = .pointer (some ⟨b + 1 + 1 + 1 + 1, 0, none⟩)) (hb : w.heap.size = b) (hF : EndF b w sp W) :
  bodyPostD Tryz.prog Tryz.f15 (EndA w ver tree (.error x)) (.panic [failE x]) { tmps := tmps, defers := [{ target := .fn (.func 43) #[], args := #[.pointer (some ⟨b + 1 + 1 + 1 + 1, 0, none⟩), .func (.func 44) #[] #[.pointer (some ⟨b + 1, 0, none⟩), .pointer (some ⟨b + 1 + 1, 0, none⟩), .pointer (some ⟨b + 1 + 1 + 1, 0, none⟩)]] }] } W := by
 obtain ⟨hB, ⟨h0, h1, h2, h3, h4⟩, hS⟩ := hF
 refine leaves_cons (f := 43) (args := #[.pointer (some ⟨b + 1 + 1 + 1 + 1, 0, none⟩), .func (.func 44) #[] #[.pointer (some ⟨b + 1, 0, none⟩), .pointer (some ⟨b + 1 + 1, 0, none⟩), .pointer (some ⟨b + 1 + 1 + 1, 0, none⟩)]]) (by simp) (by simp [go_sem]) ?_
 have hn := z0l W (.cells #[.int .i64 x] 166)
 have hbl := z0i W (.cells #[.int .i64 x] 166)
 have g1 := z0j h1 (.cells #[.int .i64 x] 166)
 have g2 := z0j h2 (.cells #[.int .i64 x] 166)
 have g3 := z0j h3 (.cells #[.int .i64 x] 166)
 have g4 := z0j h4 (.cells #[.int .i64 x] 166)
 refine (caught_44 ⟨b + 1 + 1 + 1 + 1, 0, none⟩ ⟨b + 1, 0, none⟩ ⟨b + 1 + 1, 0, none⟩ ⟨b + 1 + 1 + 1, 0, none⟩ x 0 [] W (fun w2 => EndE b x w2 ∧ Below b w w2) ?_).mono ?_
 ·refine (reset44 b _ _ _ _ _ _ _ _ (W.alloc (.cells #[.int .i64 x] 166)) g1 g2 g3).mono ?_
  rintro e w2 ⟨rfl, hw2⟩
  have s1 := z37 g1
  have s2 := z1z (z0g g2 s1)
  have s3 := z1z (z0g (z0g g3 s1) s2)
  have hs : Below (W.alloc (.cells #[.int .i64 x] 166)).heap.size (W.alloc (.cells #[.int .i64 x] 166)) w2 := by
   rw [hw2]
   exact s1.trans ((s2.trans (s3.mono s2.size)).mono s1.size)
  clear s1 s2 s3 hw2
  have k1 := z0g g1 hs
  have k2 := z0g g2 hs
  have k3 := z0g g3 hs
  have k4 := z0g g4 hs
  have kn := z0g hn hs
  refine ⟨rfl, z0a kn 0, z0a k4 0, z0d k4 0, ⟨?_, ?_, ?_, ?_⟩, ?_⟩
  ·exact z0v k1 (by show b + 1 ≠ b + 1 + 1 + 1 + 1; omega) _
  ·exact z0v k2 (by show b + 2 ≠ b + 1 + 1 + 1 + 1; omega) _
  ·exact z0v k3 (by show b + 3 ≠ b + 1 + 1 + 1 + 1; omega) _
  ·exact z0k k4 0 _ rfl
  ·exact (hB.trans ((hbl.trans (hs.mono hbl.size)).mono (by omega))).setCell (p := ⟨b + 1 + 1 + 1 + 1, 0, none⟩) (by show b ≤ b + 1 + 1 + 1 + 1; omega) _
 ·rintro e u' w2 ⟨rfl, rfl, ⟨k1, k2, k3, k4⟩, hB2⟩
  show ∃ v, (results Tryz.f15 tmps).run Tryz.prog w2 = .ok v w2 ∧ EndA w ver tree (.error x) (.returned v) w2
  exact ⟨_, z6q tmps w2 b _ _ _ _ _ _ _ _ _ h6 h7 h8 h9 (z0a k1 0) (z0a k1 1) (z0a k1 2) (z0a k1 3) (z0a k1 4) (z0a k1 5) (z0a k2 0) (z0a k3 0) (z0a k4 0), rfl, by rw [hb]; exact hB2⟩
set_option maxRecDepth 100000 in
set_option maxHeartbeats 2000000 in
theorem end_all (pg : List S89) (free gone : List Int) (rest : List S64) (ver tree : Int) (shrink : Bool) (PA FA RA GA A : Option Addr) (pc fc rn rc gc c : Nat) (w : World)
  (hPG : k89.C w PA pg.length pg) (hpc : pg.length ≤ pc) (hFR : (Kd.int .i64).C w FA free.length free) (hfc : free.length ≤ fc) (hGO : (Kd.int .i64).C w GA gone.length gone) (hgc : gone.length ≤ gc) (hRE : k64.C w A rest.length rest) (hc : rest.length ≤ c)
  (hsm : smallL rest ∧ free.length ≤ 1000 ∧ gone.length ≤ 1000 ∧ (pagesOf rest).length ≤ 10000 ∧ rest.length ≤ 10000) (hpl : pg.length ≤ 1000000) :
  Calls Tryz.prog 15 #[.agg #[.slice PA pg.length pc, .slice FA free.length fc, .slice RA rn rc, .slice GA gone.length gc, .int .i64 ver, .int .i64 tree], .slice A rest.length c, .bool shrink] w (EndA w ver tree (endX pg free gone rest ver shrink)) := by
 obtain ⟨R, hR⟩ : ∃ R, endX pg free gone rest ver shrink = R := ⟨_, rfl⟩
 rw [hR]
 have HR0 := Aside0.mk hR
 obtain ⟨K, hK⟩ : ∃ K : Nat, 1000000 = K := ⟨_, rfl⟩
 have HKK := Lib.hid hK
 clear hR
 have hmf : ∀ (fn : Fn) (first cap : Array Value) (w : World), (Instr.makeFunc fn first cap).run Tryz.prog w = .ok (.func fn first cap) w := fun _ _ _ _ => rfl
 go_enter_defers Tryz.func15, Tryz.ntmps15
 go_upto_region 3 with (fail)
 obtain ⟨b, hb⟩ : ∃ b, w.heap.size = b := ⟨_, rfl⟩
 obtain ⟨sp, hsp⟩ : ∃ sp, sp = #[Value.slice PA pg.length pc, .slice FA free.length fc, .slice RA rn rc, .slice GA gone.length gc, .int .i64 ver, .int .i64 tree] := ⟨_, rfl⟩
 have hW : ∃ W0, ((((w.alloc (.cells #[.slice PA pg.length pc, .slice FA free.length fc, .slice RA rn rc, .slice GA gone.length gc, .int .i64 ver, .int .i64 tree] 25)).alloc (.cells #[.slice none 0 0, .slice none 0 0, .slice none 0 0, .slice none 0 0, .int .i64 0, .int .i64 0] 25)).alloc (.cells #[.int .i64 0] 3)).alloc (.cells #[.slice none 0 0] 26)).alloc (.cells #[.int .i64 0] 30) = W0 := ⟨_, rfl⟩
 obtain ⟨W0, hW0⟩ := hW
 rw [hW0]
 have hs0 : W0.heap.size = b + 5 := by rw [← hW0, ← hb]; simp
 have hE0 : EndC W0 b sp := by
  rw [← hW0, ← hb, hsp]
  refine ⟨z0j (z0j (z0j (z0j (z0l _ _) _) _) _) _, ?_, ?_, ?_, ?_⟩
  ·have := z0l (w.alloc (.cells #[.slice PA pg.length pc, .slice FA free.length fc, .slice RA rn rc, .slice GA gone.length gc, .int .i64 ver, .int .i64 tree] 25)) (.cells #[.slice none 0 0, .slice none 0 0, .slice none 0 0, .slice none 0 0, .int .i64 0, .int .i64 0] 25)
   rw [World.size_alloc] at this
   exact z0j (z0j (z0j this _) _) _
  ·have := z0l ((w.alloc (.cells #[.slice PA pg.length pc, .slice FA free.length fc, .slice RA rn rc, .slice GA gone.length gc, .int .i64 ver, .int .i64 tree] 25)).alloc (.cells #[.slice none 0 0, .slice none 0 0, .slice none 0 0, .slice none 0 0, .int .i64 0, .int .i64 0] 25)) (.cells #[.int .i64 0] 3)
   rw [World.size_alloc, World.size_alloc] at this
   exact z0j (z0j this _) _
  ·have := z0l (((w.alloc (.cells #[.slice PA pg.length pc, .slice FA free.length fc, .slice RA rn rc, .slice GA gone.length gc, .int .i64 ver, .int .i64 tree] 25)).alloc (.cells #[.slice none 0 0, .slice none 0 0, .slice none 0 0, .slice none 0 0, .int .i64 0, .int .i64 0] 25)).alloc (.cells #[.int .i64 0] 3)) (.cells #[.slice none 0 0] 26)
   rw [World.size_alloc, World.size_alloc, World.size_alloc] at this
   exact z0j this _
  ·have := z0l ((((w.alloc (.cells #[.slice PA pg.length pc, .slice FA free.length fc, .slice RA rn rc, .slice GA gone.length gc, .int .i64 ver, .int .i64 tree] 25)).alloc (.cells #[.slice none 0 0, .slice none 0 0, .slice none 0 0, .slice none 0 0, .int .i64 0, .int .i64 0] 25)).alloc (.cells #[.int .i64 0] 3)).alloc (.cells #[.slice none 0 0] 26)) (.cells #[.int .i64 0] 30)
   rw [World.size_alloc, World.size_alloc, World.size_alloc, World.size_alloc] at this
   exact this
 have hB0 : Below b w W0 := by rw [← hW0, ← hb]; exact ((((z0i w _).alloc (by simp) _).alloc (by simp; omega) _).alloc (by simp; omega) _).alloc (by simp; omega) _
 clear hW0
 rw [hb]
 subst hsp
 obtain ⟨x0, x1, x3, x4, x5⟩ := hE0.cells
 have HE0 := Aside0.mk hE0
 have HB0 := Aside0.mk hB0
 have HS0 := Lib.hid hs0
 clear hE0 hB0 hs0
 by_cases hv : 1 ≤ ver ∧ ver ≤ 1099511627776
 rotate_left
 ·have HD1 := Lib.hid (decide_eq_false hv)
  obtain rfl : R = .error 1 := by rw [← HR0.out]; exact z3n (fun h => hv h.1)
  clear hv
  go_wp2_with (first
   | (go_at_call 46; (with_reducible refine (z1o ver 1 1099511627776 _).mono ?_); rintro e wa ⟨rfl, hda⟩; rw [HD1.out]; have HFa := Aside0.mk (EndF.drawn HB0.out HE0.out (Nat.le_of_eq HS0.out.symm) hda.below); clear hda)
   | (go_at_call 45; (with_reducible refine (z19 _ _).mono ?_); rintro e w' ⟨rfl, rfl⟩))
  exact z2k _ (by rfl) (by rfl) (by rfl) (by rfl) hb HFa.out
 by_cases hn : 2 ≤ pg.length ∧ pg.length ≤ 4096
 rotate_left
 ·have HD1 := Lib.hid (decide_eq_true hv)
  have HD2 := Lib.hid (show decide (2 ≤ (pg.length : Int) ∧ (pg.length : Int) ≤ 4096) = false from decide_eq_false (by omega))
  obtain rfl : R = .error 1 := by rw [← HR0.out]; exact z3n (fun h => hn h.2)
  clear hn
  go_wp2_with (first
   | (go_at_call 46; (with_reducible refine (z1o ver 1 1099511627776 _).mono ?_); rintro e wa ⟨rfl, hda⟩; rw [HD1.out])
   | (go_at_call 46; (with_reducible refine (z1o (pg.length : Int) 2 4096 _).mono ?_); rintro e wb ⟨rfl, hdb⟩; rw [HD2.out]; have HFa := Aside0.mk (EndF.drawn HB0.out HE0.out (Nat.le_of_eq HS0.out.symm) (hda.below.trans (hdb.below.mono hda.below.size))); clear hda hdb)
   | (go_at_call 45; (with_reducible refine (z19 _ _).mono ?_); rintro e w' ⟨rfl, rfl⟩))
  exact z2k _ (by rfl) (by rfl) (by rfl) (by rfl) hb HFa.out
 have HD1 := Lib.hid (decide_eq_true hv)
 have HD2 := Lib.hid (show decide (2 ≤ (pg.length : Int) ∧ (pg.length : Int) ≤ 4096) = true from decide_eq_true (by omega))
 have HV1 := Lib.hid (fun (w1 : World) (hb : Below w.heap.size w w1) => z3y rest pg.length A c w1 (Kd.C_below hRE hb) hc)
 have HI1 := Lib.hid (fun (w1 : World) (hb : Below w.heap.size w w1) => z3c pg.length (by omega) (by omega) free FA fc w1 (Kd.C_below hFR hb) hfc)
 have HI2 := Lib.hid (fun (w1 : World) (hb : Below w.heap.size w w1) => z3c pg.length (by omega) (by omega) gone GA gc w1 (Kd.C_below hGO hb) hgc)
 have HCP := Lib.hid (fun (w1 : World) (hb : Below w.heap.size w w1) (h5 : w.heap.size + 5 ≤ w1.heap.size) => clonePages pg PA pc w1 (off5 w.heap.size) (Kd.F_mono (Kd.F_below (Kd.C_F z6g hPG) hb) (fun k hk => .inl hk)) (fun k hk => .inr (by omega)) (by omega))
 simp only [hb] at HV1 HI1 HI2 HCP
 go_upto_region 4 with (first
  | (go_at_call 46; (with_reducible refine (z1o ver 1 1099511627776 _).mono ?_); rintro e wa ⟨rfl, hda⟩; rw [HD1.out])
  | (go_at_call 46; (with_reducible refine (z1o (pg.length : Int) 2 4096 _).mono ?_); rintro e wb ⟨rfl, hdb⟩; rw [HD2.out])
  | (go_at_call 45; (with_reducible refine (z3i _ _).mono ?_); rintro e w' ⟨rfl, rfl⟩))
 have hBb : Below W0.heap.size W0 wb := hda.below.trans (hdb.below.mono hda.below.size)
 have hEb := HE0.out.below hBb
 have HBb := Aside0.mk (HB0.out.trans (hBb.mono (by rw [HS0.out]; omega)))
 have HEb := Aside0.mk hEb
 have HSb := Aside0.mk (show b + 5 ≤ wb.heap.size by have := hBb.size; have := HS0.out; omega)
 clear x0 x1 x3 x4 x5
 obtain ⟨x0, x1, x3, x4, x5⟩ := hEb.cells
 clear hEb hda hdb hBb
 by_cases h1 : validB pg.length rest = true
 rotate_left
 ·rw [show validB pg.length rest = false by simpa using h1] at HV1
  obtain rfl : R = .error 2 := by rw [← HR0.out]; exact z10 ⟨hv, hn⟩ (fun h => h1 h.1.1)
  clear h1
  go_wp2_with (first
   | (go_at_call 47; (refine (HV1.out _ HBb.out).mono ?_); rintro e wc ⟨rfl, hbc⟩; have HFa := Aside0.mk (EndF.drawn HBb.out HEb.out HSb.out hbc); clear hbc)
   | (go_at_call 45; (with_reducible refine (z19 _ _).mono ?_); rintro e w' ⟨rfl, rfl⟩))
  exact z2k _ (by rfl) (by rfl) (by rfl) (by rfl) hb HFa.out
 rw [h1] at HV1
 by_cases h2 : incB pg.length free = true
 rotate_left
 ·rw [show incB pg.length free = false by simpa using h2] at HI1
  obtain rfl : R = .error 2 := by rw [← HR0.out]; exact z10 ⟨hv, hn⟩ (fun h => h2 h.1.2.1)
  clear h2
  go_wp2_with (first
   | (go_at_call 47; (refine (HV1.out _ HBb.out).mono ?_); rintro e wc ⟨rfl, hbc⟩; have HFa := Aside0.mk (EndF.drawn HBb.out HEb.out HSb.out hbc); have HGa := Aside0.mk HFa.out.1; clear hbc x1; have x1 := HFa.out.2.1.cells.2.1)
   | (go_at_call 48; (with_reducible refine (HI1.out _ HGa.out).mono ?_); rintro e wd ⟨rfl, hdd⟩; have HFb := Aside0.mk (EndF.drawn HFa.out.1 HFa.out.2.1 HFa.out.2.2 hdd.below); clear hdd)
   | (go_at_call 45; (with_reducible refine (z19 _ _).mono ?_); rintro e w' ⟨rfl, rfl⟩))
  exact z2k _ (by rfl) (by rfl) (by rfl) (by rfl) hb HFb.out
 rw [h2] at HI1
 by_cases h3 : incB pg.length gone = true
 rotate_left
 ·rw [show incB pg.length gone = false by simpa using h3] at HI2
  obtain rfl : R = .error 2 := by rw [← HR0.out]; exact z10 ⟨hv, hn⟩ (fun h => h3 h.1.2.2)
  clear h3
  go_wp2_with (first
   | (go_at_call 47; (refine (HV1.out _ HBb.out).mono ?_); rintro e wc ⟨rfl, hbc⟩; have HFa := Aside0.mk (EndF.drawn HBb.out HEb.out HSb.out hbc); have HGa := Aside0.mk HFa.out.1; clear hbc x1 x3; have x1 := HFa.out.2.1.cells.2.1; have x3 := HFa.out.2.1.cells.2.2.1)
   | (go_at_call 48; (with_reducible refine (HI1.out _ HGa.out).mono ?_); rintro e wd ⟨rfl, hdd⟩; have HFb := Aside0.mk (EndF.drawn HFa.out.1 HFa.out.2.1 HFa.out.2.2 hdd.below); have HGb := Aside0.mk HFb.out.1; clear hdd x3; have x3 := HFb.out.2.1.cells.2.2.1)
   | (go_at_call 48; (with_reducible refine (HI2.out _ HGb.out).mono ?_); rintro e we ⟨rfl, hde⟩; have HFc := Aside0.mk (EndF.drawn HFb.out.1 HFb.out.2.1 HFb.out.2.2 hde.below); clear hde)
   | (go_at_call 45; (with_reducible refine (z19 _ _).mono ?_); rintro e w' ⟨rfl, rfl⟩))
  exact z2k _ (by rfl) (by rfl) (by rfl) (by rfl) hb HFc.out
 rw [h3] at HI2
 go_upto_region 5 with (first
  | (go_at_call 47; (refine (HV1.out _ HBb.out).mono ?_); rintro e wc ⟨rfl, hbc⟩; have HBc := Aside0.mk (HBb.out.trans (hbc.mono (by have := HSb.out; omega))); have HEc := Aside0.mk (HEb.out.below hbc); have HSc := Aside0.mk (Nat.le_trans HSb.out hbc.size); clear hbc x0 x1 x3 x4 x5; obtain ⟨x0, x1, x3, x4, x5⟩ := HEc.out.cells)
  | (go_at_call 48; (with_reducible refine (HI1.out _ HBc.out).mono ?_); rintro e wd ⟨rfl, hdd⟩; have HBd := Aside0.mk (HBc.out.trans (hdd.below.mono (by have := HSc.out; omega))); have HEd := Aside0.mk (HEc.out.below hdd.below); have HSd := Aside0.mk (Nat.le_trans HSc.out hdd.below.size); clear hdd x0 x1 x3 x4 x5; obtain ⟨x0, x1, x3, x4, x5⟩ := HEd.out.cells)
  | (go_at_call 48; (with_reducible refine (HI2.out _ HBd.out).mono ?_); rintro e we ⟨rfl, hde⟩; have HBe := Aside0.mk (HBd.out.trans (hde.below.mono (by have := HSd.out; omega))); have HEe := Aside0.mk (HEd.out.below hde.below); have HSe := Aside0.mk (Nat.le_trans HSd.out hde.below.size); clear hde x0 x1 x3 x4 x5; obtain ⟨x0, x1, x3, x4, x5⟩ := HEe.out.cells)
  | (go_at_call 45; (with_reducible refine (z3i _ _).mono ?_); rintro e w' ⟨rfl, rfl⟩))
 go_upto_region 6 with (go_at_call 49; (refine (HCP.out _ HBe.out HSe.out).mono ?_); rintro e wf ⟨v, rfl, hv, hbf⟩; obtain ⟨QA, qc, rfl⟩ := Kd.N_slice hv; have HQ := Aside0.mk hv; have HBf := Aside0.mk (HBe.out.trans (hbf.mono (by have := HSe.out; omega))); have HEf := Aside0.mk (HEe.out.below hbf); have HSf := Aside0.mk (Nat.le_trans HSe.out hbf.size); clear hv hbf x0 x1 x3 x4 x5)
 obtain ⟨g, hg⟩ : ∃ g, wf.heap.size = g := ⟨_, rfl⟩
 have hQb := Kd.N_base HQ.out
 have hQl := Kd.N_lt HQ.out
 have hBg : Below w.heap.size w (wf.alloc (.cells #[.slice QA pg.length qc, .slice A rest.length c] 102)) := by rw [hb]; exact HBf.out.trans ((z0i wf (.cells #[.slice QA pg.length qc, .slice A rest.length c] 102)).mono (by have := HSf.out; omega))
 have hAg : AccX (off5 b) (wf.alloc (.cells #[.slice QA pg.length qc, .slice A rest.length c] 102)) g (.slice QA pg.length qc) rest := ⟨A, c, by rw [← hg]; exact z0l wf _, hc, Kd.F_below (Kd.F_mono (Kd.C_F z2m hRE) (fun k hk => ⟨⟨by have := HSf.out; omega, fun e => by have := hQb k e.symm; have := HSe.out; omega⟩, .inl (by omega)⟩)) hBg⟩
 have hEg := HEf.out.below (z0i wf (.cells #[.slice QA pg.length qc, .slice A rest.length c] 102))
 have hQg := Kd.N_mono (ok' := fun k => k ≠ g ∧ off5 b k) (Kd.N_below (Kd.N_bound HQ.out) (z0i wf (.cells #[.slice QA pg.length qc, .slice A rest.length c] 102))) (fun k hk => ⟨by have := hk.2; omega, hk.1⟩)
 have hsg : (wf.alloc (.cells #[.slice QA pg.length qc, .slice A rest.length c] 102)).heap.size = g + 1 := by rw [← hg]; simp
 rw [hg]
 rw [hb] at hBg
 obtain ⟨Wg, hWg⟩ : ∃ Wg, wf.alloc (.cells #[.slice QA pg.length qc, .slice A rest.length c] 102) = Wg := ⟨_, rfl⟩
 rw [hWg] at hAg hEg hBg hQg hsg ⊢
 have hSb : Wg.heap[b]? = some (.cells #[.slice PA pg.length pc, .slice FA free.length fc, .slice RA rn rc, .slice GA gone.length gc, .int .i64 ver, .int .i64 tree] 25 (0, 0)) := hEg.1
 have hbg5 : b + 5 ≤ g := by have := HSf.out; omega
 have hQlg : ∀ k, (Value.slice QA pg.length qc).ownBlock = some k → k < g := fun k hk => hg ▸ hQl k hk
 have HPUT1 := Lib.hid (z6k rest g (.slice QA pg.length qc) (ver - 1) gone GA gc Wg.drew (off5 b) (fun k hk => .inr (by have h1 : Wg.heap.size ≤ k := hk; omega)) hAg (fun k hk => by have := hQlg k hk; show k < Wg.heap.size; omega) (Kd.C_below hGO (by rw [hb]; exact hBg.drew)) hgc hsm.1 (by omega))
 have HWV := Lib.hid (show IntKind.i64.wrap (ver - 1) = ver - 1 by rw [IntKind.wrap_i64]; omega)
 have hgb : b ≠ g := by omega
 have HBg := Aside0.mk hBg
 have HEg := Aside0.mk hEg
 have HQg := Aside0.mk hQg
 clear hWg hAg hBg hEg hQg hQb hQl
 refine wp_region_noPanic ?_
 refine wp_region_held_drew (S := fun W => W.heap[b]? = some (.cells #[.slice PA pg.length pc, .slice FA free.length fc, .slice RA rn rc, .slice GA gone.length gc, .int .i64 ver, .int .i64 tree] 25 (0, 0))) (by kernel_rfl) (hSb) (fun hS => ?_)
 simp only [List.size_toArray, List.length_cons, List.length_nil, Nat.reduceAdd, Array.replicate_succ, Array.replicate_zero, List.push_toArray, List.nil_append, List.cons_append]
 refine z0b (i := 0) 55 (.pointer (some ⟨g, 0, none⟩)) rfl rfl (by kernel_rfl) (by kernel_rfl) (by kernel_rfl) (fun _ _ _ h => h) (Or.inl ⟨by rfl, fun W hW => by go_simp⟩) hS ?_
 try simp only [List.setIfInBounds_toArray, List.set_cons_zero, List.set_cons_succ]
 refine z0b (i := 1) 56 (.pointer (some ⟨g, 0, none⟩)) rfl rfl (by kernel_rfl) (by kernel_rfl) (by kernel_rfl) (fun _ _ _ h => h) (Or.inl ⟨by rfl, fun W hW => by go_simp⟩) hS ?_
 try simp only [List.setIfInBounds_toArray, List.set_cons_zero, List.set_cons_succ]
 refine z0b (i := 2) 57 (.pointer (some ⟨g, 1, none⟩)) rfl rfl (by kernel_rfl) (by kernel_rfl) (by kernel_rfl) (fun _ _ _ h => h) (Or.inl ⟨by rfl, fun W hW => by go_simp⟩) hS ?_
 try simp only [List.setIfInBounds_toArray, List.set_cons_zero, List.set_cons_succ]
 refine z0b (i := 3) 58 (.pointer (some ⟨b, 4, none⟩)) rfl rfl (by kernel_rfl) (by kernel_rfl) (by kernel_rfl) (fun _ _ _ h => h) (Or.inl ⟨by rfl, fun W hW => by go_simp⟩) hS ?_
 try simp only [List.setIfInBounds_toArray, List.set_cons_zero, List.set_cons_succ]
 refine z0b (i := 4) 59 (.int .i64 ver) rfl rfl (by kernel_rfl) (by kernel_rfl) (by kernel_rfl) (fun _ _ _ h => h) (Or.inl ⟨by rfl, fun W hW => by have h0 : W.cell? ⟨b, 4, none⟩ = some (.int .i64 ver) := (z0a hW 4).trans rfl; go_simp⟩) hS ?_
 try simp only [List.setIfInBounds_toArray, List.set_cons_zero, List.set_cons_succ]
 refine z0b (i := 5) 60 (.int .i64 (ver - 1)) rfl rfl (by kernel_rfl) (by kernel_rfl) (by kernel_rfl) (fun _ _ _ h => h) (Or.inl ⟨by rfl, fun W hW => by have h0 : IntKind.i64.wrap (ver - 1) = ver - 1 := HWV.out; go_simp⟩) hS ?_
 try simp only [List.setIfInBounds_toArray, List.set_cons_zero, List.set_cons_succ]
 refine z0b (i := 6) 61 (.pointer (some ⟨b, 3, none⟩)) rfl rfl (by kernel_rfl) (by kernel_rfl) (by kernel_rfl) (fun _ _ _ h => h) (Or.inl ⟨by rfl, fun W hW => by go_simp⟩) hS ?_
 try simp only [List.setIfInBounds_toArray, List.set_cons_zero, List.set_cons_succ]
 refine z0b (i := 7) 62 (.slice GA gone.length gc) rfl rfl (by kernel_rfl) (by kernel_rfl) (by kernel_rfl) (fun _ _ _ h => h) (Or.inl ⟨by rfl, fun W hW => by have h0 : W.cell? ⟨b, 3, none⟩ = some (.slice GA gone.length gc) := (z0a hW 3).trans rfl; go_simp⟩) hS ?_
 try simp only [List.setIfInBounds_toArray, List.set_cons_zero, List.set_cons_succ]
 refine wpAnyH_ready (rs := [8]) (by kernel_rfl) (by simp) ?_
 refine AllReadyH.cons rfl (fun K hK => ?_) AllReadyH.nil
 go_simp
 refine HPUT1.out.mono ?_
 rintro e w1 ⟨rfl, ha1, ht1⟩
 refine hK.out _ _ (ht1.blk hgb hS) (fun hS => ?_)
 clear hK K
 try simp only [Act.put, List.getElem_toArray, List.getElem_cons_succ, List.getElem_cons_zero, List.setIfInBounds_toArray, List.set_cons_zero, List.set_cons_succ]
 refine wpAnyH_done (by kernel_rfl) ?_ _
 refine NoPanic.normal ?_
 have hsz1 : g + 1 ≤ w1.heap.size := by have := ht1.size; have e : Wg.drew.heap.size = Wg.heap.size := rfl; omega
 have hB1 : Below b w w1 := HBg.out.drew.trans (ht1.below.mono (by omega))
 have hE1 : EndC w1 b #[.slice PA pg.length pc, .slice FA free.length fc, .slice RA rn rc, .slice GA gone.length gc, .int .i64 ver, .int .i64 tree] := EndC.turned (W := Wg.drew) HEg.out ht1 hbg5
 have hQ1 : Kd.N k89 89 w1 we.heap.size (fun k => k ≠ g ∧ off5 b k) (.slice QA pg.length qc) pg := ht1.N (fun k hk => hk.1) (Kd.N_drew HQg.out)
 have hSb1 : w1.heap[b]? = some (.cells #[.slice PA pg.length pc, .slice FA free.length fc, .slice RA rn rc, .slice GA gone.length gc, .int .i64 ver, .int .i64 tree] 25 (0, 0)) := hE1.1
 have HL1 := Lib.hid (show (if gone = [] then rest else mergeL rest [⟨ver - 1, gone⟩]) = putL (ver - 1) gone rest from rfl)
 rw [HL1.out] at ha1
 have HPUT2 := Lib.hid (z6k (putL (ver - 1) gone rest) g (.slice QA pg.length qc) 0 free FA fc w1.drew (off5 b) (fun k hk => .inr (by have h1 : w1.heap.size ≤ k := hk; omega)) ha1 (fun k hk => by have := hQlg k hk; show k < w1.heap.size; omega) (Kd.C_below hFR (by rw [hb]; exact hB1.drew)) hfc (z6m hsm.2.2.2.2 hsm.2.2.2.1 (by omega)) (by omega))
 have HB1 := Aside0.mk hB1
 have HE1 := Aside0.mk hE1
 have HQ1 := Aside0.mk hQ1
 have HS1 := Aside0.mk hsz1
 clear hB1 hE1 hQ1 ha1 ht1 hsz1 HBg HEg HQg hS
 go_upto_region 7 with (fail)
 refine wp_region_noPanic ?_
 refine wp_region_held_drew (S := fun W => W.heap[b]? = some (.cells #[.slice PA pg.length pc, .slice FA free.length fc, .slice RA rn rc, .slice GA gone.length gc, .int .i64 ver, .int .i64 tree] 25 (0, 0))) (by kernel_rfl) (hSb1) (fun hS => ?_)
 simp only [List.size_toArray, List.length_cons, List.length_nil, Nat.reduceAdd, Array.replicate_succ, Array.replicate_zero, List.push_toArray, List.nil_append, List.cons_append]
 refine z0b (i := 0) 64 (.pointer (some ⟨g, 0, none⟩)) rfl rfl (by kernel_rfl) (by kernel_rfl) (by kernel_rfl) (fun _ _ _ h => h) (Or.inl ⟨by rfl, fun W hW => by go_simp⟩) hS ?_
 try simp only [List.setIfInBounds_toArray, List.set_cons_zero, List.set_cons_succ]
 refine z0b (i := 1) 65 (.pointer (some ⟨g, 0, none⟩)) rfl rfl (by kernel_rfl) (by kernel_rfl) (by kernel_rfl) (fun _ _ _ h => h) (Or.inl ⟨by rfl, fun W hW => by go_simp⟩) hS ?_
 try simp only [List.setIfInBounds_toArray, List.set_cons_zero, List.set_cons_succ]
 refine z0b (i := 2) 66 (.pointer (some ⟨g, 1, none⟩)) rfl rfl (by kernel_rfl) (by kernel_rfl) (by kernel_rfl) (fun _ _ _ h => h) (Or.inl ⟨by rfl, fun W hW => by go_simp⟩) hS ?_
 try simp only [List.setIfInBounds_toArray, List.set_cons_zero, List.set_cons_succ]
 refine z0b (i := 3) 67 (.pointer (some ⟨b, 1, none⟩)) rfl rfl (by kernel_rfl) (by kernel_rfl) (by kernel_rfl) (fun _ _ _ h => h) (Or.inl ⟨by rfl, fun W hW => by go_simp⟩) hS ?_
 try simp only [List.setIfInBounds_toArray, List.set_cons_zero, List.set_cons_succ]
 refine z0b (i := 4) 68 (.slice FA free.length fc) rfl rfl (by kernel_rfl) (by kernel_rfl) (by kernel_rfl) (fun _ _ _ h => h) (Or.inl ⟨by rfl, fun W hW => by have h0 : W.cell? ⟨b, 1, none⟩ = some (.slice FA free.length fc) := (z0a hW 1).trans rfl; go_simp⟩) hS ?_
 try simp only [List.setIfInBounds_toArray, List.set_cons_zero, List.set_cons_succ]
 refine wpAnyH_ready (rs := [5]) (by kernel_rfl) (by simp) ?_
 refine AllReadyH.cons rfl (fun K hK => ?_) AllReadyH.nil
 go_simp
 refine HPUT2.out.mono ?_
 rintro e w2 ⟨rfl, ha2, ht2⟩
 refine hK.out _ _ (ht2.blk hgb hS) (fun hS => ?_)
 clear hK K
 try simp only [Act.put, List.getElem_toArray, List.getElem_cons_succ, List.getElem_cons_zero, List.setIfInBounds_toArray, List.set_cons_zero, List.set_cons_succ]
 refine wpAnyH_done (by kernel_rfl) ?_ _
 refine NoPanic.normal ?_
 have HL2 := Lib.hid (show (if free = [] then putL (ver - 1) gone rest else mergeL (putL (ver - 1) gone rest) [⟨0, free⟩]) = putL 0 free (putL (ver - 1) gone rest) from rfl)
 rw [HL2.out] at ha2
 obtain ⟨l2, hl2⟩ : ∃ l2, putL 0 free (putL (ver - 1) gone rest) = l2 := ⟨_, rfl⟩
 rw [hl2] at ha2
 have HLL := Lib.hid hl2
 have hsz2 : g + 1 ≤ w2.heap.size := by have := ht2.size; have e : w1.drew.heap.size = w1.heap.size := rfl; have := HS1.out; omega
 have hB2 : Below b w w2 := HB1.out.drew.trans (ht2.below.mono (by omega))
 have hE2 : EndC w2 b #[.slice PA pg.length pc, .slice FA free.length fc, .slice RA rn rc, .slice GA gone.length gc, .int .i64 ver, .int .i64 tree] := EndC.turned (W := w1.drew) HE1.out ht2 hbg5
 have hQ2 : Kd.N k89 89 w2 we.heap.size (fun k => k ≠ g ∧ off5 b k) (.slice QA pg.length qc) pg := ht2.N (fun k hk => hk.1) (Kd.N_drew HQ1.out)
 have HB2 := Aside0.mk hB2
 have HE2 := Aside0.mk hE2
 have HQ2 := Aside0.mk hQ2
 have HS2 := Aside0.mk hsz2
 have HA2 := Aside0.mk ha2
 obtain ⟨A2, c2, hb2, hc2, hF2⟩ := ha2
 have x6 : w2.cell? ⟨g, 1, none⟩ = some (.slice A2 l2.length c2) := (z0a hb2 1).trans rfl
 have HV4 := Lib.hid (z3y l2 pg.length A2 c2 w2 (Kd.F_now hF2) hc2)
 by_cases h4 : validB pg.length l2 = true
 rotate_left
 ·rw [show validB pg.length l2 = false by simpa using h4] at HV4
  obtain rfl : R = .error 2 := by rw [← HR0.out]; exact z10 ⟨hv, hn⟩ (fun h => h4 (by rw [← HLL.out]; exact h.2))
  clear h4
  go_wp2_with (first
   | (go_at_call 47; (refine HV4.out.mono ?_); rintro e w3 ⟨rfl, hb3⟩; have HFa := Aside0.mk (EndF.drawn HB2.out HE2.out (by have := HS2.out; omega) hb3); clear hb3)
   | (go_at_call 45; (with_reducible refine (z19 _ _).mono ?_); rintro e w' ⟨rfl, rfl⟩))
  exact z2k _ (by rfl) (by rfl) (by rfl) (by rfl) hb HFa.out
 have HTI := Aside0.mk (end_TI (shrink := shrink) ⟨hsm.2.1, hsm.2.2.1, hsm.2.2.2.1, hsm.2.2.2.2⟩ hn (show validB pg.length (endL2 free gone rest ver) = true from by unfold endL2; rw [HLL.out]; exact h4))
 have HX7 := Aside0.mk (fun h => endX_7 (shrink := shrink) (pg := pg) (rest := rest) (free := free) (gone := gone) (ver := ver) ⟨hv, hn⟩ ⟨⟨h1, h2, h3⟩, show validB pg.length (endL2 free gone rest ver) = true from by unfold endL2; rw [HLL.out]; exact h4⟩ h)
 have HX0 := Aside0.mk (fun l m own h => endX_0 (shrink := shrink) (pg := pg) (rest := rest) (free := free) (gone := gone) (ver := ver) (l := l) (m := m) (own := own) ⟨hv, hn⟩ ⟨⟨h1, h2, h3⟩, show validB pg.length (endL2 free gone rest ver) = true from by unfold endL2; rw [HLL.out]; exact h4⟩ h)
 rw [h4] at HV4
 clear hB2 hE2 hQ2 ht2 hsz2 hl2 hF2 hb2 HB1 HE1 HQ1 hS
 go_upto_region 9 with (first
  | (go_at_call 47; (refine HV4.out.mono ?_); rintro e w3 ⟨rfl, hb3⟩; have HB3 := Aside0.mk (HB2.out.trans (hb3.mono (by have := HS2.out; omega))); have HE3 := Aside0.mk (HE2.out.below hb3); have HS3 := Aside0.mk (Nat.le_trans HS2.out hb3.size); have HQ3 := Aside0.mk (Kd.N_below HQ2.out hb3); have HA3 := Aside0.mk (HA2.out.below hb3); clear hb3 x6; obtain ⟨x0, x1, x3, x4, x5⟩ := HE3.out.cells)
  | (go_at_call 45; (with_reducible refine (z3i _ _).mono ?_); rintro e w' ⟨rfl, rfl⟩))
 clear HB2 HE2 HQ2 HA2
 have hqb : ∀ k, (Value.slice QA pg.length qc).ownBlock = some k → b + 5 ≤ k := fun k hk => by have := Kd.N_base HQ3.out k hk; have := HSe.out; omega
 have HQ4 := Aside0.mk (Kd.N_lower HQ3.out (show b ≤ we.heap.size by have := HSe.out; omega))
 have hfree : ∀ x ∈ free, 2 ≤ x ∧ x ≤ (pg.length : Int) - 1 := (of_decide_eq_true h2).1
 have h89 : (Tryz.prog.info? 89).map (·.size) = some 10 := by kernel_rfl
 clear x0 x3 x4 x5 HQ3
 go_upto_region 10 with (fail)
 go_loopw [13, 81] (fun u i wr => ∃ k : Nat, k ≤ free.length ∧ i = .int .i64 k ∧ Aside0 (Kd.N k89 89 wr b (fun q => q ≠ g ∧ off5 b q) (.slice QA pg.length qc) (zeroTo k free pg)) ∧ Aside0 (AccX (off5 b) wr g (.slice QA pg.length qc) l2) ∧ Aside0 (EndC wr b #[.slice PA pg.length pc, .slice FA free.length fc, .slice RA rn rc, .slice GA gone.length gc, .int .i64 ver, .int .i64 tree]) ∧ Aside0 (Below b w wr) ∧ Aside0 (g + 1 ≤ wr.heap.size))
  (fun _ i _ => free.length - (intOf i).toNat)
 case atStart => exact ⟨0, Nat.zero_le _, rfl, HQ4, HA3, HE3, HB3, HS3⟩
 case round =>
  clear HQ4 HA3 HE3 HB3 HS3
  obtain ⟨k, hk, rfl, HQ, HA, HE, HB, HS⟩ := hrel
  by_cases hlt : k < free.length
  ·have hlen := z2a (free.take k) pg
   obtain ⟨q, qc', hve, hbq, hqs, _⟩ := Kd.N_form HQ.out (by show 0 < (zeroAll (free.take k) pg).length; omega)
   rw [show (zeroTo k free pg).length = pg.length from hlen] at hve
   injection hve with e1 _ e2
   subst e1 e2
   obtain ⟨ad, had, hxc⟩ := Kd.at_int (Kd.C_below hFR (show Below w.heap.size w wr by rw [hb]; exact HB.out)) (k : Int) (by omega) (by omega)
   subst had
   rw [Int.toNat_natCast, z0u free k hlt] at hxc
   have hx := hfree _ (List.getElem_mem hlt)
   have HZS := Lib.hid (z6n k free pg hlt)
   obtain ⟨x, hxx⟩ : ∃ x, free[k] = x := ⟨_, rfl⟩
   rw [hxx] at hxc hx HZS
   obtain ⟨A9, c9, hb9, _, _⟩ := HA.out
   have y0 : wr.cell? ⟨g, 0, none⟩ = some (.slice (some ⟨q, 0, none⟩) pg.length qc) := (z0a hb9 0).trans rfl
   obtain ⟨cs, hcl, hFK, hcc, hfr⟩ := Kd.N_elem HQ.out z89 x (by omega) (by omega)
   obtain ⟨A8, c8, rfl, _, _⟩ := z1s hFK
   have HCC := Aside0.mk hcc
   have hx0 : 0 ≤ x := by omega
   have hxl : x < (pg.length : Int) := by omega
   have HX0 := Aside0.mk hx0
   have HXL := Aside0.mk hxl
   have hgq : g ≠ q := fun e => by have := HQ.out.1 q (by simp [Value.ownBlock]); exact this.1 e.symm
   have hq5 := hqb q (by simp [Value.ownBlock])
   clear hFK hcc hfr hxx hb9
   go_upto_region 13 with (refine Kd.N_store k89 (w0 := w) b rfl rfl 89 (.tmp 91) (.tmp 90) rfl 89 x 0 (zeroTo k free pg) z89 (.agg #[.int .i64 0, .int .i64 0, .int .i64 0, .int .i64 0, .int .i64 0, .bool false, .slice none 0 0, .int .i64 0, .string ⟨#[]⟩, .slice none 0 0]) [.int .i64 0, .int .i64 0, .int .i64 0, .int .i64 0, .int .i64 0, .bool false, .slice none 0 0, .int .i64 0, .string ⟨#[]⟩, .slice none 0 0] (cells89 _ A8 c8) (fun y => y ≠ g ∧ off5 b y) (fun _ => False) rfl rfl rfl rfl h89 (by simp [Value.oneCell']) HQ.out HX0.out HXL.out hcl HCC.out (by show 0 + 10 ≤ 10; omega) (by exact zero89F) (fun _ h => h.elim) HB.out ?_; intro w4 hn4 hb4 hg4)
   have HQ6 := Aside0.mk hn4
   have HB6 := Aside0.mk hb4
   have HA6 := Aside0.mk (show AccX (off5 b) w4 g (.slice (some ⟨q, 0, none⟩) pg.length qc) l2 by
    obtain ⟨A9, c9, hb9, hc9, hF9⟩ := HA.out
    exact ⟨A9, c9, (hg4.block g (z0w hb9) (fun e => hgq (by injection e))).trans hb9, hc9, Kd.F_grown hF9 hg4 (fun y hy e => hy.1.2 (by simpa [Value.ownBlock] using e))⟩)
   have HE6 := Aside0.mk (show EndC w4 b #[.slice PA pg.length pc, .slice (some ad) free.length fc, .slice RA rn rc, .slice GA gone.length gc, .int .i64 ver, .int .i64 tree] from HE.out.keep fun y _ h5 hy => hg4.block y hy (fun e => by injection e with e; omega))
   have HS6 := Aside0.mk (Nat.le_trans HS.out hg4.size)
   clear hn4 hb4 hg4 hgq hq5 hx0 hxl hx hxc y0 hcl
   go_wp2
   go_roundw
   case rel => exact ⟨k + 1, by omega, by go_num, ⟨by rw [HZS.out]; exact HQ6.out⟩, HA6, HE6, HB6, HS6⟩
   case measure => simp [intOf]; omega
  ·obtain rfl : k = free.length := by omega
   have HQ5 := Aside0.mk (show Kd.N k89 89 wr b (fun q => q ≠ g ∧ off5 b q) (.slice QA pg.length qc) (zeroAll free pg) by have := HQ.out; unfold zeroTo at this; rw [List.take_length] at this; exact this)
   clear HQ
   have hfl2 : fullL l2 := z1r (of_decide_eq_true h4).2.1
   have htl := z4x l2 pg.length (of_decide_eq_true h4).2.1 (by omega)
   have hsl2 : smallL l2 := by rw [← HLL.out]; have q1 := z2h (ver - 1) gone rest; have q2 := z2h 0 free (putL (ver - 1) gone rest); exact ⟨by omega, by omega⟩
   have HSL := Aside0.mk hsl2
   clear hsl2
   obtain ⟨m, hm⟩ : ∃ m : Nat, tailN l2 pg.length = (m : Int) := ⟨(tailN l2 pg.length).toNat, by omega⟩
   have HM := Lib.hid hm
   rw [hm] at htl
   have hmn : m ≤ pg.length := by omega
   clear htl
   go_upto_if 93 with (fail)
   go_cut [] from 93 (fun wx => EndM w b g #[.slice PA pg.length pc, .slice FA free.length fc, .slice RA rn rc, .slice GA gone.length gc, .int .i64 ver, .int .i64 tree] (if shrink then (zeroAll free pg).take m else zeroAll free pg) (if shrink then keepAll m l2 else l2) (off5 b) wx)
   case first =>
    cases shrink with
    | false =>
     clear hm
     go_wp2
     go_meet
     case rel => exact ⟨_, HQ5.out, HA.out, HE.out, HB.out, HS.out, hqb⟩
    | true =>
     obtain ⟨A9, c9, hb9, hc9, hF9⟩ := HA.out
     have hT5 := z56 l2 pg.length A9 c9 wr.drew (Kd.C_below (Kd.F_now hF9) (z0e (Below.refl _ _))) hc9 (by omega) (by omega) (z16 HSL.out)
     rw [hm] at hT5
     have HT5 := Lib.hid hT5
     have HMQ := Aside0.mk (show m ≤ qc from Nat.le_trans hmn (Kd.N_reads' HQ5.out).2.1)
     have HB9 := Aside0.mk hb9
     have v0 : wr.cell? ⟨g, 0, none⟩ = some (.slice QA pg.length qc) := (z0a hb9 0).trans rfl
     have v1 : wr.cell? ⟨g, 1, none⟩ = some (.slice A9 l2.length c9) := (z0a hb9 1).trans rfl
     clear hm hT5 hb9 hF9
     go_upto_region 15 with (fail)
     refine wp_region_noPanic ?_
     refine z7k (S := fun W => W.cell? ⟨g, 0, none⟩ = some (.slice QA pg.length qc) ∧ W.cell? ⟨g, 1, none⟩ = some (.slice A9 l2.length c9)) 15 (by kernel_rfl) (⟨v0, v1⟩) (fun hS => ?_)
     simp only [List.size_toArray, List.length_cons, List.length_nil, Nat.reduceAdd, Array.replicate_succ, Array.replicate_zero, List.push_toArray, List.nil_append, List.cons_append]
     refine z03 (i := 0) 94 (.pointer (some ⟨g, 0, none⟩)) [15] rfl rfl (by kernel_rfl) (by decide) (by decide) (by kernel_rfl) (by kernel_rfl) (by kernel_rfl) (by kernel_rfl) (fun _ _ _ h => h) (Or.inl ⟨by rfl, fun W hW => by go_simp⟩) hS ?_
     try simp only [List.setIfInBounds_toArray, List.set_cons_zero, List.set_cons_succ]
     refine z03 (i := 1) 95 (.pointer (some ⟨g, 0, none⟩)) [15] rfl rfl (by kernel_rfl) (by decide) (by decide) (by kernel_rfl) (by kernel_rfl) (by kernel_rfl) (by kernel_rfl) (fun _ _ _ h => h) (Or.inl ⟨by rfl, fun W hW => by go_simp⟩) hS ?_
     try simp only [List.setIfInBounds_toArray, List.set_cons_zero, List.set_cons_succ]
     refine z03 (i := 2) 96 (.pointer (some ⟨g, 0, none⟩)) [15] rfl rfl (by kernel_rfl) (by decide) (by decide) (by kernel_rfl) (by kernel_rfl) (by kernel_rfl) (by kernel_rfl) (fun _ _ _ h => h) (Or.inl ⟨by rfl, fun W hW => by go_simp⟩) hS ?_
     try simp only [List.setIfInBounds_toArray, List.set_cons_zero, List.set_cons_succ]
     refine z03 (i := 3) 97 (.pointer (some ⟨g, 0, none⟩)) [15] rfl rfl (by kernel_rfl) (by decide) (by decide) (by kernel_rfl) (by kernel_rfl) (by kernel_rfl) (by kernel_rfl) (fun _ _ _ h => h) (Or.inl ⟨by rfl, fun W hW => by go_simp⟩) hS ?_
     try simp only [List.setIfInBounds_toArray, List.set_cons_zero, List.set_cons_succ]
     refine z03 (i := 4) 98 (.slice QA pg.length qc) [15] rfl rfl (by kernel_rfl) (by decide) (by decide) (by kernel_rfl) (by kernel_rfl) (by kernel_rfl) (by kernel_rfl) (fun _ _ _ h => h) (Or.inl ⟨by rfl, fun W hW => by have h0 := hW.1; go_simp⟩) hS ?_
     try simp only [List.setIfInBounds_toArray, List.set_cons_zero, List.set_cons_succ]
     refine z03 (i := 5) 99 (.pointer (some ⟨g, 0, none⟩)) [15] rfl rfl (by kernel_rfl) (by decide) (by decide) (by kernel_rfl) (by kernel_rfl) (by kernel_rfl) (by kernel_rfl) (fun _ _ _ h => h) (Or.inl ⟨by rfl, fun W hW => by go_simp⟩) hS ?_
     try simp only [List.setIfInBounds_toArray, List.set_cons_zero, List.set_cons_succ]
     refine z03 (i := 6) 100 (.pointer (some ⟨g, 0, none⟩)) [15] rfl rfl (by kernel_rfl) (by decide) (by decide) (by kernel_rfl) (by kernel_rfl) (by kernel_rfl) (by kernel_rfl) (fun _ _ _ h => h) (Or.inl ⟨by rfl, fun W hW => by go_simp⟩) hS ?_
     try simp only [List.setIfInBounds_toArray, List.set_cons_zero, List.set_cons_succ]
     refine z03 (i := 7) 101 (.pointer (some ⟨g, 1, none⟩)) [15] rfl rfl (by kernel_rfl) (by decide) (by decide) (by kernel_rfl) (by kernel_rfl) (by kernel_rfl) (by kernel_rfl) (fun _ _ _ h => h) (Or.inl ⟨by rfl, fun W hW => by go_simp⟩) hS ?_
     try simp only [List.setIfInBounds_toArray, List.set_cons_zero, List.set_cons_succ]
     refine z03 (i := 8) 102 (.pointer (some ⟨g, 1, none⟩)) [15] rfl rfl (by kernel_rfl) (by decide) (by decide) (by kernel_rfl) (by kernel_rfl) (by kernel_rfl) (by kernel_rfl) (fun _ _ _ h => h) (Or.inl ⟨by rfl, fun W hW => by go_simp⟩) hS ?_
     try simp only [List.setIfInBounds_toArray, List.set_cons_zero, List.set_cons_succ]
     refine z03 (i := 9) 103 (.slice A9 l2.length c9) [15] rfl rfl (by kernel_rfl) (by decide) (by decide) (by kernel_rfl) (by kernel_rfl) (by kernel_rfl) (by kernel_rfl) (fun _ _ _ h => h) (Or.inl ⟨by rfl, fun W hW => by have h0 := hW.2; go_simp⟩) hS ?_
     try simp only [List.setIfInBounds_toArray, List.set_cons_zero, List.set_cons_succ]
     refine z03 (i := 10) 104 (.int .i64 (pg.length : Int)) [15] rfl rfl (by kernel_rfl) (by decide) (by decide) (by kernel_rfl) (by kernel_rfl) (by kernel_rfl) (by kernel_rfl) (fun _ _ _ h => h) (Or.inl ⟨by rfl, fun W hW => by go_simp⟩) hS ?_
     try simp only [List.setIfInBounds_toArray, List.set_cons_zero, List.set_cons_succ]
     refine z9z (rs := [11]) (by kernel_rfl) (by simp) ?_
     refine AllReadyK.cons rfl (fun K hK => ?_) AllReadyK.nil
     go_simp
     refine HT5.out.mono ?_
     rintro e w5 ⟨rfl, hd5⟩
     refine hK.out _ _ (⟨cellB hd5.below (Nat.le_refl _) hS.1, cellB hd5.below (Nat.le_refl _) hS.2⟩) (fun hS => ?_)
     clear hK K
     try simp only [Act.put, List.getElem_toArray, List.getElem_cons_succ, List.getElem_cons_zero, List.setIfInBounds_toArray, List.set_cons_zero, List.set_cons_succ]
     refine z03 (i := 12) 106 (.slice QA m qc) [15] rfl rfl (by kernel_rfl) (by decide) (by decide) (by kernel_rfl) (by kernel_rfl) (by kernel_rfl) (by kernel_rfl) (fun _ _ _ h => h) (Or.inl ⟨by rfl, fun W hW => z4u _ 22 89 10 (.tmp 98) (.tmp 105) rfl _ _ _ m rfl rfl Tryz.underlying22 h89 HMQ.out⟩) hS ?_
     try simp only [List.setIfInBounds_toArray, List.set_cons_zero, List.set_cons_succ]
     refine z03 (i := 13) 107 (.pointer (some ⟨g, 0, none⟩)) [14, 15] rfl rfl (by kernel_rfl) (by decide) (by decide) (by kernel_rfl) (by kernel_rfl) (by kernel_rfl) (by kernel_rfl) (fun _ _ _ h => h) (Or.inl ⟨by rfl, fun W hW => by go_simp⟩) hS ?_
     try simp only [List.setIfInBounds_toArray, List.set_cons_zero, List.set_cons_succ]
     refine z03 (i := 14) 108 (.pointer (some ⟨g, 0, none⟩)) [15] rfl rfl (by kernel_rfl) (by decide) (by decide) (by kernel_rfl) (by kernel_rfl) (by kernel_rfl) (by kernel_rfl) (fun _ _ _ h => h) (Or.inl ⟨by rfl, fun W hW => by go_simp⟩) hS ?_
     try simp only [List.setIfInBounds_toArray, List.set_cons_zero, List.set_cons_succ]
     refine storeK (by kernel_rfl) (by decide) rfl rfl (fun K hK => ?_)
     have y0 := hS.1
     have z0 : w5.frozen? ⟨g, 0, none⟩ = false := z0d (z0g (z0x HB9.out) hd5.below) 0
     go_simp
     refine hK.out _ _ ?_
     clear hK K
     have hS : True := trivial
     try simp only [Act.put, List.getElem_toArray, List.getElem_cons_succ, List.getElem_cons_zero, List.setIfInBounds_toArray, List.set_cons_zero, List.set_cons_succ]
     refine wpAnyH_done (by kernel_rfl) ?_ _
     refine NoPanic.normal ?_
     have hbw5 : Below wr.heap.size wr w5 := (z0e (Below.refl _ _)).trans hd5.below
     have hQ6 : Kd.N k89 89 (w5.setCell ⟨g, 0, none⟩ (.slice QA m qc)) b (fun q => q ≠ g ∧ off5 b q) (.slice QA m qc) ((zeroAll free pg).take m) := Kd.N_far (Kd.N_take (Kd.N_below HQ5.out hbw5) (by rw [z2a]; omega)) (p := ⟨g, 0, none⟩) (fun k hk => hk.1) _
     have hA6 : AccX (off5 b) (w5.setCell ⟨g, 0, none⟩ (.slice QA m qc)) g (.slice QA m qc) l2 := (HA.out.below hbw5).pages (by cases QA <;> rfl)
     have hT6 : Turned g wr (w5.setCell ⟨g, 0, none⟩ (.slice QA m qc)) := (Turned.of_below hbw5 HA.out.lt).set 0 _
     have u0 : (w5.setCell ⟨g, 0, none⟩ (.slice QA m qc)).cell? ⟨g, 0, none⟩ = some (.slice QA m qc) := World.cell?_setCell_same _ _ _ y0
     obtain ⟨W6, hW6⟩ : ∃ W6, w5.setCell ⟨g, 0, none⟩ (.slice QA m qc) = W6 := ⟨_, rfl⟩
     rw [hW6] at hQ6 hA6 hT6 u0 ⊢
     have HK6 := Lib.hid (keep_any l2 g (.slice QA m qc) m W6.drew (off5 b) (fun q hq => .inr (by have h1 : W6.heap.size ≤ q := hq; have h2 := hT6.size; have h3 := HS.out; omega)) (hA6.below (z0e (Below.refl _ _))) hfl2 (fun q hq => by have h1 := hQlg q (by have e : (Value.slice QA m qc).ownBlock = (Value.slice QA pg.length qc).ownBlock := (by cases QA <;> rfl); rw [← e]; exact hq); have h2 := hT6.size; have h3 := HS.out; show q < W6.heap.size; omega) HSL.out)
     have HQ6 := Aside0.mk hQ6
     have HT6 := Aside0.mk hT6
     clear hW6 hQ6 hA6 hT6 hbw5 hd5 y0 z0 v0 v1 hS
     go_upto_region 16 with (fail)
     refine wp_region_noPanic ?_
     refine z7k (S := fun W => W.cell? ⟨g, 0, none⟩ = some (.slice QA m qc)) 8 (by kernel_rfl) (u0) (fun hS => ?_)
     simp only [List.size_toArray, List.length_cons, List.length_nil, Nat.reduceAdd, Array.replicate_succ, Array.replicate_zero, List.push_toArray, List.nil_append, List.cons_append]
     refine z03 (i := 0) 109 (.pointer (some ⟨g, 0, none⟩)) [1, 2, 8] rfl rfl (by kernel_rfl) (by decide) (by decide) (by kernel_rfl) (by kernel_rfl) (by kernel_rfl) (by kernel_rfl) (fun _ _ _ h => h) (Or.inl ⟨by rfl, fun W hW => by go_simp⟩) hS ?_
     try simp only [List.setIfInBounds_toArray, List.set_cons_zero, List.set_cons_succ]
     refine z03 (i := 1) 110 (.pointer (some ⟨g, 0, none⟩)) [2, 8] rfl rfl (by kernel_rfl) (by decide) (by decide) (by kernel_rfl) (by kernel_rfl) (by kernel_rfl) (by kernel_rfl) (fun _ _ _ h => h) (Or.inl ⟨by rfl, fun W hW => by go_simp⟩) hS ?_
     try simp only [List.setIfInBounds_toArray, List.set_cons_zero, List.set_cons_succ]
     refine z03 (i := 2) 111 (.pointer (some ⟨g, 1, none⟩)) [8] rfl rfl (by kernel_rfl) (by decide) (by decide) (by kernel_rfl) (by kernel_rfl) (by kernel_rfl) (by kernel_rfl) (fun _ _ _ h => h) (Or.inl ⟨by rfl, fun W hW => by go_simp⟩) hS ?_
     try simp only [List.setIfInBounds_toArray, List.set_cons_zero, List.set_cons_succ]
     refine z03 (i := 3) 112 (.pointer (some ⟨g, 0, none⟩)) [4, 5, 6, 7, 8] rfl rfl (by kernel_rfl) (by decide) (by decide) (by kernel_rfl) (by kernel_rfl) (by kernel_rfl) (by kernel_rfl) (fun _ _ _ h => h) (Or.inl ⟨by rfl, fun W hW => by go_simp⟩) hS ?_
     try simp only [List.setIfInBounds_toArray, List.set_cons_zero, List.set_cons_succ]
     refine z03 (i := 4) 113 (.pointer (some ⟨g, 0, none⟩)) [5, 6, 7, 8] rfl rfl (by kernel_rfl) (by decide) (by decide) (by kernel_rfl) (by kernel_rfl) (by kernel_rfl) (by kernel_rfl) (fun _ _ _ h => h) (Or.inl ⟨by rfl, fun W hW => by go_simp⟩) hS ?_
     try simp only [List.setIfInBounds_toArray, List.set_cons_zero, List.set_cons_succ]
     refine z03 (i := 5) 114 (.pointer (some ⟨g, 0, none⟩)) [6, 7, 8] rfl rfl (by kernel_rfl) (by decide) (by decide) (by kernel_rfl) (by kernel_rfl) (by kernel_rfl) (by kernel_rfl) (fun _ _ _ h => h) (Or.inl ⟨by rfl, fun W hW => by go_simp⟩) hS ?_
     try simp only [List.setIfInBounds_toArray, List.set_cons_zero, List.set_cons_succ]
     refine z03 (i := 6) 115 (.slice QA m qc) [7, 8] rfl rfl (by kernel_rfl) (by decide) (by decide) (by kernel_rfl) (by kernel_rfl) (by kernel_rfl) (by kernel_rfl) (fun _ _ _ h => h) (Or.inl ⟨by rfl, fun W hW => by have h0 := hW; go_simp⟩) hS ?_
     try simp only [List.setIfInBounds_toArray, List.set_cons_zero, List.set_cons_succ]
     refine z03 (i := 7) 116 (.int .i64 (m : Int)) [8] rfl rfl (by kernel_rfl) (by decide) (by decide) (by kernel_rfl) (by kernel_rfl) (by kernel_rfl) (by kernel_rfl) (fun _ _ _ h => h) (Or.inl ⟨by rfl, fun W hW => by go_simp⟩) hS ?_
     try simp only [List.setIfInBounds_toArray, List.set_cons_zero, List.set_cons_succ]
     refine storeK (by kernel_rfl) (by decide) rfl rfl (fun K hK => ?_)
     go_simp
     refine HK6.out.mono ?_
     rintro e w7 ⟨rfl, ha7, ht7⟩
     refine hK.out _ _ ?_
     clear hK K
     have hS : True := trivial
     try simp only [Act.put, List.getElem_toArray, List.getElem_cons_succ, List.getElem_cons_zero, List.setIfInBounds_toArray, List.set_cons_zero, List.set_cons_succ]
     refine wpAnyH_done (by kernel_rfl) ?_ _
     refine NoPanic.normal ?_
     go_wp2
     go_meet
     case rel =>
      have ht7' : Turned g wr w7 := HT6.out.trans ((Turned.of_below (z0e (Below.refl _ W6)) (by have := HT6.out.size; have := HS.out; omega)).trans ht7)
      refine ⟨.slice QA m qc, ht7.N (fun k hk => hk.1) (Kd.N_drew HQ6.out), ?_, HE.out.turned ht7' hbg5, HB.out.trans (ht7'.below.mono (by omega)), Nat.le_trans HS.out ht7'.size, fun q hq => hqb q (by have e : (Value.slice QA m qc).ownBlock = (Value.slice QA pg.length qc).ownBlock := (by cases QA <;> rfl); rw [← e]; exact hq)⟩
      rw [if_pos trivial]
      exact ha7
   case rest =>
    have hti := HTI.out.1
    have hx7 := HX7.out
    have hx0 := HX0.out
    unfold endN3 endL3 endL2 at hti hx7 hx0
    unfold endP3 endN3 endL2 at hx0
    rw [HLL.out, HM.out, Int.toNat_natCast] at hti hx7
    rw [HLL.out, HM.out, Int.toNat_natCast] at hx0
    simp only [if_true] at hx0
    obtain ⟨pg3, hpg3⟩ : ∃ x, (if shrink then (zeroAll free pg).take m else zeroAll free pg) = x := ⟨_, rfl⟩
    obtain ⟨l3, hl3⟩ : ∃ x, (if shrink then keepAll m l2 else l2) = x := ⟨_, rfl⟩
    have hlen3 : (if shrink then m else pg.length) = pg3.length := by rw [← hpg3]; cases shrink <;> simp [z2a]; omega
    have hn3 : pg3.length ≤ 4096 := by rw [← hlen3]; cases shrink <;> simp <;> omega
    rw [hpg3, hl3] at hcut
    rw [hl3, hlen3] at hti hx7 hx0
    rw [hpg3] at hx0
    rw [HKK.out] at hx7 hx0
    obtain ⟨r, hr⟩ : ∃ r, takeRun K l3 pg3.length [] = r := ⟨_, rfl⟩
    rw [hr] at hx7 hx0
    rw [HR0.out] at hx7 hx0
    have HX7' := Aside0.mk hx7
    have HX0' := Aside0.mk hx0
    have HTI' := Aside0.mk hti
    have hrk : roundsL l3 pg3.length < K := by have h := z6s (n := pg3.length) hti.1; have h' := HKK.out; omega
    have HRK := Aside0.mk hrk
    have HRR := Aside0.mk hr
    clear hx7 hx0 hti hrk hr HX7 HX0 HTI
    have HCUT := Aside0.mk (hcut.x (X' := offT b (.slice none 0 0)) (fun k hk _ => ⟨by simp [offV, Value.ownBlock], hk⟩))
    have HN3 := Aside0.mk hn3
    clear hpg3 hl3 hlen3 hn3 hcut hm HV1 HI1 HI2 HCP HE0 HB0 HS0 HBb HEb HSb HBc HEc HSc HBd HEd HSd HBe HEe HQ HBf HEf HSf hsg hSb HPUT1 HWV HL1 hSb1 HPUT2 HV4
    go_upto_region 18 with (fail)
    go_loopg [14] K (fun k t wr => ∃ (l : List S64) (n : Nat) (own' : List Int), Aside0 (takeRun k l n own' = r) ∧ Aside0 (roundsL l n < k) ∧ Aside0 (TI n l own') ∧ Aside0 ((Kd.int .i64).R 3 wr (b + 5) (fun q => q ≠ g) t own') ∧ Aside0 (EndM w b g #[.slice PA pg.length pc, .slice FA free.length fc, .slice RA rn rc, .slice GA gone.length gc, .int .i64 ver, .int .i64 tree] (pg3 ++ List.replicate (n - pg3.length) z89) l (offT b t) wr) ∧ Aside0 (pg3.length ≤ n ∧ n ≤ 4096 ∧ own'.length + k ≤ K))
    case atStart => exact ⟨l3, pg3.length, [], HRR, HRK, HTI', ⟨Kd.R_nil _ _ _ _ _⟩, ⟨by rw [Nat.sub_self, List.replicate_zero, List.append_nil]; exact HCUT.out⟩, ⟨Nat.le_refl _, HN3.out, by simp⟩⟩
    case round =>
     clear HRR HRK HTI' HCUT
     obtain ⟨l, n, own', HRU, HRK, HTI, HR, HEM, HBD⟩ := hrel
     have HF := Aside0.mk HTI.out.1
     have HSM := Aside0.mk HTI.out.2.1
     obtain ⟨j, rfl⟩ := pos_succ HRK.out
     obtain ⟨TA, tc, rfl⟩ := Kd.R_slice HR.out
     obtain ⟨A9, c9, v1, HNE⟩ : ∃ A9 c9, wr.cell? ⟨g, 1, none⟩ = some (.slice A9 l.length c9) ∧ Aside0 (Calls Tryz.prog 33 #[.slice A9 l.length c9] wr fun e w' => e = .returned (.tuple #[.int .i64 (partsOf l).length, .int .i64 0]) ∧ Below wr.heap.size wr w') := by
      obtain ⟨P, hN, ⟨A9, c9, hb9, hc9, hF9⟩, _⟩ := HEM.out
      exact ⟨A9, c9, (z0a hb9 1).trans rfl, ⟨needs_yes l A9 c9 wr (Kd.F_now hF9) hc9 HSM.out HF.out⟩⟩
     by_cases hdn : (partsOf l).length ≤ own'.length
     ·obtain ⟨l4, m4, own, rfl, rfl, rfl⟩ : ∃ l4 m4 own, l4 = l ∧ m4 = n ∧ own = own' := ⟨_, _, _, rfl, rfl, rfl⟩
      have hx := HX0'.out l4 m4 own (by rw [← HRU.out]; exact z6t hdn)
      obtain ⟨PF, hPF⟩ : ∃ x, layAll (listPg l4 own ver) (pg3 ++ List.replicate (m4 - pg3.length) z89) = x := ⟨_, rfl⟩
      obtain ⟨hd, hhd⟩ : ∃ x, own.headD 0 = x := ⟨_, rfl⟩
      rw [hPF, hhd] at hx
      subst hx
      have HPF := Lib.hid hPF
      have HHD := Lib.hid hhd
      have HNUM := Aside0.mk (TI_num HTI.out (show 0 ≤ ver ∧ ver ≤ 1099511627776 by omega))
      have HIDX := Aside0.mk (TI_idx (ver := ver) HTI.out)
      clear hPF hhd HX0' HX7' HRK
      have hpg := z4z (pg := pg3) HBD.out.1 (Nat.le_refl m4)
      obtain ⟨pg4, hpg4⟩ : ∃ x, pg3 ++ List.replicate (m4 - pg3.length) z89 = x := ⟨_, rfl⟩
      rw [hpg4] at HEM hpg
      have hl4 : pg4.length = m4 := hpg.1
      have HPG4 := Lib.hid hpg4
      have HL4 := Lib.hid hl4
      have HD := Aside0.mk hdn
      have HSML := Aside0.mk HSM.out
      clear hpg hpg4 hl4
      go_upto_region 22 with (first
       | (go_at_call 33; (refine HNE.out.mono ?_); rintro e w8 ⟨rfl, hb8⟩)
       | (go_at_call 53; refine (z3j _).mono ?_; rintro e w' ⟨rfl, rfl⟩))
      have HEM8 := Aside0.mk (HEM.out.below (by omega) hb8)
      have HR8 := Aside0.mk (Kd.R_below HR.out hb8)
      have HE8 : Aside0 (EndC w8 b #[.slice PA pg.length pc, .slice FA free.length fc, .slice RA rn rc, .slice GA gone.length gc, .int .i64 ver, .int .i64 tree]) := ⟨by obtain ⟨_, _, _, h9, _⟩ := HEM8.out; exact h9⟩
      have v4 : w8.cell? ⟨b, 4, none⟩ = some (.int .i64 ver) := HE8.out.cells.2.2.2.1
      clear v1
      obtain ⟨A9, c9, v1, HLP⟩ : ∃ A9 c9, w8.cell? ⟨g, 1, none⟩ = some (.slice A9 l4.length c9) ∧ Aside0 (Calls Tryz.prog 55 #[.slice A9 l4.length c9, .slice TA own.length tc, .int .i64 ver] w8.drew fun e w' => ∃ u, e = .returned (.tuple #[u, .int .i64 0]) ∧ Kd.N k89 89 w' w8.drew.heap.size (fun q => w8.drew.heap.size ≤ q) u (listPg l4 own ver) ∧ Below w8.drew.heap.size w8.drew w') := by
       obtain ⟨P, hN, ⟨A9, c9, hb9, hc9, hF9⟩, _⟩ := HEM8.out
       obtain ⟨_, hcb, hCT⟩ := Kd.R_reads' HR8.out
       exact ⟨A9, c9, (z0a hb9 1).trans rfl, ⟨pages_yes l4 own ver A9 TA c9 tc w8.drew (Kd.C_below (Kd.F_now hF9) (z0e (Below.refl _ _))) hc9 HSM.out HF.out (Kd.C_below hCT (z0e (Below.refl _ _))) hcb (by have h1 := HBD.out; have h2 := HKK.out; omega) HD.out HNUM.out⟩⟩
      have hidx := HIDX.out
      obtain ⟨ps, hps⟩ : ∃ ps, listPg l4 own ver = ps := ⟨_, rfl⟩
      rw [hps] at HLP hidx
      have HPS := Lib.hid hps
      have HIX := Aside0.mk hidx
      clear hidx hps hdn HNE hb8
      refine wp_region_noPanic ?_
      refine wp_region_held_drew (S := fun W => W.cell? ⟨g, 1, none⟩ = some (.slice A9 l4.length c9) ∧ W.cell? ⟨b, 4, none⟩ = some (.int .i64 ver)) (by kernel_rfl) (⟨v1, v4⟩) (fun hS => ?_)
      simp only [List.size_toArray, List.length_cons, List.length_nil, Nat.reduceAdd, Array.replicate_succ, Array.replicate_zero, List.push_toArray, List.nil_append, List.cons_append]
      refine z0b (i := 0) 139 (.pointer (some ⟨g, 0, none⟩)) rfl rfl (by kernel_rfl) (by kernel_rfl) (by kernel_rfl) (fun _ _ _ h => h) (Or.inl ⟨by rfl, fun W hW => by go_simp⟩) hS ?_
      try simp only [List.setIfInBounds_toArray, List.set_cons_zero, List.set_cons_succ]
      refine z0b (i := 1) 140 (.pointer (some ⟨g, 0, none⟩)) rfl rfl (by kernel_rfl) (by kernel_rfl) (by kernel_rfl) (fun _ _ _ h => h) (Or.inl ⟨by rfl, fun W hW => by go_simp⟩) hS ?_
      try simp only [List.setIfInBounds_toArray, List.set_cons_zero, List.set_cons_succ]
      refine z0b (i := 2) 141 (.pointer (some ⟨g, 1, none⟩)) rfl rfl (by kernel_rfl) (by kernel_rfl) (by kernel_rfl) (fun _ _ _ h => h) (Or.inl ⟨by rfl, fun W hW => by go_simp⟩) hS ?_
      try simp only [List.setIfInBounds_toArray, List.set_cons_zero, List.set_cons_succ]
      refine z0b (i := 3) 142 (.pointer (some ⟨g, 1, none⟩)) rfl rfl (by kernel_rfl) (by kernel_rfl) (by kernel_rfl) (fun _ _ _ h => h) (Or.inl ⟨by rfl, fun W hW => by go_simp⟩) hS ?_
      try simp only [List.setIfInBounds_toArray, List.set_cons_zero, List.set_cons_succ]
      refine z0b (i := 4) 143 (.slice A9 l4.length c9) rfl rfl (by kernel_rfl) (by kernel_rfl) (by kernel_rfl) (fun _ _ _ h => h) (Or.inl ⟨by rfl, fun W hW => by have h0 := hW.1; go_simp⟩) hS ?_
      try simp only [List.setIfInBounds_toArray, List.set_cons_zero, List.set_cons_succ]
      refine z0b (i := 5) 144 (.slice TA own.length tc) rfl rfl (by kernel_rfl) (by kernel_rfl) (by kernel_rfl) (fun _ _ _ h => h) (Or.inl ⟨by rfl, fun W hW => by go_simp⟩) hS ?_
      try simp only [List.setIfInBounds_toArray, List.set_cons_zero, List.set_cons_succ]
      refine z0b (i := 6) 145 (.pointer (some ⟨b, 4, none⟩)) rfl rfl (by kernel_rfl) (by kernel_rfl) (by kernel_rfl) (fun _ _ _ h => h) (Or.inl ⟨by rfl, fun W hW => by go_simp⟩) hS ?_
      try simp only [List.setIfInBounds_toArray, List.set_cons_zero, List.set_cons_succ]
      refine z0b (i := 7) 146 (.int .i64 ver) rfl rfl (by kernel_rfl) (by kernel_rfl) (by kernel_rfl) (fun _ _ _ h => h) (Or.inl ⟨by rfl, fun W hW => by have h0 := hW.2; go_simp⟩) hS ?_
      try simp only [List.setIfInBounds_toArray, List.set_cons_zero, List.set_cons_succ]
      refine wpAnyH_ready (rs := [8]) (by kernel_rfl) (by simp) ?_
      refine AllReadyH.cons rfl (fun K hK => ?_) AllReadyH.nil
      go_simp
      refine HLP.out.mono ?_
      rintro e w10 ⟨u, rfl, hu, hb10⟩
      obtain ⟨UA, uc, rfl⟩ := Kd.N_slice hu
      have HU := Aside0.mk hu
      have HB10 := Aside0.mk ((z0e (Below.refl _ w8)).trans hb10)
      clear hu
      refine hK.out _ _ (⟨cellB hb10 (Nat.le_refl _) hS.1, cellB hb10 (Nat.le_refl _) hS.2⟩) (fun hS => ?_)
      clear hK K
      try simp only [Act.put, List.getElem_toArray, List.getElem_cons_succ, List.getElem_cons_zero, List.setIfInBounds_toArray, List.set_cons_zero, List.set_cons_succ]
      refine z0b (i := 9) 138 (.tuple #[.slice UA ps.length uc, .int .i64 0]) rfl rfl (by kernel_rfl) (by kernel_rfl) (by kernel_rfl) (fun _ _ _ h => h) (Or.inl ⟨by rfl, fun W hW => by go_simp⟩) hS ?_
      try simp only [List.setIfInBounds_toArray, List.set_cons_zero, List.set_cons_succ]
      refine z0b (i := 10) 148 (.slice UA ps.length uc) rfl rfl (by kernel_rfl) (by kernel_rfl) (by kernel_rfl) (fun _ _ _ h => h) (Or.inl ⟨by rfl, fun W hW => by go_simp⟩) hS ?_
      try simp only [List.setIfInBounds_toArray, List.set_cons_zero, List.set_cons_succ]
      refine z0b (i := 11) 149 (.int .i64 0) rfl rfl (by kernel_rfl) (by kernel_rfl) (by kernel_rfl) (fun _ _ _ h => h) (Or.inl ⟨by rfl, fun W hW => by go_simp⟩) hS ?_
      try simp only [List.setIfInBounds_toArray, List.set_cons_zero, List.set_cons_succ]
      refine z0b (i := 12) 17 (.slice UA ps.length uc) rfl rfl (by kernel_rfl) (by kernel_rfl) (by kernel_rfl) (fun _ _ _ h => h) (Or.inl ⟨by rfl, fun W hW => by go_simp⟩) hS ?_
      try simp only [List.setIfInBounds_toArray, List.set_cons_zero, List.set_cons_succ]
      refine wpAnyH_ready (rs := [13]) (by kernel_rfl) (by simp) ?_
      refine AllReadyH.cons rfl (fun K hK => ?_) AllReadyH.nil
      have he10 := z0g HE8.out.2.2.2.2 HB10.out
      have HSM := Aside0.mk (z1z he10)
      have q0 : w10.cell? ⟨b + 1 + 1 + 1 + 1, 0, none⟩ = some (.int .i64 0) := (z0a he10 0).trans rfl
      have q1 : w10.frozen? ⟨b + 1 + 1 + 1 + 1, 0, none⟩ = false := z0d he10 0
      go_simp
      refine hK.out _ _ (⟨cellB HSM.out (Nat.le_refl _) hS.1, cellB HSM.out (Nat.le_refl _) hS.2⟩) (fun hS => ?_)
      clear hK K
      try simp only [Act.put, List.getElem_toArray, List.getElem_cons_succ, List.getElem_cons_zero, List.setIfInBounds_toArray, List.set_cons_zero, List.set_cons_succ]
      refine wpAnyH_done (by kernel_rfl) ?_ _
      refine NoPanic.normal ?_
      obtain ⟨P, hN8, hA8, hE8', hB8, hS8, hq8⟩ := HEM8.out
      obtain ⟨QP, qp, rfl⟩ := Kd.N_slice hN8
      have hPlt : ∀ q, (Value.slice QP pg4.length qp).ownBlock = some q → q < w8.heap.size := Kd.N_lt hN8
      have hTlt : ∀ q, (Value.slice TA own.length tc).ownBlock = some q → q < w8.heap.size := Kd.R_lt HR8.out
      have hb811 : Below w8.heap.size w8 (w10.setCell ⟨b + 1 + 1 + 1 + 1, 0, none⟩ (.int .i64 0)) := HB10.out.trans (HSM.out.mono HB10.out.size)
      have HN11 := Aside0.mk (Kd.N_below hN8 hb811)
      have HA11 := Aside0.mk (hA8.below hb811)
      have HE11 := Aside0.mk (hE8'.below hb811)
      have HB11 := Aside0.mk (hB8.trans (hb811.mono (by omega)))
      have HS11 := Aside0.mk (show g + 1 ≤ w8.heap.size from hS8)
      have HW11 := Aside0.mk hb811
      have HPL := Aside0.mk hPlt
      have HTL := Aside0.mk hTlt
      have HQ8 := Aside0.mk hq8
      have HR11 := Aside0.mk (Kd.R_below HR8.out hb811)
      have HU11 := Aside0.mk (Kd.N_below HU.out HSM.out)
      have q2 : (w10.setCell ⟨b + 1 + 1 + 1 + 1, 0, none⟩ (.int .i64 0)).cell? ⟨b + 1 + 1 + 1 + 1, 0, none⟩ = some (.int .i64 0) := World.cell?_setCell_same _ _ _ q0
      obtain ⟨w11, hw11⟩ : ∃ w11, w10.setCell ⟨b + 1 + 1 + 1 + 1, 0, none⟩ (.int .i64 0) = w11 := ⟨_, rfl⟩
      rw [hw11] at HN11 HA11 HE11 HB11 HW11 HR11 HU11 q2 ⊢
      have hq3 : ∀ p ∈ ps, 0 ≤ p.no ∧ p.no < m4 := HIX.out
      have HQ3 := Aside0.mk hq3
      have hpsl : ps.length ≤ 1000000 := by rw [← HPS.out]; unfold listPg; rw [z3h, z1y]; have h1 := HBD.out; have h2 := HKK.out; omega
      clear hq3 hw11 q0 q1 he10 hS v1 v4 HSM hN8 hA8 hE8' hB8 hS8 hq8 hPlt hTlt hb811 HLP hb10 HIX
      go_upto_region 25 with (first
       | (go_at_call 53; refine (z3j _).mono ?_; rintro e w' ⟨rfl, rfl⟩))
      go_loopw [154] (fun i wr => ∃ k : Nat, k ≤ ps.length ∧ i = .int .i64 k ∧ Aside0 (Kd.N k89 89 wr b (fun q => q ≠ g ∧ offT b (.slice TA own.length tc) q) (.slice QP pg4.length qp) (layTo k ps pg4)) ∧ Aside0 (AccX (offT b (.slice TA own.length tc)) wr g (.slice QP pg4.length qp) l4) ∧ Aside0 (EndC wr b #[.slice PA pg.length pc, .slice FA free.length fc, .slice RA rn rc, .slice GA gone.length gc, .int .i64 ver, .int .i64 tree]) ∧ Aside0 (Below b w wr) ∧ Aside0 (w8.heap.size ≤ wr.heap.size) ∧ Aside0 ((Kd.int .i64).R 3 wr (b + 5) (fun q => q ≠ g) (.slice TA own.length tc) own) ∧ Aside0 (Kd.N k89 89 wr w8.drew.heap.size (fun q => w8.drew.heap.size ≤ q) (.slice UA ps.length uc) ps))
       (fun i _ => ps.length - (intOf i).toNat)
      case atStart => exact ⟨0, Nat.zero_le _, rfl, HN11, HA11, HE11, HB11, ⟨HW11.out.size⟩, HR11, HU11⟩
      case round =>
       clear HN11 HA11 HE11 HB11 HW11 HR11 HU11 HU HEM8 HR8 HE8 HEM HR
       obtain ⟨k, hk, rfl, HN, HA, HE, HB, HS, HR, HU⟩ := hrel
       by_cases hlt : k < ps.length
       ·have HLT := Aside0.mk hlt
        have hx := HQ3.out ps[k] (List.getElem_mem hlt)
        have hgd : ps.getD (k : Int).toNat z89 = ps[k] := by rw [Int.toNat_natCast]; simp [hlt]
        have HZS := Lib.hid (z6o k ps pg4 hlt)
        obtain ⟨x, hxx⟩ : ∃ x, ps[k] = x := ⟨_, rfl⟩
        rw [hxx] at hx hgd HZS
        have hlen : (layTo k ps pg4).length = pg4.length := z36 _ _
        have hm4 := HL4.out
        obtain ⟨q, qp', hve, hbq, hqs, _⟩ := Kd.N_form HN.out (by rw [hlen]; omega)
        rw [hlen] at hve
        injection hve with e1 _ e2
        subst e1 e2
        obtain ⟨ug, uc', hue, hub, hus, _⟩ := Kd.N_form HU.out (by omega)
        injection hue with e1 _ e2
        subst e1 e2
        obtain ⟨c1, hcl1, hFK1, hcc1, _⟩ := Kd.N_elem HU.out z89 (k : Int) (by omega) (by omega)
        rw [hgd] at hFK1
        obtain ⟨A1, c2, rfl, hl1, hF1⟩ := z1s hFK1
        have u0 := hcc1 0 _ rfl
        have u1 := hcc1 1 _ rfl
        have u2 := hcc1 2 _ rfl
        have u3 := hcc1 3 _ rfl
        have u4 := hcc1 4 _ rfl
        have u5 := hcc1 5 _ rfl
        have u6 := hcc1 6 _ rfl
        have u7 := hcc1 7 _ rfl
        have u8 := hcc1 8 _ rfl
        have u9 := hcc1 9 _ rfl
        simp only [Int.toNat_natCast, z1x, Nat.add_zero] at u0 u1 u2 u3 u4 u5 u6 u7 u8 u9
        go_upto_region 27 with (fail)
        have hbk := z0l wr (.cells #[.int .i64 x.kind, .int .i64 x.no, .int .i64 x.ver, .int .i64 x.tree, .int .i64 x.level, .bool x.top, .slice x.ent.1 x.ent.2.1 x.ent.2.2, .int .i64 x.next, .string x.data, .slice A1 x.freed.length c2] 89)
        have hb1 := z0i wr (.cells #[.int .i64 x.kind, .int .i64 x.no, .int .i64 x.ver, .int .i64 x.tree, .int .i64 x.level, .bool x.top, .slice x.ent.1 x.ent.2.1 x.ent.2.2, .int .i64 x.next, .string x.data, .slice A1 x.freed.length c2] 89)
        obtain ⟨B, hBe⟩ : ∃ B, wr.heap.size = B := ⟨_, rfl⟩
        obtain ⟨W1, hW1⟩ : ∃ W1, wr.alloc (.cells #[.int .i64 x.kind, .int .i64 x.no, .int .i64 x.ver, .int .i64 x.tree, .int .i64 x.level, .bool x.top, .slice x.ent.1 x.ent.2.1 x.ent.2.2, .int .i64 x.next, .string x.data, .slice A1 x.freed.length c2] 89) = W1 := ⟨_, rfl⟩
        rw [hW1] at hbk hb1 ⊢
        have HN1 := Aside0.mk (Kd.N_below HN.out hb1)
        have HA1 := Aside0.mk (HA.out.below hb1)
        have HE1 := Aside0.mk (HE.out.below hb1)
        have HB1 := Aside0.mk (HB.out.trans (hb1.mono (by have h1 := HS.out; have h2 := HS11.out; omega)))
        have HS1 := Aside0.mk (Nat.le_trans HS.out hb1.size)
        have HR1 := Aside0.mk (Kd.R_below HR.out hb1)
        have HU1 := Aside0.mk (Kd.N_below HU.out hb1)
        have HFX : Aside0 (Kd.FK k89 W1.drew (fun y => w8.drew.heap.size ≤ y) x (cells89 x A1 c2)) := ⟨z2g _ _ x hl1 (Kd.F_drew (Kd.F_below (Kd.F_mono hF1 (fun y hy => hy.1)) hb1))⟩
        rw [hBe] at hbk ⊢
        have hBk : W1.heap[B]? = some (.cells #[.int .i64 x.kind, .int .i64 x.no, .int .i64 x.ver, .int .i64 x.tree, .int .i64 x.level, .bool x.top, .slice x.ent.1 x.ent.2.1 x.ent.2.2, .int .i64 x.next, .string x.data, .slice A1 x.freed.length c2] 89 (0, 0)) := hbk
        have hqg : q ≠ g := (HN.out.1 q (by simp [Value.ownBlock])).1
        have hq8 := HPL.out q (by simp [Value.ownBlock])
        have hq5 := HQ8.out q (by simp [Value.ownBlock])
        have hqT := (HN.out.1 q (by simp [Value.ownBlock])).2.1
        have HGQ := Aside0.mk (show g ≠ q from fun e => hqg e.symm)
        have HBQ := Aside0.mk (show B ≠ q by have h1 := HS.out; omega)
        have HOK := Aside0.mk (show ∀ y, w8.drew.heap.size ≤ y → (y ≠ g ∧ offT b (.slice TA own.length tc) y) ∧ y ≠ q from fun y hy => by
         have h1 : w8.heap.size ≤ y := hy
         have h2 := HS11.out
         exact ⟨⟨by omega, fun e => by have h3 := HTL.out y e.symm; omega, .inr (by omega)⟩, by omega⟩)
        have HQT := Aside0.mk hqT
        have HQ5 := Aside0.mk hq5
        have HQL := Aside0.mk hq8
        have hxl : x.no < (pg4.length : Int) := by omega
        have HX0 := Aside0.mk hx.1
        have HXL := Aside0.mk hxl
        obtain ⟨cs, hcl, hFK, hcc, hfr⟩ := Kd.N_elem HN1.out z89 x.no HX0.out HXL.out
        obtain ⟨A8, c8, rfl, _, _⟩ := z1s hFK
        have HCC := Aside0.mk hcc
        obtain ⟨A9, c9, hb9, hc9, hF9⟩ := HA1.out
        have y0 : W1.cell? ⟨g, 0, none⟩ = some (.slice (some ⟨q, 0, none⟩) pg4.length qp) := (z0a hb9 0).trans rfl
        have hx0 := HX0.out
        clear hW1 hBe hbk hb1 hqg hq8 hq5 hqT hFK hcc hfr hb9 hc9 hF9 u0 u1 u2 u3 u4 u5 u6 u7 u8 u9 hFK1 hcc1 hl1 hF1 hxx hgd hx hm4 hlen
        refine wp_region_noPanic ?_
        refine wp_region_held_drew (S := fun W => W.cell? ⟨g, 0, none⟩ = some (.slice (some ⟨q, 0, none⟩) pg4.length qp) ∧ W.heap[B]? = some (.cells #[.int .i64 x.kind, .int .i64 x.no, .int .i64 x.ver, .int .i64 x.tree, .int .i64 x.level, .bool x.top, .slice x.ent.1 x.ent.2.1 x.ent.2.2, .int .i64 x.next, .string x.data, .slice A1 x.freed.length c2] 89 (0, 0))) (by kernel_rfl) (⟨y0, hBk⟩) (fun hS => ?_)
        simp only [List.size_toArray, List.length_cons, List.length_nil, Nat.reduceAdd, Array.replicate_succ, Array.replicate_zero, List.push_toArray, List.nil_append, List.cons_append]
        refine z0b (i := 0) 158 (.pointer (some ⟨g, 0, none⟩)) rfl rfl (by kernel_rfl) (by kernel_rfl) (by kernel_rfl) (fun _ _ _ h => h) (Or.inl ⟨by rfl, fun W hW => by go_simp⟩) hS ?_
        try simp only [List.setIfInBounds_toArray, List.set_cons_zero, List.set_cons_succ]
        refine z0b (i := 1) 159 (.pointer (some ⟨g, 0, none⟩)) rfl rfl (by kernel_rfl) (by kernel_rfl) (by kernel_rfl) (fun _ _ _ h => h) (Or.inl ⟨by rfl, fun W hW => by go_simp⟩) hS ?_
        try simp only [List.setIfInBounds_toArray, List.set_cons_zero, List.set_cons_succ]
        refine z0b (i := 2) 160 (.pointer (some ⟨g, 0, none⟩)) rfl rfl (by kernel_rfl) (by kernel_rfl) (by kernel_rfl) (fun _ _ _ h => h) (Or.inl ⟨by rfl, fun W hW => by go_simp⟩) hS ?_
        try simp only [List.setIfInBounds_toArray, List.set_cons_zero, List.set_cons_succ]
        refine z0b (i := 3) 161 (.slice (some ⟨q, 0, none⟩) pg4.length qp) rfl rfl (by kernel_rfl) (by kernel_rfl) (by kernel_rfl) (fun _ _ _ h => h) (Or.inl ⟨by rfl, fun W hW => by have h0 := hW.1; go_simp⟩) hS ?_
        try simp only [List.setIfInBounds_toArray, List.set_cons_zero, List.set_cons_succ]
        refine z0b (i := 4) 162 (.pointer (some ⟨B, 1, none⟩)) rfl rfl (by kernel_rfl) (by kernel_rfl) (by kernel_rfl) (fun _ _ _ h => h) (Or.inl ⟨by rfl, fun W hW => by go_simp⟩) hS ?_
        try simp only [List.setIfInBounds_toArray, List.set_cons_zero, List.set_cons_succ]
        refine z0b (i := 5) 163 (.int .i64 x.no) rfl rfl (by kernel_rfl) (by kernel_rfl) (by kernel_rfl) (fun _ _ _ h => h) (Or.inl ⟨by rfl, fun W hW => by have h0 : W.cell? ⟨B, 1, none⟩ = some (.int .i64 x.no) := (z0a hW.2 1).trans rfl; go_simp⟩) hS ?_
        try simp only [List.setIfInBounds_toArray, List.set_cons_zero, List.set_cons_succ]
        refine z0b (i := 6) 164 (.agg #[.int .i64 x.kind, .int .i64 x.no, .int .i64 x.ver, .int .i64 x.tree, .int .i64 x.level, .bool x.top, .slice x.ent.1 x.ent.2.1 x.ent.2.2, .int .i64 x.next, .string x.data, .slice A1 x.freed.length c2]) rfl rfl (by kernel_rfl) (by kernel_rfl) (by kernel_rfl) (fun _ _ _ h => h) (Or.inl ⟨by rfl, fun W hW => by have h0 := z0a hW.2 0; have h1 := z0a hW.2 1; have h2 := z0a hW.2 2; have h3 := z0a hW.2 3; have h4 := z0a hW.2 4; have h5 := z0a hW.2 5; have h6 := z0a hW.2 6; have h7 := z0a hW.2 7; have h8 := z0a hW.2 8; have h9 := z0a hW.2 9; go_simp⟩) hS ?_
        try simp only [List.setIfInBounds_toArray, List.set_cons_zero, List.set_cons_succ]
        refine z0b (i := 7) 165 (.pointer (some ⟨q, x.no.toNat * 10, none⟩)) rfl rfl (by kernel_rfl) (by kernel_rfl) (by kernel_rfl) (fun _ _ _ h => h) (Or.inl ⟨by rfl, fun W hW => by go_simp⟩) hS ?_
        try simp only [List.setIfInBounds_toArray, List.set_cons_zero, List.set_cons_succ]
        refine wpAnyH_ready (rs := [8]) (by kernel_rfl) (by simp) ?_
        refine AllReadyH.cons rfl (fun K hK => ?_) AllReadyH.nil
        rw [if_pos (by rfl)]
        refine z6p k89 (w0 := w) b rfl 89 (.tmp 165) (.tmp 164) rfl 89 x.no 0 (layTo k ps pg4) x (.agg #[.int .i64 x.kind, .int .i64 x.no, .int .i64 x.ver, .int .i64 x.tree, .int .i64 x.level, .bool x.top, .slice x.ent.1 x.ent.2.1 x.ent.2.2, .int .i64 x.next, .string x.data, .slice A1 x.freed.length c2]) [.int .i64 x.kind, .int .i64 x.no, .int .i64 x.ver, .int .i64 x.tree, .int .i64 x.level, .bool x.top, .slice x.ent.1 x.ent.2.1 x.ent.2.2, .int .i64 x.next, .string x.data, .slice A1 x.freed.length c2] (cells89 _ A8 c8) (fun y => y ≠ g ∧ offT b (.slice TA own.length tc) y) (fun y => w8.drew.heap.size ≤ y) rfl rfl rfl rfl h89 (by simp [Value.oneCell']) (Kd.N_drew HN1.out) HX0.out HXL.out hcl HCC.out (by show 0 + 10 ≤ 10; omega) (by exact HFX.out) HOK.out HB1.out.drew ?_
        intro w4 hn4 hb4 hg4
        refine hK.out _ _ (⟨cell_grown hg4 hS.1 (fun e => HGQ.out (by injection e)), z1t hS.2 hg4 (fun e => HBQ.out (by injection e))⟩) (fun hS => ?_)
        clear hK K
        try simp only [Act.put, List.getElem_toArray, List.getElem_cons_succ, List.getElem_cons_zero, List.setIfInBounds_toArray, List.set_cons_zero, List.set_cons_succ]
        refine wpAnyH_done (by kernel_rfl) ?_ _
        refine NoPanic.normal ?_
        have HN4 := Aside0.mk hn4
        have HB4 := Aside0.mk hb4
        have HA4 := Aside0.mk (show AccX (offT b (.slice TA own.length tc)) w4 g (.slice (some ⟨q, 0, none⟩) pg4.length qp) l4 by
         obtain ⟨A9, c9, hb9, hc9, hF9⟩ := HA1.out
         exact ⟨A9, c9, (hg4.block g (z0w hb9) (fun e => HGQ.out (by injection e))).trans hb9, hc9, Kd.F_grown (Kd.F_drew hF9) hg4 (fun y hy e => hy.1.2 (by simpa [Value.ownBlock] using e))⟩)
        have HE4 := Aside0.mk (show EndC w4 b #[.slice PA pg.length pc, .slice FA free.length fc, .slice RA rn rc, .slice GA gone.length gc, .int .i64 ver, .int .i64 tree] from HE1.out.keep fun y _ h5 hy => hg4.block y hy (fun e => by injection e with e; have := HQ5.out; omega))
        have HS4 := Aside0.mk (Nat.le_trans HS1.out hg4.size)
        have HR4 := Aside0.mk (R_off (Kd.R_drew HR1.out) (fun y h1 h2 h3 => hg4.block y h1 (fun e => h3 (by injection e with e; rw [e]; exact HQT.out))))
        have HU4 := Aside0.mk (Kd.N_grown (Kd.N_drew HU1.out) hg4 (fun y hy e => by injection e with e; have h1 : w8.heap.size ≤ y := hy; have h2 := HQL.out; omega))
        clear hn4 hb4 hg4 hS y0 hBk hcl
        go_wp2
        go_roundw
        case rel => exact ⟨k + 1, by have h1 := HLT.out; omega, by go_num, ⟨by rw [HZS.out]; exact HN4.out⟩, HA4, HE4, HB4, HS4, HR4, HU4⟩
        case measure => have h1 := HLT.out; simp [intOf]; omega
       ·obtain rfl : k = ps.length := by omega
        have hN5 := HN.out
        unfold layTo at hN5
        rw [List.take_length] at hN5
        have HN5 := Aside0.mk hN5
        clear hN5 HN
        have hN5' := HN5.out
        have hT0 : EndT w b g #[.slice PA pg.length pc, .slice FA free.length fc, .slice RA rn rc, .slice GA gone.length gc, .int .i64 ver, .int .i64 tree] #[.slice none 0 0, .slice none 0 0, .slice none 0 0, .slice none 0 0, .int .i64 0, .int .i64 0] (.int .i64 0) (.slice none 0 0) (.slice QP pg4.length qp) (layAll ps pg4) l4 wr := ⟨Kd.N_mono HN5.out (fun k hk => ⟨hk.1, hk.2.2⟩), HA.out.mono (fun k hk => hk.2), HE.out.s, HB.out, by have h1 := HS.out; have h2 := HS11.out; omega, hbg5, HQ8.out⟩
        have HT0 := Aside0.mk hT0
        have y2 : wr.cell? ⟨b + 1 + 1, 0, none⟩ = some (.int .i64 0) := (z0a hT0.2.2.1.2.2.1 0).trans rfl
        have z2 := z0d hT0.2.2.1.2.2.1 0
        clear hT0 hN5' HN5 HA HE HB HU
        go_upto_if 169 with (fail)
        go_cut [] from 167 (fun wx => EndT w b g #[.slice PA pg.length pc, .slice FA free.length fc, .slice RA rn rc, .slice GA gone.length gc, .int .i64 ver, .int .i64 tree] #[.slice none 0 0, .slice none 0 0, .slice none 0 0, .slice none 0 0, .int .i64 0, .int .i64 0] (.int .i64 hd) (.slice none 0 0) (.slice QP pg4.length qp) (layAll ps pg4) l4 wx)
        case first =>
         by_cases h0 : 0 < own.length
         ·obtain ⟨_, _, hCT⟩ := Kd.R_reads' HR.out
          obtain ⟨ad, had, hxc⟩ := Kd.at_int hCT 0 (by omega) (by omega)
          subst had
          rw [show ad.add (0 : Int).toNat = ad from z09 ad, show rd own 0 = hd by rw [← HHD.out]; cases own with | nil => simp at h0 | cons p t => rfl] at hxc
          clear hCT
          go_wp2
          go_meet
          case rel => exact HT0.out.set2 _
         ·have hh0 := Lib.hid (show hd = 0 by rw [← HHD.out, List.length_eq_zero_iff.1 (show own.length = 0 by omega)]; rfl)
          go_wp2
          go_meet
          case rel => rw [hh0.out]; exact HT0.out
        case rest =>
         clear y2 z2 HT0 HR HS
         obtain ⟨A7, c7, hb7, _, _⟩ := hcut.2.1
         have hEL : EndL b g (.slice QP pg4.length qp) (.slice A7 l4.length c7) (.int .i64 ver) (.int .i64 tree) (.int .i64 hd) wc.drew := ⟨(z0a hb7 0).trans rfl, (z0a hb7 1).trans rfl, (z0a hcut.2.2.1.1 4).trans rfl, (z0a hcut.2.2.1.1 5).trans rfl, (z0a hcut.2.2.1.2.2.1 0).trans rfl⟩
         have HT := Aside0.mk (hcut.below (z0e (Below.refl _ wc)))
         have HSL4 := Aside0.mk HSML.out
         clear hb7 hcut
         go_upto_region 31 with (fail)
         go_cut [] from 173 (fun wx => ∃ LA lc, EndT w b g #[.slice PA pg.length pc, .slice FA free.length fc, .slice RA rn rc, .slice GA gone.length gc, .int .i64 ver, .int .i64 tree] #[.slice QP pg4.length qp, .slice none 0 0, .slice none 0 0, .slice none 0 0, .int .i64 ver, .int .i64 tree] (.int .i64 hd) (.slice LA l4.length lc) (.slice QP pg4.length qp) (layAll ps pg4) l4 wx ∧ EndV b (.slice LA l4.length lc) l4 wx)
         case first =>
          refine wp_region_noPanic ?_
          refine wp_region_held_drew (S := EndL b g (.slice QP pg4.length qp) (.slice A7 l4.length c7) (.int .i64 ver) (.int .i64 tree) (.int .i64 hd)) (by kernel_rfl) (hEL) (fun hS => ?_)
          simp only [List.size_toArray, List.length_cons, List.length_nil, Nat.reduceAdd, Array.replicate_succ, Array.replicate_zero, List.push_toArray, List.nil_append, List.cons_append]
          refine z0b (i := 0) 173 (.pointer (some ⟨g, 0, none⟩)) rfl rfl (by kernel_rfl) (by kernel_rfl) (by kernel_rfl) (fun _ _ _ h => h) (Or.inl ⟨by rfl, fun W hW => by go_simp⟩) hS ?_
          try simp only [List.setIfInBounds_toArray, List.set_cons_zero, List.set_cons_succ]
          refine z0b (i := 1) 174 (.pointer (some ⟨g, 0, none⟩)) rfl rfl (by kernel_rfl) (by kernel_rfl) (by kernel_rfl) (fun _ _ _ h => h) (Or.inl ⟨by rfl, fun W hW => by go_simp⟩) hS ?_
          try simp only [List.setIfInBounds_toArray, List.set_cons_zero, List.set_cons_succ]
          refine z0b (i := 2) 175 (.pointer (some ⟨g, 0, none⟩)) rfl rfl (by kernel_rfl) (by kernel_rfl) (by kernel_rfl) (fun _ _ _ h => h) (Or.inl ⟨by rfl, fun W hW => by go_simp⟩) hS ?_
          try simp only [List.setIfInBounds_toArray, List.set_cons_zero, List.set_cons_succ]
          refine z0b (i := 3) 176 (.slice QP pg4.length qp) rfl rfl (by kernel_rfl) (by kernel_rfl) (by kernel_rfl) (fun _ _ _ h => h) (Or.inl ⟨by rfl, fun W hW => by have h0 := hW.1; go_simp⟩) hS ?_
          try simp only [List.setIfInBounds_toArray, List.set_cons_zero, List.set_cons_succ]
          refine z0b (i := 4) 177 (.pointer (some ⟨b, 4, none⟩)) rfl rfl (by kernel_rfl) (by kernel_rfl) (by kernel_rfl) (fun _ _ _ h => h) (Or.inl ⟨by rfl, fun W hW => by go_simp⟩) hS ?_
          try simp only [List.setIfInBounds_toArray, List.set_cons_zero, List.set_cons_succ]
          refine z0b (i := 5) 178 (.int .i64 ver) rfl rfl (by kernel_rfl) (by kernel_rfl) (by kernel_rfl) (fun _ _ _ h => h) (Or.inl ⟨by rfl, fun W hW => by have h0 := hW.2.2.1; go_simp⟩) hS ?_
          try simp only [List.setIfInBounds_toArray, List.set_cons_zero, List.set_cons_succ]
          refine z0b (i := 6) 179 (.pointer (some ⟨b, 5, none⟩)) rfl rfl (by kernel_rfl) (by kernel_rfl) (by kernel_rfl) (fun _ _ _ h => h) (Or.inl ⟨by rfl, fun W hW => by go_simp⟩) hS ?_
          try simp only [List.setIfInBounds_toArray, List.set_cons_zero, List.set_cons_succ]
          refine z0b (i := 7) 180 (.int .i64 tree) rfl rfl (by kernel_rfl) (by kernel_rfl) (by kernel_rfl) (fun _ _ _ h => h) (Or.inl ⟨by rfl, fun W hW => by have h0 := hW.2.2.2.1; go_simp⟩) hS ?_
          try simp only [List.setIfInBounds_toArray, List.set_cons_zero, List.set_cons_succ]
          refine z0b (i := 8) 181 (.int .i64 hd) rfl rfl (by kernel_rfl) (by kernel_rfl) (by kernel_rfl) (fun _ _ _ h => h) (Or.inl ⟨by rfl, fun W hW => by have h0 := hW.2.2.2.2; go_simp⟩) hS ?_
          try simp only [List.setIfInBounds_toArray, List.set_cons_zero, List.set_cons_succ]
          refine z0b (i := 9) 182 (.pointer (some ⟨g, 0, none⟩)) rfl rfl (by kernel_rfl) (by kernel_rfl) (by kernel_rfl) (fun _ _ _ h => h) (Or.inl ⟨by rfl, fun W hW => by go_simp⟩) hS ?_
          try simp only [List.setIfInBounds_toArray, List.set_cons_zero, List.set_cons_succ]
          refine z0b (i := 10) 183 (.pointer (some ⟨g, 0, none⟩)) rfl rfl (by kernel_rfl) (by kernel_rfl) (by kernel_rfl) (fun _ _ _ h => h) (Or.inl ⟨by rfl, fun W hW => by go_simp⟩) hS ?_
          try simp only [List.setIfInBounds_toArray, List.set_cons_zero, List.set_cons_succ]
          refine z0b (i := 11) 184 (.pointer (some ⟨g, 1, none⟩)) rfl rfl (by kernel_rfl) (by kernel_rfl) (by kernel_rfl) (fun _ _ _ h => h) (Or.inl ⟨by rfl, fun W hW => by go_simp⟩) hS ?_
          try simp only [List.setIfInBounds_toArray, List.set_cons_zero, List.set_cons_succ]
          refine z0b (i := 12) 185 (.pointer (some ⟨g, 1, none⟩)) rfl rfl (by kernel_rfl) (by kernel_rfl) (by kernel_rfl) (fun _ _ _ h => h) (Or.inl ⟨by rfl, fun W hW => by go_simp⟩) hS ?_
          try simp only [List.setIfInBounds_toArray, List.set_cons_zero, List.set_cons_succ]
          refine z0b (i := 13) 186 (.slice A7 l4.length c7) rfl rfl (by kernel_rfl) (by kernel_rfl) (by kernel_rfl) (fun _ _ _ h => h) (Or.inl ⟨by rfl, fun W hW => by have h0 := hW.2.1; go_simp⟩) hS ?_
          try simp only [List.setIfInBounds_toArray, List.set_cons_zero, List.set_cons_succ]
          refine wpAnyH_ready (rs := [14]) (by kernel_rfl) (by simp) ?_
          refine AllReadyH.cons rfl (fun K hK => ?_) AllReadyH.nil
          go_simp
          refine (HT.out.merge hS.2.1 HSL4.out).mono ?_
          rintro e w12 ⟨v12, rfl, hv12, hb12⟩
          obtain ⟨RA7, rc7, rfl⟩ := Kd.N_slice hv12
          refine hK.out _ _ (hS.below hb12) (fun hS => ?_)
          clear hK K
          have HLV : Aside0 (EndV b (.slice RA7 l4.length rc7) l4 w12) := ⟨hv12⟩
          replace HT := Aside0.mk (HT.out.below hb12)
          clear hv12 hb12
          try simp only [Act.put, List.getElem_toArray, List.getElem_cons_succ, List.getElem_cons_zero, List.setIfInBounds_toArray, List.set_cons_zero, List.set_cons_succ]
          refine wpAnyH_ready (rs := [15]) (by kernel_rfl) (by simp) ?_
          refine AllReadyH.cons rfl (fun K hK => ?_) AllReadyH.nil
          have hcb := HT.out.2.2.1.2.1
          have yc0 := z0a hcb 0
          have yc1 := z0a hcb 1
          have yc2 := z0a hcb 2
          have yc3 := z0a hcb 3
          have yc4 := z0a hcb 4
          have yc5 := z0a hcb 5
          have zc0 := z0d hcb 0
          have zc1 := z0d hcb 1
          have zc2 := z0d hcb 2
          have zc3 := z0d hcb 3
          have zc4 := z0d hcb 4
          have zc5 := z0d hcb 5
          go_simp
          refine hK.out _ _ (hS.below (z37 hcb)) (fun hS => ?_)
          clear hK K
          refine z2i (HT.out.below (z37 hcb)) (HLV.out.below (z37 hcb)) hS ?_
          clear hS
          intro Wn ht hl hS
          replace HT := Aside0.mk ht
          replace HLV := Aside0.mk hl
          clear ht hl
          clear hcb yc0 zc0 yc1 zc1 yc2 zc2 yc3 zc3 yc4 zc4 yc5 zc5
          try simp only [Act.put, List.getElem_toArray, List.getElem_cons_succ, List.getElem_cons_zero, List.setIfInBounds_toArray, List.set_cons_zero, List.set_cons_succ]
          refine z0b (i := 16) 188 (.pointer (some ⟨b + 1, 0, none⟩)) rfl rfl (by kernel_rfl) (by kernel_rfl) (by kernel_rfl) (fun _ _ _ h => h) (Or.inl ⟨by rfl, fun W hW => by go_simp⟩) hS ?_
          try simp only [List.setIfInBounds_toArray, List.set_cons_zero, List.set_cons_succ]
          refine wpAnyH_ready (rs := [17]) (by kernel_rfl) (by simp) ?_
          refine AllReadyH.cons rfl (fun K hK => ?_) AllReadyH.nil
          have hcb := HT.out.2.2.1.2.1
          have yc := z0a hcb 0
          have zc := z0d hcb 0
          go_simp
          refine hK.out _ _ (hS.far ⟨b + 1, 0, none⟩ _ (by show b + 1 ≠ g; omega) (by show b + 1 ≠ b; omega) (by show b + 1 ≠ b + 1 + 1; omega)) (fun hS => ?_)
          clear hK K
          refine z2i (HT.out.set1 0 _ #[.slice QP pg4.length qp, .slice none 0 0, .slice none 0 0, .slice none 0 0, .int .i64 0, .int .i64 0] rfl) (HLV.out.far ⟨b + 1, 0, none⟩ _ (by show b + 1 < b + 5; omega)) hS ?_
          clear hS
          intro Wn ht hl hS
          replace HT := Aside0.mk ht
          replace HLV := Aside0.mk hl
          clear ht hl
          clear hcb yc zc
          try simp only [Act.put, List.getElem_toArray, List.getElem_cons_succ, List.getElem_cons_zero, List.setIfInBounds_toArray, List.set_cons_zero, List.set_cons_succ]
          refine z0b (i := 18) 189 (.pointer (some ⟨b + 1, 4, none⟩)) rfl rfl (by kernel_rfl) (by kernel_rfl) (by kernel_rfl) (fun _ _ _ h => h) (Or.inl ⟨by rfl, fun W hW => by go_simp⟩) hS ?_
          try simp only [List.setIfInBounds_toArray, List.set_cons_zero, List.set_cons_succ]
          refine wpAnyH_ready (rs := [19]) (by kernel_rfl) (by simp) ?_
          refine AllReadyH.cons rfl (fun K hK => ?_) AllReadyH.nil
          have hcb := HT.out.2.2.1.2.1
          have yc := z0a hcb 4
          have zc := z0d hcb 4
          go_simp
          refine hK.out _ _ (hS.far ⟨b + 1, 4, none⟩ _ (by show b + 1 ≠ g; omega) (by show b + 1 ≠ b; omega) (by show b + 1 ≠ b + 1 + 1; omega)) (fun hS => ?_)
          clear hK K
          refine z2i (HT.out.set1 4 _ #[.slice QP pg4.length qp, .slice none 0 0, .slice none 0 0, .slice none 0 0, .int .i64 ver, .int .i64 0] rfl) (HLV.out.far ⟨b + 1, 4, none⟩ _ (by show b + 1 < b + 5; omega)) hS ?_
          clear hS
          intro Wn ht hl hS
          replace HT := Aside0.mk ht
          replace HLV := Aside0.mk hl
          clear ht hl
          clear hcb yc zc
          try simp only [Act.put, List.getElem_toArray, List.getElem_cons_succ, List.getElem_cons_zero, List.setIfInBounds_toArray, List.set_cons_zero, List.set_cons_succ]
          refine z0b (i := 20) 190 (.pointer (some ⟨b + 1, 5, none⟩)) rfl rfl (by kernel_rfl) (by kernel_rfl) (by kernel_rfl) (fun _ _ _ h => h) (Or.inl ⟨by rfl, fun W hW => by go_simp⟩) hS ?_
          try simp only [List.setIfInBounds_toArray, List.set_cons_zero, List.set_cons_succ]
          refine wpAnyH_ready (rs := [21]) (by kernel_rfl) (by simp) ?_
          refine AllReadyH.cons rfl (fun K hK => ?_) AllReadyH.nil
          have hcb := HT.out.2.2.1.2.1
          have yc := z0a hcb 5
          have zc := z0d hcb 5
          go_simp
          refine hK.out _ _ (hS.far ⟨b + 1, 5, none⟩ _ (by show b + 1 ≠ g; omega) (by show b + 1 ≠ b; omega) (by show b + 1 ≠ b + 1 + 1; omega)) (fun hS => ?_)
          clear hK K
          refine z2i (HT.out.set1 5 _ #[.slice QP pg4.length qp, .slice none 0 0, .slice none 0 0, .slice none 0 0, .int .i64 ver, .int .i64 tree] rfl) (HLV.out.far ⟨b + 1, 5, none⟩ _ (by show b + 1 < b + 5; omega)) hS ?_
          clear hS
          intro Wn ht hl hS
          replace HT := Aside0.mk ht
          replace HLV := Aside0.mk hl
          clear ht hl
          clear hcb yc zc
          try simp only [Act.put, List.getElem_toArray, List.getElem_cons_succ, List.getElem_cons_zero, List.setIfInBounds_toArray, List.set_cons_zero, List.set_cons_succ]
          refine wpAnyH_ready (rs := [22]) (by kernel_rfl) (by simp) ?_
          refine AllReadyH.cons rfl (fun K hK => ?_) AllReadyH.nil
          have hcb := HT.out.2.2.1.2.2.1
          have yc0 := z0a hcb 0
          have zc0 := z0d hcb 0
          go_simp
          refine hK.out _ _ (hS.below (z1z hcb)) (fun hS => ?_)
          clear hK K
          refine z2i (HT.out.below (z1z hcb)) (HLV.out.below (z1z hcb)) hS ?_
          clear hS
          intro Wn ht hl hS
          replace HT := Aside0.mk ht
          replace HLV := Aside0.mk hl
          clear ht hl
          clear hcb yc0 zc0
          try simp only [Act.put, List.getElem_toArray, List.getElem_cons_succ, List.getElem_cons_zero, List.setIfInBounds_toArray, List.set_cons_zero, List.set_cons_succ]
          refine wpAnyH_ready (rs := [23]) (by kernel_rfl) (by simp) ?_
          refine AllReadyH.cons rfl (fun K hK => ?_) AllReadyH.nil
          have hcb := HT.out.2.2.1.2.2.2.1
          have yc := z0a hcb 0
          have zc := z0d hcb 0
          go_simp
          refine hK.out _ _ (hS.far ⟨b + 1 + 1 + 1, 0, none⟩ _ (by show b + 1 + 1 + 1 ≠ g; omega) (by show b + 1 + 1 + 1 ≠ b; omega) (by show b + 1 + 1 + 1 ≠ b + 1 + 1; omega)) (fun hS => ?_)
          clear hK K
          refine z2i (HT.out.set3 _) (HLV.out.far ⟨b + 1 + 1 + 1, 0, none⟩ _ (by show b + 1 + 1 + 1 < b + 5; omega)) hS ?_
          clear hS
          intro Wn ht hl hS
          replace HT := Aside0.mk ht
          replace HLV := Aside0.mk hl
          clear ht hl
          clear hcb yc zc
          try simp only [Act.put, List.getElem_toArray, List.getElem_cons_succ, List.getElem_cons_zero, List.setIfInBounds_toArray, List.set_cons_zero, List.set_cons_succ]
          refine wpAnyH_ready (rs := [24]) (by kernel_rfl) (by simp) ?_
          refine AllReadyH.cons rfl (fun K hK => ?_) AllReadyH.nil
          have hcb := HT.out.2.2.1.2.2.2.2
          have yc0 := z0a hcb 0
          have zc0 := z0d hcb 0
          go_simp
          refine hK.out _ _ (hS.below (z1z hcb)) (fun hS => ?_)
          clear hK K
          refine z2i (HT.out.below (z1z hcb)) (HLV.out.below (z1z hcb)) hS ?_
          clear hS
          intro Wn ht hl hS
          replace HT := Aside0.mk ht
          replace HLV := Aside0.mk hl
          clear ht hl
          clear hcb yc0 zc0
          try simp only [Act.put, List.getElem_toArray, List.getElem_cons_succ, List.getElem_cons_zero, List.setIfInBounds_toArray, List.set_cons_zero, List.set_cons_succ]
          refine wpAnyH_done (by kernel_rfl) ?_ _
          refine NoPanic.normal ?_
          go_wp2
          go_meet
          case rel => exact ⟨RA7, rc7, HT.out, HLV.out⟩
         case rest =>
          obtain ⟨LA, lc, hT9, hL9⟩ := hcut
          have HT9 := Aside0.mk hT9
          have HL9 := Aside0.mk hL9
          clear hT9 hL9 HT hEL
          go_wp2
          refine leaves_cons (f := 43) (args := #[.pointer (some ⟨b + 1 + 1 + 1 + 1, 0, none⟩), .func (.func 44) #[] #[.pointer (some ⟨b + 1, 0, none⟩), .pointer (some ⟨b + 1 + 1, 0, none⟩), .pointer (some ⟨b + 1 + 1 + 1, 0, none⟩)]]) (by simp) (by simp [go_sem]) ?_
          refine (z35 _ _ _ _ _).mono ?_
          rintro e u' w2 ⟨rfl, rfl, rfl⟩
          have k1 := HT9.out.2.2.1.2.1
          have k2 := HT9.out.2.2.1.2.2.1
          have k3 := HT9.out.2.2.1.2.2.2.1
          have k4 := HT9.out.2.2.1.2.2.2.2
          have c10 : w2.cell? ⟨b + 1, 0, none⟩ = some (.slice QP pg4.length qp) := (z0a k1 0).trans rfl
          have c11 : w2.cell? ⟨b + 1, 1, none⟩ = some (.slice none 0 0) := (z0a k1 1).trans rfl
          have c12 : w2.cell? ⟨b + 1, 2, none⟩ = some (.slice none 0 0) := (z0a k1 2).trans rfl
          have c13 : w2.cell? ⟨b + 1, 3, none⟩ = some (.slice none 0 0) := (z0a k1 3).trans rfl
          have c14 : w2.cell? ⟨b + 1, 4, none⟩ = some (.int .i64 ver) := (z0a k1 4).trans rfl
          have c15 : w2.cell? ⟨b + 1, 5, none⟩ = some (.int .i64 tree) := (z0a k1 5).trans rfl
          have c20 : w2.cell? ⟨b + 1 + 1, 0, none⟩ = some (.int .i64 hd) := (z0a k2 0).trans rfl
          have c30 : w2.cell? ⟨b + 1 + 1 + 1, 0, none⟩ = some (.slice LA l4.length lc) := (z0a k3 0).trans rfl
          have c40 : w2.cell? ⟨b + 1 + 1 + 1 + 1, 0, none⟩ = some (.int .i64 0) := (z0a k4 0).trans rfl
          have HFIN : EndR w ver tree hd PF l4 (.returned (.tuple #[.agg #[.slice QP pg4.length qp, .slice none 0 0, .slice none 0 0, .slice none 0 0, .int .i64 ver, .int .i64 tree], .int .i64 hd, .slice LA l4.length lc, .int .i64 0])) w2 := by
           refine ⟨_, LA, lc, rfl, ?_, ?_, ?_⟩
           ·rw [← HPF.out, HPG4.out, HPS.out, hb]
            exact Kd.N_mono HT9.out.1 (fun _ _ => trivial)
           ·rw [hb]; exact Kd.N_mono HL9.out (fun _ _ => trivial)
           ·rw [hb]; exact HT9.out.2.2.2.1
          clear k1 k2 k3 k4
          show ∃ v, (results Tryz.f15 _).run Tryz.prog w2 = .ok v w2 ∧ EndA w ver tree (.ok (PF, hd, l4)) (.returned v) w2
          exact ⟨_, z6q _ w2 b _ _ _ _ _ _ _ _ _ rfl rfl rfl rfl c10 c11 c12 c13 c14 c15 c20 c30 c40, HFIN⟩
     ·have hln := (z4z (pg := pg3) HBD.out.1 (Nat.le_refl n)).1
      rcases hst : takeStep l n with _ | ⟨p, l', n'⟩
      ·have hx := HX7'.out (by rw [← HRU.out]; exact z6v hdn hst)
       subst hx
       have HST := Aside0.mk hst
       have HLN := Lib.hid hln
       clear hst hln
       go_upto_region 21 with (first
        | (go_at_call 33; (refine HNE.out.mono ?_); rintro e w8 ⟨rfl, hb8⟩)
        | (go_at_call 53; refine (z3j _).mono ?_; rintro e w' ⟨rfl, rfl⟩))
       have HEM8 := Aside0.mk (HEM.out.below (by omega) hb8)
       have HT := Aside0.mk (take_none w8 HEM8.out (by rw [HLN.out]; exact HST.out) (z1r HF.out) (by rw [HLN.out]; have h := HBD.out; omega))
       have HFa : Aside0 (EndF b w #[.slice PA pg.length pc, .slice FA free.length fc, .slice RA rn rc, .slice GA gone.length gc, .int .i64 ver, .int .i64 tree] w8) := ⟨by obtain ⟨_, _, _, h9, h10, h11, _⟩ := HEM8.out; exact ⟨h10, h9, by omega⟩⟩
       clear v1 hb8
       go_wp2_with (go_at_call 54; (refine HT.out.mono ?_); rintro e w9 ⟨rfl, rfl⟩)
       exact z2k _ (by rfl) (by rfl) (by rfl) (by rfl) hb HFa.out
      have hru : takeRun j l' n' (own' ++ [p]) = r := by rw [← HRU.out]; exact (z6u hdn hst).symm
      have HRK' := Aside0.mk (show roundsL l' n' < j from by have h := z6r HF.out HTI.out.2.2.2.1 hst; have h' := HRK.out; omega)
      have HTI' := Aside0.mk (z41 HTI.out hst)
      clear hln HRK HTI
      have hkp := z4y hst HF.out HSM.out
      have hpg := z4z (pg := pg3) HBD.out.1 hkp.2.2.1
      have HRU' := Aside0.mk hru
      have HST := Aside0.mk hst
      have HKP := Aside0.mk hkp
      have HPG := Aside0.mk hpg
      clear hst hkp hpg hru
      go_upto_region 21 with (first
       | (go_at_call 33; (refine HNE.out.mono ?_); rintro e w8 ⟨rfl, hb8⟩)
       | (go_at_call 53; refine (z3j _).mono ?_; rintro e w' ⟨rfl, rfl⟩))
      have HR8 := Aside0.mk (Kd.R_below HR.out hb8)
      have HS8 := Aside0.mk (show b + 5 ≤ w8.heap.size by obtain ⟨_, _, _, _, _, h9, _⟩ := HEM.out; have h10 := hb8.size; omega)
      have HT := Aside0.mk (take_any w8 (HEM.out.below (by omega) hb8) hbg5 (fun q hq => ⟨fun e => by have h1 := Kd.R_lt HR8.out q e.symm; omega, .inr (by have h1 := HS8.out; omega)⟩) (by rw [HPG.out.1]; exact HST.out) (z1r HF.out) HSM.out)
      have hlk : ∀ q, (Value.slice TA own'.length tc).ownBlock = some q → b + 5 ≤ q ∧ q ≠ g := fun q hq => ⟨Kd.R_base HR.out q hq, HR.out.1 q hq⟩
      have HLK := Aside0.mk hlk
      clear hlk v1
      go_wp2_with (first
       | (go_at_call 54; (refine HT.out.mono ?_); rintro e w9 ⟨rfl, hm9, hk9, hs9⟩; rw [HPG.out.1, HPG.out.2] at hm9; have HM9 := Aside0.mk hm9; have HR9 := Aside0.mk (R_off HR8.out (fun k h1 h2 h3 => hk9 k h1 h2 (fun hx => h3 hx.1))); have HS9 := Aside0.mk (show b + 5 ≤ w9.heap.size by (obtain ⟨_, _, _, _, _, h9, _⟩ := hm9; omega)); have HG9 := Aside0.mk (show g < w9.heap.size by (obtain ⟨_, _, _, _, _, h9, _⟩ := hm9; omega)); clear hm9 hk9 hs9)
       | (at_builtin; refine Kd.R_append (Kd.int .i64) (w0 := w9) (b + 5) rfl (.tmp 133) (.tmp 136) 23 3 (.int .i64 0) 8 rfl Tryz.underlying23 info3 rfl (by decide) (by omega) (.slice TA own'.length tc) own' p [.int .i64 p] (fun q => q ≠ g) (fun _ => False) rfl rfl rfl (fun _ hk => hk.elim) (fun q hq e => by have h1 := HG9.out; omega) HR9.out (Below.refl _ _) HS9.out (by have h1 := HBD.out; have h2 := HKK.out; omega) ?_; intro v2 w3 hr3 hb3 hg3 hat3))
      have HM3 := Aside0.mk (HM9.out.grown hbg5 HLK.out hg3 hat3 hb3)
      have HR3 := Aside0.mk hr3
      clear hr3 hb3 hg3 hat3
      go_roundg j
      case measure => omega
      case rel => exact ⟨l', n', own' ++ [p], HRU', HRK', HTI', HR3, HM3, ⟨by have h1 := HBD.out; have h2 := HKP.out; omega, by have h1 := HBD.out; have h2 := HKP.out; omega, by have h1 := HBD.out; simp; omega⟩⟩
theorem size231 : (Tryz.prog.info? 231).map (fun i => i.size) = some 22 := by kernel_rfl
theorem load231 {W : World} {ad : Addr} {cs : List Value} (hl : cs.length = 22) (h : ∀ j v, cs[j]? = some v → W.cell? (ad.add j) = some v) : (loadVar 231 ad).run Tryz.prog W = .ok (.agg cs.toArray) W := by
 have h1 := run_loadCells_list (P := Tryz.prog) W ad cs h
 rw [hl] at h1
 have hagg : (isAgg 231).run Tryz.prog W = .ok true W := by simp [isAgg, run_underlying Tryz.underlying231]
 have hsz : (sizeOf 231).run Tryz.prog W = .ok 22 W := by kernel_rfl
 unfold loadVar
 simp only [Sem.run_bind, hagg, Result.andThen_ok, if_true, hsz, h1, Sem.run_pure]
theorem neq231 {xs : Array Value} {lx : Lit} (hk : keyOf Tryz.prog 231 (.agg xs) = some lx) (W : World) : (binOp .neq 231 (.agg xs) (.agg xs)).run Tryz.prog W = .ok (.bool false) W := by
 obtain ⟨r, hr, hiff⟩ := run_equal_deep (P := Tryz.prog) W (m := 5) (by omega) (k := 231) (by kernel_rfl) (by kernel_rfl) hk hk
 have : r = true := hiff.2 rfl
 subst this
 rw [run_neq_struct]
 have e : (Op.equalIn 10000 231 (.agg xs) (.agg xs)).run Tryz.prog W = .ok true W := hr
 rw [e]
 rfl
def EntOk (w : World) (e : Option Addr × Nat × Nat) : Prop := e.2.1 ≤ 1000000 ∧ ∀ i, i < e.2.1 → ∃ (ad : Addr) (cs : List Value) (lx : Lit), e.1 = some ad ∧ cs.length = 22 ∧ (∀ j v, cs[j]? = some v → w.cell? ((ad.add (i * 22)).add j) = some v) ∧ keyOf Tryz.prog 231 (.agg cs.toArray) = some lx
theorem EntOk.below {w w' : World} {e : Option Addr × Nat × Nat} (h : EntOk w e) (hb : Below w.heap.size w w') : EntOk w' e :=
 ⟨h.1, fun i hi => by
  obtain ⟨ad, cs, lx, h1, h2, h3, h4⟩ := h.2 i hi
  exact ⟨ad, cs, lx, h1, h2, fun j v hv => cellB hb (Nat.le_refl _) (h3 j v hv), h4⟩⟩
theorem z7l {o : Oper} {W : World} (ρ : Operand → Value) (x : Operand) (ho : o.op = .load 231 x) {ad : Addr} (hx : ρ x = .pointer (some ad)) {cs : List Value} (hl : cs.length = 22) (h : ∀ j v, cs[j]? = some v → W.cell? (ad.add j) = some v) :
  (execOp ρ o).run Tryz.prog W = .ok (.value (.agg cs.toArray)) W := by
 unfold execOp
 simp only [ho, hx, Instr.loadAt, Instr.sureAddr, Sem.run_bind, Sem.run_pure, Result.andThen_ok, load231 hl h]
theorem z91 {o : Oper} {W : World} (ρ : Operand → Value) (x y : Operand) (ho : o.op = .binOp .neq 231 x y 231) {xs : Array Value} {lx : Lit} (hx : ρ x = .agg xs) (hy : ρ y = .agg xs) (hk : keyOf Tryz.prog 231 (.agg xs) = some lx) :
  (execOp ρ o).run Tryz.prog W = .ok (.value (.bool false)) W := by
 have h1 := neq231 hk W
 unfold execOp
 simp [ho, hx, hy]
 rw [run_eqGuard_agg (P := Tryz.prog) W .neq 231 x y xs xs (by kernel_rfl), Result.andThen_ok, h1, Result.andThen_ok]
set_option maxRecDepth 100000 in
set_option maxHeartbeats 1000000 in
theorem z92 (e : Option Addr × Nat × Nat) (w : World) (h : EntOk w e) :
  Calls Tryz.prog 148 #[.slice e.1 e.2.1 e.2.2, .slice e.1 e.2.1 e.2.2] w fun r w' => r = .returned (.bool true) ∧ Below w.heap.size w w' := by
 obtain ⟨A, n, c⟩ := e
 have hn := h.1
 dsimp only at hn
 have HE := Aside0.mk h
 have HB0 := Aside0.mk (Below.refl w.heap.size w)
 clear h
 dsimp only
 go_enter Tryz.func148, Tryz.ntmps148
 go_upto_region 4 with (fail)
 go_loopw [5] (fun i wr => ∃ k : Nat, k ≤ n ∧ i = .int .i64 k ∧ Aside0 (Below w.heap.size w wr))
  (fun i _ => n - (intOf i).toNat)
 case atStart => exact ⟨0, Nat.zero_le _, rfl, HB0⟩
 case round =>
  clear HB0
  obtain ⟨k, hk, rfl, HB⟩ := hrel
  by_cases hlt : k < n
  ·obtain ⟨ad, cs, lx, had, hl, hc, hkey⟩ := (HE.out.below HB.out).2 k hlt
   dsimp only at had
   subst had
   have hsz : (Tryz.prog.info? 231).map (·.size) = some 22 := size231
   go_upto_region 6 with (fail)
   refine wp_region_noPanic ?_
   refine wp_region_held_drew (S := fun W => ∀ (j : Nat) (v : Value), cs[j]? = some v → W.cell? ((ad.add (k * 22)).add j) = some v) (by kernel_rfl) (hc) (fun hS => ?_)
   simp only [List.size_toArray, List.length_cons, List.length_nil, Nat.reduceAdd, Array.replicate_succ, Array.replicate_zero, List.push_toArray, List.nil_append, List.cons_append]
   refine z0b (i := 0) 17 (.slice (some ad) n c) rfl rfl (by kernel_rfl) (by kernel_rfl) (by kernel_rfl) (fun _ _ _ h => h) (Or.inl ⟨by rfl, fun W hW => by go_simp⟩) hS ?_
   try simp only [List.setIfInBounds_toArray, List.set_cons_zero, List.set_cons_succ]
   refine z0b (i := 1) 18 (.int .i64 (k : Int)) rfl rfl (by kernel_rfl) (by kernel_rfl) (by kernel_rfl) (fun _ _ _ h => h) (Or.inl ⟨by rfl, fun W hW => by go_simp⟩) hS ?_
   try simp only [List.setIfInBounds_toArray, List.set_cons_zero, List.set_cons_succ]
   refine z0b (i := 2) 19 (.pointer (some (ad.add (k * 22)))) rfl rfl (by kernel_rfl) (by kernel_rfl) (by kernel_rfl) (fun _ _ _ h => h) (Or.inl ⟨by rfl, fun W hW => by go_simp⟩) hS ?_
   try simp only [List.setIfInBounds_toArray, List.set_cons_zero, List.set_cons_succ]
   refine z0b (i := 3) 20 (.agg cs.toArray) rfl rfl (by kernel_rfl) (by kernel_rfl) (by kernel_rfl) (fun _ _ _ h => h) (Or.inl ⟨by rfl, fun W hW => z7l _ _ rfl (ad := ad.add (k * 22)) rfl hl hW⟩) hS ?_
   try simp only [List.setIfInBounds_toArray, List.set_cons_zero, List.set_cons_succ]
   refine z0b (i := 4) 21 (.slice (some ad) n c) rfl rfl (by kernel_rfl) (by kernel_rfl) (by kernel_rfl) (fun _ _ _ h => h) (Or.inl ⟨by rfl, fun W hW => by go_simp⟩) hS ?_
   try simp only [List.setIfInBounds_toArray, List.set_cons_zero, List.set_cons_succ]
   refine z0b (i := 5) 22 (.int .i64 (k : Int)) rfl rfl (by kernel_rfl) (by kernel_rfl) (by kernel_rfl) (fun _ _ _ h => h) (Or.inl ⟨by rfl, fun W hW => by go_simp⟩) hS ?_
   try simp only [List.setIfInBounds_toArray, List.set_cons_zero, List.set_cons_succ]
   refine z0b (i := 6) 23 (.pointer (some (ad.add (k * 22)))) rfl rfl (by kernel_rfl) (by kernel_rfl) (by kernel_rfl) (fun _ _ _ h => h) (Or.inl ⟨by rfl, fun W hW => by go_simp⟩) hS ?_
   try simp only [List.setIfInBounds_toArray, List.set_cons_zero, List.set_cons_succ]
   refine z0b (i := 7) 24 (.agg cs.toArray) rfl rfl (by kernel_rfl) (by kernel_rfl) (by kernel_rfl) (fun _ _ _ h => h) (Or.inl ⟨by rfl, fun W hW => z7l _ _ rfl (ad := ad.add (k * 22)) rfl hl hW⟩) hS ?_
   try simp only [List.setIfInBounds_toArray, List.set_cons_zero, List.set_cons_succ]
   refine z0b (i := 8) 25 (.bool false) rfl rfl (by kernel_rfl) (by kernel_rfl) (by kernel_rfl) (fun _ _ _ h => h) (Or.inl ⟨by rfl, fun W hW => z91 _ _ _ rfl (xs := cs.toArray) rfl rfl hkey⟩) hS ?_
   try simp only [List.setIfInBounds_toArray, List.set_cons_zero, List.set_cons_succ]
   refine wpAnyH_done (by kernel_rfl) ?_ _
   refine NoPanic.normal ?_
   go_wp2
   go_roundw
   case rel => exact ⟨k + 1, by omega, by go_num, ⟨HB.out.drew⟩⟩
   case measure => simp [intOf]; omega
  ·obtain rfl : k = n := by omega
   go_wp2
   go_ret
   exact ⟨rfl, HB.out⟩
set_option maxRecDepth 100000 in
set_option maxHeartbeats 1000000 in
theorem same_any (x : S89) (A1 A2 : Option Addr) (c1 c2 : Nat) (w : World) (hE : EntOk w x.ent) (h1 : x.freed.length ≤ c1 ∧ k64.C w A1 x.freed.length x.freed) (h2 : x.freed.length ≤ c2 ∧ k64.C w A2 x.freed.length x.freed) (hs : smallL x.freed) :
  Calls Tryz.prog 111 #[.agg #[.int .i64 x.kind, .int .i64 x.no, .int .i64 x.ver, .int .i64 x.tree, .int .i64 x.level, .bool x.top, .slice x.ent.1 x.ent.2.1 x.ent.2.2, .int .i64 x.next, .string x.data, .slice A1 x.freed.length c1], .agg #[.int .i64 x.kind, .int .i64 x.no, .int .i64 x.ver, .int .i64 x.tree, .int .i64 x.level, .bool x.top, .slice x.ent.1 x.ent.2.1 x.ent.2.2, .int .i64 x.next, .string x.data, .slice A2 x.freed.length c2]] w fun r w' => r = .returned (.bool true) ∧ Below w.heap.size w w' := by
 have HSE := Aside0.mk (fun (w1 : World) (hb : Below w.heap.size w w1) => z92 x.ent w1 (hE.below hb))
 have HSF : Aside0 (∀ (w1 : World), Below w.heap.size w w1 → Calls Tryz.prog 18 #[.slice A1 x.freed.length c1, .slice A2 x.freed.length c2] w1 fun e w' => e = .returned (.bool true) ∧ Drawn0 w1 w') := ⟨fun w1 hb => by
  have := z4d x.freed x.freed A1 A2 c1 c2 w1 (Kd.C_below h1.2 hb) h1.1 (Kd.C_below h2.2 hb) h2.1 hs
  rw [decide_eq_true rfl] at this
  exact this⟩
 have hb0 : Below w.heap.size w ((w.alloc (.cells #[.int .i64 x.kind, .int .i64 x.no, .int .i64 x.ver, .int .i64 x.tree, .int .i64 x.level, .bool x.top, .slice x.ent.1 x.ent.2.1 x.ent.2.2, .int .i64 x.next, .string x.data, .slice A1 x.freed.length c1] 89)).alloc (.cells #[.int .i64 x.kind, .int .i64 x.no, .int .i64 x.ver, .int .i64 x.tree, .int .i64 x.level, .bool x.top, .slice x.ent.1 x.ent.2.1 x.ent.2.2, .int .i64 x.next, .string x.data, .slice A2 x.freed.length c2] 89)) := (z0i w _).alloc (by simp) _
 have hk1 := z0j (o' := .cells #[.int .i64 x.kind, .int .i64 x.no, .int .i64 x.ver, .int .i64 x.tree, .int .i64 x.level, .bool x.top, .slice x.ent.1 x.ent.2.1 x.ent.2.2, .int .i64 x.next, .string x.data, .slice A2 x.freed.length c2] 89) (z0l w (.cells #[.int .i64 x.kind, .int .i64 x.no, .int .i64 x.ver, .int .i64 x.tree, .int .i64 x.level, .bool x.top, .slice x.ent.1 x.ent.2.1 x.ent.2.2, .int .i64 x.next, .string x.data, .slice A1 x.freed.length c1] 89))
 have hk2 := z0l (w.alloc (.cells #[.int .i64 x.kind, .int .i64 x.no, .int .i64 x.ver, .int .i64 x.tree, .int .i64 x.level, .bool x.top, .slice x.ent.1 x.ent.2.1 x.ent.2.2, .int .i64 x.next, .string x.data, .slice A1 x.freed.length c1] 89)) (.cells #[.int .i64 x.kind, .int .i64 x.no, .int .i64 x.ver, .int .i64 x.tree, .int .i64 x.level, .bool x.top, .slice x.ent.1 x.ent.2.1 x.ent.2.2, .int .i64 x.next, .string x.data, .slice A2 x.freed.length c2] 89)
 have hsz : (w.alloc (.cells #[.int .i64 x.kind, .int .i64 x.no, .int .i64 x.ver, .int .i64 x.tree, .int .i64 x.level, .bool x.top, .slice x.ent.1 x.ent.2.1 x.ent.2.2, .int .i64 x.next, .string x.data, .slice A1 x.freed.length c1] 89)).heap.size = w.heap.size + 1 := by simp
 rw [hsz] at hk2
 obtain ⟨b, hb⟩ : ∃ b, w.heap.size = b := ⟨_, rfl⟩
 obtain ⟨W0, hW0⟩ : ∃ V, (w.alloc (.cells #[.int .i64 x.kind, .int .i64 x.no, .int .i64 x.ver, .int .i64 x.tree, .int .i64 x.level, .bool x.top, .slice x.ent.1 x.ent.2.1 x.ent.2.2, .int .i64 x.next, .string x.data, .slice A1 x.freed.length c1] 89)).alloc (.cells #[.int .i64 x.kind, .int .i64 x.no, .int .i64 x.ver, .int .i64 x.tree, .int .i64 x.level, .bool x.top, .slice x.ent.1 x.ent.2.1 x.ent.2.2, .int .i64 x.next, .string x.data, .slice A2 x.freed.length c2] 89) = V := ⟨_, rfl⟩
 rw [hW0] at hb0 hk1 hk2
 rw [hb] at hb0 hk1 hk2
 simp only [hb] at HSE HSF ⊢
 have HW0 := Lib.hid hW0
 have HB0 := Aside0.mk hb0
 have HSB : Aside0 (b ≤ W0.heap.size) := ⟨by have := hb0.size; omega⟩
 have HK1 : Aside0 (W0.heap[b]? = some (.cells #[.int .i64 x.kind, .int .i64 x.no, .int .i64 x.ver, .int .i64 x.tree, .int .i64 x.level, .bool x.top, .slice x.ent.1 x.ent.2.1 x.ent.2.2, .int .i64 x.next, .string x.data, .slice A1 x.freed.length c1] 89 (0, 0))) := ⟨hk1⟩
 have HK2 : Aside0 (W0.heap[b + 1]? = some (.cells #[.int .i64 x.kind, .int .i64 x.no, .int .i64 x.ver, .int .i64 x.tree, .int .i64 x.level, .bool x.top, .slice x.ent.1 x.ent.2.1 x.ent.2.2, .int .i64 x.next, .string x.data, .slice A2 x.freed.length c2] 89 (0, 0))) := ⟨hk2⟩
 have HBW := Lib.hid hb
 obtain ⟨kind, no, ver, tree, level, top, ent, next, data, freed⟩ := x
 dsimp only at *
 obtain ⟨fl, hfl⟩ : ∃ n, freed.length = n := ⟨_, rfl⟩
 rw [hfl] at HW0 HK1 HK2 HSF
 rw [hfl]
 obtain ⟨EA, el, ec⟩ := ent
 dsimp only at *
 clear hE h1 h2 hs hb0 hk1 hk2 hsz hW0 hfl
 go_enter Tryz.func111, Tryz.ntmps111
 go_upto_region 1 with (fail)
 rw [HW0.out]
 have p0 : W0.cell? ⟨b, 0, none⟩ = some (.int .i64 kind) := (z0a HK1.out 0).trans rfl
 have p1 : W0.cell? ⟨b, 1, none⟩ = some (.int .i64 no) := (z0a HK1.out 1).trans rfl
 have p2 : W0.cell? ⟨b, 2, none⟩ = some (.int .i64 ver) := (z0a HK1.out 2).trans rfl
 have p3 : W0.cell? ⟨b, 3, none⟩ = some (.int .i64 tree) := (z0a HK1.out 3).trans rfl
 have p4 : W0.cell? ⟨b, 4, none⟩ = some (.int .i64 level) := (z0a HK1.out 4).trans rfl
 have p5 : W0.cell? ⟨b, 5, none⟩ = some (.bool top) := (z0a HK1.out 5).trans rfl
 have p6 : W0.cell? ⟨b, 6, none⟩ = some (.slice EA el ec) := (z0a HK1.out 6).trans rfl
 have p7 : W0.cell? ⟨b, 7, none⟩ = some (.int .i64 next) := (z0a HK1.out 7).trans rfl
 have p8 : W0.cell? ⟨b, 8, none⟩ = some (.string data) := (z0a HK1.out 8).trans rfl
 have p9 : W0.cell? ⟨b, 9, none⟩ = some (.slice A1 fl c1) := (z0a HK1.out 9).trans rfl
 have q0 : W0.cell? ⟨b + 1, 0, none⟩ = some (.int .i64 kind) := (z0a HK2.out 0).trans rfl
 have q1 : W0.cell? ⟨b + 1, 1, none⟩ = some (.int .i64 no) := (z0a HK2.out 1).trans rfl
 have q2 : W0.cell? ⟨b + 1, 2, none⟩ = some (.int .i64 ver) := (z0a HK2.out 2).trans rfl
 have q3 : W0.cell? ⟨b + 1, 3, none⟩ = some (.int .i64 tree) := (z0a HK2.out 3).trans rfl
 have q4 : W0.cell? ⟨b + 1, 4, none⟩ = some (.int .i64 level) := (z0a HK2.out 4).trans rfl
 have q5 : W0.cell? ⟨b + 1, 5, none⟩ = some (.bool top) := (z0a HK2.out 5).trans rfl
 have q6 : W0.cell? ⟨b + 1, 6, none⟩ = some (.slice EA el ec) := (z0a HK2.out 6).trans rfl
 have q7 : W0.cell? ⟨b + 1, 7, none⟩ = some (.int .i64 next) := (z0a HK2.out 7).trans rfl
 have q8 : W0.cell? ⟨b + 1, 8, none⟩ = some (.string data) := (z0a HK2.out 8).trans rfl
 have q9 : W0.cell? ⟨b + 1, 9, none⟩ = some (.slice A2 fl c2) := (z0a HK2.out 9).trans rfl
 go_upto_region 3 with (fail)
 go_wp2_with (first
  | (go_at_call 148; (refine (HSE.out _ HB0.out).mono ?_); rintro e w1 ⟨rfl, hb1⟩; have HB1 := Aside0.mk hb1; clear hb1 p0 q0 p1 q1 p2 q2 p3 q3 p4 q4 p5 q5 p6 q6 p7 q7 p8 q8 p9 q9; have p9 : w1.cell? ⟨b, 9, none⟩ = some (.slice A1 fl c1) := (z0a (z0g HK1.out HB1.out) 9).trans rfl; have q9 : w1.cell? ⟨b + 1, 9, none⟩ = some (.slice A2 fl c2) := (z0a (z0g HK2.out HB1.out) 9).trans rfl)
  | (go_at_call 18; (refine (HSF.out _ (HB0.out.trans (HB1.out.mono HSB.out))).mono ?_); rintro e w2 ⟨rfl, hd2⟩; have HB2 := Aside0.mk ((HB0.out.trans (HB1.out.mono HSB.out)).trans (hd2.below.mono (Nat.le_trans HSB.out HB1.out.size))); clear hd2))
 go_ret
 exact ⟨rfl, HB2.out⟩
def PgOk (w : World) (l : List S89) : Prop := ∀ x ∈ l, EntOk w x.ent ∧ smallL x.freed
theorem PgOk.below {w w' : World} {l : List S89} (h : PgOk w l) (hb : Below w.heap.size w w') : PgOk w' l := fun x hx => ⟨(h x hx).1.below hb, (h x hx).2⟩
theorem at_89 {W : World} {A : Option Addr} {l : List S89} (h : k89.C W A l.length l) (k : Nat) (hk : k < l.length) : ∃ (ad : Addr) (A1 : Option Addr) (c1 : Nat), A = some ad ∧ (∀ (j : Nat) (v : Value), (cells89 l[k] A1 c1)[j]? = some v → W.cell? ((ad.add (k * 10)).add j) = some v) ∧ l[k].freed.length ≤ c1 ∧ k64.C W A1 l[k].freed.length l[k].freed := by
 obtain ⟨ad, c, hA, hcl, hK, hcc⟩ := ReadsRow.get_ h z89 (k : Int) (by omega) (by omega)
 have e : l.getD (k : Int).toNat z89 = l[k] := by rw [Int.toNat_natCast]; simp [hk]
 rw [e] at hK
 obtain ⟨A1, c1, rfl, h1, h2⟩ := z34 hK
 refine ⟨ad, A1, c1, hA, fun j v hv => ?_, h1, h2⟩
 have := hcc j v hv
 rw [Int.toNat_natCast] at this
 rw [add_add]
 exact this
theorem size89 : (Tryz.prog.info? 89).map (fun i => i.size) = some 10 := by kernel_rfl
theorem load89 {W : World} {ad : Addr} {cs : List Value} (hl : cs.length = 10) (h : ∀ j v, cs[j]? = some v → W.cell? (ad.add j) = some v) : (loadVar 89 ad).run Tryz.prog W = .ok (.agg cs.toArray) W := by
 have h1 := run_loadCells_list (P := Tryz.prog) W ad cs h
 rw [hl] at h1
 have hagg : (isAgg 89).run Tryz.prog W = .ok true W := by kernel_rfl
 have hsz : (sizeOf 89).run Tryz.prog W = .ok 10 W := by kernel_rfl
 unfold loadVar
 simp only [Sem.run_bind, hagg, Result.andThen_ok, if_true, hsz, h1, Sem.run_pure]
theorem z7m {o : Oper} {W : World} (ρ : Operand → Value) (x : Operand) (ho : o.op = .load 89 x) {ad : Addr} (hx : ρ x = .pointer (some ad)) {cs : List Value} (hl : cs.length = 10) (h : ∀ j v, cs[j]? = some v → W.cell? (ad.add j) = some v) :
  (execOp ρ o).run Tryz.prog W = .ok (.value (.agg cs.toArray)) W := by
 unfold execOp
 simp only [ho, hx, Instr.loadAt, Instr.sureAddr, Sem.run_bind, Sem.run_pure, Result.andThen_ok, load89 hl h]
theorem same_to (x : S89) (A1 A2 : Option Addr) (c1 c2 : Nat) (w : World) (hE : EntOk w x.ent) (h1 : x.freed.length ≤ c1 ∧ k64.C w A1 x.freed.length x.freed) (h2 : x.freed.length ≤ c2 ∧ k64.C w A2 x.freed.length x.freed) (hs : smallL x.freed) :
  Calls Tryz.prog 111 #[.agg (cells89 x A1 c1).toArray, .agg (cells89 x A2 c2).toArray] w fun r w' => r = .returned (.bool true) ∧ Below w.heap.size w w' := same_any x A1 A2 c1 c2 w hE h1 h2 hs
set_option maxRecDepth 100000 in
set_option maxHeartbeats 1000000 in
theorem z93 (l : List S89) (A B : Option Addr) (ca cb : Nat) (w : World) (hA : k89.C w A l.length l) (hB : k89.C w B l.length l) (hok : PgOk w l) (hl : l.length ≤ 1000000) :
  Calls Tryz.prog 66 #[.slice A l.length ca, .slice B l.length cb] w fun r w' => r = .returned (.bool true) ∧ Below w.heap.size w w' := by
 have HA := Aside0.mk hA
 have HBB := Aside0.mk hB
 have HOK := Aside0.mk hok
 have HB0 := Aside0.mk (Below.refl w.heap.size w)
 clear hA hB hok
 go_enter Tryz.func66, Tryz.ntmps66
 go_upto_region 4 with (fail)
 go_loopw [5] (fun i wr => ∃ k : Nat, k ≤ l.length ∧ i = .int .i64 k ∧ Aside0 (Below w.heap.size w wr))
  (fun i _ => l.length - (intOf i).toNat)
 case atStart => exact ⟨0, Nat.zero_le _, rfl, HB0⟩
 case round =>
  clear HB0
  obtain ⟨k, hk, rfl, HB⟩ := hrel
  by_cases hlt : k < l.length
  ·obtain ⟨ad, A1, c1, had, hca, hl1, hf1⟩ := at_89 (Kd.C_below HA.out HB.out) k hlt
   obtain ⟨bd, A2, c2, hbd, hcb, hl2, hf2⟩ := at_89 (Kd.C_below HBB.out HB.out) k hlt
   subst had hbd
   have hpo := (HOK.out.below HB.out) _ (List.getElem_mem hlt)
   obtain ⟨x, hx⟩ : ∃ x, l[k] = x := ⟨_, rfl⟩
   rw [hx] at hca hl1 hf1 hcb hl2 hf2 hpo
   obtain ⟨csa, hcsa⟩ : ∃ cs, cells89 x A1 c1 = cs := ⟨_, rfl⟩
   obtain ⟨csb, hcsb⟩ : ∃ cs, cells89 x A2 c2 = cs := ⟨_, rfl⟩
   have hla : csa.length = 10 := by rw [← hcsa]; rfl
   have hlb : csb.length = 10 := by rw [← hcsb]; rfl
   have HSM : Aside0 (∀ W, Below wr.heap.size wr W → Calls Tryz.prog 111 #[.agg csa.toArray, .agg csb.toArray] W fun r w' => r = .returned (.bool true) ∧ Below W.heap.size W w') := ⟨fun W hb => by
    rw [← hcsa, ← hcsb]
    exact same_to x A1 A2 c1 c2 W (hpo.1.below hb) ⟨hl1, Kd.C_below hf1 hb⟩ ⟨hl2, Kd.C_below hf2 hb⟩ hpo.2⟩
   rw [hcsa] at hca
   rw [hcsb] at hcb
   have h89 : (Tryz.prog.info? 89).map (·.size) = some 10 := size89
   clear hl1 hf1 hl2 hf2 hpo hx hcsa hcsb
   go_upto_region 6 with (fail)
   refine wp_region_noPanic ?_
   refine wp_region_held_drew (S := fun W => (∀ (j : Nat) (v : Value), csa[j]? = some v → W.cell? ((ad.add (k * 10)).add j) = some v) ∧ ∀ (j : Nat) (v : Value), csb[j]? = some v → W.cell? ((bd.add (k * 10)).add j) = some v) (by kernel_rfl) (⟨hca, hcb⟩) (fun hS => ?_)
   simp only [List.size_toArray, List.length_cons, List.length_nil, Nat.reduceAdd, Array.replicate_succ, Array.replicate_zero, List.push_toArray, List.nil_append, List.cons_append]
   refine z0b (i := 0) 17 (.slice (some ad) l.length ca) rfl rfl (by kernel_rfl) (by kernel_rfl) (by kernel_rfl) (fun _ _ _ h => h) (Or.inl ⟨by rfl, fun W hW => by go_simp⟩) hS ?_
   try simp only [List.setIfInBounds_toArray, List.set_cons_zero, List.set_cons_succ]
   refine z0b (i := 1) 18 (.int .i64 (k : Int)) rfl rfl (by kernel_rfl) (by kernel_rfl) (by kernel_rfl) (fun _ _ _ h => h) (Or.inl ⟨by rfl, fun W hW => by go_simp⟩) hS ?_
   try simp only [List.setIfInBounds_toArray, List.set_cons_zero, List.set_cons_succ]
   refine z0b (i := 2) 19 (.pointer (some (ad.add (k * 10)))) rfl rfl (by kernel_rfl) (by kernel_rfl) (by kernel_rfl) (fun _ _ _ h => h) (Or.inl ⟨by rfl, fun W hW => by go_simp⟩) hS ?_
   try simp only [List.setIfInBounds_toArray, List.set_cons_zero, List.set_cons_succ]
   refine z0b (i := 3) 20 (.agg csa.toArray) rfl rfl (by kernel_rfl) (by kernel_rfl) (by kernel_rfl) (fun _ _ _ h => h) (Or.inl ⟨by rfl, fun W hW => z7m _ _ rfl (ad := ad.add (k * 10)) rfl hla hW.1⟩) hS ?_
   try simp only [List.setIfInBounds_toArray, List.set_cons_zero, List.set_cons_succ]
   refine z0b (i := 4) 21 (.slice (some bd) l.length cb) rfl rfl (by kernel_rfl) (by kernel_rfl) (by kernel_rfl) (fun _ _ _ h => h) (Or.inl ⟨by rfl, fun W hW => by go_simp⟩) hS ?_
   try simp only [List.setIfInBounds_toArray, List.set_cons_zero, List.set_cons_succ]
   refine z0b (i := 5) 22 (.int .i64 (k : Int)) rfl rfl (by kernel_rfl) (by kernel_rfl) (by kernel_rfl) (fun _ _ _ h => h) (Or.inl ⟨by rfl, fun W hW => by go_simp⟩) hS ?_
   try simp only [List.setIfInBounds_toArray, List.set_cons_zero, List.set_cons_succ]
   refine z0b (i := 6) 23 (.pointer (some (bd.add (k * 10)))) rfl rfl (by kernel_rfl) (by kernel_rfl) (by kernel_rfl) (fun _ _ _ h => h) (Or.inl ⟨by rfl, fun W hW => by go_simp⟩) hS ?_
   try simp only [List.setIfInBounds_toArray, List.set_cons_zero, List.set_cons_succ]
   refine z0b (i := 7) 24 (.agg csb.toArray) rfl rfl (by kernel_rfl) (by kernel_rfl) (by kernel_rfl) (fun _ _ _ h => h) (Or.inl ⟨by rfl, fun W hW => z7m _ _ rfl (ad := bd.add (k * 10)) rfl hlb hW.2⟩) hS ?_
   try simp only [List.setIfInBounds_toArray, List.set_cons_zero, List.set_cons_succ]
   refine wpAnyH_ready (rs := [8]) (by kernel_rfl) (by simp) ?_
   refine AllReadyH.cons rfl (fun K hK => ?_) AllReadyH.nil
   go_simp
   refine (HSM.out _ (z0e (Below.refl _ wr))).mono ?_
   rintro e w6 ⟨rfl, hb6⟩
   refine hK.out _ _ (⟨fun j v hv => cellB hb6 (Nat.le_refl _) (hS.1 j v hv), fun j v hv => cellB hb6 (Nat.le_refl _) (hS.2 j v hv)⟩) (fun hS => ?_)
   clear hK K
   have HB6 := Aside0.mk ((z0e (Below.refl _ wr)).trans hb6)
   clear hb6
   try simp only [Act.put, List.getElem_toArray, List.getElem_cons_succ, List.getElem_cons_zero, List.setIfInBounds_toArray, List.set_cons_zero, List.set_cons_succ]
   refine z0b (i := 9) 26 (.bool false) rfl rfl (by kernel_rfl) (by kernel_rfl) (by kernel_rfl) (fun _ _ _ h => h) (Or.inl ⟨by rfl, fun W hW => by go_simp⟩) hS ?_
   try simp only [List.setIfInBounds_toArray, List.set_cons_zero, List.set_cons_succ]
   refine wpAnyH_done (by kernel_rfl) ?_ _
   refine NoPanic.normal ?_
   go_wp2
   go_roundw
   case rel => exact ⟨k + 1, by omega, by go_num, ⟨HB.out.trans (HB6.out.mono HB.out.size)⟩⟩
   case measure => simp [intOf]; omega
  ·obtain rfl : k = l.length := by omega
   go_wp2
   go_ret
   exact ⟨rfl, HB.out⟩
set_option maxRecDepth 100000 in
set_option maxHeartbeats 1000000 in
theorem z94 (pg : List S89) (ver tree : Int) (A B : Option Addr) (ca cb : Nat) (w : World) (hA : k89.C w A pg.length pg) (hB : k89.C w B pg.length pg) (hok : PgOk w pg) (hl : pg.length ≤ 1000000) :
  Calls Tryz.prog 17 #[.agg #[.slice A pg.length ca, .slice none 0 0, .slice none 0 0, .slice none 0 0, .int .i64 ver, .int .i64 tree], .agg #[.slice B pg.length cb, .slice none 0 0, .slice none 0 0, .slice none 0 0, .int .i64 ver, .int .i64 tree]] w fun r w' => r = .returned (.bool true) ∧ Below w.heap.size w w' := by
 have HSP := Aside0.mk (fun (w1 : World) (hb : Below w.heap.size w w1) => z93 pg A B ca cb w1 (Kd.C_below hA hb) (Kd.C_below hB hb) (hok.below hb) hl)
 have HSI : Aside0 (∀ (w1 : World), Calls Tryz.prog 31 #[.slice none 0 0, .slice none 0 0] w1 fun e w' => e = .returned (.bool true) ∧ Drawn0 w1 w') := ⟨fun w1 => by
  have := z67 [] [] none none 0 0 w1 (Kd.C_nil _ w1) (Nat.le_refl _) (Kd.C_nil _ w1) (Nat.le_refl _) (by simp)
  rw [decide_eq_true rfl] at this
  exact this⟩
 obtain ⟨pl, hpl⟩ : ∃ n, pg.length = n := ⟨_, rfl⟩
 rw [hpl] at HSP ⊢
 have hb0 : Below w.heap.size w ((w.alloc (.cells #[.slice A pl ca, .slice none 0 0, .slice none 0 0, .slice none 0 0, .int .i64 ver, .int .i64 tree] 25)).alloc (.cells #[.slice B pl cb, .slice none 0 0, .slice none 0 0, .slice none 0 0, .int .i64 ver, .int .i64 tree] 25)) := (z0i w _).alloc (by simp) _
 have hk1 := z0j (o' := .cells #[.slice B pl cb, .slice none 0 0, .slice none 0 0, .slice none 0 0, .int .i64 ver, .int .i64 tree] 25) (z0l w (.cells #[.slice A pl ca, .slice none 0 0, .slice none 0 0, .slice none 0 0, .int .i64 ver, .int .i64 tree] 25))
 have hk2 := z0l (w.alloc (.cells #[.slice A pl ca, .slice none 0 0, .slice none 0 0, .slice none 0 0, .int .i64 ver, .int .i64 tree] 25)) (.cells #[.slice B pl cb, .slice none 0 0, .slice none 0 0, .slice none 0 0, .int .i64 ver, .int .i64 tree] 25)
 have hsz : (w.alloc (.cells #[.slice A pl ca, .slice none 0 0, .slice none 0 0, .slice none 0 0, .int .i64 ver, .int .i64 tree] 25)).heap.size = w.heap.size + 1 := by simp
 rw [hsz] at hk2
 obtain ⟨b, hb⟩ : ∃ b, w.heap.size = b := ⟨_, rfl⟩
 obtain ⟨W0, hW0⟩ : ∃ V, (w.alloc (.cells #[.slice A pl ca, .slice none 0 0, .slice none 0 0, .slice none 0 0, .int .i64 ver, .int .i64 tree] 25)).alloc (.cells #[.slice B pl cb, .slice none 0 0, .slice none 0 0, .slice none 0 0, .int .i64 ver, .int .i64 tree] 25) = V := ⟨_, rfl⟩
 rw [hW0] at hb0 hk1 hk2
 rw [hb] at hb0 hk1 hk2
 simp only [hb] at HSP ⊢
 have HW0 := Lib.hid hW0
 have HB0 := Aside0.mk hb0
 have HSB : Aside0 (b ≤ W0.heap.size) := ⟨by have := hb0.size; omega⟩
 have HK1 : Aside0 (W0.heap[b]? = some (.cells #[.slice A pl ca, .slice none 0 0, .slice none 0 0, .slice none 0 0, .int .i64 ver, .int .i64 tree] 25 (0, 0))) := ⟨hk1⟩
 have HK2 : Aside0 (W0.heap[b + 1]? = some (.cells #[.slice B pl cb, .slice none 0 0, .slice none 0 0, .slice none 0 0, .int .i64 ver, .int .i64 tree] 25 (0, 0))) := ⟨hk2⟩
 clear hA hB hok hb0 hk1 hk2 hsz hW0 hl hpl
 go_enter Tryz.func17, Tryz.ntmps17
 go_upto_region 1 with (fail)
 rw [HW0.out]
 have p0 : W0.cell? ⟨b, 0, none⟩ = some (.slice A pl ca) := (z0a (HK1.out) 0).trans rfl
 have q0 : W0.cell? ⟨b + 1, 0, none⟩ = some (.slice B pl cb) := (z0a (HK2.out) 0).trans rfl
 have p1 : W0.cell? ⟨b, 1, none⟩ = some (.slice none 0 0) := (z0a (HK1.out) 1).trans rfl
 have q1 : W0.cell? ⟨b + 1, 1, none⟩ = some (.slice none 0 0) := (z0a (HK2.out) 1).trans rfl
 have p2 : W0.cell? ⟨b, 2, none⟩ = some (.slice none 0 0) := (z0a (HK1.out) 2).trans rfl
 have q2 : W0.cell? ⟨b + 1, 2, none⟩ = some (.slice none 0 0) := (z0a (HK2.out) 2).trans rfl
 have p3 : W0.cell? ⟨b, 3, none⟩ = some (.slice none 0 0) := (z0a (HK1.out) 3).trans rfl
 have q3 : W0.cell? ⟨b + 1, 3, none⟩ = some (.slice none 0 0) := (z0a (HK2.out) 3).trans rfl
 have p4 : W0.cell? ⟨b, 4, none⟩ = some (.int .i64 ver) := (z0a (HK1.out) 4).trans rfl
 have q4 : W0.cell? ⟨b + 1, 4, none⟩ = some (.int .i64 ver) := (z0a (HK2.out) 4).trans rfl
 have p5 : W0.cell? ⟨b, 5, none⟩ = some (.int .i64 tree) := (z0a (HK1.out) 5).trans rfl
 have q5 : W0.cell? ⟨b + 1, 5, none⟩ = some (.int .i64 tree) := (z0a (HK2.out) 5).trans rfl
 go_wp2_with (first
  | (go_at_call 31; (refine (HSI.out w3).mono ?_); rintro e w4 ⟨rfl, hb⟩; have HB4 := Aside0.mk (HB3.out.trans (hb.below.mono HB3.out.size)); clear hb; clear p0 q0 p1 q1 p2 q2 p3 q3 p4 q4 p5 q5; have p0 : w4.cell? ⟨b, 0, none⟩ = some (.slice A pl ca) := (z0a (z0g HK1.out HB4.out) 0).trans rfl; have q0 : w4.cell? ⟨b + 1, 0, none⟩ = some (.slice B pl cb) := (z0a (z0g HK2.out HB4.out) 0).trans rfl; have p1 : w4.cell? ⟨b, 1, none⟩ = some (.slice none 0 0) := (z0a (z0g HK1.out HB4.out) 1).trans rfl; have q1 : w4.cell? ⟨b + 1, 1, none⟩ = some (.slice none 0 0) := (z0a (z0g HK2.out HB4.out) 1).trans rfl; have p2 : w4.cell? ⟨b, 2, none⟩ = some (.slice none 0 0) := (z0a (z0g HK1.out HB4.out) 2).trans rfl; have q2 : w4.cell? ⟨b + 1, 2, none⟩ = some (.slice none 0 0) := (z0a (z0g HK2.out HB4.out) 2).trans rfl; have p3 : w4.cell? ⟨b, 3, none⟩ = some (.slice none 0 0) := (z0a (z0g HK1.out HB4.out) 3).trans rfl; have q3 : w4.cell? ⟨b + 1, 3, none⟩ = some (.slice none 0 0) := (z0a (z0g HK2.out HB4.out) 3).trans rfl; have p4 : w4.cell? ⟨b, 4, none⟩ = some (.int .i64 ver) := (z0a (z0g HK1.out HB4.out) 4).trans rfl; have q4 : w4.cell? ⟨b + 1, 4, none⟩ = some (.int .i64 ver) := (z0a (z0g HK2.out HB4.out) 4).trans rfl; have p5 : w4.cell? ⟨b, 5, none⟩ = some (.int .i64 tree) := (z0a (z0g HK1.out HB4.out) 5).trans rfl; have q5 : w4.cell? ⟨b + 1, 5, none⟩ = some (.int .i64 tree) := (z0a (z0g HK2.out HB4.out) 5).trans rfl)
  | (go_at_call 31; (refine (HSI.out w2).mono ?_); rintro e w3 ⟨rfl, hb⟩; have HB3 := Aside0.mk (HB2.out.trans (hb.below.mono HB2.out.size)); clear hb; clear p0 q0 p1 q1 p2 q2 p3 q3 p4 q4 p5 q5; have p0 : w3.cell? ⟨b, 0, none⟩ = some (.slice A pl ca) := (z0a (z0g HK1.out HB3.out) 0).trans rfl; have q0 : w3.cell? ⟨b + 1, 0, none⟩ = some (.slice B pl cb) := (z0a (z0g HK2.out HB3.out) 0).trans rfl; have p1 : w3.cell? ⟨b, 1, none⟩ = some (.slice none 0 0) := (z0a (z0g HK1.out HB3.out) 1).trans rfl; have q1 : w3.cell? ⟨b + 1, 1, none⟩ = some (.slice none 0 0) := (z0a (z0g HK2.out HB3.out) 1).trans rfl; have p2 : w3.cell? ⟨b, 2, none⟩ = some (.slice none 0 0) := (z0a (z0g HK1.out HB3.out) 2).trans rfl; have q2 : w3.cell? ⟨b + 1, 2, none⟩ = some (.slice none 0 0) := (z0a (z0g HK2.out HB3.out) 2).trans rfl; have p3 : w3.cell? ⟨b, 3, none⟩ = some (.slice none 0 0) := (z0a (z0g HK1.out HB3.out) 3).trans rfl; have q3 : w3.cell? ⟨b + 1, 3, none⟩ = some (.slice none 0 0) := (z0a (z0g HK2.out HB3.out) 3).trans rfl; have p4 : w3.cell? ⟨b, 4, none⟩ = some (.int .i64 ver) := (z0a (z0g HK1.out HB3.out) 4).trans rfl; have q4 : w3.cell? ⟨b + 1, 4, none⟩ = some (.int .i64 ver) := (z0a (z0g HK2.out HB3.out) 4).trans rfl; have p5 : w3.cell? ⟨b, 5, none⟩ = some (.int .i64 tree) := (z0a (z0g HK1.out HB3.out) 5).trans rfl; have q5 : w3.cell? ⟨b + 1, 5, none⟩ = some (.int .i64 tree) := (z0a (z0g HK2.out HB3.out) 5).trans rfl)
  | (go_at_call 31; (refine (HSI.out w1).mono ?_); rintro e w2 ⟨rfl, hb⟩; have HB2 := Aside0.mk (HB1.out.trans (hb.below.mono HB1.out.size)); clear hb; clear p0 q0 p1 q1 p2 q2 p3 q3 p4 q4 p5 q5; have p0 : w2.cell? ⟨b, 0, none⟩ = some (.slice A pl ca) := (z0a (z0g HK1.out HB2.out) 0).trans rfl; have q0 : w2.cell? ⟨b + 1, 0, none⟩ = some (.slice B pl cb) := (z0a (z0g HK2.out HB2.out) 0).trans rfl; have p1 : w2.cell? ⟨b, 1, none⟩ = some (.slice none 0 0) := (z0a (z0g HK1.out HB2.out) 1).trans rfl; have q1 : w2.cell? ⟨b + 1, 1, none⟩ = some (.slice none 0 0) := (z0a (z0g HK2.out HB2.out) 1).trans rfl; have p2 : w2.cell? ⟨b, 2, none⟩ = some (.slice none 0 0) := (z0a (z0g HK1.out HB2.out) 2).trans rfl; have q2 : w2.cell? ⟨b + 1, 2, none⟩ = some (.slice none 0 0) := (z0a (z0g HK2.out HB2.out) 2).trans rfl; have p3 : w2.cell? ⟨b, 3, none⟩ = some (.slice none 0 0) := (z0a (z0g HK1.out HB2.out) 3).trans rfl; have q3 : w2.cell? ⟨b + 1, 3, none⟩ = some (.slice none 0 0) := (z0a (z0g HK2.out HB2.out) 3).trans rfl; have p4 : w2.cell? ⟨b, 4, none⟩ = some (.int .i64 ver) := (z0a (z0g HK1.out HB2.out) 4).trans rfl; have q4 : w2.cell? ⟨b + 1, 4, none⟩ = some (.int .i64 ver) := (z0a (z0g HK2.out HB2.out) 4).trans rfl; have p5 : w2.cell? ⟨b, 5, none⟩ = some (.int .i64 tree) := (z0a (z0g HK1.out HB2.out) 5).trans rfl; have q5 : w2.cell? ⟨b + 1, 5, none⟩ = some (.int .i64 tree) := (z0a (z0g HK2.out HB2.out) 5).trans rfl)
  | (go_at_call 66; (refine (HSP.out _ HB0.out).mono ?_); rintro e w1 ⟨rfl, hb⟩; have HB1 := Aside0.mk hb; clear hb; clear p0 q0 p1 q1 p2 q2 p3 q3 p4 q4 p5 q5; have p0 : w1.cell? ⟨b, 0, none⟩ = some (.slice A pl ca) := (z0a (z0g HK1.out HB1.out) 0).trans rfl; have q0 : w1.cell? ⟨b + 1, 0, none⟩ = some (.slice B pl cb) := (z0a (z0g HK2.out HB1.out) 0).trans rfl; have p1 : w1.cell? ⟨b, 1, none⟩ = some (.slice none 0 0) := (z0a (z0g HK1.out HB1.out) 1).trans rfl; have q1 : w1.cell? ⟨b + 1, 1, none⟩ = some (.slice none 0 0) := (z0a (z0g HK2.out HB1.out) 1).trans rfl; have p2 : w1.cell? ⟨b, 2, none⟩ = some (.slice none 0 0) := (z0a (z0g HK1.out HB1.out) 2).trans rfl; have q2 : w1.cell? ⟨b + 1, 2, none⟩ = some (.slice none 0 0) := (z0a (z0g HK2.out HB1.out) 2).trans rfl; have p3 : w1.cell? ⟨b, 3, none⟩ = some (.slice none 0 0) := (z0a (z0g HK1.out HB1.out) 3).trans rfl; have q3 : w1.cell? ⟨b + 1, 3, none⟩ = some (.slice none 0 0) := (z0a (z0g HK2.out HB1.out) 3).trans rfl; have p4 : w1.cell? ⟨b, 4, none⟩ = some (.int .i64 ver) := (z0a (z0g HK1.out HB1.out) 4).trans rfl; have q4 : w1.cell? ⟨b + 1, 4, none⟩ = some (.int .i64 ver) := (z0a (z0g HK2.out HB1.out) 4).trans rfl; have p5 : w1.cell? ⟨b, 5, none⟩ = some (.int .i64 tree) := (z0a (z0g HK1.out HB1.out) 5).trans rfl; have q5 : w1.cell? ⟨b + 1, 5, none⟩ = some (.int .i64 tree) := (z0a (z0g HK2.out HB1.out) 5).trans rfl))
 go_ret
 exact ⟨rfl, HB0.out.trans (HB4.out.mono HSB.out)⟩
def shortP (l : List S64) : Prop := (pagesOf (l.take 201)).length ≤ 900 ∧ l.length ≤ 200
instance (l : List S64) : Decidable (shortP l) := by unfold shortP; infer_instance
theorem z7n {l : List S64} (h : shortP l) : tinyL l := by
 obtain ⟨h1, h2⟩ := h
 rw [List.take_of_length_le (by omega)] at h1
 exact ⟨by omega, by omega⟩
theorem z95 (l : List S64) (hb : ∀ f ∈ l, f.f1.length ≤ 17592186044416) (m : Nat) (hm : m ≤ l.length) : (pagesOf (l.take m)).length ≤ m * 17592186044416 := by
 induction m with
 | zero => simp [pagesOf, flat]
 | succ m ih =>
  rw [z47 l m (by omega), List.length_append, z05 l m (by omega)]
  have := hb _ (List.getElem_mem (show m < l.length by omega))
  have := ih (by omega)
  omega
theorem short_l1 (ls : List (List S64)) (i : Nat) (hi : i < ls.length) (l : List S64) (hl : rd_L3 ls (i : Int) = l) (hb : ∀ f ∈ l, f.f1.length ≤ 17592186044416) (K : Nat) (d : Nat) : ∀ m : Nat, m ≤ l.length → m ≤ 201 → min l.length 201 - m = d →
  understorylaw12_short.l1 (d + 1 + K) ls (i : Int) ((pagesOf (l.take m)).length : Int) (m : Int) = if shortP l then understorylaw12_short.l0 K ls (wrap64 ((i : Int) + 1)) else some false := by
 have fin : ∀ m : Nat, (m = l.length ∨ m = 201 ∧ 201 < l.length) → m ≤ l.length → ∀ X : Option Bool, (if ((pagesOf (l.take m)).length : Int) > 900 then some false else (if (l.length : Int) > 200 then some false else X)) = if shortP l then X else some false := by
  intro m hm hml X
  have heq : l.length ≤ 200 → l.take m = l.take 201 := fun h => by
   rcases hm with rfl | ⟨rfl, h2⟩
   ·rw [List.take_length, List.take_of_length_le (by omega)]
   ·rfl
  by_cases hs : shortP l
  ·have hs' := hs
   obtain ⟨h9, h200⟩ := hs'
   rw [if_pos hs, heq h200, if_neg (by omega), if_neg (by omega)]
  ·rw [if_neg hs]
   split
   ·rfl
   ·split
    ·rfl
    ·next h9 h200 => exact absurd ⟨by rw [← heq (by omega)]; omega, by omega⟩ hs
 induction d with
 | zero =>
  intro m h1 h2 h3
  rw [show 0 + 1 + K = K + 1 by omega]
  simp only [understorylaw12_short.l1, hl]
  rw [if_pos (by omega), if_pos (by omega)]
  by_cases hm : m < l.length
  ·have hm2 : m = 201 := by omega
   subst hm2
   rw [if_pos (by omega), if_neg (by omega)]
   exact fin 201 (.inr ⟨rfl, hm⟩) (by omega) _
  ·rw [if_neg (by omega)]
   exact fin m (.inl (by omega)) h1 _
 | succ d ih =>
  intro m h1 h2 h3
  have hm : m < l.length := by omega
  have hm2 : m ≤ 200 := by omega
  rw [show d + 1 + 1 + K = (d + 1 + K) + 1 by omega]
  simp only [understorylaw12_short.l1, hl]
  rw [if_pos (by omega), if_pos (by omega), if_pos (by omega), if_pos (by omega), if_pos (by omega), wrapp m (by omega)]
  have hpb := z95 l hb (m + 1) (by omega)
  have e : wrap64 (((pagesOf (l.take m)).length : Int) + ((rd_T64 l (m : Int)).f1.length : Int)) = ((pagesOf (l.take (m + 1))).length : Int) := by
   rw [z47 l m hm, List.length_append] at hpb ⊢
   unfold wrap64
   omega
  rw [e, ih (m + 1) (by omega) (by omega) (by omega)]
end Go.Proofs.YtpnhelcemodnmaaGreat
