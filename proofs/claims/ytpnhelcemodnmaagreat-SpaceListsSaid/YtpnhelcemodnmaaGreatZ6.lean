/- Texts put together for one claim: part 6. -/
import Derived.Deep.LoopGhost
import Derived.Deep.CutRange
import Derived.Maps.OwnOps
import Derived.Maps.OwnSet
import Derived.Deep.Slices
import Derived.Lib.SmallJoins
import Derived.WalkKit
import Derived.ProofKit
import Derived.OpenShut
import Derived.ShutString
import Derived.ChangeOld
import Derived.Below
import Derived.SizedLaws
import Derived.Test.YtpnhelcemodnmaaGreatZ5
/- The walk of End. -/
namespace Go.Proofs.YtpnhelcemodnmaaGreat
open Go.RowKit Go.Shelf Go.Proofs.YtpnhelcemodnmaaGreatW.PrintWords Go.Proofs.YtpnhelcemodnmaaGreatW.PrintLast Go.Proofs.YtpnhelcemodnmaaGreatW.PrintMore PA
set_option linter.unusedVariables false
set_option linter.unusedSimpArgs false
attribute [local go_sem] Oper.semAt_some
set_option maxRecDepth 100000 in
set_option maxHeartbeats 2000000 in
theorem end_ok3 (pg : List S89) (free gone : List Int) (rest : List S64) (ver tree : Int) (shrink : Bool) (PA FA RA GA A : Option Addr) (pc fc rn rc gc c : Nat) (w : World)
    (hPG : k89.C w PA pg.length pg) (hpc : pg.length ≤ pc) (hFR : (Kd.int .i64).C w FA free.length free) (hfc : free.length ≤ fc) (hGO : (Kd.int .i64).C w GA gone.length gone) (hgc : gone.length ≤ gc) (hRE : k64.C w A rest.length rest) (hc : rest.length ≤ c)
    (hsm : smallL rest ∧ free.length ≤ 1000 ∧ gone.length ≤ 1000 ∧ (pagesOf rest).length ≤ 10000 ∧ rest.length ≤ 10000) (hv : 1 ≤ ver ∧ ver ≤ 1099511627776) (hn : 2 ≤ pg.length ∧ pg.length ≤ 4096) (h1 : validB pg.length rest = true) (h2 : incB pg.length free = true) (h3 : incB pg.length gone = true)
    (h4 : validB pg.length (putL 0 free (putL (ver - 1) gone rest)) = true)
    (K : Nat) (l4 : List S64) (m4 : Nat) (own : List Int) (hK : K ≤ 1000000) (hf3 : formP 4096 (if shrink then keepAll (tailN (putL 0 free (putL (ver - 1) gone rest)) pg.length) (putL 0 free (putL (ver - 1) gone rest)) else (putL 0 free (putL (ver - 1) gone rest)))) (hs3 : smallL (if shrink then keepAll (tailN (putL 0 free (putL (ver - 1) gone rest)) pg.length) (putL 0 free (putL (ver - 1) gone rest)) else (putL 0 free (putL (ver - 1) gone rest))))
    (hrun : takeRun K (if shrink then keepAll (tailN (putL 0 free (putL (ver - 1) gone rest)) pg.length) (putL 0 free (putL (ver - 1) gone rest)) else (putL 0 free (putL (ver - 1) gone rest))) (if shrink then (tailN (putL 0 free (putL (ver - 1) gone rest)) pg.length).toNat else pg.length) [] = some (l4, m4, own)) (hnum : numB own ver = true) (hidx : ∀ p ∈ listPg l4 own ver, 0 ≤ p.no ∧ p.no < m4) :
    Calls Tryz.prog 15 #[.agg #[.slice PA pg.length pc, .slice FA free.length fc, .slice RA rn rc, .slice GA gone.length gc, .int .i64 ver, .int .i64 tree], .slice A rest.length c, .bool shrink] w fun e w' => EndR w ver tree (own.headD 0) (layAll (listPg l4 own ver) ((if shrink then (zeroAll free pg).take (tailN (putL 0 free (putL (ver - 1) gone rest)) pg.length).toNat else zeroAll free pg) ++ List.replicate (m4 - (if shrink then (tailN (putL 0 free (putL (ver - 1) gone rest)) pg.length).toNat else pg.length)) z89)) l4 e w' := by
  have HF3 := Aside0.mk hf3
  have HS3 := Aside0.mk hs3
  have HRUN := Aside0.mk hrun
  have HNUM := Aside0.mk hnum
  have HIDX := Aside0.mk hidx
  have HKK := Aside0.mk hK
  clear hf3 hs3 hrun hnum hidx hK
  obtain ⟨PF, hPF⟩ : ∃ x, (layAll (listPg l4 own ver) ((if shrink then (zeroAll free pg).take (tailN (putL 0 free (putL (ver - 1) gone rest)) pg.length).toNat else zeroAll free pg) ++ List.replicate (m4 - (if shrink then (tailN (putL 0 free (putL (ver - 1) gone rest)) pg.length).toNat else pg.length)) z89)) = x := ⟨_, rfl⟩
  obtain ⟨hd, hhd⟩ : ∃ x, own.headD 0 = x := ⟨_, rfl⟩
  rw [hPF, hhd]
  have HPF := Lib.hid hPF
  have HHD := Lib.hid hhd
  clear hPF hhd
  have hmf : ∀ (fn : Fn) (first cap : Array Value) (w : World), (Instr.makeFunc fn first cap).run Tryz.prog w = .ok (.func fn first cap) w := fun _ _ _ _ => rfl
  have HD1 := Lib.hid (decide_eq_true hv)
  have HD2 := Lib.hid (show decide (2 ≤ (pg.length : Int) ∧ (pg.length : Int) ≤ 4096) = true from decide_eq_true (by omega))
  have HV1 := Lib.hid (fun (w1 : World) (hb : Below w.heap.size w w1) => valid_any rest pg.length A c w1 (Kd.C_below hRE hb) hc)
  have HI1 := Lib.hid (fun (w1 : World) (hb : Below w.heap.size w w1) => inc_any pg.length (by omega) (by omega) free FA fc w1 (Kd.C_below hFR hb) hfc)
  have HI2 := Lib.hid (fun (w1 : World) (hb : Below w.heap.size w w1) => inc_any pg.length (by omega) (by omega) gone GA gc w1 (Kd.C_below hGO hb) hgc)
  have HCP := Lib.hid (fun (w1 : World) (hb : Below w.heap.size w w1) (h5 : w.heap.size + 5 ≤ w1.heap.size) => clonePages pg PA pc w1 (off5 w.heap.size) (Kd.F_mono (Kd.F_below (Kd.C_F k89_heap hPG) hb) (fun k hk => .inl hk)) (fun k hk => .inr (by omega)) (by omega))
  rw [h1] at HV1
  rw [h2] at HI1
  rw [h3] at HI2
  go_enter_defers Tryz.func15, Tryz.ntmps15
  go_upto_region 3 with (fail)
  obtain ⟨b, hb⟩ : ∃ b, w.heap.size = b := ⟨_, rfl⟩
  obtain ⟨sp, hsp⟩ : ∃ sp, sp = #[Value.slice PA pg.length pc, .slice FA free.length fc, .slice RA rn rc, .slice GA gone.length gc, .int .i64 ver, .int .i64 tree] := ⟨_, rfl⟩
  have hW : ∃ W0, ((((w.alloc (.cells #[.slice PA pg.length pc, .slice FA free.length fc, .slice RA rn rc, .slice GA gone.length gc, .int .i64 ver, .int .i64 tree] 25)).alloc (.cells #[.slice none 0 0, .slice none 0 0, .slice none 0 0, .slice none 0 0, .int .i64 0, .int .i64 0] 25)).alloc (.cells #[.int .i64 0] 3)).alloc (.cells #[.slice none 0 0] 26)).alloc (.cells #[.int .i64 0] 30) = W0 := ⟨_, rfl⟩
  obtain ⟨W0, hW0⟩ := hW
  rw [hW0]
  have hs0 : W0.heap.size = b + 5 := by rw [← hW0, ← hb]; simp
  have hE0 : EndC W0 b sp := by
    rw [← hW0, ← hb, hsp]
    refine ⟨blk_alloc (blk_alloc (blk_alloc (blk_alloc (blk_new _ _) _) _) _) _, ?_, ?_, ?_, ?_⟩
    · have := blk_new (w.alloc (.cells #[.slice PA pg.length pc, .slice FA free.length fc, .slice RA rn rc, .slice GA gone.length gc, .int .i64 ver, .int .i64 tree] 25)) (.cells #[.slice none 0 0, .slice none 0 0, .slice none 0 0, .slice none 0 0, .int .i64 0, .int .i64 0] 25)
      rw [World.size_alloc] at this
      exact blk_alloc (blk_alloc (blk_alloc this _) _) _
    · have := blk_new ((w.alloc (.cells #[.slice PA pg.length pc, .slice FA free.length fc, .slice RA rn rc, .slice GA gone.length gc, .int .i64 ver, .int .i64 tree] 25)).alloc (.cells #[.slice none 0 0, .slice none 0 0, .slice none 0 0, .slice none 0 0, .int .i64 0, .int .i64 0] 25)) (.cells #[.int .i64 0] 3)
      rw [World.size_alloc, World.size_alloc] at this
      exact blk_alloc (blk_alloc this _) _
    · have := blk_new (((w.alloc (.cells #[.slice PA pg.length pc, .slice FA free.length fc, .slice RA rn rc, .slice GA gone.length gc, .int .i64 ver, .int .i64 tree] 25)).alloc (.cells #[.slice none 0 0, .slice none 0 0, .slice none 0 0, .slice none 0 0, .int .i64 0, .int .i64 0] 25)).alloc (.cells #[.int .i64 0] 3)) (.cells #[.slice none 0 0] 26)
      rw [World.size_alloc, World.size_alloc, World.size_alloc] at this
      exact blk_alloc this _
    · have := blk_new ((((w.alloc (.cells #[.slice PA pg.length pc, .slice FA free.length fc, .slice RA rn rc, .slice GA gone.length gc, .int .i64 ver, .int .i64 tree] 25)).alloc (.cells #[.slice none 0 0, .slice none 0 0, .slice none 0 0, .slice none 0 0, .int .i64 0, .int .i64 0] 25)).alloc (.cells #[.int .i64 0] 3)).alloc (.cells #[.slice none 0 0] 26)) (.cells #[.int .i64 0] 30)
      rw [World.size_alloc, World.size_alloc, World.size_alloc, World.size_alloc] at this
      exact this
  have hB0 : Below b w W0 := by rw [← hW0, ← hb]; exact ((((below_alloc1 w _).alloc (by simp) _).alloc (by simp; omega) _).alloc (by simp; omega) _).alloc (by simp; omega) _
  clear hW0
  rw [hb]
  simp only [hb] at HV1 HI1 HI2 HCP
  subst hsp
  obtain ⟨x0, x1, x3, x4, x5⟩ := hE0.cells
  have HE0 := Aside0.mk hE0
  have HB0 := Aside0.mk hB0
  have HS0 := Lib.hid hs0
  clear hE0 hB0 hs0
  go_upto_region 4 with (first
    | (go_at_call 46; (with_reducible refine (within_any ver 1 1099511627776 _).mono ?_); rintro e wa ⟨rfl, hda⟩; rw [HD1.out])
    | (go_at_call 46; (with_reducible refine (within_any (pg.length : Int) 2 4096 _).mono ?_); rintro e wb ⟨rfl, hdb⟩; rw [HD2.out])
    | (go_at_call 45; (with_reducible refine (need_yes _ _).mono ?_); rintro e w' ⟨rfl, rfl⟩))
  have hBb : Below W0.heap.size W0 wb := hda.below.trans (hdb.below.mono hda.below.size)
  have hEb := HE0.out.below hBb
  have HBb := Aside0.mk (HB0.out.trans (hBb.mono (by rw [HS0.out]; omega)))
  have HEb := Aside0.mk hEb
  have HSb := Aside0.mk (show b + 5 ≤ wb.heap.size by have := hBb.size; have := HS0.out; omega)
  clear x0 x1 x3 x4 x5
  obtain ⟨x0, x1, x3, x4, x5⟩ := hEb.cells
  clear hEb hda hdb hBb
  go_upto_region 5 with (first
    | (go_at_call 47; (refine (HV1.out _ HBb.out).mono ?_); rintro e wc ⟨rfl, hbc⟩; have HBc := Aside0.mk (HBb.out.trans (hbc.mono (by have := HSb.out; omega))); have HEc := Aside0.mk (HEb.out.below hbc); have HSc := Aside0.mk (Nat.le_trans HSb.out hbc.size); clear hbc x0 x1 x3 x4 x5; obtain ⟨x0, x1, x3, x4, x5⟩ := HEc.out.cells)
    | (go_at_call 48; (with_reducible refine (HI1.out _ HBc.out).mono ?_); rintro e wd ⟨rfl, hdd⟩; have HBd := Aside0.mk (HBc.out.trans (hdd.below.mono (by have := HSc.out; omega))); have HEd := Aside0.mk (HEc.out.below hdd.below); have HSd := Aside0.mk (Nat.le_trans HSc.out hdd.below.size); clear hdd x0 x1 x3 x4 x5; obtain ⟨x0, x1, x3, x4, x5⟩ := HEd.out.cells)
    | (go_at_call 48; (with_reducible refine (HI2.out _ HBd.out).mono ?_); rintro e we ⟨rfl, hde⟩; have HBe := Aside0.mk (HBd.out.trans (hde.below.mono (by have := HSd.out; omega))); have HEe := Aside0.mk (HEd.out.below hde.below); have HSe := Aside0.mk (Nat.le_trans HSd.out hde.below.size); clear hde x0 x1 x3 x4 x5; obtain ⟨x0, x1, x3, x4, x5⟩ := HEe.out.cells)
    | (go_at_call 45; (with_reducible refine (need_yes _ _).mono ?_); rintro e w' ⟨rfl, rfl⟩))
  go_upto_region 6 with (go_at_call 49; (refine (HCP.out _ HBe.out HSe.out).mono ?_); rintro e wf ⟨v, rfl, hv, hbf⟩; obtain ⟨QA, qc, rfl⟩ := Kd.N_slice hv; have HQ := Aside0.mk hv; have HBf := Aside0.mk (HBe.out.trans (hbf.mono (by have := HSe.out; omega))); have HEf := Aside0.mk (HEe.out.below hbf); have HSf := Aside0.mk (Nat.le_trans HSe.out hbf.size); clear hv hbf x0 x1 x3 x4 x5)
  obtain ⟨g, hg⟩ : ∃ g, wf.heap.size = g := ⟨_, rfl⟩
  have hQb := Kd.N_base HQ.out
  have hQl := Kd.N_lt HQ.out
  have hBg : Below w.heap.size w (wf.alloc (.cells #[.slice QA pg.length qc, .slice A rest.length c] 102)) := by rw [hb]; exact HBf.out.trans ((below_alloc1 wf (.cells #[.slice QA pg.length qc, .slice A rest.length c] 102)).mono (by have := HSf.out; omega))
  have hAg : AccX (off5 b) (wf.alloc (.cells #[.slice QA pg.length qc, .slice A rest.length c] 102)) g (.slice QA pg.length qc) rest := ⟨A, c, by rw [← hg]; exact blk_new wf _, hc, Kd.F_below (Kd.F_mono (Kd.C_F k64_heap hRE) (fun k hk => ⟨⟨by have := HSf.out; omega, fun e => by have := hQb k e.symm; have := HSe.out; omega⟩, .inl (by omega)⟩)) hBg⟩
  have hEg := HEf.out.below (below_alloc1 wf (.cells #[.slice QA pg.length qc, .slice A rest.length c] 102))
  have hQg := Kd.N_mono (ok' := fun k => k ≠ g ∧ off5 b k) (Kd.N_below (Kd.N_bound HQ.out) (below_alloc1 wf (.cells #[.slice QA pg.length qc, .slice A rest.length c] 102))) (fun k hk => ⟨by have := hk.2; omega, hk.1⟩)
  have hsg : (wf.alloc (.cells #[.slice QA pg.length qc, .slice A rest.length c] 102)).heap.size = g + 1 := by rw [← hg]; simp
  rw [hg]
  rw [hb] at hBg
  obtain ⟨Wg, hWg⟩ : ∃ Wg, wf.alloc (.cells #[.slice QA pg.length qc, .slice A rest.length c] 102) = Wg := ⟨_, rfl⟩
  rw [hWg] at hAg hEg hBg hQg hsg ⊢
  have hSb : Wg.heap[b]? = some (.cells #[.slice PA pg.length pc, .slice FA free.length fc, .slice RA rn rc, .slice GA gone.length gc, .int .i64 ver, .int .i64 tree] 25 (0, 0)) := hEg.1
  have hbg5 : b + 5 ≤ g := by have := HSf.out; omega
  have hQlg : ∀ k, (Value.slice QA pg.length qc).ownBlock = some k → k < g := fun k hk => hg ▸ hQl k hk
  have HPUT1 := Lib.hid (putX_any rest g (.slice QA pg.length qc) (ver - 1) gone GA gc Wg.drew (off5 b) (fun k hk => .inr (by have h1 : Wg.heap.size ≤ k := hk; omega)) hAg (fun k hk => by have := hQlg k hk; show k < Wg.heap.size; omega) (Kd.C_below hGO (by rw [hb]; exact hBg.drew)) hgc hsm.1 (by omega))
  have HWV := Lib.hid (show IntKind.i64.wrap (ver - 1) = ver - 1 by rw [IntKind.wrap_i64]; omega)
  have hgb : b ≠ g := by omega
  have HBg := Aside0.mk hBg
  have HEg := Aside0.mk hEg
  have HQg := Aside0.mk hQg
  clear hWg hAg hBg hEg hQg hQb hQl
  refine wp_region_noPanic ?_
  refine wp_region_held_drew (S := fun W => W.heap[b]? = some (.cells #[.slice PA pg.length pc, .slice FA free.length fc, .slice RA rn rc, .slice GA gone.length gc, .int .i64 ver, .int .i64 tree] 25 (0, 0))) (by kernel_rfl) (hSb) (fun hS => ?_)
  simp only [List.size_toArray, List.length_cons, List.length_nil, Nat.reduceAdd, Array.replicate_succ, Array.replicate_zero, List.push_toArray, List.nil_append, List.cons_append]
  refine take_at (i := 0) 55 (.pointer (some ⟨g, 0, none⟩)) rfl rfl (by kernel_rfl) (by kernel_rfl) (by kernel_rfl) (fun _ _ _ h => h) (Or.inl ⟨by rfl, fun W hW => by go_simp⟩) hS ?_
  try simp only [List.setIfInBounds_toArray, List.set_cons_zero, List.set_cons_succ]
  refine take_at (i := 1) 56 (.pointer (some ⟨g, 0, none⟩)) rfl rfl (by kernel_rfl) (by kernel_rfl) (by kernel_rfl) (fun _ _ _ h => h) (Or.inl ⟨by rfl, fun W hW => by go_simp⟩) hS ?_
  try simp only [List.setIfInBounds_toArray, List.set_cons_zero, List.set_cons_succ]
  refine take_at (i := 2) 57 (.pointer (some ⟨g, 1, none⟩)) rfl rfl (by kernel_rfl) (by kernel_rfl) (by kernel_rfl) (fun _ _ _ h => h) (Or.inl ⟨by rfl, fun W hW => by go_simp⟩) hS ?_
  try simp only [List.setIfInBounds_toArray, List.set_cons_zero, List.set_cons_succ]
  refine take_at (i := 3) 58 (.pointer (some ⟨b, 4, none⟩)) rfl rfl (by kernel_rfl) (by kernel_rfl) (by kernel_rfl) (fun _ _ _ h => h) (Or.inl ⟨by rfl, fun W hW => by go_simp⟩) hS ?_
  try simp only [List.setIfInBounds_toArray, List.set_cons_zero, List.set_cons_succ]
  refine take_at (i := 4) 59 (.int .i64 ver) rfl rfl (by kernel_rfl) (by kernel_rfl) (by kernel_rfl) (fun _ _ _ h => h) (Or.inl ⟨by rfl, fun W hW => by have h0 : W.cell? ⟨b, 4, none⟩ = some (.int .i64 ver) := (blk_cell hW 4).trans rfl; go_simp⟩) hS ?_
  try simp only [List.setIfInBounds_toArray, List.set_cons_zero, List.set_cons_succ]
  refine take_at (i := 5) 60 (.int .i64 (ver - 1)) rfl rfl (by kernel_rfl) (by kernel_rfl) (by kernel_rfl) (fun _ _ _ h => h) (Or.inl ⟨by rfl, fun W hW => by have h0 : IntKind.i64.wrap (ver - 1) = ver - 1 := HWV.out; go_simp⟩) hS ?_
  try simp only [List.setIfInBounds_toArray, List.set_cons_zero, List.set_cons_succ]
  refine take_at (i := 6) 61 (.pointer (some ⟨b, 3, none⟩)) rfl rfl (by kernel_rfl) (by kernel_rfl) (by kernel_rfl) (fun _ _ _ h => h) (Or.inl ⟨by rfl, fun W hW => by go_simp⟩) hS ?_
  try simp only [List.setIfInBounds_toArray, List.set_cons_zero, List.set_cons_succ]
  refine take_at (i := 7) 62 (.slice GA gone.length gc) rfl rfl (by kernel_rfl) (by kernel_rfl) (by kernel_rfl) (fun _ _ _ h => h) (Or.inl ⟨by rfl, fun W hW => by have h0 : W.cell? ⟨b, 3, none⟩ = some (.slice GA gone.length gc) := (blk_cell hW 3).trans rfl; go_simp⟩) hS ?_
  try simp only [List.setIfInBounds_toArray, List.set_cons_zero, List.set_cons_succ]
  refine wpAnyH_ready (rs := [8]) (by kernel_rfl) (by simp) ?_
  refine AllReadyH.cons rfl (fun K hK => ?_) AllReadyH.nil
  go_simp
  refine HPUT1.out.mono ?_
  rintro e w1 ⟨rfl, ha1, ht1⟩
  refine hK.out _ _ (ht1.blk hgb hS) (fun hS => ?_)
  clear hK K
  try simp only [Act.put, List.getElem_toArray, List.getElem_cons_succ, List.getElem_cons_zero, List.setIfInBounds_toArray, List.set_cons_zero, List.set_cons_succ]
  refine wpAnyH_done (by kernel_rfl) ?_ _
  refine NoPanic.normal ?_
  have hsz1 : g + 1 ≤ w1.heap.size := by have := ht1.size; have e : Wg.drew.heap.size = Wg.heap.size := rfl; omega
  have hB1 : Below b w w1 := HBg.out.drew.trans (ht1.below.mono (by omega))
  have hE1 : EndC w1 b #[.slice PA pg.length pc, .slice FA free.length fc, .slice RA rn rc, .slice GA gone.length gc, .int .i64 ver, .int .i64 tree] := EndC.turned (W := Wg.drew) HEg.out ht1 hbg5
  have hQ1 : Kd.N k89 89 w1 we.heap.size (fun k => k ≠ g ∧ off5 b k) (.slice QA pg.length qc) pg := ht1.N (fun k hk => hk.1) (Kd.N_drew HQg.out)
  have hSb1 : w1.heap[b]? = some (.cells #[.slice PA pg.length pc, .slice FA free.length fc, .slice RA rn rc, .slice GA gone.length gc, .int .i64 ver, .int .i64 tree] 25 (0, 0)) := hE1.1
  have HL1 := Lib.hid (show (if gone = [] then rest else mergeL rest [⟨ver - 1, gone⟩]) = putL (ver - 1) gone rest from rfl)
  rw [HL1.out] at ha1
  have HPUT2 := Lib.hid (putX_any (putL (ver - 1) gone rest) g (.slice QA pg.length qc) 0 free FA fc w1.drew (off5 b) (fun k hk => .inr (by have h1 : w1.heap.size ≤ k := hk; omega)) ha1 (fun k hk => by have := hQlg k hk; show k < w1.heap.size; omega) (Kd.C_below hFR (by rw [hb]; exact hB1.drew)) hfc (small_put hsm.2.2.2.2 hsm.2.2.2.1 (by omega)) (by omega))
  have HB1 := Aside0.mk hB1
  have HE1 := Aside0.mk hE1
  have HQ1 := Aside0.mk hQ1
  have HS1 := Aside0.mk hsz1
  clear hB1 hE1 hQ1 ha1 ht1 hsz1 HBg HEg HQg hS
  go_upto_region 7 with (fail)
  refine wp_region_noPanic ?_
  refine wp_region_held_drew (S := fun W => W.heap[b]? = some (.cells #[.slice PA pg.length pc, .slice FA free.length fc, .slice RA rn rc, .slice GA gone.length gc, .int .i64 ver, .int .i64 tree] 25 (0, 0))) (by kernel_rfl) (hSb1) (fun hS => ?_)
  simp only [List.size_toArray, List.length_cons, List.length_nil, Nat.reduceAdd, Array.replicate_succ, Array.replicate_zero, List.push_toArray, List.nil_append, List.cons_append]
  refine take_at (i := 0) 64 (.pointer (some ⟨g, 0, none⟩)) rfl rfl (by kernel_rfl) (by kernel_rfl) (by kernel_rfl) (fun _ _ _ h => h) (Or.inl ⟨by rfl, fun W hW => by go_simp⟩) hS ?_
  try simp only [List.setIfInBounds_toArray, List.set_cons_zero, List.set_cons_succ]
  refine take_at (i := 1) 65 (.pointer (some ⟨g, 0, none⟩)) rfl rfl (by kernel_rfl) (by kernel_rfl) (by kernel_rfl) (fun _ _ _ h => h) (Or.inl ⟨by rfl, fun W hW => by go_simp⟩) hS ?_
  try simp only [List.setIfInBounds_toArray, List.set_cons_zero, List.set_cons_succ]
  refine take_at (i := 2) 66 (.pointer (some ⟨g, 1, none⟩)) rfl rfl (by kernel_rfl) (by kernel_rfl) (by kernel_rfl) (fun _ _ _ h => h) (Or.inl ⟨by rfl, fun W hW => by go_simp⟩) hS ?_
  try simp only [List.setIfInBounds_toArray, List.set_cons_zero, List.set_cons_succ]
  refine take_at (i := 3) 67 (.pointer (some ⟨b, 1, none⟩)) rfl rfl (by kernel_rfl) (by kernel_rfl) (by kernel_rfl) (fun _ _ _ h => h) (Or.inl ⟨by rfl, fun W hW => by go_simp⟩) hS ?_
  try simp only [List.setIfInBounds_toArray, List.set_cons_zero, List.set_cons_succ]
  refine take_at (i := 4) 68 (.slice FA free.length fc) rfl rfl (by kernel_rfl) (by kernel_rfl) (by kernel_rfl) (fun _ _ _ h => h) (Or.inl ⟨by rfl, fun W hW => by have h0 : W.cell? ⟨b, 1, none⟩ = some (.slice FA free.length fc) := (blk_cell hW 1).trans rfl; go_simp⟩) hS ?_
  try simp only [List.setIfInBounds_toArray, List.set_cons_zero, List.set_cons_succ]
  refine wpAnyH_ready (rs := [5]) (by kernel_rfl) (by simp) ?_
  refine AllReadyH.cons rfl (fun K hK => ?_) AllReadyH.nil
  go_simp
  refine HPUT2.out.mono ?_
  rintro e w2 ⟨rfl, ha2, ht2⟩
  refine hK.out _ _ (ht2.blk hgb hS) (fun hS => ?_)
  clear hK K
  try simp only [Act.put, List.getElem_toArray, List.getElem_cons_succ, List.getElem_cons_zero, List.setIfInBounds_toArray, List.set_cons_zero, List.set_cons_succ]
  refine wpAnyH_done (by kernel_rfl) ?_ _
  refine NoPanic.normal ?_
  have HL2 := Lib.hid (show (if free = [] then putL (ver - 1) gone rest else mergeL (putL (ver - 1) gone rest) [⟨0, free⟩]) = putL 0 free (putL (ver - 1) gone rest) from rfl)
  rw [HL2.out] at ha2
  obtain ⟨l2, hl2⟩ : ∃ l2, putL 0 free (putL (ver - 1) gone rest) = l2 := ⟨_, rfl⟩
  rw [hl2] at ha2 h4
  have HLL := Lib.hid hl2
  have hsz2 : g + 1 ≤ w2.heap.size := by have := ht2.size; have e : w1.drew.heap.size = w1.heap.size := rfl; have := HS1.out; omega
  have hB2 : Below b w w2 := HB1.out.drew.trans (ht2.below.mono (by omega))
  have hE2 : EndC w2 b #[.slice PA pg.length pc, .slice FA free.length fc, .slice RA rn rc, .slice GA gone.length gc, .int .i64 ver, .int .i64 tree] := EndC.turned (W := w1.drew) HE1.out ht2 hbg5
  have hQ2 : Kd.N k89 89 w2 we.heap.size (fun k => k ≠ g ∧ off5 b k) (.slice QA pg.length qc) pg := ht2.N (fun k hk => hk.1) (Kd.N_drew HQ1.out)
  have HB2 := Aside0.mk hB2
  have HE2 := Aside0.mk hE2
  have HQ2 := Aside0.mk hQ2
  have HS2 := Aside0.mk hsz2
  have HA2 := Aside0.mk ha2
  obtain ⟨A2, c2, hb2, hc2, hF2⟩ := ha2
  have x6 : w2.cell? ⟨g, 1, none⟩ = some (.slice A2 l2.length c2) := (blk_cell hb2 1).trans rfl
  have HV4 := Lib.hid (valid_any l2 pg.length A2 c2 w2 (Kd.F_now hF2) hc2)
  rw [h4] at HV4
  clear hB2 hE2 hQ2 ht2 hsz2 hl2 hF2 hb2 HB1 HE1 HQ1 hS
  go_upto_region 9 with (first
    | (go_at_call 47; (refine HV4.out.mono ?_); rintro e w3 ⟨rfl, hb3⟩; have HB3 := Aside0.mk (HB2.out.trans (hb3.mono (by have := HS2.out; omega))); have HE3 := Aside0.mk (HE2.out.below hb3); have HS3 := Aside0.mk (Nat.le_trans HS2.out hb3.size); have HQ3 := Aside0.mk (Kd.N_below HQ2.out hb3); have HA3 := Aside0.mk (HA2.out.below hb3); clear hb3 x6; obtain ⟨x0, x1, x3, x4, x5⟩ := HE3.out.cells)
    | (go_at_call 45; (with_reducible refine (need_yes _ _).mono ?_); rintro e w' ⟨rfl, rfl⟩))
  clear HB2 HE2 HQ2 HA2
  have hqb : ∀ k, (Value.slice QA pg.length qc).ownBlock = some k → b + 5 ≤ k := fun k hk => by have := Kd.N_base HQ3.out k hk; have := HSe.out; omega
  have HQ4 := Aside0.mk (Kd.N_lower HQ3.out (show b ≤ we.heap.size by have := HSe.out; omega))
  have hfree : ∀ x ∈ free, 2 ≤ x ∧ x ≤ (pg.length : Int) - 1 := (of_decide_eq_true h2).1
  have h89 : (Tryz.prog.info? 89).map (·.size) = some 10 := by kernel_rfl
  clear x0 x3 x4 x5 HQ3
  go_upto_region 10 with (fail)
  go_loopw [13, 81] (fun u i wr => ∃ k : Nat, k ≤ free.length ∧ i = .int .i64 k ∧ Aside0 (Kd.N k89 89 wr b (fun q => q ≠ g ∧ off5 b q) (.slice QA pg.length qc) (zeroTo k free pg)) ∧ Aside0 (AccX (off5 b) wr g (.slice QA pg.length qc) l2) ∧ Aside0 (EndC wr b #[.slice PA pg.length pc, .slice FA free.length fc, .slice RA rn rc, .slice GA gone.length gc, .int .i64 ver, .int .i64 tree]) ∧ Aside0 (Below b w wr) ∧ Aside0 (g + 1 ≤ wr.heap.size))
    (fun _ i _ => free.length - (intOf i).toNat)
  case atStart => exact ⟨0, Nat.zero_le _, rfl, HQ4, HA3, HE3, HB3, HS3⟩
  case round =>
    clear HQ4 HA3 HE3 HB3 HS3
    obtain ⟨k, hk, rfl, HQ, HA, HE, HB, HS⟩ := hrel
    by_cases hlt : k < free.length
    · have hlen := zeroAll_length (free.take k) pg
      obtain ⟨q, qc', hve, hbq, hqs, _⟩ := Kd.N_form HQ.out (by show 0 < (zeroAll (free.take k) pg).length; omega)
      rw [show (zeroTo k free pg).length = pg.length from hlen] at hve
      injection hve with e1 _ e2
      subst e1 e2
      obtain ⟨ad, had, hxc⟩ := Kd.at_int (Kd.C_below hFR (show Below w.heap.size w wr by rw [hb]; exact HB.out)) (k : Int) (by omega) (by omega)
      subst had
      rw [Int.toNat_natCast, rd_at free k hlt] at hxc
      have hx := hfree _ (List.getElem_mem hlt)
      have HZS := Lib.hid (zeroTo_succ k free pg hlt)
      obtain ⟨x, hxx⟩ : ∃ x, free[k] = x := ⟨_, rfl⟩
      rw [hxx] at hxc hx HZS
      obtain ⟨A9, c9, hb9, _, _⟩ := HA.out
      have y0 : wr.cell? ⟨g, 0, none⟩ = some (.slice (some ⟨q, 0, none⟩) pg.length qc) := (blk_cell hb9 0).trans rfl
      obtain ⟨cs, hcl, hFK, hcc, hfr⟩ := Kd.N_elem HQ.out z89 x (by omega) (by omega)
      obtain ⟨A8, c8, rfl, _, _⟩ := k89_openF hFK
      have HCC := Aside0.mk hcc
      have hx0 : 0 ≤ x := by omega
      have hxl : x < (pg.length : Int) := by omega
      have HX0 := Aside0.mk hx0
      have HXL := Aside0.mk hxl
      have hgq : g ≠ q := fun e => by have := HQ.out.1 q (by simp [Value.ownBlock]); exact this.1 e.symm
      have hq5 := hqb q (by simp [Value.ownBlock])
      clear hFK hcc hfr hxx hb9
      go_upto_region 13 with (refine Kd.N_store k89 (w0 := w) b rfl rfl 89 (.tmp 91) (.tmp 90) rfl 89 x 0 (zeroTo k free pg) z89 (.agg #[.int .i64 0, .int .i64 0, .int .i64 0, .int .i64 0, .int .i64 0, .bool false, .slice none 0 0, .int .i64 0, .string ⟨#[]⟩, .slice none 0 0]) [.int .i64 0, .int .i64 0, .int .i64 0, .int .i64 0, .int .i64 0, .bool false, .slice none 0 0, .int .i64 0, .string ⟨#[]⟩, .slice none 0 0] (cells89 _ A8 c8) (fun y => y ≠ g ∧ off5 b y) (fun _ => False) rfl rfl rfl rfl h89 (by simp [Value.oneCell']) HQ.out HX0.out HXL.out hcl HCC.out (by show 0 + 10 ≤ 10; omega) (by exact zero89F) (fun _ h => h.elim) HB.out ?_; intro w4 hn4 hb4 hg4)
      have HQ6 := Aside0.mk hn4
      have HB6 := Aside0.mk hb4
      have HA6 := Aside0.mk (show AccX (off5 b) w4 g (.slice (some ⟨q, 0, none⟩) pg.length qc) l2 by
        obtain ⟨A9, c9, hb9, hc9, hF9⟩ := HA.out
        exact ⟨A9, c9, (hg4.block g (blk_lt hb9) (fun e => hgq (by injection e))).trans hb9, hc9, Kd.F_grown hF9 hg4 (fun y hy e => hy.1.2 (by simpa [Value.ownBlock] using e))⟩)
      have HE6 := Aside0.mk (show EndC w4 b #[.slice PA pg.length pc, .slice (some ad) free.length fc, .slice RA rn rc, .slice GA gone.length gc, .int .i64 ver, .int .i64 tree] from HE.out.keep fun y _ h5 hy => hg4.block y hy (fun e => by injection e with e; omega))
      have HS6 := Aside0.mk (Nat.le_trans HS.out hg4.size)
      clear hn4 hb4 hg4 hgq hq5 hx0 hxl hx hxc y0 hcl
      go_wp2
      go_roundw
      case rel => exact ⟨k + 1, by omega, by go_num, ⟨by rw [HZS.out]; exact HQ6.out⟩, HA6, HE6, HB6, HS6⟩
      case measure => simp [intOf]; omega
    · obtain rfl : k = free.length := by omega
      have HQ5 := Aside0.mk (show Kd.N k89 89 wr b (fun q => q ≠ g ∧ off5 b q) (.slice QA pg.length qc) (zeroAll free pg) by have := HQ.out; unfold zeroTo at this; rw [List.take_length] at this; exact this)
      clear HQ
      have hfl2 : fullL l2 := form_fullL (of_decide_eq_true h4).2.1
      have htl := tailN_le l2 pg.length (of_decide_eq_true h4).2.1 (by omega)
      have hsl2 : smallL l2 := by rw [← HLL.out]; have q1 := putL_len (ver - 1) gone rest; have q2 := putL_len 0 free (putL (ver - 1) gone rest); exact ⟨by omega, by omega⟩
      have HSL := Aside0.mk hsl2
      clear hsl2
      obtain ⟨m, hm⟩ : ∃ m : Nat, tailN l2 pg.length = (m : Int) := ⟨(tailN l2 pg.length).toNat, by omega⟩
      have HM := Lib.hid hm
      rw [hm] at htl
      have hmn : m ≤ pg.length := by omega
      clear htl
      go_upto_if 93 with (fail)
      go_cut [] from 93 (fun wx => EndM w b g #[.slice PA pg.length pc, .slice FA free.length fc, .slice RA rn rc, .slice GA gone.length gc, .int .i64 ver, .int .i64 tree] (if shrink then (zeroAll free pg).take m else zeroAll free pg) (if shrink then keepAll m l2 else l2) (off5 b) wx)
      case first =>
        cases shrink with
        | false =>
          clear hm
          go_wp2
          go_meet
          case rel => exact ⟨_, HQ5.out, HA.out, HE.out, HB.out, HS.out, hqb⟩
        | true =>
          obtain ⟨A9, c9, hb9, hc9, hF9⟩ := HA.out
          have hT5 := tail_any l2 pg.length A9 c9 wr.drew (Kd.C_below (Kd.F_now hF9) (below_drew1 (Below.refl _ _))) hc9 (by omega) (by omega) (small_each HSL.out)
          rw [hm] at hT5
          have HT5 := Lib.hid hT5
          have HMQ := Aside0.mk (show m ≤ qc from Nat.le_trans hmn (Kd.N_reads' HQ5.out).2.1)
          have HB9 := Aside0.mk hb9
          have v0 : wr.cell? ⟨g, 0, none⟩ = some (.slice QA pg.length qc) := (blk_cell hb9 0).trans rfl
          have v1 : wr.cell? ⟨g, 1, none⟩ = some (.slice A9 l2.length c9) := (blk_cell hb9 1).trans rfl
          clear hm hT5 hb9 hF9
          go_upto_region 15 with (fail)
          refine wp_region_noPanic ?_
          refine wp_region_keptK (S := fun W => W.cell? ⟨g, 0, none⟩ = some (.slice QA pg.length qc) ∧ W.cell? ⟨g, 1, none⟩ = some (.slice A9 l2.length c9)) 15 (by kernel_rfl) (⟨v0, v1⟩) (fun hS => ?_)
          simp only [List.size_toArray, List.length_cons, List.length_nil, Nat.reduceAdd, Array.replicate_succ, Array.replicate_zero, List.push_toArray, List.nil_append, List.cons_append]
          refine take_atK (i := 0) 94 (.pointer (some ⟨g, 0, none⟩)) [15] rfl rfl (by kernel_rfl) (by decide) (by decide) (by kernel_rfl) (by kernel_rfl) (by kernel_rfl) (by kernel_rfl) (fun _ _ _ h => h) (Or.inl ⟨by rfl, fun W hW => by go_simp⟩) hS ?_
          try simp only [List.setIfInBounds_toArray, List.set_cons_zero, List.set_cons_succ]
          refine take_atK (i := 1) 95 (.pointer (some ⟨g, 0, none⟩)) [15] rfl rfl (by kernel_rfl) (by decide) (by decide) (by kernel_rfl) (by kernel_rfl) (by kernel_rfl) (by kernel_rfl) (fun _ _ _ h => h) (Or.inl ⟨by rfl, fun W hW => by go_simp⟩) hS ?_
          try simp only [List.setIfInBounds_toArray, List.set_cons_zero, List.set_cons_succ]
          refine take_atK (i := 2) 96 (.pointer (some ⟨g, 0, none⟩)) [15] rfl rfl (by kernel_rfl) (by decide) (by decide) (by kernel_rfl) (by kernel_rfl) (by kernel_rfl) (by kernel_rfl) (fun _ _ _ h => h) (Or.inl ⟨by rfl, fun W hW => by go_simp⟩) hS ?_
          try simp only [List.setIfInBounds_toArray, List.set_cons_zero, List.set_cons_succ]
          refine take_atK (i := 3) 97 (.pointer (some ⟨g, 0, none⟩)) [15] rfl rfl (by kernel_rfl) (by decide) (by decide) (by kernel_rfl) (by kernel_rfl) (by kernel_rfl) (by kernel_rfl) (fun _ _ _ h => h) (Or.inl ⟨by rfl, fun W hW => by go_simp⟩) hS ?_
          try simp only [List.setIfInBounds_toArray, List.set_cons_zero, List.set_cons_succ]
          refine take_atK (i := 4) 98 (.slice QA pg.length qc) [15] rfl rfl (by kernel_rfl) (by decide) (by decide) (by kernel_rfl) (by kernel_rfl) (by kernel_rfl) (by kernel_rfl) (fun _ _ _ h => h) (Or.inl ⟨by rfl, fun W hW => by have h0 := hW.1; go_simp⟩) hS ?_
          try simp only [List.setIfInBounds_toArray, List.set_cons_zero, List.set_cons_succ]
          refine take_atK (i := 5) 99 (.pointer (some ⟨g, 0, none⟩)) [15] rfl rfl (by kernel_rfl) (by decide) (by decide) (by kernel_rfl) (by kernel_rfl) (by kernel_rfl) (by kernel_rfl) (fun _ _ _ h => h) (Or.inl ⟨by rfl, fun W hW => by go_simp⟩) hS ?_
          try simp only [List.setIfInBounds_toArray, List.set_cons_zero, List.set_cons_succ]
          refine take_atK (i := 6) 100 (.pointer (some ⟨g, 0, none⟩)) [15] rfl rfl (by kernel_rfl) (by decide) (by decide) (by kernel_rfl) (by kernel_rfl) (by kernel_rfl) (by kernel_rfl) (fun _ _ _ h => h) (Or.inl ⟨by rfl, fun W hW => by go_simp⟩) hS ?_
          try simp only [List.setIfInBounds_toArray, List.set_cons_zero, List.set_cons_succ]
          refine take_atK (i := 7) 101 (.pointer (some ⟨g, 1, none⟩)) [15] rfl rfl (by kernel_rfl) (by decide) (by decide) (by kernel_rfl) (by kernel_rfl) (by kernel_rfl) (by kernel_rfl) (fun _ _ _ h => h) (Or.inl ⟨by rfl, fun W hW => by go_simp⟩) hS ?_
          try simp only [List.setIfInBounds_toArray, List.set_cons_zero, List.set_cons_succ]
          refine take_atK (i := 8) 102 (.pointer (some ⟨g, 1, none⟩)) [15] rfl rfl (by kernel_rfl) (by decide) (by decide) (by kernel_rfl) (by kernel_rfl) (by kernel_rfl) (by kernel_rfl) (fun _ _ _ h => h) (Or.inl ⟨by rfl, fun W hW => by go_simp⟩) hS ?_
          try simp only [List.setIfInBounds_toArray, List.set_cons_zero, List.set_cons_succ]
          refine take_atK (i := 9) 103 (.slice A9 l2.length c9) [15] rfl rfl (by kernel_rfl) (by decide) (by decide) (by kernel_rfl) (by kernel_rfl) (by kernel_rfl) (by kernel_rfl) (fun _ _ _ h => h) (Or.inl ⟨by rfl, fun W hW => by have h0 := hW.2; go_simp⟩) hS ?_
          try simp only [List.setIfInBounds_toArray, List.set_cons_zero, List.set_cons_succ]
          refine take_atK (i := 10) 104 (.int .i64 (pg.length : Int)) [15] rfl rfl (by kernel_rfl) (by decide) (by decide) (by kernel_rfl) (by kernel_rfl) (by kernel_rfl) (by kernel_rfl) (fun _ _ _ h => h) (Or.inl ⟨by rfl, fun W hW => by go_simp⟩) hS ?_
          try simp only [List.setIfInBounds_toArray, List.set_cons_zero, List.set_cons_succ]
          refine wpAnyK_ready (rs := [11]) (by kernel_rfl) (by simp) ?_
          refine AllReadyK.cons rfl (fun K hK => ?_) AllReadyK.nil
          go_simp
          refine HT5.out.mono ?_
          rintro e w5 ⟨rfl, hd5⟩
          refine hK.out _ _ (⟨cellB hd5.below (Nat.le_refl _) hS.1, cellB hd5.below (Nat.le_refl _) hS.2⟩) (fun hS => ?_)
          clear hK K
          try simp only [Act.put, List.getElem_toArray, List.getElem_cons_succ, List.getElem_cons_zero, List.setIfInBounds_toArray, List.set_cons_zero, List.set_cons_succ]
          refine take_atK (i := 12) 106 (.slice QA m qc) [15] rfl rfl (by kernel_rfl) (by decide) (by decide) (by kernel_rfl) (by kernel_rfl) (by kernel_rfl) (by kernel_rfl) (fun _ _ _ h => h) (Or.inl ⟨by rfl, fun W hW => exec_sliceTo _ 22 89 10 (.tmp 98) (.tmp 105) rfl _ _ _ m rfl rfl Tryz.underlying22 h89 HMQ.out⟩) hS ?_
          try simp only [List.setIfInBounds_toArray, List.set_cons_zero, List.set_cons_succ]
          refine take_atK (i := 13) 107 (.pointer (some ⟨g, 0, none⟩)) [14, 15] rfl rfl (by kernel_rfl) (by decide) (by decide) (by kernel_rfl) (by kernel_rfl) (by kernel_rfl) (by kernel_rfl) (fun _ _ _ h => h) (Or.inl ⟨by rfl, fun W hW => by go_simp⟩) hS ?_
          try simp only [List.setIfInBounds_toArray, List.set_cons_zero, List.set_cons_succ]
          refine take_atK (i := 14) 108 (.pointer (some ⟨g, 0, none⟩)) [15] rfl rfl (by kernel_rfl) (by decide) (by decide) (by kernel_rfl) (by kernel_rfl) (by kernel_rfl) (by kernel_rfl) (fun _ _ _ h => h) (Or.inl ⟨by rfl, fun W hW => by go_simp⟩) hS ?_
          try simp only [List.setIfInBounds_toArray, List.set_cons_zero, List.set_cons_succ]
          refine storeK (by kernel_rfl) (by decide) rfl rfl (fun K hK => ?_)
          have y0 := hS.1
          have z0 : w5.frozen? ⟨g, 0, none⟩ = false := blk_frozen (blk_below (blk_drew HB9.out) hd5.below) 0
          go_simp
          refine hK.out _ _ ?_
          clear hK K
          have hS : True := trivial
          try simp only [Act.put, List.getElem_toArray, List.getElem_cons_succ, List.getElem_cons_zero, List.setIfInBounds_toArray, List.set_cons_zero, List.set_cons_succ]
          refine wpAnyH_done (by kernel_rfl) ?_ _
          refine NoPanic.normal ?_
          have hbw5 : Below wr.heap.size wr w5 := (below_drew1 (Below.refl _ _)).trans hd5.below
          have hQ6 : Kd.N k89 89 (w5.setCell ⟨g, 0, none⟩ (.slice QA m qc)) b (fun q => q ≠ g ∧ off5 b q) (.slice QA m qc) ((zeroAll free pg).take m) := Kd.N_far (Kd.N_take (Kd.N_below HQ5.out hbw5) (by rw [zeroAll_length]; omega)) (p := ⟨g, 0, none⟩) (fun k hk => hk.1) _
          have hA6 : AccX (off5 b) (w5.setCell ⟨g, 0, none⟩ (.slice QA m qc)) g (.slice QA m qc) l2 := (HA.out.below hbw5).pages (by cases QA <;> rfl)
          have hT6 : Turned g wr (w5.setCell ⟨g, 0, none⟩ (.slice QA m qc)) := (Turned.of_below hbw5 HA.out.lt).set 0 _
          have u0 : (w5.setCell ⟨g, 0, none⟩ (.slice QA m qc)).cell? ⟨g, 0, none⟩ = some (.slice QA m qc) := World.cell?_setCell_same _ _ _ y0
          obtain ⟨W6, hW6⟩ : ∃ W6, w5.setCell ⟨g, 0, none⟩ (.slice QA m qc) = W6 := ⟨_, rfl⟩
          rw [hW6] at hQ6 hA6 hT6 u0 ⊢
          have HK6 := Lib.hid (keep_any l2 g (.slice QA m qc) m W6.drew (off5 b) (fun q hq => .inr (by have h1 : W6.heap.size ≤ q := hq; have h2 := hT6.size; have h3 := HS.out; omega)) (hA6.below (below_drew1 (Below.refl _ _))) hfl2 (fun q hq => by have h1 := hQlg q (by have e : (Value.slice QA m qc).ownBlock = (Value.slice QA pg.length qc).ownBlock := (by cases QA <;> rfl); rw [← e]; exact hq); have h2 := hT6.size; have h3 := HS.out; show q < W6.heap.size; omega) HSL.out)
          have HQ6 := Aside0.mk hQ6
          have HT6 := Aside0.mk hT6
          clear hW6 hQ6 hA6 hT6 hbw5 hd5 y0 z0 v0 v1 hS
          go_upto_region 16 with (fail)
          refine wp_region_noPanic ?_
          refine wp_region_keptK (S := fun W => W.cell? ⟨g, 0, none⟩ = some (.slice QA m qc)) 8 (by kernel_rfl) (u0) (fun hS => ?_)
          simp only [List.size_toArray, List.length_cons, List.length_nil, Nat.reduceAdd, Array.replicate_succ, Array.replicate_zero, List.push_toArray, List.nil_append, List.cons_append]
          refine take_atK (i := 0) 109 (.pointer (some ⟨g, 0, none⟩)) [1, 2, 8] rfl rfl (by kernel_rfl) (by decide) (by decide) (by kernel_rfl) (by kernel_rfl) (by kernel_rfl) (by kernel_rfl) (fun _ _ _ h => h) (Or.inl ⟨by rfl, fun W hW => by go_simp⟩) hS ?_
          try simp only [List.setIfInBounds_toArray, List.set_cons_zero, List.set_cons_succ]
          refine take_atK (i := 1) 110 (.pointer (some ⟨g, 0, none⟩)) [2, 8] rfl rfl (by kernel_rfl) (by decide) (by decide) (by kernel_rfl) (by kernel_rfl) (by kernel_rfl) (by kernel_rfl) (fun _ _ _ h => h) (Or.inl ⟨by rfl, fun W hW => by go_simp⟩) hS ?_
          try simp only [List.setIfInBounds_toArray, List.set_cons_zero, List.set_cons_succ]
          refine take_atK (i := 2) 111 (.pointer (some ⟨g, 1, none⟩)) [8] rfl rfl (by kernel_rfl) (by decide) (by decide) (by kernel_rfl) (by kernel_rfl) (by kernel_rfl) (by kernel_rfl) (fun _ _ _ h => h) (Or.inl ⟨by rfl, fun W hW => by go_simp⟩) hS ?_
          try simp only [List.setIfInBounds_toArray, List.set_cons_zero, List.set_cons_succ]
          refine take_atK (i := 3) 112 (.pointer (some ⟨g, 0, none⟩)) [4, 5, 6, 7, 8] rfl rfl (by kernel_rfl) (by decide) (by decide) (by kernel_rfl) (by kernel_rfl) (by kernel_rfl) (by kernel_rfl) (fun _ _ _ h => h) (Or.inl ⟨by rfl, fun W hW => by go_simp⟩) hS ?_
          try simp only [List.setIfInBounds_toArray, List.set_cons_zero, List.set_cons_succ]
          refine take_atK (i := 4) 113 (.pointer (some ⟨g, 0, none⟩)) [5, 6, 7, 8] rfl rfl (by kernel_rfl) (by decide) (by decide) (by kernel_rfl) (by kernel_rfl) (by kernel_rfl) (by kernel_rfl) (fun _ _ _ h => h) (Or.inl ⟨by rfl, fun W hW => by go_simp⟩) hS ?_
          try simp only [List.setIfInBounds_toArray, List.set_cons_zero, List.set_cons_succ]
          refine take_atK (i := 5) 114 (.pointer (some ⟨g, 0, none⟩)) [6, 7, 8] rfl rfl (by kernel_rfl) (by decide) (by decide) (by kernel_rfl) (by kernel_rfl) (by kernel_rfl) (by kernel_rfl) (fun _ _ _ h => h) (Or.inl ⟨by rfl, fun W hW => by go_simp⟩) hS ?_
          try simp only [List.setIfInBounds_toArray, List.set_cons_zero, List.set_cons_succ]
          refine take_atK (i := 6) 115 (.slice QA m qc) [7, 8] rfl rfl (by kernel_rfl) (by decide) (by decide) (by kernel_rfl) (by kernel_rfl) (by kernel_rfl) (by kernel_rfl) (fun _ _ _ h => h) (Or.inl ⟨by rfl, fun W hW => by have h0 := hW; go_simp⟩) hS ?_
          try simp only [List.setIfInBounds_toArray, List.set_cons_zero, List.set_cons_succ]
          refine take_atK (i := 7) 116 (.int .i64 (m : Int)) [8] rfl rfl (by kernel_rfl) (by decide) (by decide) (by kernel_rfl) (by kernel_rfl) (by kernel_rfl) (by kernel_rfl) (fun _ _ _ h => h) (Or.inl ⟨by rfl, fun W hW => by go_simp⟩) hS ?_
          try simp only [List.setIfInBounds_toArray, List.set_cons_zero, List.set_cons_succ]
          refine storeK (by kernel_rfl) (by decide) rfl rfl (fun K hK => ?_)
          go_simp
          refine HK6.out.mono ?_
          rintro e w7 ⟨rfl, ha7, ht7⟩
          refine hK.out _ _ ?_
          clear hK K
          have hS : True := trivial
          try simp only [Act.put, List.getElem_toArray, List.getElem_cons_succ, List.getElem_cons_zero, List.setIfInBounds_toArray, List.set_cons_zero, List.set_cons_succ]
          refine wpAnyH_done (by kernel_rfl) ?_ _
          refine NoPanic.normal ?_
          go_wp2
          go_meet
          case rel =>
            have ht7' : Turned g wr w7 := HT6.out.trans ((Turned.of_below (below_drew1 (Below.refl _ W6)) (by have := HT6.out.size; have := HS.out; omega)).trans ht7)
            refine ⟨.slice QA m qc, ht7.N (fun k hk => hk.1) (Kd.N_drew HQ6.out), ?_, HE.out.turned ht7' hbg5, HB.out.trans (ht7'.below.mono (by omega)), Nat.le_trans HS.out ht7'.size, fun q hq => hqb q (by have e : (Value.slice QA m qc).ownBlock = (Value.slice QA pg.length qc).ownBlock := (by cases QA <;> rfl); rw [← e]; exact hq)⟩
            rw [if_pos trivial]
            exact ha7
      case rest =>
        have hf3 := HF3.out
        have hs3 := HS3.out
        have hrun := HRUN.out
        rw [HLL.out, HM.out] at hf3 hs3 hrun
        rw [Int.toNat_natCast] at hrun
        obtain ⟨pg3, hpg3⟩ : ∃ x, (if shrink then (zeroAll free pg).take m else zeroAll free pg) = x := ⟨_, rfl⟩
        obtain ⟨l3, hl3⟩ : ∃ x, (if shrink then keepAll m l2 else l2) = x := ⟨_, rfl⟩
        have hlen3 : (if shrink then m else pg.length) = pg3.length := by rw [← hpg3]; cases shrink <;> simp [zeroAll_length]; omega
        have hn3 : pg3.length ≤ 4096 := by rw [← hlen3]; cases shrink <;> simp <;> omega
        rw [hpg3, hl3] at hcut
        rw [hl3] at hf3 hs3 hrun
        rw [hlen3] at hrun
        have HPG3 := Lib.hid hpg3
        have HLEN3 := Lib.hid hlen3
        have HCUT := Aside0.mk (hcut.x (X' := offT b (.slice none 0 0)) (fun k hk _ => ⟨by simp [offV, Value.ownBlock], hk⟩))
        have HF3' := Aside0.mk hf3
        have HS3' := Aside0.mk hs3
        have HRUN' := Aside0.mk hrun
        have HN3 := Aside0.mk hn3
        clear hf3 hs3 hrun hpg3 hl3 hlen3 hn3 hcut hm HV1 HI1 HI2 HCP HE0 HB0 HS0 HBb HEb HSb HBc HEc HSc HBd HEd HSd HBe HEe HQ HBf HEf HSf hsg hSb HPUT1 HWV HL1 hSb1 HPUT2 HV4
        go_upto_region 18 with (fail)
        go_loopg [14] K (fun k t wr => ∃ (l : List S64) (n : Nat) (own' : List Int), Aside0 (takeRun k l n own' = some (l4, m4, own)) ∧ Aside0 (formP 4096 l) ∧ Aside0 (smallL l) ∧ Aside0 ((Kd.int .i64).R 3 wr (b + 5) (fun q => q ≠ g) t own') ∧ Aside0 (EndM w b g #[.slice PA pg.length pc, .slice FA free.length fc, .slice RA rn rc, .slice GA gone.length gc, .int .i64 ver, .int .i64 tree] (pg3 ++ List.replicate (n - pg3.length) z89) l (offT b t) wr) ∧ Aside0 (pg3.length ≤ n ∧ n ≤ 4096 ∧ own'.length + k ≤ K))
        case atStart => exact ⟨l3, pg3.length, [], HRUN', HF3', HS3', ⟨Kd.R_nil _ _ _ _ _⟩, ⟨by rw [Nat.sub_self, List.replicate_zero, List.append_nil]; exact HCUT.out⟩, ⟨Nat.le_refl _, HN3.out, by simp⟩⟩
        case round =>
          clear HRUN' HF3' HS3' HCUT
          obtain ⟨l, n, own', HRU, HF, HSM, HR, HEM, HBD⟩ := hrel
          obtain ⟨TA, tc, rfl⟩ := Kd.R_slice HR.out
          obtain ⟨A9, c9, v1, HNE⟩ : ∃ A9 c9, wr.cell? ⟨g, 1, none⟩ = some (.slice A9 l.length c9) ∧ Aside0 (Calls Tryz.prog 33 #[.slice A9 l.length c9] wr fun e w' => e = .returned (.tuple #[.int .i64 (partsOf l).length, .int .i64 0]) ∧ Below wr.heap.size wr w') := by
            obtain ⟨P, hN, ⟨A9, c9, hb9, hc9, hF9⟩, _⟩ := HEM.out
            exact ⟨A9, c9, (blk_cell hb9 1).trans rfl, ⟨needs_yes l A9 c9 wr (Kd.F_now hF9) hc9 HSM.out HF.out⟩⟩
          by_cases hdn : (partsOf l).length ≤ own'.length
          · have hst := takeRun_stop HRU.out hdn
            obtain ⟨h1, h2⟩ := Prod.mk.inj hst
            obtain ⟨h2, h3⟩ := Prod.mk.inj h2
            subst h1 h2 h3
            have hpg := pages_grow (pg := pg3) HBD.out.1 (Nat.le_refl m4)
            obtain ⟨pg4, hpg4⟩ : ∃ x, pg3 ++ List.replicate (m4 - pg3.length) z89 = x := ⟨_, rfl⟩
            rw [hpg4] at HEM hpg
            have hl4 : pg4.length = m4 := hpg.1
            have HPG4 := Lib.hid hpg4
            have HL4 := Lib.hid hl4
            have HD := Aside0.mk hdn
            have HSML := Aside0.mk HSM.out
            clear hst hpg hpg4 hl4
            go_upto_region 22 with (first
              | (go_at_call 33; (refine HNE.out.mono ?_); rintro e w8 ⟨rfl, hb8⟩)
              | (go_at_call 53; refine (must_ok _).mono ?_; rintro e w' ⟨rfl, rfl⟩))
            have HEM8 := Aside0.mk (HEM.out.below (by omega) hb8)
            have HR8 := Aside0.mk (Kd.R_below HR.out hb8)
            have HE8 : Aside0 (EndC w8 b #[.slice PA pg.length pc, .slice FA free.length fc, .slice RA rn rc, .slice GA gone.length gc, .int .i64 ver, .int .i64 tree]) := ⟨by obtain ⟨_, _, _, h9, _⟩ := HEM8.out; exact h9⟩
            have v4 : w8.cell? ⟨b, 4, none⟩ = some (.int .i64 ver) := HE8.out.cells.2.2.2.1
            clear v1
            obtain ⟨A9, c9, v1, HLP⟩ : ∃ A9 c9, w8.cell? ⟨g, 1, none⟩ = some (.slice A9 l4.length c9) ∧ Aside0 (Calls Tryz.prog 55 #[.slice A9 l4.length c9, .slice TA own.length tc, .int .i64 ver] w8.drew fun e w' => ∃ u, e = .returned (.tuple #[u, .int .i64 0]) ∧ Kd.N k89 89 w' w8.drew.heap.size (fun q => w8.drew.heap.size ≤ q) u (listPg l4 own ver) ∧ Below w8.drew.heap.size w8.drew w') := by
              obtain ⟨P, hN, ⟨A9, c9, hb9, hc9, hF9⟩, _⟩ := HEM8.out
              obtain ⟨_, hcb, hCT⟩ := Kd.R_reads' HR8.out
              exact ⟨A9, c9, (blk_cell hb9 1).trans rfl, ⟨pages_yes l4 own ver A9 TA c9 tc w8.drew (Kd.C_below (Kd.F_now hF9) (below_drew1 (Below.refl _ _))) hc9 HSM.out HF.out (Kd.C_below hCT (below_drew1 (Below.refl _ _))) hcb (by have h1 := HBD.out; have h2 := HKK.out; omega) HD.out HNUM.out⟩⟩
            have hidx := HIDX.out
            obtain ⟨ps, hps⟩ : ∃ ps, listPg l4 own ver = ps := ⟨_, rfl⟩
            rw [hps] at HLP hidx
            have HPS := Lib.hid hps
            have HIX := Aside0.mk hidx
            clear hidx hps hdn HNE hb8
            refine wp_region_noPanic ?_
            refine wp_region_held_drew (S := fun W => W.cell? ⟨g, 1, none⟩ = some (.slice A9 l4.length c9) ∧ W.cell? ⟨b, 4, none⟩ = some (.int .i64 ver)) (by kernel_rfl) (⟨v1, v4⟩) (fun hS => ?_)
            simp only [List.size_toArray, List.length_cons, List.length_nil, Nat.reduceAdd, Array.replicate_succ, Array.replicate_zero, List.push_toArray, List.nil_append, List.cons_append]
            refine take_at (i := 0) 139 (.pointer (some ⟨g, 0, none⟩)) rfl rfl (by kernel_rfl) (by kernel_rfl) (by kernel_rfl) (fun _ _ _ h => h) (Or.inl ⟨by rfl, fun W hW => by go_simp⟩) hS ?_
            try simp only [List.setIfInBounds_toArray, List.set_cons_zero, List.set_cons_succ]
            refine take_at (i := 1) 140 (.pointer (some ⟨g, 0, none⟩)) rfl rfl (by kernel_rfl) (by kernel_rfl) (by kernel_rfl) (fun _ _ _ h => h) (Or.inl ⟨by rfl, fun W hW => by go_simp⟩) hS ?_
            try simp only [List.setIfInBounds_toArray, List.set_cons_zero, List.set_cons_succ]
            refine take_at (i := 2) 141 (.pointer (some ⟨g, 1, none⟩)) rfl rfl (by kernel_rfl) (by kernel_rfl) (by kernel_rfl) (fun _ _ _ h => h) (Or.inl ⟨by rfl, fun W hW => by go_simp⟩) hS ?_
            try simp only [List.setIfInBounds_toArray, List.set_cons_zero, List.set_cons_succ]
            refine take_at (i := 3) 142 (.pointer (some ⟨g, 1, none⟩)) rfl rfl (by kernel_rfl) (by kernel_rfl) (by kernel_rfl) (fun _ _ _ h => h) (Or.inl ⟨by rfl, fun W hW => by go_simp⟩) hS ?_
            try simp only [List.setIfInBounds_toArray, List.set_cons_zero, List.set_cons_succ]
            refine take_at (i := 4) 143 (.slice A9 l4.length c9) rfl rfl (by kernel_rfl) (by kernel_rfl) (by kernel_rfl) (fun _ _ _ h => h) (Or.inl ⟨by rfl, fun W hW => by have h0 := hW.1; go_simp⟩) hS ?_
            try simp only [List.setIfInBounds_toArray, List.set_cons_zero, List.set_cons_succ]
            refine take_at (i := 5) 144 (.slice TA own.length tc) rfl rfl (by kernel_rfl) (by kernel_rfl) (by kernel_rfl) (fun _ _ _ h => h) (Or.inl ⟨by rfl, fun W hW => by go_simp⟩) hS ?_
            try simp only [List.setIfInBounds_toArray, List.set_cons_zero, List.set_cons_succ]
            refine take_at (i := 6) 145 (.pointer (some ⟨b, 4, none⟩)) rfl rfl (by kernel_rfl) (by kernel_rfl) (by kernel_rfl) (fun _ _ _ h => h) (Or.inl ⟨by rfl, fun W hW => by go_simp⟩) hS ?_
            try simp only [List.setIfInBounds_toArray, List.set_cons_zero, List.set_cons_succ]
            refine take_at (i := 7) 146 (.int .i64 ver) rfl rfl (by kernel_rfl) (by kernel_rfl) (by kernel_rfl) (fun _ _ _ h => h) (Or.inl ⟨by rfl, fun W hW => by have h0 := hW.2; go_simp⟩) hS ?_
            try simp only [List.setIfInBounds_toArray, List.set_cons_zero, List.set_cons_succ]
            refine wpAnyH_ready (rs := [8]) (by kernel_rfl) (by simp) ?_
            refine AllReadyH.cons rfl (fun K hK => ?_) AllReadyH.nil
            go_simp
            refine HLP.out.mono ?_
            rintro e w10 ⟨u, rfl, hu, hb10⟩
            obtain ⟨UA, uc, rfl⟩ := Kd.N_slice hu
            have HU := Aside0.mk hu
            have HB10 := Aside0.mk ((below_drew1 (Below.refl _ w8)).trans hb10)
            clear hu
            refine hK.out _ _ (⟨cellB hb10 (Nat.le_refl _) hS.1, cellB hb10 (Nat.le_refl _) hS.2⟩) (fun hS => ?_)
            clear hK K
            try simp only [Act.put, List.getElem_toArray, List.getElem_cons_succ, List.getElem_cons_zero, List.setIfInBounds_toArray, List.set_cons_zero, List.set_cons_succ]
            refine take_at (i := 9) 138 (.tuple #[.slice UA ps.length uc, .int .i64 0]) rfl rfl (by kernel_rfl) (by kernel_rfl) (by kernel_rfl) (fun _ _ _ h => h) (Or.inl ⟨by rfl, fun W hW => by go_simp⟩) hS ?_
            try simp only [List.setIfInBounds_toArray, List.set_cons_zero, List.set_cons_succ]
            refine take_at (i := 10) 148 (.slice UA ps.length uc) rfl rfl (by kernel_rfl) (by kernel_rfl) (by kernel_rfl) (fun _ _ _ h => h) (Or.inl ⟨by rfl, fun W hW => by go_simp⟩) hS ?_
            try simp only [List.setIfInBounds_toArray, List.set_cons_zero, List.set_cons_succ]
            refine take_at (i := 11) 149 (.int .i64 0) rfl rfl (by kernel_rfl) (by kernel_rfl) (by kernel_rfl) (fun _ _ _ h => h) (Or.inl ⟨by rfl, fun W hW => by go_simp⟩) hS ?_
            try simp only [List.setIfInBounds_toArray, List.set_cons_zero, List.set_cons_succ]
            refine take_at (i := 12) 17 (.slice UA ps.length uc) rfl rfl (by kernel_rfl) (by kernel_rfl) (by kernel_rfl) (fun _ _ _ h => h) (Or.inl ⟨by rfl, fun W hW => by go_simp⟩) hS ?_
            try simp only [List.setIfInBounds_toArray, List.set_cons_zero, List.set_cons_succ]
            refine wpAnyH_ready (rs := [13]) (by kernel_rfl) (by simp) ?_
            refine AllReadyH.cons rfl (fun K hK => ?_) AllReadyH.nil
            have he10 := blk_below HE8.out.2.2.2.2 HB10.out
            have HSM := Aside0.mk (below_same he10)
            have q0 : w10.cell? ⟨b + 1 + 1 + 1 + 1, 0, none⟩ = some (.int .i64 0) := (blk_cell he10 0).trans rfl
            have q1 : w10.frozen? ⟨b + 1 + 1 + 1 + 1, 0, none⟩ = false := blk_frozen he10 0
            go_simp
            refine hK.out _ _ (⟨cellB HSM.out (Nat.le_refl _) hS.1, cellB HSM.out (Nat.le_refl _) hS.2⟩) (fun hS => ?_)
            clear hK K
            try simp only [Act.put, List.getElem_toArray, List.getElem_cons_succ, List.getElem_cons_zero, List.setIfInBounds_toArray, List.set_cons_zero, List.set_cons_succ]
            refine wpAnyH_done (by kernel_rfl) ?_ _
            refine NoPanic.normal ?_
            obtain ⟨P, hN8, hA8, hE8', hB8, hS8, hq8⟩ := HEM8.out
            obtain ⟨QP, qp, rfl⟩ := Kd.N_slice hN8
            have hPlt : ∀ q, (Value.slice QP pg4.length qp).ownBlock = some q → q < w8.heap.size := Kd.N_lt hN8
            have hTlt : ∀ q, (Value.slice TA own.length tc).ownBlock = some q → q < w8.heap.size := Kd.R_lt HR8.out
            have hb811 : Below w8.heap.size w8 (w10.setCell ⟨b + 1 + 1 + 1 + 1, 0, none⟩ (.int .i64 0)) := HB10.out.trans (HSM.out.mono HB10.out.size)
            have HN11 := Aside0.mk (Kd.N_below hN8 hb811)
            have HA11 := Aside0.mk (hA8.below hb811)
            have HE11 := Aside0.mk (hE8'.below hb811)
            have HB11 := Aside0.mk (hB8.trans (hb811.mono (by omega)))
            have HS11 := Aside0.mk (show g + 1 ≤ w8.heap.size from hS8)
            have HW11 := Aside0.mk hb811
            have HPL := Aside0.mk hPlt
            have HTL := Aside0.mk hTlt
            have HQ8 := Aside0.mk hq8
            have HR11 := Aside0.mk (Kd.R_below HR8.out hb811)
            have HU11 := Aside0.mk (Kd.N_below HU.out HSM.out)
            have q2 : (w10.setCell ⟨b + 1 + 1 + 1 + 1, 0, none⟩ (.int .i64 0)).cell? ⟨b + 1 + 1 + 1 + 1, 0, none⟩ = some (.int .i64 0) := World.cell?_setCell_same _ _ _ q0
            obtain ⟨w11, hw11⟩ : ∃ w11, w10.setCell ⟨b + 1 + 1 + 1 + 1, 0, none⟩ (.int .i64 0) = w11 := ⟨_, rfl⟩
            rw [hw11] at HN11 HA11 HE11 HB11 HW11 HR11 HU11 q2 ⊢
            have hq3 : ∀ p ∈ ps, 0 ≤ p.no ∧ p.no < m4 := HIX.out
            have HQ3 := Aside0.mk hq3
            have hpsl : ps.length ≤ 1000000 := by rw [← HPS.out]; unfold listPg; rw [chTo_length, fillTo_length]; have h1 := HBD.out; have h2 := HKK.out; omega
            clear hq3 hw11 q0 q1 he10 hS v1 v4 HSM hN8 hA8 hE8' hB8 hS8 hq8 hPlt hTlt hb811 HLP hb10 HIX
            go_upto_region 25 with (first
              | (go_at_call 53; refine (must_ok _).mono ?_; rintro e w' ⟨rfl, rfl⟩))
            go_loopw [154] (fun i wr => ∃ k : Nat, k ≤ ps.length ∧ i = .int .i64 k ∧ Aside0 (Kd.N k89 89 wr b (fun q => q ≠ g ∧ offT b (.slice TA own.length tc) q) (.slice QP pg4.length qp) (layTo k ps pg4)) ∧ Aside0 (AccX (offT b (.slice TA own.length tc)) wr g (.slice QP pg4.length qp) l4) ∧ Aside0 (EndC wr b #[.slice PA pg.length pc, .slice FA free.length fc, .slice RA rn rc, .slice GA gone.length gc, .int .i64 ver, .int .i64 tree]) ∧ Aside0 (Below b w wr) ∧ Aside0 (w8.heap.size ≤ wr.heap.size) ∧ Aside0 ((Kd.int .i64).R 3 wr (b + 5) (fun q => q ≠ g) (.slice TA own.length tc) own) ∧ Aside0 (Kd.N k89 89 wr w8.drew.heap.size (fun q => w8.drew.heap.size ≤ q) (.slice UA ps.length uc) ps))
              (fun i _ => ps.length - (intOf i).toNat)
            case atStart => exact ⟨0, Nat.zero_le _, rfl, HN11, HA11, HE11, HB11, ⟨HW11.out.size⟩, HR11, HU11⟩
            case round =>
              clear HN11 HA11 HE11 HB11 HW11 HR11 HU11 HU HEM8 HR8 HE8 HEM HR
              obtain ⟨k, hk, rfl, HN, HA, HE, HB, HS, HR, HU⟩ := hrel
              by_cases hlt : k < ps.length
              · have HLT := Aside0.mk hlt
                have hx := HQ3.out ps[k] (List.getElem_mem hlt)
                have hgd : ps.getD (k : Int).toNat z89 = ps[k] := by rw [Int.toNat_natCast]; simp [hlt]
                have HZS := Lib.hid (layTo_succ k ps pg4 hlt)
                obtain ⟨x, hxx⟩ : ∃ x, ps[k] = x := ⟨_, rfl⟩
                rw [hxx] at hx hgd HZS
                have hlen : (layTo k ps pg4).length = pg4.length := layAll_length _ _
                have hm4 := HL4.out
                obtain ⟨q, qp', hve, hbq, hqs, _⟩ := Kd.N_form HN.out (by rw [hlen]; omega)
                rw [hlen] at hve
                injection hve with e1 _ e2
                subst e1 e2
                obtain ⟨ug, uc', hue, hub, hus, _⟩ := Kd.N_form HU.out (by omega)
                injection hue with e1 _ e2
                subst e1 e2
                obtain ⟨c1, hcl1, hFK1, hcc1, _⟩ := Kd.N_elem HU.out z89 (k : Int) (by omega) (by omega)
                rw [hgd] at hFK1
                obtain ⟨A1, c2, rfl, hl1, hF1⟩ := k89_openF hFK1
                have u0 := hcc1 0 _ rfl
                have u1 := hcc1 1 _ rfl
                have u2 := hcc1 2 _ rfl
                have u3 := hcc1 3 _ rfl
                have u4 := hcc1 4 _ rfl
                have u5 := hcc1 5 _ rfl
                have u6 := hcc1 6 _ rfl
                have u7 := hcc1 7 _ rfl
                have u8 := hcc1 8 _ rfl
                have u9 := hcc1 9 _ rfl
                simp only [Int.toNat_natCast, k89_sz, Nat.add_zero] at u0 u1 u2 u3 u4 u5 u6 u7 u8 u9
                go_upto_region 27 with (fail)
                have hbk := blk_new wr (.cells #[.int .i64 x.kind, .int .i64 x.no, .int .i64 x.ver, .int .i64 x.tree, .int .i64 x.level, .bool x.top, .slice x.ent.1 x.ent.2.1 x.ent.2.2, .int .i64 x.next, .string x.data, .slice A1 x.freed.length c2] 89)
                have hb1 := below_alloc1 wr (.cells #[.int .i64 x.kind, .int .i64 x.no, .int .i64 x.ver, .int .i64 x.tree, .int .i64 x.level, .bool x.top, .slice x.ent.1 x.ent.2.1 x.ent.2.2, .int .i64 x.next, .string x.data, .slice A1 x.freed.length c2] 89)
                obtain ⟨B, hBe⟩ : ∃ B, wr.heap.size = B := ⟨_, rfl⟩
                obtain ⟨W1, hW1⟩ : ∃ W1, wr.alloc (.cells #[.int .i64 x.kind, .int .i64 x.no, .int .i64 x.ver, .int .i64 x.tree, .int .i64 x.level, .bool x.top, .slice x.ent.1 x.ent.2.1 x.ent.2.2, .int .i64 x.next, .string x.data, .slice A1 x.freed.length c2] 89) = W1 := ⟨_, rfl⟩
                rw [hW1] at hbk hb1 ⊢
                have HN1 := Aside0.mk (Kd.N_below HN.out hb1)
                have HA1 := Aside0.mk (HA.out.below hb1)
                have HE1 := Aside0.mk (HE.out.below hb1)
                have HB1 := Aside0.mk (HB.out.trans (hb1.mono (by have h1 := HS.out; have h2 := HS11.out; omega)))
                have HS1 := Aside0.mk (Nat.le_trans HS.out hb1.size)
                have HR1 := Aside0.mk (Kd.R_below HR.out hb1)
                have HU1 := Aside0.mk (Kd.N_below HU.out hb1)
                have HFX : Aside0 (Kd.FK k89 W1.drew (fun y => w8.drew.heap.size ≤ y) x (cells89 x A1 c2)) := ⟨k89_mkF _ _ x hl1 (Kd.F_drew (Kd.F_below (Kd.F_mono hF1 (fun y hy => hy.1)) hb1))⟩
                rw [hBe] at hbk ⊢
                have hBk : W1.heap[B]? = some (.cells #[.int .i64 x.kind, .int .i64 x.no, .int .i64 x.ver, .int .i64 x.tree, .int .i64 x.level, .bool x.top, .slice x.ent.1 x.ent.2.1 x.ent.2.2, .int .i64 x.next, .string x.data, .slice A1 x.freed.length c2] 89 (0, 0)) := hbk
                have hqg : q ≠ g := (HN.out.1 q (by simp [Value.ownBlock])).1
                have hq8 := HPL.out q (by simp [Value.ownBlock])
                have hq5 := HQ8.out q (by simp [Value.ownBlock])
                have hqT := (HN.out.1 q (by simp [Value.ownBlock])).2.1
                have HGQ := Aside0.mk (show g ≠ q from fun e => hqg e.symm)
                have HBQ := Aside0.mk (show B ≠ q by have h1 := HS.out; omega)
                have HOK := Aside0.mk (show ∀ y, w8.drew.heap.size ≤ y → (y ≠ g ∧ offT b (.slice TA own.length tc) y) ∧ y ≠ q from fun y hy => by
                  have h1 : w8.heap.size ≤ y := hy
                  have h2 := HS11.out
                  exact ⟨⟨by omega, fun e => by have h3 := HTL.out y e.symm; omega, .inr (by omega)⟩, by omega⟩)
                have HQT := Aside0.mk hqT
                have HQ5 := Aside0.mk hq5
                have HQL := Aside0.mk hq8
                have hxl : x.no < (pg4.length : Int) := by omega
                have HX0 := Aside0.mk hx.1
                have HXL := Aside0.mk hxl
                obtain ⟨cs, hcl, hFK, hcc, hfr⟩ := Kd.N_elem HN1.out z89 x.no HX0.out HXL.out
                obtain ⟨A8, c8, rfl, _, _⟩ := k89_openF hFK
                have HCC := Aside0.mk hcc
                obtain ⟨A9, c9, hb9, hc9, hF9⟩ := HA1.out
                have y0 : W1.cell? ⟨g, 0, none⟩ = some (.slice (some ⟨q, 0, none⟩) pg4.length qp) := (blk_cell hb9 0).trans rfl
                have hx0 := HX0.out
                clear hW1 hBe hbk hb1 hqg hq8 hq5 hqT hFK hcc hfr hb9 hc9 hF9 u0 u1 u2 u3 u4 u5 u6 u7 u8 u9 hFK1 hcc1 hl1 hF1 hxx hgd hx hm4 hlen
                refine wp_region_noPanic ?_
                refine wp_region_held_drew (S := fun W => W.cell? ⟨g, 0, none⟩ = some (.slice (some ⟨q, 0, none⟩) pg4.length qp) ∧ W.heap[B]? = some (.cells #[.int .i64 x.kind, .int .i64 x.no, .int .i64 x.ver, .int .i64 x.tree, .int .i64 x.level, .bool x.top, .slice x.ent.1 x.ent.2.1 x.ent.2.2, .int .i64 x.next, .string x.data, .slice A1 x.freed.length c2] 89 (0, 0))) (by kernel_rfl) (⟨y0, hBk⟩) (fun hS => ?_)
                simp only [List.size_toArray, List.length_cons, List.length_nil, Nat.reduceAdd, Array.replicate_succ, Array.replicate_zero, List.push_toArray, List.nil_append, List.cons_append]
                refine take_at (i := 0) 158 (.pointer (some ⟨g, 0, none⟩)) rfl rfl (by kernel_rfl) (by kernel_rfl) (by kernel_rfl) (fun _ _ _ h => h) (Or.inl ⟨by rfl, fun W hW => by go_simp⟩) hS ?_
                try simp only [List.setIfInBounds_toArray, List.set_cons_zero, List.set_cons_succ]
                refine take_at (i := 1) 159 (.pointer (some ⟨g, 0, none⟩)) rfl rfl (by kernel_rfl) (by kernel_rfl) (by kernel_rfl) (fun _ _ _ h => h) (Or.inl ⟨by rfl, fun W hW => by go_simp⟩) hS ?_
                try simp only [List.setIfInBounds_toArray, List.set_cons_zero, List.set_cons_succ]
                refine take_at (i := 2) 160 (.pointer (some ⟨g, 0, none⟩)) rfl rfl (by kernel_rfl) (by kernel_rfl) (by kernel_rfl) (fun _ _ _ h => h) (Or.inl ⟨by rfl, fun W hW => by go_simp⟩) hS ?_
                try simp only [List.setIfInBounds_toArray, List.set_cons_zero, List.set_cons_succ]
                refine take_at (i := 3) 161 (.slice (some ⟨q, 0, none⟩) pg4.length qp) rfl rfl (by kernel_rfl) (by kernel_rfl) (by kernel_rfl) (fun _ _ _ h => h) (Or.inl ⟨by rfl, fun W hW => by have h0 := hW.1; go_simp⟩) hS ?_
                try simp only [List.setIfInBounds_toArray, List.set_cons_zero, List.set_cons_succ]
                refine take_at (i := 4) 162 (.pointer (some ⟨B, 1, none⟩)) rfl rfl (by kernel_rfl) (by kernel_rfl) (by kernel_rfl) (fun _ _ _ h => h) (Or.inl ⟨by rfl, fun W hW => by go_simp⟩) hS ?_
                try simp only [List.setIfInBounds_toArray, List.set_cons_zero, List.set_cons_succ]
                refine take_at (i := 5) 163 (.int .i64 x.no) rfl rfl (by kernel_rfl) (by kernel_rfl) (by kernel_rfl) (fun _ _ _ h => h) (Or.inl ⟨by rfl, fun W hW => by have h0 : W.cell? ⟨B, 1, none⟩ = some (.int .i64 x.no) := (blk_cell hW.2 1).trans rfl; go_simp⟩) hS ?_
                try simp only [List.setIfInBounds_toArray, List.set_cons_zero, List.set_cons_succ]
                refine take_at (i := 6) 164 (.agg #[.int .i64 x.kind, .int .i64 x.no, .int .i64 x.ver, .int .i64 x.tree, .int .i64 x.level, .bool x.top, .slice x.ent.1 x.ent.2.1 x.ent.2.2, .int .i64 x.next, .string x.data, .slice A1 x.freed.length c2]) rfl rfl (by kernel_rfl) (by kernel_rfl) (by kernel_rfl) (fun _ _ _ h => h) (Or.inl ⟨by rfl, fun W hW => by have h0 := blk_cell hW.2 0; have h1 := blk_cell hW.2 1; have h2 := blk_cell hW.2 2; have h3 := blk_cell hW.2 3; have h4 := blk_cell hW.2 4; have h5 := blk_cell hW.2 5; have h6 := blk_cell hW.2 6; have h7 := blk_cell hW.2 7; have h8 := blk_cell hW.2 8; have h9 := blk_cell hW.2 9; go_simp⟩) hS ?_
                try simp only [List.setIfInBounds_toArray, List.set_cons_zero, List.set_cons_succ]
                refine take_at (i := 7) 165 (.pointer (some ⟨q, x.no.toNat * 10, none⟩)) rfl rfl (by kernel_rfl) (by kernel_rfl) (by kernel_rfl) (fun _ _ _ h => h) (Or.inl ⟨by rfl, fun W hW => by go_simp⟩) hS ?_
                try simp only [List.setIfInBounds_toArray, List.set_cons_zero, List.set_cons_succ]
                refine wpAnyH_ready (rs := [8]) (by kernel_rfl) (by simp) ?_
                refine AllReadyH.cons rfl (fun K hK => ?_) AllReadyH.nil
                rw [if_pos (by rfl)]
                refine N_store_o k89 (w0 := w) b rfl 89 (.tmp 165) (.tmp 164) rfl 89 x.no 0 (layTo k ps pg4) x (.agg #[.int .i64 x.kind, .int .i64 x.no, .int .i64 x.ver, .int .i64 x.tree, .int .i64 x.level, .bool x.top, .slice x.ent.1 x.ent.2.1 x.ent.2.2, .int .i64 x.next, .string x.data, .slice A1 x.freed.length c2]) [.int .i64 x.kind, .int .i64 x.no, .int .i64 x.ver, .int .i64 x.tree, .int .i64 x.level, .bool x.top, .slice x.ent.1 x.ent.2.1 x.ent.2.2, .int .i64 x.next, .string x.data, .slice A1 x.freed.length c2] (cells89 _ A8 c8) (fun y => y ≠ g ∧ offT b (.slice TA own.length tc) y) (fun y => w8.drew.heap.size ≤ y) rfl rfl rfl rfl h89 (by simp [Value.oneCell']) (Kd.N_drew HN1.out) HX0.out HXL.out hcl HCC.out (by show 0 + 10 ≤ 10; omega) (by exact HFX.out) HOK.out HB1.out.drew ?_
                intro w4 hn4 hb4 hg4
                refine hK.out _ _ (⟨cell_grown hg4 hS.1 (fun e => HGQ.out (by injection e)), blk_grown hS.2 hg4 (fun e => HBQ.out (by injection e))⟩) (fun hS => ?_)
                clear hK K
                try simp only [Act.put, List.getElem_toArray, List.getElem_cons_succ, List.getElem_cons_zero, List.setIfInBounds_toArray, List.set_cons_zero, List.set_cons_succ]
                refine wpAnyH_done (by kernel_rfl) ?_ _
                refine NoPanic.normal ?_
                have HN4 := Aside0.mk hn4
                have HB4 := Aside0.mk hb4
                have HA4 := Aside0.mk (show AccX (offT b (.slice TA own.length tc)) w4 g (.slice (some ⟨q, 0, none⟩) pg4.length qp) l4 by
                  obtain ⟨A9, c9, hb9, hc9, hF9⟩ := HA1.out
                  exact ⟨A9, c9, (hg4.block g (blk_lt hb9) (fun e => HGQ.out (by injection e))).trans hb9, hc9, Kd.F_grown (Kd.F_drew hF9) hg4 (fun y hy e => hy.1.2 (by simpa [Value.ownBlock] using e))⟩)
                have HE4 := Aside0.mk (show EndC w4 b #[.slice PA pg.length pc, .slice FA free.length fc, .slice RA rn rc, .slice GA gone.length gc, .int .i64 ver, .int .i64 tree] from HE1.out.keep fun y _ h5 hy => hg4.block y hy (fun e => by injection e with e; have := HQ5.out; omega))
                have HS4 := Aside0.mk (Nat.le_trans HS1.out hg4.size)
                have HR4 := Aside0.mk (R_off (Kd.R_drew HR1.out) (fun y h1 h2 h3 => hg4.block y h1 (fun e => h3 (by injection e with e; rw [e]; exact HQT.out))))
                have HU4 := Aside0.mk (Kd.N_grown (Kd.N_drew HU1.out) hg4 (fun y hy e => by injection e with e; have h1 : w8.heap.size ≤ y := hy; have h2 := HQL.out; omega))
                clear hn4 hb4 hg4 hS y0 hBk hcl
                go_wp2
                go_roundw
                case rel => exact ⟨k + 1, by have h1 := HLT.out; omega, by go_num, ⟨by rw [HZS.out]; exact HN4.out⟩, HA4, HE4, HB4, HS4, HR4, HU4⟩
                case measure => have h1 := HLT.out; simp [intOf]; omega
              · obtain rfl : k = ps.length := by omega
                have hN5 := HN.out
                unfold layTo at hN5
                rw [List.take_length] at hN5
                have HN5 := Aside0.mk hN5
                clear hN5 HN
                have hN5' := HN5.out
                have hT0 : EndT w b g #[.slice PA pg.length pc, .slice FA free.length fc, .slice RA rn rc, .slice GA gone.length gc, .int .i64 ver, .int .i64 tree] #[.slice none 0 0, .slice none 0 0, .slice none 0 0, .slice none 0 0, .int .i64 0, .int .i64 0] (.int .i64 0) (.slice none 0 0) (.slice QP pg4.length qp) (layAll ps pg4) l4 wr := ⟨Kd.N_mono HN5.out (fun k hk => ⟨hk.1, hk.2.2⟩), HA.out.mono (fun k hk => hk.2), HE.out.s, HB.out, by have h1 := HS.out; have h2 := HS11.out; omega, hbg5, HQ8.out⟩
                have HT0 := Aside0.mk hT0
                have y2 : wr.cell? ⟨b + 1 + 1, 0, none⟩ = some (.int .i64 0) := (blk_cell hT0.2.2.1.2.2.1 0).trans rfl
                have z2 := blk_frozen hT0.2.2.1.2.2.1 0
                clear hT0 hN5' HN5 HA HE HB HU
                go_upto_if 169 with (fail)
                go_cut [] from 167 (fun wx => EndT w b g #[.slice PA pg.length pc, .slice FA free.length fc, .slice RA rn rc, .slice GA gone.length gc, .int .i64 ver, .int .i64 tree] #[.slice none 0 0, .slice none 0 0, .slice none 0 0, .slice none 0 0, .int .i64 0, .int .i64 0] (.int .i64 hd) (.slice none 0 0) (.slice QP pg4.length qp) (layAll ps pg4) l4 wx)
                case first =>
                  by_cases h0 : 0 < own.length
                  · obtain ⟨_, _, hCT⟩ := Kd.R_reads' HR.out
                    obtain ⟨ad, had, hxc⟩ := Kd.at_int hCT 0 (by omega) (by omega)
                    subst had
                    rw [show ad.add (0 : Int).toNat = ad from addr_add0 ad, show rd own 0 = hd by rw [← HHD.out]; cases own with | nil => simp at h0 | cons p t => rfl] at hxc
                    clear hCT
                    go_wp2
                    go_meet
                    case rel => exact HT0.out.set2 _
                  · have hh0 := Lib.hid (show hd = 0 by rw [← HHD.out, List.length_eq_zero_iff.1 (show own.length = 0 by omega)]; rfl)
                    go_wp2
                    go_meet
                    case rel => rw [hh0.out]; exact HT0.out
                case rest =>
                  clear y2 z2 HT0 HR HS
                  obtain ⟨A7, c7, hb7, _, _⟩ := hcut.2.1
                  have hEL : EndL b g (.slice QP pg4.length qp) (.slice A7 l4.length c7) (.int .i64 ver) (.int .i64 tree) (.int .i64 hd) wc.drew := ⟨(blk_cell hb7 0).trans rfl, (blk_cell hb7 1).trans rfl, (blk_cell hcut.2.2.1.1 4).trans rfl, (blk_cell hcut.2.2.1.1 5).trans rfl, (blk_cell hcut.2.2.1.2.2.1 0).trans rfl⟩
                  have HT := Aside0.mk (hcut.below (below_drew1 (Below.refl _ wc)))
                  have HSL4 := Aside0.mk HSML.out
                  clear hb7 hcut
                  go_upto_region 31 with (fail)
                  go_cut [] from 173 (fun wx => ∃ LA lc, EndT w b g #[.slice PA pg.length pc, .slice FA free.length fc, .slice RA rn rc, .slice GA gone.length gc, .int .i64 ver, .int .i64 tree] #[.slice QP pg4.length qp, .slice none 0 0, .slice none 0 0, .slice none 0 0, .int .i64 ver, .int .i64 tree] (.int .i64 hd) (.slice LA l4.length lc) (.slice QP pg4.length qp) (layAll ps pg4) l4 wx ∧ EndV b (.slice LA l4.length lc) l4 wx)
                  case first =>
                    refine wp_region_noPanic ?_
                    refine wp_region_held_drew (S := EndL b g (.slice QP pg4.length qp) (.slice A7 l4.length c7) (.int .i64 ver) (.int .i64 tree) (.int .i64 hd)) (by kernel_rfl) (hEL) (fun hS => ?_)
                    simp only [List.size_toArray, List.length_cons, List.length_nil, Nat.reduceAdd, Array.replicate_succ, Array.replicate_zero, List.push_toArray, List.nil_append, List.cons_append]
                    refine take_at (i := 0) 173 (.pointer (some ⟨g, 0, none⟩)) rfl rfl (by kernel_rfl) (by kernel_rfl) (by kernel_rfl) (fun _ _ _ h => h) (Or.inl ⟨by rfl, fun W hW => by go_simp⟩) hS ?_
                    try simp only [List.setIfInBounds_toArray, List.set_cons_zero, List.set_cons_succ]
                    refine take_at (i := 1) 174 (.pointer (some ⟨g, 0, none⟩)) rfl rfl (by kernel_rfl) (by kernel_rfl) (by kernel_rfl) (fun _ _ _ h => h) (Or.inl ⟨by rfl, fun W hW => by go_simp⟩) hS ?_
                    try simp only [List.setIfInBounds_toArray, List.set_cons_zero, List.set_cons_succ]
                    refine take_at (i := 2) 175 (.pointer (some ⟨g, 0, none⟩)) rfl rfl (by kernel_rfl) (by kernel_rfl) (by kernel_rfl) (fun _ _ _ h => h) (Or.inl ⟨by rfl, fun W hW => by go_simp⟩) hS ?_
                    try simp only [List.setIfInBounds_toArray, List.set_cons_zero, List.set_cons_succ]
                    refine take_at (i := 3) 176 (.slice QP pg4.length qp) rfl rfl (by kernel_rfl) (by kernel_rfl) (by kernel_rfl) (fun _ _ _ h => h) (Or.inl ⟨by rfl, fun W hW => by have h0 := hW.1; go_simp⟩) hS ?_
                    try simp only [List.setIfInBounds_toArray, List.set_cons_zero, List.set_cons_succ]
                    refine take_at (i := 4) 177 (.pointer (some ⟨b, 4, none⟩)) rfl rfl (by kernel_rfl) (by kernel_rfl) (by kernel_rfl) (fun _ _ _ h => h) (Or.inl ⟨by rfl, fun W hW => by go_simp⟩) hS ?_
                    try simp only [List.setIfInBounds_toArray, List.set_cons_zero, List.set_cons_succ]
                    refine take_at (i := 5) 178 (.int .i64 ver) rfl rfl (by kernel_rfl) (by kernel_rfl) (by kernel_rfl) (fun _ _ _ h => h) (Or.inl ⟨by rfl, fun W hW => by have h0 := hW.2.2.1; go_simp⟩) hS ?_
                    try simp only [List.setIfInBounds_toArray, List.set_cons_zero, List.set_cons_succ]
                    refine take_at (i := 6) 179 (.pointer (some ⟨b, 5, none⟩)) rfl rfl (by kernel_rfl) (by kernel_rfl) (by kernel_rfl) (fun _ _ _ h => h) (Or.inl ⟨by rfl, fun W hW => by go_simp⟩) hS ?_
                    try simp only [List.setIfInBounds_toArray, List.set_cons_zero, List.set_cons_succ]
                    refine take_at (i := 7) 180 (.int .i64 tree) rfl rfl (by kernel_rfl) (by kernel_rfl) (by kernel_rfl) (fun _ _ _ h => h) (Or.inl ⟨by rfl, fun W hW => by have h0 := hW.2.2.2.1; go_simp⟩) hS ?_
                    try simp only [List.setIfInBounds_toArray, List.set_cons_zero, List.set_cons_succ]
                    refine take_at (i := 8) 181 (.int .i64 hd) rfl rfl (by kernel_rfl) (by kernel_rfl) (by kernel_rfl) (fun _ _ _ h => h) (Or.inl ⟨by rfl, fun W hW => by have h0 := hW.2.2.2.2; go_simp⟩) hS ?_
                    try simp only [List.setIfInBounds_toArray, List.set_cons_zero, List.set_cons_succ]
                    refine take_at (i := 9) 182 (.pointer (some ⟨g, 0, none⟩)) rfl rfl (by kernel_rfl) (by kernel_rfl) (by kernel_rfl) (fun _ _ _ h => h) (Or.inl ⟨by rfl, fun W hW => by go_simp⟩) hS ?_
                    try simp only [List.setIfInBounds_toArray, List.set_cons_zero, List.set_cons_succ]
                    refine take_at (i := 10) 183 (.pointer (some ⟨g, 0, none⟩)) rfl rfl (by kernel_rfl) (by kernel_rfl) (by kernel_rfl) (fun _ _ _ h => h) (Or.inl ⟨by rfl, fun W hW => by go_simp⟩) hS ?_
                    try simp only [List.setIfInBounds_toArray, List.set_cons_zero, List.set_cons_succ]
                    refine take_at (i := 11) 184 (.pointer (some ⟨g, 1, none⟩)) rfl rfl (by kernel_rfl) (by kernel_rfl) (by kernel_rfl) (fun _ _ _ h => h) (Or.inl ⟨by rfl, fun W hW => by go_simp⟩) hS ?_
                    try simp only [List.setIfInBounds_toArray, List.set_cons_zero, List.set_cons_succ]
                    refine take_at (i := 12) 185 (.pointer (some ⟨g, 1, none⟩)) rfl rfl (by kernel_rfl) (by kernel_rfl) (by kernel_rfl) (fun _ _ _ h => h) (Or.inl ⟨by rfl, fun W hW => by go_simp⟩) hS ?_
                    try simp only [List.setIfInBounds_toArray, List.set_cons_zero, List.set_cons_succ]
                    refine take_at (i := 13) 186 (.slice A7 l4.length c7) rfl rfl (by kernel_rfl) (by kernel_rfl) (by kernel_rfl) (fun _ _ _ h => h) (Or.inl ⟨by rfl, fun W hW => by have h0 := hW.2.1; go_simp⟩) hS ?_
                    try simp only [List.setIfInBounds_toArray, List.set_cons_zero, List.set_cons_succ]
                    refine wpAnyH_ready (rs := [14]) (by kernel_rfl) (by simp) ?_
                    refine AllReadyH.cons rfl (fun K hK => ?_) AllReadyH.nil
                    go_simp
                    refine (HT.out.merge hS.2.1 HSL4.out).mono ?_
                    rintro e w12 ⟨v12, rfl, hv12, hb12⟩
                    obtain ⟨RA7, rc7, rfl⟩ := Kd.N_slice hv12
                    refine hK.out _ _ (hS.below hb12) (fun hS => ?_)
                    clear hK K
                    have HLV : Aside0 (EndV b (.slice RA7 l4.length rc7) l4 w12) := ⟨hv12⟩
                    replace HT := Aside0.mk (HT.out.below hb12)
                    clear hv12 hb12
                    try simp only [Act.put, List.getElem_toArray, List.getElem_cons_succ, List.getElem_cons_zero, List.setIfInBounds_toArray, List.set_cons_zero, List.set_cons_succ]
                    refine wpAnyH_ready (rs := [15]) (by kernel_rfl) (by simp) ?_
                    refine AllReadyH.cons rfl (fun K hK => ?_) AllReadyH.nil
                    have hcb := HT.out.2.2.1.2.1
                    have yc0 := blk_cell hcb 0
                    have yc1 := blk_cell hcb 1
                    have yc2 := blk_cell hcb 2
                    have yc3 := blk_cell hcb 3
                    have yc4 := blk_cell hcb 4
                    have yc5 := blk_cell hcb 5
                    have zc0 := blk_frozen hcb 0
                    have zc1 := blk_frozen hcb 1
                    have zc2 := blk_frozen hcb 2
                    have zc3 := blk_frozen hcb 3
                    have zc4 := blk_frozen hcb 4
                    have zc5 := blk_frozen hcb 5
                    go_simp
                    refine hK.out _ _ (hS.below (below_same6 hcb)) (fun hS => ?_)
                    clear hK K
                    refine wp_two (HT.out.below (below_same6 hcb)) (HLV.out.below (below_same6 hcb)) hS ?_
                    clear hS
                    intro Wn ht hl hS
                    replace HT := Aside0.mk ht
                    replace HLV := Aside0.mk hl
                    clear ht hl
                    clear hcb yc0 zc0 yc1 zc1 yc2 zc2 yc3 zc3 yc4 zc4 yc5 zc5
                    try simp only [Act.put, List.getElem_toArray, List.getElem_cons_succ, List.getElem_cons_zero, List.setIfInBounds_toArray, List.set_cons_zero, List.set_cons_succ]
                    refine take_at (i := 16) 188 (.pointer (some ⟨b + 1, 0, none⟩)) rfl rfl (by kernel_rfl) (by kernel_rfl) (by kernel_rfl) (fun _ _ _ h => h) (Or.inl ⟨by rfl, fun W hW => by go_simp⟩) hS ?_
                    try simp only [List.setIfInBounds_toArray, List.set_cons_zero, List.set_cons_succ]
                    refine wpAnyH_ready (rs := [17]) (by kernel_rfl) (by simp) ?_
                    refine AllReadyH.cons rfl (fun K hK => ?_) AllReadyH.nil
                    have hcb := HT.out.2.2.1.2.1
                    have yc := blk_cell hcb 0
                    have zc := blk_frozen hcb 0
                    go_simp
                    refine hK.out _ _ (hS.far ⟨b + 1, 0, none⟩ _ (by show b + 1 ≠ g; omega) (by show b + 1 ≠ b; omega) (by show b + 1 ≠ b + 1 + 1; omega)) (fun hS => ?_)
                    clear hK K
                    refine wp_two (HT.out.set1 0 _ #[.slice QP pg4.length qp, .slice none 0 0, .slice none 0 0, .slice none 0 0, .int .i64 0, .int .i64 0] rfl) (HLV.out.far ⟨b + 1, 0, none⟩ _ (by show b + 1 < b + 5; omega)) hS ?_
                    clear hS
                    intro Wn ht hl hS
                    replace HT := Aside0.mk ht
                    replace HLV := Aside0.mk hl
                    clear ht hl
                    clear hcb yc zc
                    try simp only [Act.put, List.getElem_toArray, List.getElem_cons_succ, List.getElem_cons_zero, List.setIfInBounds_toArray, List.set_cons_zero, List.set_cons_succ]
                    refine take_at (i := 18) 189 (.pointer (some ⟨b + 1, 4, none⟩)) rfl rfl (by kernel_rfl) (by kernel_rfl) (by kernel_rfl) (fun _ _ _ h => h) (Or.inl ⟨by rfl, fun W hW => by go_simp⟩) hS ?_
                    try simp only [List.setIfInBounds_toArray, List.set_cons_zero, List.set_cons_succ]
                    refine wpAnyH_ready (rs := [19]) (by kernel_rfl) (by simp) ?_
                    refine AllReadyH.cons rfl (fun K hK => ?_) AllReadyH.nil
                    have hcb := HT.out.2.2.1.2.1
                    have yc := blk_cell hcb 4
                    have zc := blk_frozen hcb 4
                    go_simp
                    refine hK.out _ _ (hS.far ⟨b + 1, 4, none⟩ _ (by show b + 1 ≠ g; omega) (by show b + 1 ≠ b; omega) (by show b + 1 ≠ b + 1 + 1; omega)) (fun hS => ?_)
                    clear hK K
                    refine wp_two (HT.out.set1 4 _ #[.slice QP pg4.length qp, .slice none 0 0, .slice none 0 0, .slice none 0 0, .int .i64 ver, .int .i64 0] rfl) (HLV.out.far ⟨b + 1, 4, none⟩ _ (by show b + 1 < b + 5; omega)) hS ?_
                    clear hS
                    intro Wn ht hl hS
                    replace HT := Aside0.mk ht
                    replace HLV := Aside0.mk hl
                    clear ht hl
                    clear hcb yc zc
                    try simp only [Act.put, List.getElem_toArray, List.getElem_cons_succ, List.getElem_cons_zero, List.setIfInBounds_toArray, List.set_cons_zero, List.set_cons_succ]
                    refine take_at (i := 20) 190 (.pointer (some ⟨b + 1, 5, none⟩)) rfl rfl (by kernel_rfl) (by kernel_rfl) (by kernel_rfl) (fun _ _ _ h => h) (Or.inl ⟨by rfl, fun W hW => by go_simp⟩) hS ?_
                    try simp only [List.setIfInBounds_toArray, List.set_cons_zero, List.set_cons_succ]
                    refine wpAnyH_ready (rs := [21]) (by kernel_rfl) (by simp) ?_
                    refine AllReadyH.cons rfl (fun K hK => ?_) AllReadyH.nil
                    have hcb := HT.out.2.2.1.2.1
                    have yc := blk_cell hcb 5
                    have zc := blk_frozen hcb 5
                    go_simp
                    refine hK.out _ _ (hS.far ⟨b + 1, 5, none⟩ _ (by show b + 1 ≠ g; omega) (by show b + 1 ≠ b; omega) (by show b + 1 ≠ b + 1 + 1; omega)) (fun hS => ?_)
                    clear hK K
                    refine wp_two (HT.out.set1 5 _ #[.slice QP pg4.length qp, .slice none 0 0, .slice none 0 0, .slice none 0 0, .int .i64 ver, .int .i64 tree] rfl) (HLV.out.far ⟨b + 1, 5, none⟩ _ (by show b + 1 < b + 5; omega)) hS ?_
                    clear hS
                    intro Wn ht hl hS
                    replace HT := Aside0.mk ht
                    replace HLV := Aside0.mk hl
                    clear ht hl
                    clear hcb yc zc
                    try simp only [Act.put, List.getElem_toArray, List.getElem_cons_succ, List.getElem_cons_zero, List.setIfInBounds_toArray, List.set_cons_zero, List.set_cons_succ]
                    refine wpAnyH_ready (rs := [22]) (by kernel_rfl) (by simp) ?_
                    refine AllReadyH.cons rfl (fun K hK => ?_) AllReadyH.nil
                    have hcb := HT.out.2.2.1.2.2.1
                    have yc0 := blk_cell hcb 0
                    have zc0 := blk_frozen hcb 0
                    go_simp
                    refine hK.out _ _ (hS.below (below_same hcb)) (fun hS => ?_)
                    clear hK K
                    refine wp_two (HT.out.below (below_same hcb)) (HLV.out.below (below_same hcb)) hS ?_
                    clear hS
                    intro Wn ht hl hS
                    replace HT := Aside0.mk ht
                    replace HLV := Aside0.mk hl
                    clear ht hl
                    clear hcb yc0 zc0
                    try simp only [Act.put, List.getElem_toArray, List.getElem_cons_succ, List.getElem_cons_zero, List.setIfInBounds_toArray, List.set_cons_zero, List.set_cons_succ]
                    refine wpAnyH_ready (rs := [23]) (by kernel_rfl) (by simp) ?_
                    refine AllReadyH.cons rfl (fun K hK => ?_) AllReadyH.nil
                    have hcb := HT.out.2.2.1.2.2.2.1
                    have yc := blk_cell hcb 0
                    have zc := blk_frozen hcb 0
                    go_simp
                    refine hK.out _ _ (hS.far ⟨b + 1 + 1 + 1, 0, none⟩ _ (by show b + 1 + 1 + 1 ≠ g; omega) (by show b + 1 + 1 + 1 ≠ b; omega) (by show b + 1 + 1 + 1 ≠ b + 1 + 1; omega)) (fun hS => ?_)
                    clear hK K
                    refine wp_two (HT.out.set3 _) (HLV.out.far ⟨b + 1 + 1 + 1, 0, none⟩ _ (by show b + 1 + 1 + 1 < b + 5; omega)) hS ?_
                    clear hS
                    intro Wn ht hl hS
                    replace HT := Aside0.mk ht
                    replace HLV := Aside0.mk hl
                    clear ht hl
                    clear hcb yc zc
                    try simp only [Act.put, List.getElem_toArray, List.getElem_cons_succ, List.getElem_cons_zero, List.setIfInBounds_toArray, List.set_cons_zero, List.set_cons_succ]
                    refine wpAnyH_ready (rs := [24]) (by kernel_rfl) (by simp) ?_
                    refine AllReadyH.cons rfl (fun K hK => ?_) AllReadyH.nil
                    have hcb := HT.out.2.2.1.2.2.2.2
                    have yc0 := blk_cell hcb 0
                    have zc0 := blk_frozen hcb 0
                    go_simp
                    refine hK.out _ _ (hS.below (below_same hcb)) (fun hS => ?_)
                    clear hK K
                    refine wp_two (HT.out.below (below_same hcb)) (HLV.out.below (below_same hcb)) hS ?_
                    clear hS
                    intro Wn ht hl hS
                    replace HT := Aside0.mk ht
                    replace HLV := Aside0.mk hl
                    clear ht hl
                    clear hcb yc0 zc0
                    try simp only [Act.put, List.getElem_toArray, List.getElem_cons_succ, List.getElem_cons_zero, List.setIfInBounds_toArray, List.set_cons_zero, List.set_cons_succ]
                    refine wpAnyH_done (by kernel_rfl) ?_ _
                    refine NoPanic.normal ?_
                    go_wp2
                    go_meet
                    case rel => exact ⟨RA7, rc7, HT.out, HLV.out⟩
                  case rest =>
                    obtain ⟨LA, lc, hT9, hL9⟩ := hcut
                    have HT9 := Aside0.mk hT9
                    have HL9 := Aside0.mk hL9
                    clear hT9 hL9 HT hEL
                    go_wp2
                    refine leaves_cons (f := 43) (args := #[.pointer (some ⟨b + 1 + 1 + 1 + 1, 0, none⟩), .func (.func 44) #[] #[.pointer (some ⟨b + 1, 0, none⟩), .pointer (some ⟨b + 1 + 1, 0, none⟩), .pointer (some ⟨b + 1 + 1 + 1, 0, none⟩)]]) (by simp) (by simp [go_sem]) ?_
                    refine (caught_idle _ _ _ _ _).mono ?_
                    rintro e u' w2 ⟨rfl, rfl, rfl⟩
                    have k1 := HT9.out.2.2.1.2.1
                    have k2 := HT9.out.2.2.1.2.2.1
                    have k3 := HT9.out.2.2.1.2.2.2.1
                    have k4 := HT9.out.2.2.1.2.2.2.2
                    have c10 : w2.cell? ⟨b + 1, 0, none⟩ = some (.slice QP pg4.length qp) := (blk_cell k1 0).trans rfl
                    have c11 : w2.cell? ⟨b + 1, 1, none⟩ = some (.slice none 0 0) := (blk_cell k1 1).trans rfl
                    have c12 : w2.cell? ⟨b + 1, 2, none⟩ = some (.slice none 0 0) := (blk_cell k1 2).trans rfl
                    have c13 : w2.cell? ⟨b + 1, 3, none⟩ = some (.slice none 0 0) := (blk_cell k1 3).trans rfl
                    have c14 : w2.cell? ⟨b + 1, 4, none⟩ = some (.int .i64 ver) := (blk_cell k1 4).trans rfl
                    have c15 : w2.cell? ⟨b + 1, 5, none⟩ = some (.int .i64 tree) := (blk_cell k1 5).trans rfl
                    have c20 : w2.cell? ⟨b + 1 + 1, 0, none⟩ = some (.int .i64 hd) := (blk_cell k2 0).trans rfl
                    have c30 : w2.cell? ⟨b + 1 + 1 + 1, 0, none⟩ = some (.slice LA l4.length lc) := (blk_cell k3 0).trans rfl
                    have c40 : w2.cell? ⟨b + 1 + 1 + 1 + 1, 0, none⟩ = some (.int .i64 0) := (blk_cell k4 0).trans rfl
                    have HFIN : EndR w ver tree hd PF l4 (.returned (.tuple #[.agg #[.slice QP pg4.length qp, .slice none 0 0, .slice none 0 0, .slice none 0 0, .int .i64 ver, .int .i64 tree], .int .i64 hd, .slice LA l4.length lc, .int .i64 0])) w2 := by
                      refine ⟨_, LA, lc, rfl, ?_, ?_, ?_⟩
                      · rw [← HPF.out, HLL.out, HM.out, Int.toNat_natCast, HPG3.out, HLEN3.out, HPG4.out, HPS.out, hb]
                        exact Kd.N_mono HT9.out.1 (fun _ _ => trivial)
                      · rw [hb]; exact Kd.N_mono HL9.out (fun _ _ => trivial)
                      · rw [hb]; exact HT9.out.2.2.2.1
                    clear k1 k2 k3 k4
                    show ∃ v, (results Tryz.f15 _).run Tryz.prog w2 = .ok v w2 ∧ EndR w ver tree hd PF l4 (.returned v) w2
                    exact ⟨_, end_results _ w2 b _ _ _ _ _ _ _ _ _ rfl rfl rfl rfl c10 c11 c12 c13 c14 c15 c20 c30 c40, HFIN⟩
          · obtain ⟨j, p, l', n', rfl, hst, hru⟩ := takeRun_go HRU.out hdn
            have hkp := takeStep_keeps hst HF.out HSM.out
            have hpg := pages_grow (pg := pg3) HBD.out.1 hkp.2.2.1
            have HRU' := Aside0.mk hru
            have HST := Aside0.mk hst
            have HKP := Aside0.mk hkp
            have HPG := Aside0.mk hpg
            clear hst hkp hpg hru
            go_upto_region 21 with (first
              | (go_at_call 33; (refine HNE.out.mono ?_); rintro e w8 ⟨rfl, hb8⟩)
              | (go_at_call 53; refine (must_ok _).mono ?_; rintro e w' ⟨rfl, rfl⟩))
            have HR8 := Aside0.mk (Kd.R_below HR.out hb8)
            have HS8 := Aside0.mk (show b + 5 ≤ w8.heap.size by obtain ⟨_, _, _, _, _, h9, _⟩ := HEM.out; have h10 := hb8.size; omega)
            have HT := Aside0.mk (take_any w8 (HEM.out.below (by omega) hb8) hbg5 (fun q hq => ⟨fun e => by have h1 := Kd.R_lt HR8.out q e.symm; omega, .inr (by have h1 := HS8.out; omega)⟩) (by rw [HPG.out.1]; exact HST.out) (form_fullL HF.out) HSM.out)
            have hlk : ∀ q, (Value.slice TA own'.length tc).ownBlock = some q → b + 5 ≤ q ∧ q ≠ g := fun q hq => ⟨Kd.R_base HR.out q hq, HR.out.1 q hq⟩
            have HLK := Aside0.mk hlk
            clear hlk v1
            go_wp2_with (first
              | (go_at_call 54; (refine HT.out.mono ?_); rintro e w9 ⟨rfl, hm9, hk9, hs9⟩; rw [HPG.out.1, HPG.out.2] at hm9; have HM9 := Aside0.mk hm9; have HR9 := Aside0.mk (R_off HR8.out (fun k h1 h2 h3 => hk9 k h1 h2 (fun hx => h3 hx.1))); have HS9 := Aside0.mk (show b + 5 ≤ w9.heap.size by (obtain ⟨_, _, _, _, _, h9, _⟩ := hm9; omega)); have HG9 := Aside0.mk (show g < w9.heap.size by (obtain ⟨_, _, _, _, _, h9, _⟩ := hm9; omega)); clear hm9 hk9 hs9)
              | (at_builtin; refine Kd.R_append (Kd.int .i64) (w0 := w9) (b + 5) rfl (.tmp 133) (.tmp 136) 23 3 (.int .i64 0) 8 rfl Tryz.underlying23 info3 rfl (by decide) (by omega) (.slice TA own'.length tc) own' p [.int .i64 p] (fun q => q ≠ g) (fun _ => False) rfl rfl rfl (fun _ hk => hk.elim) (fun q hq e => by have h1 := HG9.out; omega) HR9.out (Below.refl _ _) HS9.out (by have h1 := HBD.out; have h2 := HKK.out; omega) ?_; intro v2 w3 hr3 hb3 hg3 hat3))
            have HM3 := Aside0.mk (HM9.out.grown hbg5 HLK.out hg3 hat3 hb3)
            have HR3 := Aside0.mk hr3
            clear hr3 hb3 hg3 hat3
            go_roundg j
            case measure => omega
            case rel => exact ⟨l', n', own' ++ [p], HRU', ⟨HKP.out.1⟩, ⟨HKP.out.2.1⟩, HR3, HM3, ⟨by have h1 := HBD.out; have h2 := HKP.out; omega, by have h1 := HBD.out; have h2 := HKP.out; omega, by have h1 := HBD.out; simp; omega⟩⟩
end Go.Proofs.YtpnhelcemodnmaaGreat

/- pinned: pins as a map; Oldest; Unpin of a version that has no pin. -/
namespace Go.Proofs.YtpnhelcemodnmaaGreat
open Go.RowKit Go.Shelf Go.Proofs.YtpnhelcemodnmaaGreatW.PrintWords Go.Proofs.YtpnhelcemodnmaaGreatW.PrintLast Go.Proofs.YtpnhelcemodnmaaGreatW.PrintMore PA Go.Maps
set_option linter.unusedVariables false
set_option linter.unusedSimpArgs false
attribute [local go_sem] Oper.semAt_some
theorem key3 : Keyed Tryz.prog 3 := int_keyed Tryz.underlying3
theorem zero3 (w : World) : (zeroValue 3).run Tryz.prog w = .ok (.int .i64 0) w := by kernel_rfl
/-- Pins as a map. -/
def pinD (l : List S83) : DataW Unit := l.foldl (fun D x => D.put (.int .i64 x.f0) (.lit (.int .i64 x.f1))) (.map [])
theorem pinD_step (l : List S83) (k : Nat) (hk : k < l.length) : pinD (l.take (k + 1)) = (pinD (l.take k)).put (.int .i64 (rd_T83 l (k : Int)).f0) (.lit (.int .i64 (rd_T83 l (k : Int)).f1)) := by
  have e : rd_T83 l (k : Int) = l[k] := by
    unfold rd_T83
    simp [List.getD_eq_getElem?_getD, hk]
  rw [e, List.take_succ_eq_append_getElem hk, pinD, List.foldl_append]
  rfl
set_option maxRecDepth 100000 in
set_option maxHeartbeats 2000000 in
theorem pinned_yes (l : List S83) (v : Int) (K : Nat) (A : Option Addr) (c : Nat) (w : World) (hC : k83.C w A l.length l) (hc : l.length ≤ c) (hk : space_CheckPins.f K l = some 0) (hv : 1 ≤ v ∧ v ≤ 1099511627776) (hl : l.length ≤ 1000000)
    (hp : ∀ k, k < l.length → (Lit.int .i64 (rd_T83 l (k : Int)).f0).wf = true ∧ (Lit.int .i64 (rd_T83 l (k : Int)).f1).wf = true) :
    Calls Tryz.prog 92 #[.slice A l.length c, .int .i64 v] w fun e w' => ∃ B, e = .returned (.map (some B)) ∧ w'.ownsMap Tryz.prog 3 (plainElem Tryz.prog 3) B l.length (pinD l) ∧ w.heap.size ≤ B ∧ Below w.heap.size w w' := by
  have hmm := @run_makeMap Tryz.prog
  have HK := Lib.hid (space_CheckPins.calls K A c l 0 w hC hc hk)
  have HD := Lib.hid (decide_eq_true hv)
  clear hk hv
  go_enter Tryz.func92, Tryz.ntmps92
  go_wp2_with (first | (go_at_call 137; (refine HK.out.mono ?_); rintro e w1 ⟨rfl, hb1⟩) | (go_at_call 53; (with_reducible refine (must_ok _).mono ?_); rintro e w' ⟨rfl, rfl⟩) | (go_at_call 46; (with_reducible refine (within_any v 1 1099511627776 _).mono ?_); rintro e w' ⟨rfl, ⟨nd, rfl⟩⟩; rw [HD.out]) | (go_at_call 45; (with_reducible refine (need_yes _ _).mono ?_); rintro e w' ⟨rfl, rfl⟩))
  obtain ⟨B, hB⟩ : ∃ B, w1.heap.size = B := ⟨_, rfl⟩
  have hM0 : ((w1.drewN nd).alloc (.map #[] 0)).ownsMap Tryz.prog 3 (plainElem (H := Unit) Tryz.prog 3) B 0 (.map []) := hB ▸ World.ownsMap_made _ _ _ _
  have hB0 : Below w.heap.size w ((w1.drewN nd).alloc (.map #[] 0)) := (pw_below_drewN hb1 nd).alloc (by exact hb1.size) _
  have hBw : w.heap.size ≤ B := hB ▸ hb1.size
  rw [hB]
  obtain ⟨W0, hW0⟩ : ∃ W0, (w1.drewN nd).alloc (.map #[] 0) = W0 := ⟨_, rfl⟩
  rw [hW0] at hM0 hB0 ⊢
  clear hW0 hB hb1 HK HD hmm
  go_loopw [17] (fun i wr => ∃ k : Nat, k ≤ l.length ∧ i = .int .i64 k ∧ Aside0 (wr.ownsMap Tryz.prog 3 (plainElem (H := Unit) Tryz.prog 3) B k (pinD (l.take k))) ∧ Aside0 (Below w.heap.size w wr))
    (fun i _ => l.length - (intOf i).toNat)
  case atStart => exact ⟨0, Nat.zero_le _, rfl, ⟨hM0⟩, ⟨hB0⟩⟩
  case round =>
    clear hM0 hB0
    obtain ⟨k, hk, rfl, HM, HB⟩ := hrel
    by_cases hlt : k < l.length
    · obtain ⟨ad, rfl, hx0, hx1⟩ := at_T83 (Kd.C_below hC HB.out) (k : Int) (by omega) (by omega)
      rw [Int.toNat_natCast] at hx0 hx1
      have HS := Lib.hid (pinD_step l k hlt)
      have hp0 := (hp k hlt).1
      have hp1 := (hp k hlt).2
      obtain ⟨a, ha⟩ : ∃ a, (rd_T83 l (k : Int)).f0 = a := ⟨_, rfl⟩
      obtain ⟨b, hb⟩ : ∃ b, (rd_T83 l (k : Int)).f1 = b := ⟨_, rfl⟩
      rw [ha] at hx0 hp0 HS
      rw [hb] at hx1 hp1 HS
      have hkey : keyOf Tryz.prog 3 (.int .i64 a) = some (.int .i64 a) := keyOf_int_mk Tryz.underlying3 hp0
      have HKEY := Aside0.mk hkey
      have HP1 := Aside0.mk hp1
      have HMA := Aside0.mk (HM.out.alloc (.cells #[.int .i64 a, .int .i64 b] 83))
      have HBA := Aside0.mk (HB.out.alloc HB.out.size (.cells #[.int .i64 a, .int .i64 b] 83))
      clear ha hb hkey hp0 hp1 hC
      go_wp2_with (at_mapUpdate; refine wpList_mapUpdate_own _ rfl _ _ _ 162 rfl 3 3 key3 Tryz.underlying162 _ B k _ rfl HMA.out (by unfold maxLen; omega) _ _ _ rfl rfl HKEY.out _ [] (plainElem_int Tryz.underlying3 HP1.out) ?_; intro w2 hown2 hgrow2)
      go_roundw
      case rel => exact ⟨k + 1, by omega, by go_num, ⟨HS.out.symm ▸ hown2⟩, ⟨HBA.out.grown hgrow2 HBA.out.size (fun j hj => by cases hj; exact hBw)⟩⟩
      case measure => simp [intOf]; omega
    · obtain rfl : k = l.length := by omega
      rw [List.take_length] at HM
      go_wp2
      go_ret
      exact ⟨B, rfl, HM.out, hBw, HB.out⟩
attribute [local go_sem] max2_int min2_int max_two min_two
theorem two_cells {w : World} {n : Nat} {a b x y : Value} {t t' : TypeId} (h0 : w.heap[n]? = some (.cells #[a] t (0, 0))) (h1 : w.heap[n + 1]? = some (.cells #[b] t' (0, 0))) :
    ((w.setCell ⟨n, 0, none⟩ x).setCell ⟨n + 1, 0, none⟩ y).cell? ⟨n, 0, none⟩ = some x ∧ ((w.setCell ⟨n, 0, none⟩ x).setCell ⟨n + 1, 0, none⟩ y).cell? ⟨n + 1, 0, none⟩ = some y :=
  ⟨blk_cell (blk_far (blk_put h0 0 x rfl) (p := ⟨n + 1, 0, none⟩) (by simp) y) 0, blk_cell (blk_put (blk_far h1 (p := ⟨n, 0, none⟩) (by simp) x) 0 y rfl) 0⟩
/-- The oldest version in use. -/
def oldestN (l : List S83) (v : Int) : Int := if 0 < l.length then (if (rd_T83 l 0).f0 < v then (rd_T83 l 0).f0 else v) else v
set_option maxRecDepth 100000 in
set_option maxHeartbeats 2000000 in
theorem oldest_yes (l : List S83) (v : Int) (K : Nat) (A : Option Addr) (c : Nat) (w : World) (hC : k83.C w A l.length l) (hc : l.length ≤ c) (hk : space_CheckPins.f K l = some 0) (hv : 1 ≤ v ∧ v ≤ 1099511627776) (hl : l.length ≤ 1000000)
    (hp : ∀ k, k < l.length → (Lit.int .i64 (rd_T83 l (k : Int)).f0).wf = true ∧ (Lit.int .i64 (rd_T83 l (k : Int)).f1).wf = true) :
    Calls Tryz.prog 41 #[.slice A l.length c, .int .i64 v] w fun e w' => e = .returned (.tuple #[.int .i64 (oldestN l v), .int .i64 0]) ∧ Below w.heap.size w w' := by
  have hmf : ∀ (fn : Fn) (first cap : Array Value) (w : World), (Instr.makeFunc fn first cap).run Tryz.prog w = .ok (.func fn first cap) w := fun _ _ _ _ => rfl
  have HP := Lib.hid (fun (w1 : World) (hb : Below w.heap.size w w1) => pinned_yes l v K A c w1 (Kd.C_below hC hb) hc hk hv hl hp)
  have hb00 : Below w.heap.size w ((w.alloc (.cells #[.int .i64 0] 3)).alloc (.cells #[.int .i64 0] 30)) := ((Below.refl w.heap.size w).alloc (Nat.le_refl _) (.cells #[.int .i64 0] 3)).alloc (by simp) (.cells #[.int .i64 0] 30)
  have HB0 := Aside0.mk hb00
  have hC0 := Kd.C_below hC hb00
  have HE0 := Aside0.mk (blk_alloc (o' := .cells #[.int .i64 0] 30) (blk_new w (.cells #[.int .i64 0] 3)))
  have HE1 := Aside0.mk (blk_new (w.alloc (.cells #[.int .i64 0] 3)) (.cells #[.int .i64 0] 30))
  clear hk hv hp hC hb00
  go_enter_defers Tryz.func41, Tryz.ntmps41
  cases l with
  | nil =>
    have hN : oldestN ([] : List S83) v = v := rfl
    rw [hN]
    clear hN hC0
    go_wp2_with (first | (go_at_call 92; (refine (HP.out _ HB0.out).mono ?_); rintro e w1 ⟨B, rfl, hm, hbw, hb1⟩; have hf0 := blk_below HE0.out hb1; have hf1 := blk_below HE1.out hb1; rw [World.size_alloc] at hf1; have hc0 := blk_cell hf0 0; have hc1 := blk_cell hf1 0; have hz0 := blk_frozen hf0 0; have hz1 := blk_frozen hf1 0))
    refine leaves_cons (f := 43) (args := #[.pointer (some ⟨w.heap.size + 1, 0, none⟩), .func (.func 91) #[] #[.pointer (some ⟨w.heap.size, 0, none⟩)]]) (by simp) (by simp [go_sem]) ?_
    refine (caught_idle _ _ _ _ _).mono ?_
    rintro e u' w2 ⟨rfl, rfl, rfl⟩
    have hq := two_cells (x := (.int .i64 v)) (y := .int .i64 0) hf0 hf1
    have hbf := ((HB0.out.trans (hb1.mono HB0.out.size)).setCell (p := ⟨w.heap.size, 0, none⟩) (Nat.le_refl _) (.int .i64 v)).setCell (p := ⟨w.heap.size + 1, 0, none⟩) (Nat.le_succ _) (.int .i64 0)
    simp [Leaves, settle, results, Tryz.results41, go_sem, hq.1, hq.2, hbf]
  | cons x t =>
    have hpos : 0 < (x :: t).length := by simp
    obtain ⟨a, ha⟩ : ∃ a, (rd_T83 (x :: t) 0).f0 = a := ⟨_, rfl⟩
    have HCL := Aside0.mk (fun (w1 : World) (hb : Below ((w.alloc (.cells #[.int .i64 0] 3)).alloc (.cells #[.int .i64 0] 30)).heap.size _ w1) => at_T83 (Kd.C_below hC0 hb) 0 (Int.le_refl _) (by omega))
    rw [ha] at HCL
    have hN : oldestN (x :: t) v = if a < v then a else v := by rw [oldestN, if_pos hpos, ha]
    rw [hN]
    obtain ⟨n, hn⟩ : ∃ n, (x :: t).length = n := ⟨_, rfl⟩
    rw [hn] at HP hpos hc ⊢
    clear hN hC0 hl hn ha
    by_cases hav : a < v
    · rw [if_pos hav]
      have hmin : min v a = a := by omega
      go_wp2_with (first | (go_at_call 92; (refine (HP.out _ HB0.out).mono ?_); rintro e w1 ⟨B, rfl, hm, hbw, hb1⟩; have hf0 := blk_below HE0.out hb1; have hf1 := blk_below HE1.out hb1; rw [World.size_alloc] at hf1; have hc0 := blk_cell hf0 0; have hc1 := blk_cell hf1 0; have hz0 := blk_frozen hf0 0; have hz1 := blk_frozen hf1 0; obtain ⟨ad, rfl, hx0, hx1⟩ := HCL.out w1 hb1; rw [show ad.add ((0 : Int).toNat * 2) = ad from addr_add0 ad] at hx0))
      refine leaves_cons (f := 43) (args := #[.pointer (some ⟨w.heap.size + 1, 0, none⟩), .func (.func 91) #[] #[.pointer (some ⟨w.heap.size, 0, none⟩)]]) (by simp) (by simp [go_sem]) ?_
      refine (caught_idle _ _ _ _ _).mono ?_
      rintro e u' w2 ⟨rfl, rfl, rfl⟩
      have hq := two_cells (x := (.int .i64 a)) (y := .int .i64 0) hf0 hf1
      have hbf := ((HB0.out.trans (hb1.mono HB0.out.size)).setCell (p := ⟨w.heap.size, 0, none⟩) (Nat.le_refl _) (.int .i64 a)).setCell (p := ⟨w.heap.size + 1, 0, none⟩) (Nat.le_succ _) (.int .i64 0)
      simp [Leaves, settle, results, Tryz.results41, go_sem, hq.1, hq.2, hbf]
    · rw [if_neg hav]
      have hmin : min v a = v := by omega
      go_wp2_with (first | (go_at_call 92; (refine (HP.out _ HB0.out).mono ?_); rintro e w1 ⟨B, rfl, hm, hbw, hb1⟩; have hf0 := blk_below HE0.out hb1; have hf1 := blk_below HE1.out hb1; rw [World.size_alloc] at hf1; have hc0 := blk_cell hf0 0; have hc1 := blk_cell hf1 0; have hz0 := blk_frozen hf0 0; have hz1 := blk_frozen hf1 0; obtain ⟨ad, rfl, hx0, hx1⟩ := HCL.out w1 hb1; rw [show ad.add ((0 : Int).toNat * 2) = ad from addr_add0 ad] at hx0))
      refine leaves_cons (f := 43) (args := #[.pointer (some ⟨w.heap.size + 1, 0, none⟩), .func (.func 91) #[] #[.pointer (some ⟨w.heap.size, 0, none⟩)]]) (by simp) (by simp [go_sem]) ?_
      refine (caught_idle _ _ _ _ _).mono ?_
      rintro e u' w2 ⟨rfl, rfl, rfl⟩
      have hq := two_cells (x := (.int .i64 v)) (y := .int .i64 0) hf0 hf1
      have hbf := ((HB0.out.trans (hb1.mono HB0.out.size)).setCell (p := ⟨w.heap.size, 0, none⟩) (Nat.le_refl _) (.int .i64 v)).setCell (p := ⟨w.heap.size + 1, 0, none⟩) (Nat.le_succ _) (.int .i64 0)
      simp [Leaves, settle, results, Tryz.results41, go_sem, hq.1, hq.2, hbf]
theorem reset93 (q : Addr) (v : Value) (w : World) (hc : w.cell? q = some v) (hz : w.frozen? q = false) : Calls Tryz.prog 93 #[.pointer (some q)] w fun e w' => e = .returned (.tuple #[]) ∧ w' = w.setCell q (.slice none 0 0) := by
  go_enter Tryz.func93, Tryz.ntmps93
  go_wp2
  go_end0
  simp
set_option maxRecDepth 100000 in
set_option maxHeartbeats 2000000 in
theorem unpin_none (l : List S83) (v : Int) (K : Nat) (A : Option Addr) (c : Nat) (w : World) (hC : k83.C w A l.length l) (hc : l.length ≤ c) (hk : space_CheckPins.f K l = some 0) (hv : 1 ≤ v ∧ v ≤ 1099511627776) (hl : l.length ≤ 1000000)
    (hp : ∀ k, k < l.length → (Lit.int .i64 (rd_T83 l (k : Int)).f0).wf = true ∧ (Lit.int .i64 (rd_T83 l (k : Int)).f1).wf = true) (hn : (pinD l).atKey (.int .i64 v) (.lit (.int .i64 0)) = .lit (.int .i64 0)) :
    Calls Tryz.prog 42 #[.slice A l.length c, .int .i64 v] w fun e w' => e = .returned (.tuple #[.slice none 0 0, .int .i64 4]) ∧ Below w.heap.size w w' := by
  have hmf : ∀ (fn : Fn) (first cap : Array Value) (w : World), (Instr.makeFunc fn first cap).run Tryz.prog w = .ok (.func fn first cap) w := fun _ _ _ _ => rfl
  have HP := Lib.hid (fun (w1 : World) (hb : Below w.heap.size w w1) => pinned_yes l v K A c w1 (Kd.C_below hC hb) hc hk hv hl hp)
  have HB0 := Aside0.mk (((Below.refl w.heap.size w).alloc (Nat.le_refl _) (.cells #[.slice none 0 0] 84)).alloc (by simp) (.cells #[.int .i64 0] 30))
  have HE0 := Aside0.mk (blk_alloc (o' := .cells #[.int .i64 0] 30) (blk_new w (.cells #[.slice none 0 0] 84)))
  have HE1 := Aside0.mk (blk_new (w.alloc (.cells #[.slice none 0 0] 84)) (.cells #[.int .i64 0] 30))
  have hkey : keyOf Tryz.prog 3 (.int .i64 v) = some (.int .i64 v) := keyOf_int_mk Tryz.underlying3 (WalkArith.wf_i64 (by omega))
  have HKEY := Aside0.mk hkey
  have HN := Lib.hid hn
  clear hk hv hp hC hkey hn
  go_enter_defers Tryz.func42, Tryz.ntmps42
  go_wp2_with (first | (go_at_call 92; (refine (HP.out _ HB0.out).mono ?_); rintro e w1 ⟨B, rfl, hm, hbw, hb1⟩; have HM := Aside0.mk hm; clear hm) | (at_lookup; refine wpList_lookup_own_int _ rfl _ _ 162 rfl 3 3 .i64 key3 Tryz.underlying162 Tryz.underlying3 (zero3 _) B l.length _ rfl HM.out _ _ rfl HKEY.out ?_; intro q hat hwq; rw [HN.out] at hat; obtain rfl : 0 = q := (by injection hat with h; injection h)) | (go_at_call 45; refine (need_no _ _).mono ?_; rintro e w' ⟨rfl, rfl⟩))
  have hf0 := blk_below HE0.out hb1
  have hf1 := blk_below HE1.out hb1
  rw [World.size_alloc] at hf1
  refine leaves_cons (f := 43) (args := #[.pointer (some ⟨w.heap.size + 1, 0, none⟩), .func (.func 93) #[] #[.pointer (some ⟨w.heap.size, 0, none⟩)]]) (by simp) (by simp [go_sem]) ?_
  have hb2 := (HB0.out.trans (hb1.mono HB0.out.size)).alloc (HB0.out.trans (hb1.mono HB0.out.size)).size (.cells #[.int .i64 4] 166)
  have hg0 := blk_alloc hf0 (.cells #[.int .i64 4] 166)
  have hg1 := blk_alloc hf1 (.cells #[.int .i64 4] 166)
  have hg2 := blk_new w1 (.cells #[.int .i64 4] 166)
  have hn0 : w.heap.size ≠ w1.heap.size := Nat.ne_of_lt (blk_lt hf0)
  refine (caught_93 ⟨w.heap.size + 1, 0, none⟩ ⟨w.heap.size, 0, none⟩ 4 0 [] w1 (fun w2 => w2.cell? ⟨w.heap.size, 0, none⟩ = some (.slice none 0 0) ∧ w2.cell? ⟨w.heap.size + 1, 0, none⟩ = some (.int .i64 4) ∧ Below w.heap.size w w2) ?_).mono ?_
  · refine (reset93 _ _ _ (blk_cell hg0 0) (blk_frozen hg0 0)).mono ?_
    rintro e w2 ⟨rfl, rfl⟩
    have hq := two_cells (x := .slice none 0 0) (y := .int .i64 4) hg0 hg1
    exact ⟨rfl, blk_cell (blk_far hg2 (Ne.symm hn0) _) 0, blk_cell (blk_far hg1 (by simp) _) 0, blk_frozen (blk_far hg1 (by simp) _) 0, hq.1, hq.2, (hb2.setCell (p := ⟨w.heap.size, 0, none⟩) (Nat.le_refl _) _).setCell (p := ⟨w.heap.size + 1, 0, none⟩) (Nat.le_succ _) _⟩
  · rintro e u' w2 ⟨rfl, rfl, hq0, hq1, hbf⟩
    simp [Leaves, settle, results, Tryz.results42, go_sem, hq0, hq1, hbf, failE]
end Go.Proofs.YtpnhelcemodnmaaGreat

/- The examples of chapter 12, in plain. -/
namespace Go.Proofs.YtpnhelcemodnmaaGreat
open Go.RowKit Go.Shelf Go.Proofs.YtpnhelcemodnmaaGreatW.PrintWords Go.Proofs.YtpnhelcemodnmaaGreatW.PrintLast Go.Proofs.YtpnhelcemodnmaaGreatW.PrintMore PA
set_option linter.unusedVariables false
set_option linter.unusedSimpArgs false
attribute [local go_sem] Oper.semAt_some
theorem sortI_self {l : List Int} (h : l.Pairwise (· ≤ ·)) : sortI l = l :=
  List.Perm.eq_of_pairwise (le := (· ≤ ·)) (fun a b _ _ h1 h2 => by omega) (sortI_pair l) h (sortI_perm l)
theorem sane_put : putL 0 [4, 5] (putL (2 - 1) [3] []) = [⟨0, [4, 5]⟩, ⟨1, [3]⟩] := by
  have h1 : putL (2 - 1) [3] [] = [⟨1, [3]⟩] := by unfold putL; rw [if_neg (by simp), merge_nil]; rfl
  rw [h1]
  unfold putL
  rw [if_neg (by simp), merge_gt (x := ⟨1, [3]⟩) (y := ⟨0, [4, 5]⟩) _ _ (by decide), merge_nil2]
theorem sane_valid : validB ((6 : Nat) : Int) [⟨0, [4, 5]⟩, ⟨1, [3]⟩] = true := by decide
theorem sane_valid0 : validB ((6 : Nat) : Int) [] = true := by decide
theorem sane_inc1 : incB ((6 : Nat) : Int) [4, 5] = true := by decide
theorem sane_inc2 : incB ((6 : Nat) : Int) [3] = true := by decide
theorem sane_take : takeRun 2 [⟨0, [4, 5]⟩, ⟨1, [3]⟩] 6 [] = some ([⟨0, [5]⟩, ⟨1, [3]⟩], 6, [4]) := by rfl
theorem sane_tail : tailN [⟨0, [4, 5]⟩, ⟨1, [3]⟩] ((6 : Nat) : Int) = 4 := by rfl
theorem sane_keep : keepAll 4 [⟨0, [4, 5]⟩, ⟨1, [3]⟩] = [⟨1, [3]⟩] := by decide
theorem sane_take2 : takeRun 2 [⟨1, [3]⟩] 4 [] = some ([⟨1, [3]⟩], 5, [4]) := by rfl
theorem sane_num : numB [4] 2 = true := by decide
def sanePage (l : List S64) : S89 := { z89 with kind := 4, no := 4, ver := 2, freed := l }
theorem sane_pg1 : listPg [⟨0, [5]⟩, ⟨1, [3]⟩] [4] 2 = [sanePage [⟨0, [5]⟩, ⟨1, [3]⟩]] := by rfl
theorem sane_pg2 : listPg [⟨1, [3]⟩] [4] 2 = [sanePage [⟨1, [3]⟩]] := by rfl
theorem sane_use : useE 4 [⟨0, [5]⟩, ⟨3, [7, 8]⟩, ⟨4, [9]⟩] = 0 := by decide
theorem sane_low : pagesOf (lowL 4 [⟨0, [5]⟩, ⟨3, [7, 8]⟩, ⟨4, [9]⟩]) = [5, 7, 8] := by decide
theorem sane_hi : hiL 4 [⟨0, [5]⟩, ⟨3, [7, 8]⟩, ⟨4, [9]⟩] = [⟨4, [9]⟩] := by decide
theorem sane_check : checkE ((6 : Nat) : Int) [⟨0, [5]⟩, ⟨1, [3]⟩] = 0 := by decide
theorem sane_inc3 : incB ((6 : Nat) : Int) [2, 4] = true := by decide
theorem sane_acc {e n : Int} (h : AccOut 6 ([2, 4] ++ pagesOf [⟨0, [5]⟩, ⟨1, [3]⟩]) e n) : e = 0 ∧ n = 0 := by
  rcases h with ⟨h1, h2, _⟩ | ⟨_, k, rfl, h2, h3, h4, _⟩
  · exact ⟨h1, h2⟩
  · exfalso
    have : k = 2 ∨ k = 3 ∨ k = 4 ∨ k = 5 := by omega
    rcases this with rfl | rfl | rfl | rfl <;> exact h4 (by decide)
theorem sane_check2 : checkE ((6 : Nat) : Int) [⟨0, [4, 5]⟩] = 0 := by decide
theorem sane_tail2 : tailN [⟨0, [4, 5]⟩] ((6 : Nat) : Int) = 4 := by rfl
theorem sane_pins : ∃ K, space_CheckPins.f K [⟨3, 1⟩, ⟨6, 1⟩] = some 0 := ⟨5, by simp [space_CheckPins.f, space_CheckPins.l0, rd_T83, wrap64]⟩
theorem sane_pins2 : ∃ K, space_CheckPins.f K [⟨3, 2⟩] = some 0 := ⟨5, by simp [space_CheckPins.f, space_CheckPins.l0, rd_T83, wrap64]⟩
theorem sane_old : oldestN [⟨3, 1⟩, ⟨6, 1⟩] 7 = 3 := by decide
theorem sane_unpin : (pinD [⟨3, 2⟩]).atKey (.int .i64 5) (.lit (.int .i64 0)) = .lit (.int .i64 0) := by rfl
theorem sane_small {l : List S64} (h : l.length ≤ 10 ∧ (pagesOf l).length ≤ 10) : smallL l := ⟨by omega, by omega⟩
theorem sane_form1 : formP 4096 [⟨0, [4, 5]⟩, ⟨1, [3]⟩] := by decide
theorem sane_form2 : formP 4096 [⟨1, [3]⟩] := by decide
end Go.Proofs.YtpnhelcemodnmaaGreat

/- Literals in memory. -/
namespace Go.Proofs.YtpnhelcemodnmaaGreat
open Go.RowKit Go.Shelf Go.Proofs.YtpnhelcemodnmaaGreatW.PrintWords Go.Proofs.YtpnhelcemodnmaaGreatW.PrintLast Go.Proofs.YtpnhelcemodnmaaGreatW.PrintMore PA
set_option linter.unusedVariables false
set_option linter.unusedSimpArgs false
attribute [local go_sem] Oper.semAt_some
/-- A block of numbers reads as a row. -/
theorem row_int {W : World} {n : Nat} {C : Array Value} {xs : List Int} (h : W.heap[n]? = some (.cells C 3 (0, 0))) (hC : C.toList = xs.map (fun x => Value.int .i64 x)) (hm : xs.length ≤ 1000) : (Kd.int .i64).C W (some ⟨n, 0, none⟩) xs.length xs := by
  refine block_row h ⟨by rw [hC, List.length_map]; show _ = xs.length * 1; omega, fun j q hj => ?_⟩ (by omega)
  rw [hC]
  show ((xs.map (fun x => Value.int .i64 x)).drop (j * 1)).take 1 = [Value.int .i64 q]
  have hl := (List.getElem?_eq_some_iff.1 hj)
  obtain ⟨h1, h2⟩ := hl
  rw [Nat.mul_one, ← List.map_drop, List.drop_eq_getElem_cons h1, h2]
  rfl
theorem row64 {W : World} {n : Nat} {C : Array Value} {xs : List S64} (h : W.heap[n]? = some (.cells C 64 (0, 0))) (hl : C.toList.length = xs.length * 2) (hm : xs.length ≤ 1000)
    (hr : ∀ j p, xs[j]? = some p → ∃ A c, (C.toList.drop (j * 2)).take 2 = [.int .i64 p.f0, .slice A p.f1.length c] ∧ p.f1.length ≤ c ∧ (Kd.int .i64).C W A p.f1.length p.f1) : k64.C W (some ⟨n, 0, none⟩) xs.length xs := by
  refine block_row h ⟨hl, fun j q hj => ?_⟩ (by omega)
  obtain ⟨A, c, e, h1, h2⟩ := hr j q hj
  show k64.K W q ((C.toList.drop (j * 2)).take 2)
  rw [e]
  exact k64_mk W q h1 h2
theorem row83 {W : World} {n : Nat} {C : Array Value} {xs : List S83} (h : W.heap[n]? = some (.cells C 83 (0, 0))) (hl : C.toList.length = xs.length * 2) (hm : xs.length ≤ 1000)
    (hr : ∀ j p, xs[j]? = some p → (C.toList.drop (j * 2)).take 2 = [.int .i64 p.f0, .int .i64 p.f1]) : k83.C W (some ⟨n, 0, none⟩) xs.length xs := by
  refine block_row h ⟨hl, fun j q hj => ?_⟩ (by omega)
  show k83.K W q ((C.toList.drop (j * 2)).take 2)
  rw [hr j q hj]
  exact k83_mk W q
/-- One element whose pages lie in a row of their own. -/
theorem one64 {W : World} {n m : Nat} {v : Int} {xs : List Int} {C1 : Array Value} (h1 : W.heap[m]? = some (.cells C1 3 (0, 0))) (hC : C1.toList = xs.map (fun x => Value.int .i64 x)) (hm : xs.length ≤ 1000) (h : W.heap[n]? = some (.cells #[.int .i64 v, .slice (some ⟨m, 0, none⟩) xs.length xs.length] 64 (0, 0))) : k64.C W (some ⟨n, 0, none⟩) 1 [⟨v, xs⟩] := by
  refine row64 (xs := [⟨v, xs⟩]) h rfl (by simp) (fun j p hj => ?_)
  match j with
  | 0 => obtain rfl : (⟨v, xs⟩ : S64) = p := by simpa using hj
         exact ⟨_, _, rfl, Nat.le_refl _, row_int h1 hC hm⟩
  | j + 1 => simp at hj
theorem two64 {W : World} {n m1 m2 : Nat} {v1 v2 : Int} {x1 x2 : List Int} {C1 C2 : Array Value} (h1 : W.heap[m1]? = some (.cells C1 3 (0, 0))) (hC1 : C1.toList = x1.map (fun x => Value.int .i64 x)) (hm1 : x1.length ≤ 1000) (h2 : W.heap[m2]? = some (.cells C2 3 (0, 0))) (hC2 : C2.toList = x2.map (fun x => Value.int .i64 x)) (hm2 : x2.length ≤ 1000)
    (h : W.heap[n]? = some (.cells #[.int .i64 v1, .slice (some ⟨m1, 0, none⟩) x1.length x1.length, .int .i64 v2, .slice (some ⟨m2, 0, none⟩) x2.length x2.length] 64 (0, 0))) : k64.C W (some ⟨n, 0, none⟩) 2 [⟨v1, x1⟩, ⟨v2, x2⟩] := by
  refine row64 (xs := [⟨v1, x1⟩, ⟨v2, x2⟩]) h rfl (by simp) (fun j p hj => ?_)
  match j with
  | 0 => obtain rfl : (⟨v1, x1⟩ : S64) = p := by simpa using hj
         exact ⟨_, _, rfl, Nat.le_refl _, row_int h1 hC1 hm1⟩
  | 1 => obtain rfl : (⟨v2, x2⟩ : S64) = p := by simpa using hj
         exact ⟨_, _, rfl, Nat.le_refl _, row_int h2 hC2 hm2⟩
  | j + 2 => simp at hj
theorem three64 {W : World} {n m1 m2 m3 : Nat} {v1 v2 v3 : Int} {x1 x2 x3 : List Int} {C1 C2 C3 : Array Value} (h1 : W.heap[m1]? = some (.cells C1 3 (0, 0))) (hC1 : C1.toList = x1.map (fun x => Value.int .i64 x)) (hm1 : x1.length ≤ 1000) (h2 : W.heap[m2]? = some (.cells C2 3 (0, 0))) (hC2 : C2.toList = x2.map (fun x => Value.int .i64 x)) (hm2 : x2.length ≤ 1000) (h3 : W.heap[m3]? = some (.cells C3 3 (0, 0))) (hC3 : C3.toList = x3.map (fun x => Value.int .i64 x)) (hm3 : x3.length ≤ 1000)
    (h : W.heap[n]? = some (.cells #[.int .i64 v1, .slice (some ⟨m1, 0, none⟩) x1.length x1.length, .int .i64 v2, .slice (some ⟨m2, 0, none⟩) x2.length x2.length, .int .i64 v3, .slice (some ⟨m3, 0, none⟩) x3.length x3.length] 64 (0, 0))) : k64.C W (some ⟨n, 0, none⟩) 3 [⟨v1, x1⟩, ⟨v2, x2⟩, ⟨v3, x3⟩] := by
  refine row64 (xs := [⟨v1, x1⟩, ⟨v2, x2⟩, ⟨v3, x3⟩]) h rfl (by simp) (fun j p hj => ?_)
  match j with
  | 0 => obtain rfl : (⟨v1, x1⟩ : S64) = p := by simpa using hj
         exact ⟨_, _, rfl, Nat.le_refl _, row_int h1 hC1 hm1⟩
  | 1 => obtain rfl : (⟨v2, x2⟩ : S64) = p := by simpa using hj
         exact ⟨_, _, rfl, Nat.le_refl _, row_int h2 hC2 hm2⟩
  | 2 => obtain rfl : (⟨v3, x3⟩ : S64) = p := by simpa using hj
         exact ⟨_, _, rfl, Nat.le_refl _, row_int h3 hC3 hm3⟩
  | j + 3 => simp at hj
/-- New blocks, one after the other. -/
theorem new1 (w : World) (a : Obj) : (w.alloc a).heap[w.heap.size]? = some a := World.alloc_heap_new _ _
theorem new2 (w : World) (a b : Obj) : ((w.alloc a).alloc b).heap[w.heap.size]? = some a ∧ ((w.alloc a).alloc b).heap[w.heap.size + 1]? = some b := by
  have h := World.alloc_heap_new (w.alloc a) b
  rw [World.size_alloc] at h
  exact ⟨(Below.heap_alloc _ _ _ (by simp <;> omega)).trans (new1 w a), h⟩
theorem new3 (w : World) (a b c : Obj) : (((w.alloc a).alloc b).alloc c).heap[w.heap.size]? = some a ∧ (((w.alloc a).alloc b).alloc c).heap[w.heap.size + 1]? = some b ∧ (((w.alloc a).alloc b).alloc c).heap[w.heap.size + 1 + 1]? = some c := by
  have h := World.alloc_heap_new ((w.alloc a).alloc b) c
  rw [World.size_alloc, World.size_alloc] at h
  exact ⟨(Below.heap_alloc _ _ _ (by simp <;> omega)).trans (new2 w a b).1, (Below.heap_alloc _ _ _ (by simp <;> omega)).trans (new2 w a b).2, h⟩
theorem new4 (w : World) (a b c d : Obj) : ((((w.alloc a).alloc b).alloc c).alloc d).heap[w.heap.size]? = some a ∧ ((((w.alloc a).alloc b).alloc c).alloc d).heap[w.heap.size + 1]? = some b ∧ ((((w.alloc a).alloc b).alloc c).alloc d).heap[w.heap.size + 1 + 1]? = some c ∧ ((((w.alloc a).alloc b).alloc c).alloc d).heap[w.heap.size + 1 + 1 + 1]? = some d := by
  have h := World.alloc_heap_new (((w.alloc a).alloc b).alloc c) d
  rw [World.size_alloc, World.size_alloc, World.size_alloc] at h
  exact ⟨(Below.heap_alloc _ _ _ (by simp <;> omega)).trans (new3 w a b c).1, (Below.heap_alloc _ _ _ (by simp <;> omega)).trans (new3 w a b c).2.1, (Below.heap_alloc _ _ _ (by simp <;> omega)).trans (new3 w a b c).2.2, h⟩
theorem below1 (w : World) (a : Obj) : Below w.heap.size w (w.alloc a) := below_alloc1 w a
theorem below2 (w : World) (a b : Obj) : Below w.heap.size w ((w.alloc a).alloc b) := (below_alloc1 w a).alloc (by simp) b
theorem below3 (w : World) (a b c : Obj) : Below w.heap.size w (((w.alloc a).alloc b).alloc c) := (below2 w a b).alloc (by simp <;> omega) c
theorem below4 (w : World) (a b c d : Obj) : Below w.heap.size w ((((w.alloc a).alloc b).alloc c).alloc d) := (below3 w a b c).alloc (by simp <;> omega) d
end Go.Proofs.YtpnhelcemodnmaaGreat

/- End at the examples. -/
namespace Go.Proofs.YtpnhelcemodnmaaGreat
open Go.RowKit Go.Shelf Go.Proofs.YtpnhelcemodnmaaGreatW.PrintWords Go.Proofs.YtpnhelcemodnmaaGreatW.PrintLast Go.Proofs.YtpnhelcemodnmaaGreatW.PrintMore PA
set_option linter.unusedVariables false
set_option linter.unusedSimpArgs false
attribute [local go_sem] Oper.semAt_some
theorem sane_end1 (PA FA GA : Option Addr) (pc : Nat) (W : World) (hPG : k89.C W PA 6 (List.replicate 6 z89)) (hpc : 6 ≤ pc) (hFR : (Kd.int .i64).C W FA 2 [4, 5]) (hGO : (Kd.int .i64).C W GA 1 [3]) :
    Calls Tryz.prog 15 #[.agg #[.slice PA 6 pc, .slice FA 2 2, .slice none 0 0, .slice GA 1 1, .int .i64 2, .int .i64 0], .slice none 0 0, .bool false] W fun e w' => ∃ q qc LA lc, e = .returned (.tuple #[.agg #[.slice (some ⟨q, 0, none⟩) 6 qc, .slice none 0 0, .slice none 0 0, .slice none 0 0, .int .i64 2, .int .i64 0], .int .i64 4, .slice LA 2 lc, .int .i64 0]) ∧ w'.cell? ⟨q, 40, none⟩ = some (.int .i64 4) ∧ 2 ≤ lc ∧ k64.C w' LA 2 [⟨0, [5]⟩, ⟨1, [3]⟩] ∧ Below W.heap.size W w' := by
  have h := end_ok3 (List.replicate 6 z89) [4, 5] [3] [] 2 0 false PA FA none GA none pc 2 0 0 1 0 W hPG hpc hFR (by simp) hGO (by simp) (Kd.C_nil k64 W) (Nat.le_refl _) ⟨sane_small ⟨by simp, by decide⟩, by simp, by simp, by decide, by simp⟩ (by omega) (by simp) sane_valid0 sane_inc1 sane_inc2 (by rw [sane_put]; exact sane_valid)
    2 [⟨0, [5]⟩, ⟨1, [3]⟩] 6 [4] (by omega) (by rw [if_neg (by simp), sane_put]; exact sane_form1) (by rw [if_neg (by simp), sane_put]; exact sane_small ⟨by simp, by decide⟩) (by rw [if_neg (by simp), if_neg (by simp), sane_put]; exact sane_take) sane_num (by rw [sane_pg1]; intro p hp; rw [List.mem_singleton.1 hp]; exact ⟨by decide, by decide⟩)
  refine h.mono ?_
  rintro e w' ⟨PV, LA, lc, rfl, hN, hL, hB⟩
  rw [sane_pg1, if_neg (by simp), if_neg (by simp)] at hN
  obtain ⟨pgs, hpg⟩ : ∃ pgs, layAll [sanePage [⟨0, [5]⟩, ⟨1, [3]⟩]] (zeroAll [4, 5] (List.replicate 6 z89) ++ List.replicate (6 - (List.replicate 6 z89).length) z89) = pgs := ⟨_, rfl⟩
  have hlen : pgs.length = 6 := by rw [← hpg]; rfl
  have hat : pgs.getD 4 z89 = sanePage [⟨0, [5]⟩, ⟨1, [3]⟩] := by rw [← hpg]; rfl
  rw [hpg] at hN
  obtain ⟨q, qc, rfl, _, _, _⟩ := Kd.N_form hN (by omega)
  rw [hlen] at hN ⊢
  obtain ⟨cs, _, hFK, hcc, _⟩ := Kd.N_elem hN z89 4 (by omega) (by omega)
  rw [show ((4 : Int).toNat) = 4 from rfl, hat] at hFK
  obtain ⟨A8, c8, rfl, _, _⟩ := k89_openF hFK
  exact ⟨q, qc, LA, lc, rfl, hcc 0 _ rfl, (Kd.N_reads' hL).2.1, (Kd.N_reads' hL).2.2, hB⟩
theorem sane_end2 (PA FA GA : Option Addr) (pc : Nat) (W : World) (hPG : k89.C W PA 6 (List.replicate 6 z89)) (hpc : 6 ≤ pc) (hFR : (Kd.int .i64).C W FA 2 [4, 5]) (hGO : (Kd.int .i64).C W GA 1 [3]) :
    Calls Tryz.prog 15 #[.agg #[.slice PA 6 pc, .slice FA 2 2, .slice none 0 0, .slice GA 1 1, .int .i64 2, .int .i64 0], .slice none 0 0, .bool true] W fun e w' => ∃ QA qc LA lc, e = .returned (.tuple #[.agg #[.slice QA 5 qc, .slice none 0 0, .slice none 0 0, .slice none 0 0, .int .i64 2, .int .i64 0], .int .i64 4, .slice LA 1 lc, .int .i64 0]) ∧ 1 ≤ lc ∧ k64.C w' LA 1 [⟨1, [3]⟩] ∧ Below W.heap.size W w' := by
  have h := end_ok3 (List.replicate 6 z89) [4, 5] [3] [] 2 0 true PA FA none GA none pc 2 0 0 1 0 W hPG hpc hFR (by simp) hGO (by simp) (Kd.C_nil k64 W) (Nat.le_refl _) ⟨sane_small ⟨by simp, by decide⟩, by simp, by simp, by decide, by simp⟩ (by omega) (by simp) sane_valid0 sane_inc1 sane_inc2 (by rw [sane_put]; exact sane_valid)
    2 [⟨1, [3]⟩] 5 [4] (by omega) (by rw [if_pos rfl, sane_put]; show formP 4096 (keepAll (tailN _ ((6 : Nat) : Int)) _); rw [sane_tail, sane_keep]; exact sane_form2) (by rw [if_pos rfl, sane_put]; show smallL (keepAll (tailN _ ((6 : Nat) : Int)) _); rw [sane_tail, sane_keep]; exact sane_small ⟨by simp, by decide⟩)
    (by rw [if_pos rfl, if_pos rfl, sane_put]; show takeRun 2 (keepAll (tailN _ ((6 : Nat) : Int)) _) (tailN _ ((6 : Nat) : Int)).toNat [] = _; rw [sane_tail, sane_keep]; exact sane_take2) sane_num (by rw [sane_pg2]; intro p hp; rw [List.mem_singleton.1 hp]; exact ⟨by decide, by decide⟩)
  refine h.mono ?_
  rintro e w' ⟨PV, LA, lc, rfl, hN, hL, hB⟩
  rw [if_pos rfl, if_pos rfl, sane_put] at hN
  have ht : tailN [⟨0, [4, 5]⟩, ⟨1, [3]⟩] (((List.replicate 6 z89).length : Nat) : Int) = 4 := sane_tail
  rw [ht] at hN
  obtain ⟨pgs, hpg⟩ : ∃ pgs, layAll (listPg [⟨1, [3]⟩] [4] 2) ((zeroAll [4, 5] (List.replicate 6 z89)).take (4 : Int).toNat ++ List.replicate (5 - (4 : Int).toNat) z89) = pgs := ⟨_, rfl⟩
  have hlen : pgs.length = 5 := by rw [← hpg, layAll_length]; rfl
  rw [hpg] at hN
  obtain ⟨QA, qc, rfl⟩ := Kd.N_slice hN
  rw [hlen]
  exact ⟨QA, qc, LA, lc, rfl, (Kd.N_reads' hL).2.1, (Kd.N_reads' hL).2.2, hB⟩
end Go.Proofs.YtpnhelcemodnmaaGreat

/- The statements' examples. -/
namespace Go.Proofs.YtpnhelcemodnmaaGreat
open Go.RowKit Go.Shelf Go.Proofs.YtpnhelcemodnmaaGreatW.PrintWords Go.Proofs.YtpnhelcemodnmaaGreatW.PrintLast Go.Proofs.YtpnhelcemodnmaaGreatW.PrintMore PA
set_option linter.unusedVariables false
set_option linter.unusedSimpArgs false
attribute [local go_sem] Oper.semAt_some
set_option maxRecDepth 100000 in
set_option maxHeartbeats 1000000 in
theorem sane_any (w : World) : Calls Tryz.prog 12 #[] w fun e w' => e = .returned (.bool true) ∧ Below w.heap.size w w' := by
  go_enter Tryz.func12, Tryz.ntmps12
  go_upto_region 2 with (fail)
  have hl1 : k64.C ((((w.alloc (.cells #[.int .i64 5] 3)).alloc (.cells #[.int .i64 7, .int .i64 8] 3)).alloc (.cells #[.int .i64 9] 3)).alloc (.cells #[.int .i64 0, .slice (some ⟨w.heap.size, 0, none⟩) 1 1, .int .i64 3, .slice (some ⟨w.heap.size + 1, 0, none⟩) 2 2, .int .i64 4, .slice (some ⟨w.heap.size + 1 + 1, 0, none⟩) 1 1] 64)) (some ⟨w.heap.size + 1 + 1 + 1, 0, none⟩) 3 [⟨0, [5]⟩, ⟨3, [7, 8]⟩, ⟨4, [9]⟩] := by
    obtain ⟨n1, n2, n3, n4⟩ := new4 w (.cells #[.int .i64 5] 3) (.cells #[.int .i64 7, .int .i64 8] 3) (.cells #[.int .i64 9] 3) (.cells #[.int .i64 0, .slice (some ⟨w.heap.size, 0, none⟩) 1 1, .int .i64 3, .slice (some ⟨w.heap.size + 1, 0, none⟩) 2 2, .int .i64 4, .slice (some ⟨w.heap.size + 1 + 1, 0, none⟩) 1 1] 64)
    exact three64 (x1 := [5]) (x2 := [7, 8]) (x3 := [9]) n1 rfl (by simp) n2 rfl (by simp) n3 rfl (by simp) n4
  have hB1 : Below w.heap.size w ((((w.alloc (.cells #[.int .i64 5] 3)).alloc (.cells #[.int .i64 7, .int .i64 8] 3)).alloc (.cells #[.int .i64 9] 3)).alloc (.cells #[.int .i64 0, .slice (some ⟨w.heap.size, 0, none⟩) 1 1, .int .i64 3, .slice (some ⟨w.heap.size + 1, 0, none⟩) 2 2, .int .i64 4, .slice (some ⟨w.heap.size + 1 + 1, 0, none⟩) 1 1] 64)) := below4 w _ _ _ _
  obtain ⟨g1, hg1⟩ : ∃ g, w.heap.size + 1 + 1 + 1 = g := ⟨_, rfl⟩
  obtain ⟨w1, hw1⟩ : ∃ w1, (((w.alloc (.cells #[.int .i64 5] 3)).alloc (.cells #[.int .i64 7, .int .i64 8] 3)).alloc (.cells #[.int .i64 9] 3)).alloc (.cells #[.int .i64 0, .slice (some ⟨w.heap.size, 0, none⟩) 1 1, .int .i64 3, .slice (some ⟨w.heap.size + 1, 0, none⟩) 2 2, .int .i64 4, .slice (some ⟨w.heap.size + 1 + 1, 0, none⟩) 1 1] 64) = w1 := ⟨_, rfl⟩
  rw [hw1] at hl1 hB1 ⊢
  rw [hg1] at hl1 ⊢
  have HUS := Aside0.mk (usable_yes [⟨0, [5]⟩, ⟨3, [7, 8]⟩, ⟨4, [9]⟩] 4 (some ⟨g1, 0, none⟩) 3 w1 hl1 (by simp) (sane_small ⟨by simp, by decide⟩) sane_use)
  rw [sane_low, sortI_self (by decide), sane_hi] at HUS
  have HB1 := Aside0.mk hB1
  clear hl1 hB1 hw1 hg1
  go_upto_region 3 with (go_at_call 26; (refine HUS.out.mono ?_); rintro e w2 ⟨u, r, rfl, hu, hr, hb2⟩; obtain ⟨UA, uc, rfl⟩ := Kd.R_slice hu; obtain ⟨RA, rc, rfl⟩ := Kd.R_slice hr)
  have HU2 := Aside0.mk (Kd.R_reads' hu).2
  have HB2 := Aside0.mk (HB1.out.trans (hb2.mono HB1.out.size))
  clear hu hr hb2 HUS HB1
  -- Oldest
  have hl3 : k83.C (w2.alloc (.cells #[.int .i64 3, .int .i64 1, .int .i64 6, .int .i64 1] 83)) (some ⟨w2.heap.size, 0, none⟩) 2 [⟨3, 1⟩, ⟨6, 1⟩] := row83 (xs := [⟨3, 1⟩, ⟨6, 1⟩]) (new1 w2 _) rfl (by simp) (fun j p hj => by
    match j with
    | 0 => obtain rfl : (⟨3, 1⟩ : S83) = p := by simpa using hj
           rfl
    | 1 => obtain rfl : (⟨6, 1⟩ : S83) = p := by simpa using hj
           rfl
    | j + 2 => simp at hj)
  obtain ⟨K1, hK1⟩ := sane_pins
  have HO3 := Aside0.mk (oldest_yes [⟨3, 1⟩, ⟨6, 1⟩] 7 K1 (some ⟨w2.heap.size, 0, none⟩) 2 _ hl3 (by simp) hK1 (by omega) (by simp) (fun k hk => by
    match k with
    | 0 => exact ⟨rfl, rfl⟩
    | 1 => exact ⟨rfl, rfl⟩
    | k + 2 => simp at hk; omega))
  rw [sane_old] at HO3
  clear hl3 hK1
  go_upto_region 4 with (go_at_call 41; (refine HO3.out.mono ?_); rintro e w3 ⟨rfl, hb3⟩)
  have HB23 := Aside0.mk (show Below w2.heap.size w2 w3 from (below1 w2 _).trans (hb3.mono (by simp)))
  have HB3 := Aside0.mk (HB2.out.trans (HB23.out.mono HB2.out.size))
  have HU3 := Aside0.mk (show 3 ≤ uc ∧ (Kd.int .i64).C w3 UA 3 [5, 7, 8] from ⟨HU2.out.1, Kd.C_below HU2.out.2 HB23.out⟩)
  clear hb3 HO3 HB23 HU2 HB2
  -- Unpin
  have hl4 : k83.C (w3.alloc (.cells #[.int .i64 3, .int .i64 2] 83)) (some ⟨w3.heap.size, 0, none⟩) 1 [⟨3, 2⟩] := row83 (xs := [⟨3, 2⟩]) (new1 w3 _) rfl (by simp) (fun j p hj => by
    match j with
    | 0 => obtain rfl : (⟨3, 2⟩ : S83) = p := by simpa using hj
           rfl
    | j + 1 => simp at hj)
  obtain ⟨K2, hK2⟩ := sane_pins2
  have HO4 := Aside0.mk (unpin_none [⟨3, 2⟩] 5 K2 (some ⟨w3.heap.size, 0, none⟩) 1 _ hl4 (by simp) hK2 (by omega) (by simp) (fun k hk => by
    match k with
    | 0 => exact ⟨rfl, rfl⟩
    | k + 1 => simp at hk) sane_unpin)
  clear hl4 hK2
  go_upto_region 5 with (go_at_call 42; (refine HO4.out.mono ?_); rintro e w4 ⟨rfl, hb4⟩)
  have HB34 := Aside0.mk (show Below w3.heap.size w3 w4 from (below1 w3 _).trans (hb4.mono (by simp)))
  have HB4 := Aside0.mk (HB3.out.trans (HB34.out.mono HB3.out.size))
  have HU4 := Aside0.mk (show 3 ≤ uc ∧ (Kd.int .i64).C w4 UA 3 [5, 7, 8] from ⟨HU3.out.1, Kd.C_below HU3.out.2 HB34.out⟩)
  clear hb4 HO4 HB34 HU3 HB3
  go_upto_region 6 with ((with_reducible refine gate_dst (N := 48) rfl ?_); refine Kd.N_make k89 (w0 := w4) w4.heap.size 89 rfl (N' := 48) rfl 22 _ _ rfl 6 rfl rfl Tryz.underlying22 (.agg (cells89 z89 none 0).toArray) 120 info89 rfl (by decide) (by decide) z89 (ok := fun _ => True) (okp := fun _ => False) zero89F (fun _ h => h.elim) trivial (by omega) (by decide) (Below.refl _ _) (Nat.le_refl _) ?_; intro pv w5 hp5 hb5 hg5 hat5; obtain ⟨PA, pc, rfl⟩ := Kd.N_slice hp5)
  obtain ⟨_, hpc, hPG⟩ := Kd.N_reads' hp5
  obtain ⟨m1, m2, m3⟩ := new3 w5 (.cells #[.int .i64 4, .int .i64 5] 3) (.cells #[.int .i64 3] 3) (.cells #[.slice PA 6 pc, .slice (some ⟨w5.heap.size, 0, none⟩) 2 2, .slice none 0 0, .slice (some ⟨w5.heap.size + 1, 0, none⟩) 1 1, .int .i64 2, .int .i64 0] 25)
  have hb6 := below3 w5 (.cells #[.int .i64 4, .int .i64 5] 3) (.cells #[.int .i64 3] 3) (.cells #[.slice PA 6 pc, .slice (some ⟨w5.heap.size, 0, none⟩) 2 2, .slice none 0 0, .slice (some ⟨w5.heap.size + 1, 0, none⟩) 1 1, .int .i64 2, .int .i64 0] 25)
  obtain ⟨w6, hw6⟩ : ∃ W, ((w5.alloc (.cells #[.int .i64 4, .int .i64 5] 3)).alloc (.cells #[.int .i64 3] 3)).alloc (.cells #[.slice PA 6 pc, .slice (some ⟨w5.heap.size, 0, none⟩) 2 2, .slice none 0 0, .slice (some ⟨w5.heap.size + 1, 0, none⟩) 1 1, .int .i64 2, .int .i64 0] 25) = W := ⟨_, rfl⟩
  obtain ⟨n5, hn5⟩ : ∃ n, w5.heap.size = n := ⟨_, rfl⟩
  rw [hw6] at m1 m2 m3 hb6 ⊢
  have hb46 : Below w4.heap.size w4 w6 := hb5.trans (hb6.mono hb5.size)
  rw [hn5] at m1 m2 m3 ⊢
  have HE1 := Aside0.mk (sane_end1 PA (some ⟨n5, 0, none⟩) (some ⟨n5 + 1, 0, none⟩) pc w6 (Kd.C_below hPG hb6) hpc (row_int (xs := [4, 5]) m1 rfl (by simp)) (row_int (xs := [3]) m2 rfl (by simp)))
  have HPG6 := Aside0.mk (show 6 ≤ pc ∧ k89.C w6 PA 6 (List.replicate 6 z89) from ⟨hpc, Kd.C_below hPG hb6⟩)
  have HM1 := Aside0.mk m1
  have HM2 := Aside0.mk m2
  have HM3 := Aside0.mk m3
  have HB6 := Aside0.mk (HB4.out.trans (hb46.mono HB4.out.size))
  have HU6 := Aside0.mk (show 3 ≤ uc ∧ (Kd.int .i64).C w6 UA 3 [5, 7, 8] from ⟨HU4.out.1, Kd.C_below HU4.out.2 hb46⟩)
  have x0 := (blk_cell m3 0).trans rfl
  have x1 := (blk_cell m3 1).trans rfl
  have x2 := (blk_cell m3 2).trans rfl
  have x3 := (blk_cell m3 3).trans rfl
  have x4 := (blk_cell m3 4).trans rfl
  have x5 := (blk_cell m3 5).trans rfl
  clear m1 m2 m3 hb6 hw6 hn5 hb46 hpc hPG hp5 hb5 hg5 hat5 HB4 HU4
  go_upto_region 7 with (go_at_call 15; (refine HE1.out.mono ?_); rintro e w7 ⟨q, qc, LA, lc, rfl, hq, hlc, hL, hb7⟩)
  clear x0 x1 x2 x3 x4 x5
  have hb7a := below1 w7 (.cells #[.slice (some ⟨q, 0, none⟩) 6 qc, .slice none 0 0, .slice none 0 0, .slice none 0 0, .int .i64 2, .int .i64 0] 25)
  have hk7 := new1 w7 (.cells #[.slice (some ⟨q, 0, none⟩) 6 qc, .slice none 0 0, .slice none 0 0, .slice none 0 0, .int .i64 2, .int .i64 0] 25)
  obtain ⟨W7, hW7⟩ : ∃ W, w7.alloc (.cells #[.slice (some ⟨q, 0, none⟩) 6 qc, .slice none 0 0, .slice none 0 0, .slice none 0 0, .int .i64 2, .int .i64 0] 25) = W := ⟨_, rfl⟩
  obtain ⟨n7, hn7⟩ : ∃ n, w7.heap.size = n := ⟨_, rfl⟩
  rw [hW7] at hb7a hk7 ⊢
  rw [hn7] at hk7 ⊢
  have hb67 : Below w6.heap.size w6 W7 := hb7.trans (hb7a.mono hb7.size)
  have HE2 := Aside0.mk (sane_end2 PA (some ⟨n5, 0, none⟩) (some ⟨n5 + 1, 0, none⟩) pc W7 (Kd.C_below HPG6.out.2 hb67) HPG6.out.1 (row_int (xs := [4, 5]) (blk_below HM1.out hb67) rfl (by simp)) (row_int (xs := [3]) (blk_below HM2.out hb67) rfl (by simp)))
  have m3 := blk_below HM3.out hb67
  have x0 := (blk_cell m3 0).trans rfl
  have x1 := (blk_cell m3 1).trans rfl
  have x2 := (blk_cell m3 2).trans rfl
  have x3 := (blk_cell m3 3).trans rfl
  have x4 := (blk_cell m3 4).trans rfl
  have x5 := (blk_cell m3 5).trans rfl
  have HB7 := Aside0.mk (HB6.out.trans (hb67.mono HB6.out.size))
  have HU7 := Aside0.mk (show 3 ≤ uc ∧ (Kd.int .i64).C W7 UA 3 [5, 7, 8] from ⟨HU6.out.1, Kd.C_below HU6.out.2 hb67⟩)
  have HQ7 := Aside0.mk (cellB hb7a (Nat.le_refl _) hq)
  have HL7 := Aside0.mk (show 2 ≤ lc ∧ k64.C W7 LA 2 [⟨0, [5]⟩, ⟨1, [3]⟩] from ⟨hlc, Kd.C_below hL hb7a⟩)
  have HK7 := Aside0.mk hk7
  clear m3 hb67 hW7 hn7 hb7a hk7 hb7 hq hlc hL HE1 HPG6 HM1 HM2 HM3 HB6 HU6
  go_upto_region 8 with (go_at_call 15; (refine HE2.out.mono ?_); rintro e w8 ⟨QA, qd, LB, ld, rfl, hlc, hL, hb8⟩)
  have hb8a := below1 w8 (.cells #[.slice QA 5 qd, .slice none 0 0, .slice none 0 0, .slice none 0 0, .int .i64 2, .int .i64 0] 25)
  have hk8 := new1 w8 (.cells #[.slice QA 5 qd, .slice none 0 0, .slice none 0 0, .slice none 0 0, .int .i64 2, .int .i64 0] 25)
  obtain ⟨W8, hW8⟩ : ∃ W, w8.alloc (.cells #[.slice QA 5 qd, .slice none 0 0, .slice none 0 0, .slice none 0 0, .int .i64 2, .int .i64 0] 25) = W := ⟨_, rfl⟩
  obtain ⟨n8, hn8⟩ : ∃ n, w8.heap.size = n := ⟨_, rfl⟩
  rw [hW8] at hb8a hk8 ⊢
  rw [hn8] at hk8 ⊢
  have hb78 : Below W7.heap.size W7 W8 := hb8.trans (hb8a.mono hb8.size)
  have HB8 := Aside0.mk (HB7.out.trans (hb78.mono HB7.out.size))
  have HQ8 := Aside0.mk (cellB hb78 (Nat.le_refl _) HQ7.out)
  have HL8 := Aside0.mk (show 2 ≤ lc ∧ k64.C W8 LA 2 [⟨0, [5]⟩, ⟨1, [3]⟩] from ⟨HL7.out.1, Kd.C_below HL7.out.2 hb78⟩)
  have HK7' := Aside0.mk (blk_below HK7.out hb78)
  have HK8 := Aside0.mk hk8
  have HLB := Aside0.mk (show 1 ≤ ld ∧ k64.C W8 LB 1 [⟨1, [3]⟩] from ⟨hlc, Kd.C_below hL hb8a⟩)
  have HSI := Aside0.mk (sameInts_any [5, 7, 8] [5, 7, 8] UA (some ⟨W8.heap.size, 0, none⟩) uc 3 (W8.alloc (.cells #[.int .i64 5, .int .i64 7, .int .i64 8] 3)) (Kd.C_below HU7.out.2 (hb78.trans ((below1 W8 _).mono hb78.size))) HU7.out.1 (row_int (xs := [5, 7, 8]) (new1 W8 _) rfl (by simp)) (by simp) (by simp))
  rw [decide_eq_true rfl] at HSI
  clear x0 x1 x2 x3 x4 x5 hb8 hb8a hk8 hW8 hn8 hb78 hL hlc HB7 HQ7 HL7 HK7 HU7 HE2
  go_upto_region 10 with (go_at_call 31; (refine HSI.out.mono ?_); rintro e w9 ⟨rfl, hd9⟩)
  have hb89 : Below W8.heap.size W8 w9 := (below1 W8 _).trans (hd9.below.mono (by simp))
  have HB9 := Aside0.mk (HB8.out.trans (hb89.mono HB8.out.size))
  have HL9 := Aside0.mk (show 2 ≤ lc ∧ k64.C w9 LA 2 [⟨0, [5]⟩, ⟨1, [3]⟩] from ⟨HL8.out.1, Kd.C_below HL8.out.2 hb89⟩)
  have HK9 := Aside0.mk (blk_below HK8.out hb89)
  have HLB9 := Aside0.mk (show 1 ≤ ld ∧ k64.C w9 LB 1 [⟨1, [3]⟩] from ⟨HLB.out.1, Kd.C_below HLB.out.2 hb89⟩)
  have y0 : w9.cell? ⟨n7, 0, none⟩ = some (.slice (some ⟨q, 0, none⟩) 6 qc) := (blk_cell (blk_below HK7'.out hb89) 0).trans rfl
  have y1 : w9.cell? ⟨q, 40, none⟩ = some (.int .i64 4) := cellB hb89 (Nat.le_refl _) HQ8.out
  have HSF : Aside0 (Calls Tryz.prog 18 #[.slice LA 2 lc, .slice (some ⟨w9.heap.size + 1 + 1, 0, none⟩) 2 2] (((w9.alloc (.cells #[.int .i64 5] 3)).alloc (.cells #[.int .i64 3] 3)).alloc (.cells #[.int .i64 0, .slice (some ⟨w9.heap.size, 0, none⟩) 1 1, .int .i64 1, .slice (some ⟨w9.heap.size + 1, 0, none⟩) 1 1] 64)) fun e w' => e = .returned (.bool true) ∧ Drawn0 (((w9.alloc (.cells #[.int .i64 5] 3)).alloc (.cells #[.int .i64 3] 3)).alloc (.cells #[.int .i64 0, .slice (some ⟨w9.heap.size, 0, none⟩) 1 1, .int .i64 1, .slice (some ⟨w9.heap.size + 1, 0, none⟩) 1 1] 64)) w') := by
    obtain ⟨m1, m2, m3⟩ := new3 w9 (.cells #[.int .i64 5] 3) (.cells #[.int .i64 3] 3) (.cells #[.int .i64 0, .slice (some ⟨w9.heap.size, 0, none⟩) 1 1, .int .i64 1, .slice (some ⟨w9.heap.size + 1, 0, none⟩) 1 1] 64)
    have := sameFreed_any [⟨0, [5]⟩, ⟨1, [3]⟩] [⟨0, [5]⟩, ⟨1, [3]⟩] LA (some ⟨w9.heap.size + 1 + 1, 0, none⟩) lc 2 (((w9.alloc (.cells #[.int .i64 5] 3)).alloc (.cells #[.int .i64 3] 3)).alloc (.cells #[.int .i64 0, .slice (some ⟨w9.heap.size, 0, none⟩) 1 1, .int .i64 1, .slice (some ⟨w9.heap.size + 1, 0, none⟩) 1 1] 64)) (Kd.C_below HL9.out.2 (below3 w9 _ _ _)) HL9.out.1 (two64 (x1 := [5]) (x2 := [3]) m1 rfl (by simp) m2 rfl (by simp) m3) (by simp) (sane_small ⟨by simp, by decide⟩)
    rw [decide_eq_true rfl] at this
    exact ⟨this⟩
  clear hd9 hb89 HB8 HQ8 HL8 HK7' HK8 HLB HSI
  go_upto_region 12 with (go_at_call 18; (refine HSF.out.mono ?_); rintro e w10 ⟨rfl, hd10⟩)
  have hb910 : Below w9.heap.size w9 w10 := (below3 w9 (.cells #[.int .i64 5] 3) (.cells #[.int .i64 3] 3) (.cells #[.int .i64 0, .slice (some ⟨w9.heap.size, 0, none⟩) 1 1, .int .i64 1, .slice (some ⟨w9.heap.size + 1, 0, none⟩) 1 1] 64)).trans (hd10.below.mono (by simp <;> omega))
  have HB10 := Aside0.mk (HB9.out.trans (hb910.mono HB9.out.size))
  have HL10 := Aside0.mk (show 2 ≤ lc ∧ k64.C w10 LA 2 [⟨0, [5]⟩, ⟨1, [3]⟩] from ⟨HL9.out.1, Kd.C_below HL9.out.2 hb910⟩)
  have HK10 := Aside0.mk (blk_below HK9.out hb910)
  have HLB10 := Aside0.mk (show 1 ≤ ld ∧ k64.C w10 LB 1 [⟨1, [3]⟩] from ⟨HLB9.out.1, Kd.C_below HLB9.out.2 hb910⟩)
  have HAC := Aside0.mk (account_walk 6 [2, 4] [⟨0, [5]⟩, ⟨1, [3]⟩] (some ⟨w10.heap.size, 0, none⟩) 2 LA lc (w10.alloc (.cells #[.int .i64 2, .int .i64 4] 3)) (row_int (xs := [2, 4]) (new1 w10 _) rfl (by simp)) (by simp) (Kd.C_below HL10.out.2 (below1 w10 _)) HL10.out.1 sane_check sane_inc3 (by simp) (by decide))
  clear y0 y1 hd10 hb910 HB9 HL9 HK9 HLB9 HSF
  go_upto_region 13 with (go_at_call 22; (refine HAC.out.mono ?_); rintro e w11 ⟨a, n, rfl, hao, hb11⟩; obtain ⟨rfl, rfl⟩ := sane_acc hao)
  have hb1011 : Below w10.heap.size w10 w11 := (below1 w10 _).trans (hb11.mono (by simp))
  have HB11 := Aside0.mk (HB10.out.trans (hb1011.mono HB10.out.size))
  have HK11 := Aside0.mk (blk_below HK10.out hb1011)
  have HLB11 := Aside0.mk (show 1 ≤ ld ∧ k64.C w11 LB 1 [⟨1, [3]⟩] from ⟨HLB10.out.1, Kd.C_below HLB10.out.2 hb1011⟩)
  have HTA : Aside0 (Calls Tryz.prog 19 #[.slice (some ⟨w11.heap.size + 1, 0, none⟩) 1 1, .int .i64 6] ((w11.alloc (.cells #[.int .i64 4, .int .i64 5] 3)).alloc (.cells #[.int .i64 0, .slice (some ⟨w11.heap.size, 0, none⟩) 2 2] 64)) fun e w' => e = .returned (.tuple #[.int .i64 4, .int .i64 0]) ∧ Below ((w11.alloc (.cells #[.int .i64 4, .int .i64 5] 3)).alloc (.cells #[.int .i64 0, .slice (some ⟨w11.heap.size, 0, none⟩) 2 2] 64)).heap.size ((w11.alloc (.cells #[.int .i64 4, .int .i64 5] 3)).alloc (.cells #[.int .i64 0, .slice (some ⟨w11.heap.size, 0, none⟩) 2 2] 64)) w') := by
    obtain ⟨m1, m2⟩ := new2 w11 (.cells #[.int .i64 4, .int .i64 5] 3) (.cells #[.int .i64 0, .slice (some ⟨w11.heap.size, 0, none⟩) 2 2] 64)
    have := Tail_any [⟨0, [4, 5]⟩] 6 (some ⟨w11.heap.size + 1, 0, none⟩) 1 ((w11.alloc (.cells #[.int .i64 4, .int .i64 5] 3)).alloc (.cells #[.int .i64 0, .slice (some ⟨w11.heap.size, 0, none⟩) 2 2] 64)) (one64 (xs := [4, 5]) m1 rfl (by simp) m2) (by simp) (sane_small ⟨by simp, by decide⟩)
    rw [show checkE 6 [⟨0, [4, 5]⟩] = 0 from sane_check2, if_pos rfl, show tailN [⟨0, [4, 5]⟩] 6 = 4 from sane_tail2] at this
    exact ⟨this⟩
  clear hao hb11 hb1011 HB10 HL10 HK10 HLB10 HAC
  go_upto_region 14 with (go_at_call 19; (refine HTA.out.mono ?_); rintro e w12 ⟨rfl, hb12⟩)
  have hb1112 : Below w11.heap.size w11 w12 := (below2 w11 (.cells #[.int .i64 4, .int .i64 5] 3) (.cells #[.int .i64 0, .slice (some ⟨w11.heap.size, 0, none⟩) 2 2] 64)).trans (hb12.mono (by simp <;> omega))
  have HB12 := Aside0.mk (HB11.out.trans (hb1112.mono HB11.out.size))
  have y0 : w12.cell? ⟨n8, 0, none⟩ = some (.slice QA 5 qd) := (blk_cell (blk_below HK11.out hb1112) 0).trans rfl
  have HSG : Aside0 (Calls Tryz.prog 18 #[.slice LB 1 ld, .slice (some ⟨w12.heap.size + 1, 0, none⟩) 1 1] ((w12.alloc (.cells #[.int .i64 3] 3)).alloc (.cells #[.int .i64 1, .slice (some ⟨w12.heap.size, 0, none⟩) 1 1] 64)) fun e w' => e = .returned (.bool true) ∧ Drawn0 ((w12.alloc (.cells #[.int .i64 3] 3)).alloc (.cells #[.int .i64 1, .slice (some ⟨w12.heap.size, 0, none⟩) 1 1] 64)) w') := by
    obtain ⟨m1, m2⟩ := new2 w12 (.cells #[.int .i64 3] 3) (.cells #[.int .i64 1, .slice (some ⟨w12.heap.size, 0, none⟩) 1 1] 64)
    have := sameFreed_any [⟨1, [3]⟩] [⟨1, [3]⟩] LB (some ⟨w12.heap.size + 1, 0, none⟩) ld 1 ((w12.alloc (.cells #[.int .i64 3] 3)).alloc (.cells #[.int .i64 1, .slice (some ⟨w12.heap.size, 0, none⟩) 1 1] 64)) (Kd.C_below (Kd.C_below HLB11.out.2 hb1112) (below2 w12 _ _)) HLB11.out.1 (one64 (xs := [3]) m1 rfl (by simp) m2) (by simp) (sane_small ⟨by simp, by decide⟩)
    rw [decide_eq_true rfl] at this
    exact ⟨this⟩
  clear hb12 hb1112 HB11 HK11 HLB11 HTA
  go_wp2_with (go_at_call 18; (refine HSG.out.mono ?_); rintro e w13 ⟨rfl, hd13⟩)
  go_ret
  exact ⟨rfl, HB12.out.trans (((below2 w12 (.cells #[.int .i64 3] 3) (.cells #[.int .i64 1, .slice (some ⟨w12.heap.size, 0, none⟩) 1 1] 64)).trans (hd13.below.mono (by simp <;> omega))).mono HB12.out.size)⟩
end Go.Proofs.YtpnhelcemodnmaaGreat

/- A slice of freed pages, opened. -/
namespace Go.Proofs.YtpnhelcemodnmaaGreat
open Go.RowKit Go.Shelf Go.Proofs.YtpnhelcemodnmaaGreatW.PrintWords Go.Proofs.YtpnhelcemodnmaaGreatW.PrintLast Go.Proofs.YtpnhelcemodnmaaGreatW.PrintMore PA
open Go.ChangeShapes Go.WideShapes Go.ChangeAt
set_option linter.unusedVariables false
set_option linter.unusedSimpArgs false
attribute [local go_sem] Oper.semAt_some
theorem fields64 : ∃ f0 f1 : Field, Tryz.prog.underlying 64 = some (.struct #[f0, f1]) ∧ f0.type = 3 ∧ f0.offset = 0 ∧ f1.type = 23 ∧ f1.offset = 1 := ⟨_, _, Tryz.underlying64, rfl, rfl, rfl, rfl⟩
theorem cells3 : Tryz.prog.cellsOf 3 = 1 := by kernel_rfl
theorem cells23 : Tryz.prog.cellsOf 23 = 1 := by kernel_rfl
theorem cells64' : Tryz.prog.cellsOf 64 = 2 := by kernel_rfl
theorem weights_all {H : Type} {P : Program} {e : TypeId} {d : DataW H} {l : List (DataW H)} (h : d ∈ l) : ∀ q ∈ DataW.weights P e d, q ∈ DataW.weightsAll P e l := by
  induction l with
  | nil => cases h
  | cons a t ih =>
    intro q hq
    rw [DataW.weightsAll]
    rcases List.mem_cons.1 h with rfl | h
    · exact List.mem_append_left _ hq
    · exact List.mem_append_right _ (ih h q hq)
theorem weights_pages {H : Type} {f0 f1 : Field} (hs : Tryz.prog.underlying 64 = some (.struct #[f0, f1])) (t1 : f1.type = 23) {y0 : DataW H} {es sp : List (DataW H)} : (es.length + sp.length) * 8 ∈ DataW.weights Tryz.prog 64 (.agg [y0, .slice es sp]) := by
  have hb : Tryz.prog.bytesOf 3 = 8 := by kernel_rfl
  simp [DataW.weights, hs, t1, Tryz.underlying23, DataW.weightsEach, hb]
/-- A slice of freed pages that was handed in, opened. -/
theorem open_freed {H : Type} {enc : TypeId × Value → H} {W : World} {held : Bool} {fuel : Nat} {cs : List Value} {x : DataW H × List MemPlace} (h : DataW.trod enc Tryz.prog W 0 (fun _ => true) held fuel 26 cs = some x) (hsz : ∀ q ∈ DataW.weights Tryz.prog 26 x.1, q ≤ reachBytes) :
    ∃ (a : Option Addr) (len cap : Nat) (l : List S64), cs = [.slice a len cap] ∧ len = l.length ∧ len ≤ cap ∧ k64.C W a l.length l ∧ ∀ f ∈ l, f.f1.length ≤ 17592186044416 := by
  rcases Deep.open_slice Tryz.underlying26 h with ⟨rfl, _⟩ | ⟨a, len, cap, m, n, D, Pl, rfl, hb, hl, hm, hmm, rfl, hx⟩
  · exact ⟨none, 0, 0, [], rfl, rfl, Nat.le_refl _, Kd.C_nil k64 W, by simp⟩
  simp only [if_true] at hmm
  have each : ∀ i, i < len → ∃ y : Int × Option Addr × Nat × Nat × List Int, (W.cell? (a.add (i * 2)) = some (.int .i64 y.1) ∧ W.cell? (a.add (i * 2 + 1)) = some (.slice y.2.1 y.2.2.1 y.2.2.2.1)) ∧ y.2.2.2.2.length = y.2.2.1 ∧ y.2.2.1 ≤ y.2.2.2.1 ∧ y.2.2.1 ≤ 17592186044416 ∧ (Kd.int .i64).C W y.2.1 y.2.2.1 y.2.2.2.2 := by
    intro i hi
    obtain ⟨cs', h1, h2⟩ := hx i (by omega)
    obtain ⟨f0, f1, hs, t0, o0, t1, o1⟩ := fields64
    obtain ⟨y0, y1, n', hyy, hcl, h3, h4⟩ := trod_struct2 hs h2
    rw [t0, o0, cells3] at h3
    rw [t1, o1, cells23] at h4
    obtain ⟨_, hlen, hcell⟩ := World.cells?_some h1
    rw [cells64'] at hlen hcell h1
    match cs', hlen with
    | [c0, c1], _ =>
      have g0 := hcell 0 (by omega)
      have g1 := hcell 1 (by omega)
      rw [Deep.add_add] at g0 g1
      simp only [List.drop_zero, List.take_succ_cons, List.take_zero, List.drop_succ_cons, Nat.add_zero, List.getElem?_cons_zero, List.getElem?_cons_succ] at h3 h4 g0 g1
      obtain ⟨v, hv⟩ : ∃ v : Int, c0 = .int .i64 v := by
        obtain ⟨v, hv, _⟩ := DataW.trod_int Tryz.underlying3 h3
        exact ⟨v, by simpa using hv⟩
      subst hv
      rcases open_ints Tryz.underlying23 Tryz.underlying3 cells3 h4 with ⟨hcs, _⟩ | ⟨a', len', cap', zs, hcs, _, hl', hm', hz, hy1, hc', hw'⟩
      · obtain rfl : c1 = .slice none 0 0 := by simpa using hcs
        exact ⟨(v, none, 0, 0, []), ⟨g0, g1⟩, rfl, Nat.le_refl _, Nat.zero_le _, Kd.C_nil _ W⟩
      · obtain rfl : c1 = .slice (some a') len' cap' := by simpa using hcs
        simp only [if_true] at hz
        have hw1 : cap' * 8 ≤ reachBytes := by
          have hD : D i = .agg [y0.1, .slice (lits .i64 (zs.take len')) (lits .i64 (zs.drop len'))] := by
            have e1 := congrArg Prod.fst hyy
            have e2 := congrArg Prod.fst hy1
            simp only at e1 e2
            rw [e1, e2]
          refine hsz _ ?_
          have hmem : D i ∈ (List.range len).map D := List.mem_map.2 ⟨i, List.mem_range.2 hi, rfl⟩
          have h5 := weights_all (P := Tryz.prog) (e := 64) hmem (cap' * 8) (by
            rw [hD]
            have h6 := weights_pages (H := H) hs t1 (y0 := y0.1) (es := lits .i64 (zs.take len')) (sp := lits .i64 (zs.drop len'))
            have e3 : (lits (H := H) .i64 (zs.take len')).length + (lits (H := H) .i64 (zs.drop len')).length = cap' := by simp [lits]; omega
            rw [e3] at h6
            exact h6)
          simp only [DataW.weights, Tryz.underlying26]
          exact List.mem_cons_of_mem _ (List.mem_append_left _ h5)
        unfold reachBytes at hw1
        obtain ⟨xs, hxl, hR, _, _, hxc⟩ := ReadsInt.ofRowC (k := .i64) (w := W) (a := some a') (len := len') (cap := cap') (zs := zs) (.inr ⟨a', rfl, hl', hm', hz, hc', hw'⟩)
        refine ⟨(v, some a', len', cap', xs), ⟨g0, g1⟩, hxl.symm, hl', by show len' ≤ _; omega, ?_⟩
        show (Kd.int .i64).C W (some a') len' xs
        rw [hxl]
        exact Kd.C_of_reads (d := (0 : Int)) (h1 := fun _ => rfl) hR
  obtain ⟨y, hy⟩ := Deep.choose_lt each
  let l : List S64 := (List.range len).map fun i => ⟨(y i).1, (y i).2.2.2.2⟩
  have hll : l.length = len := by simp [l]
  have hmx : cap ≤ 9223372036854775807 := by unfold maxLen at hm; omega
  refine ⟨some a, len, cap, l, rfl, hll.symm, hl, ?_, ?_⟩
  · refine ⟨rfl, by omega, fun _ => ⟨_, rfl, fun j q hj => ?_⟩⟩
    have hjl := (List.getElem?_eq_some_iff.1 hj).1
    obtain ⟨⟨g0, g1⟩, e1, e2, _, e3⟩ := hy j (by omega)
    have hq : q = ⟨(y j).1, (y j).2.2.2.2⟩ := by
      have h2 := (List.getElem?_eq_some_iff.1 hj).2
      rw [← h2]
      simp [l]
    subst hq
    refine ⟨[.int .i64 (y j).1, .slice (y j).2.1 (y j).2.2.2.2.length (y j).2.2.2.1], rfl, k64_mk W ⟨(y j).1, (y j).2.2.2.2⟩ (by show (y j).2.2.2.2.length ≤ _; omega) (by show (Kd.int .i64).C W _ (y j).2.2.2.2.length _; rw [e1]; exact e3), fun i u hu => ?_⟩
    match i with
    | 0 => rw [show (some (Value.int .i64 (y j).1)) = some u from hu] at g0
           exact g0
    | 1 => rw [← e1, show (some (Value.slice (y j).2.1 (y j).2.2.2.2.length (y j).2.2.2.1)) = some u from hu] at g1
           exact g1
    | i + 2 => simp at hu
  · intro f hf
    obtain ⟨i, hi, rfl⟩ := List.mem_map.1 hf
    obtain ⟨_, e1, _, e2, _⟩ := hy i (List.mem_range.1 hi)
    show (y i).2.2.2.2.length ≤ _
    omega
end Go.Proofs.YtpnhelcemodnmaaGreat

-- PRINTED by print.py (a twelfth state) out of the translation. Not trusted: Lean checks it.
namespace Go.Proofs.YtpnhelcemodnmaaGreat.PA
open Go.RowKit Go.Proofs.YtpnhelcemodnmaaGreatW.PrintWords Go.Proofs.YtpnhelcemodnmaaGreatW.PrintLast Go.Proofs.YtpnhelcemodnmaaGreatW.PrintMore
attribute [local go_sem] max2_int min2_int max_two min_two max_three min_three max_four min_four   -- for this text's walks alone
set_option linter.unusedVariables false
set_option linter.unusedSimpArgs false

/-! ### understoryref12_Account: function 23 -/
mutual
def understoryref12_Account.l0 : Nat → Int → List Int → List (S64) → List Int → Int → Option (Int × Int)
  | 0, _, _, _, _, _ => none
  | k + 1, x0, x1, x2, x7, x8 => if x8 < (x1.length : Int) then (if 0 ≤ x8 then (if 0 ≤ (rd x1 x8) then (if (rd x1 x8) < (x7.length : Int) then (understoryref12_Account.l0 k x0 x1 x2 (x7.set ((rd x1 x8) : Int).toNat (wrap64 ((rd x7 (rd x1 x8)) + 1))) (wrap64 (x8 + 1))) else (none)) else (none)) else (none)) else (understoryref12_Account.l1 k x0 x2 x7 0)
def understoryref12_Account.l1 : Nat → Int → List (S64) → List Int → Int → Option (Int × Int)
  | 0, _, _, _, _ => none
  | k + 1, x0, x2, x7, x9 => if x9 < (x2.length : Int) then (understoryref12_Account.l2 k x0 x2 x7 x9 0) else (understoryref12_Account.l3 k x0 x7 2)
def understoryref12_Account.l2 : Nat → Int → List (S64) → List Int → Int → Int → Option (Int × Int)
  | 0, _, _, _, _, _ => none
  | k + 1, x0, x2, x7, x9, x10 => if 0 ≤ x9 then (if x9 < (x2.length : Int) then (if x10 < (((rd_T64 x2 x9).f1).length : Int) then (if 0 ≤ x10 then (if 0 ≤ (rd ((rd_T64 x2 x9).f1) x10) then (if (rd ((rd_T64 x2 x9).f1) x10) < (x7.length : Int) then (understoryref12_Account.l2 k x0 x2 (x7.set ((rd ((rd_T64 x2 x9).f1) x10) : Int).toNat (wrap64 ((rd x7 (rd ((rd_T64 x2 x9).f1) x10)) + 1))) x9 (wrap64 (x10 + 1))) else (none)) else (none)) else (none)) else (understoryref12_Account.l1 k x0 x2 x7 (wrap64 (x9 + 1)))) else (none)) else (none)
def understoryref12_Account.l3 : Nat → Int → List Int → Int → Option (Int × Int)
  | 0, _, _, _ => none
  | k + 1, x0, x7, x11 => if x11 < x0 then (if 0 ≤ x11 then (if x11 < (x7.length : Int) then (if (rd x7 x11) = 1 then (understoryref12_Account.l3 k x0 x7 (wrap64 (x11 + 1))) else (some (x11, 9))) else (none)) else (none)) else (some (0, 0))
end
def understoryref12_Account.f (k : Nat) (a0 : Int) (l1 : List Int) (l2 : List (S64)) : Option (Int × Int) := (understoryref12_size.f a0).bind fun t457 => (if t457 = true then ((understoryref12_Is.f k l2 a0).bind fun t458 => (if t458 = true then ((understoryref12_once.f k l1 a0).bind fun t459 => (if t459 = true then (if 0 ≤ a0 then (if (a0 : Int).toNat ≤ 35184372088832 then (understoryref12_Account.l0 k a0 l1 l2 (List.replicate (a0 : Int).toNat 0) 0) else (none)) else (none)) else (some (0, 1)))) else (some (0, 2)))) else (some (0, 1)))
theorem understoryref12_Account.mono_l : ∀ k, (∀ y0 y1 y2 y3 y4, LeO (understoryref12_Account.l0 k y0 y1 y2 y3 y4) (understoryref12_Account.l0 (k + 1) y0 y1 y2 y3 y4)) ∧ (∀ y0 y1 y2 y3, LeO (understoryref12_Account.l1 k y0 y1 y2 y3) (understoryref12_Account.l1 (k + 1) y0 y1 y2 y3)) ∧ (∀ y0 y1 y2 y3 y4, LeO (understoryref12_Account.l2 k y0 y1 y2 y3 y4) (understoryref12_Account.l2 (k + 1) y0 y1 y2 y3 y4)) ∧ (∀ y0 y1 y2, LeO (understoryref12_Account.l3 k y0 y1 y2) (understoryref12_Account.l3 (k + 1) y0 y1 y2))
  | 0 => ⟨fun _ _ _ _ _ r h => by simp [understoryref12_Account.l0] at h, fun _ _ _ _ r h => by simp [understoryref12_Account.l1] at h, fun _ _ _ _ _ r h => by simp [understoryref12_Account.l2] at h, fun _ _ _ r h => by simp [understoryref12_Account.l3] at h⟩
  | k + 1 => by
    obtain ⟨ih0, ih1, ih2, ih3⟩ := understoryref12_Account.mono_l k
    refine ⟨?_, ?_, ?_, ?_⟩
    · intro y0 y1 y2 y3 y4
      unfold understoryref12_Account.l0
      repeat' first
      | (with_reducible exact ih0 _ _ _ _ _)
      | (with_reducible exact ih1 _ _ _ _)
      | (with_reducible exact ih2 _ _ _ _ _)
      | (with_reducible exact ih3 _ _ _)
      | (with_reducible exact understoryref12_Is.mono _ _ _)
      | (with_reducible exact understoryref12_once.mono _ _ _)
      | (with_reducible exact LeO.refl _)
      | (with_reducible exact LeO.none _)
      | (with_reducible refine LeO.ite ?_ ?_)
      | (with_reducible refine LeO.bind ?_ (fun _ => ?_))
      | exact ih0 _ _ _ _ _
      | exact ih1 _ _ _ _
      | exact ih2 _ _ _ _ _
      | exact ih3 _ _ _
      | exact understoryref12_Is.mono _ _ _
      | exact understoryref12_once.mono _ _ _
      | exact LeO.none _
      | refine LeO.ite ?_ ?_
      | refine LeO.bind ?_ (fun _ => ?_)
    · intro y0 y1 y2 y3
      unfold understoryref12_Account.l1
      repeat' first
      | (with_reducible exact ih0 _ _ _ _ _)
      | (with_reducible exact ih1 _ _ _ _)
      | (with_reducible exact ih2 _ _ _ _ _)
      | (with_reducible exact ih3 _ _ _)
      | (with_reducible exact understoryref12_Is.mono _ _ _)
      | (with_reducible exact understoryref12_once.mono _ _ _)
      | (with_reducible exact LeO.refl _)
      | (with_reducible exact LeO.none _)
      | (with_reducible refine LeO.ite ?_ ?_)
      | (with_reducible refine LeO.bind ?_ (fun _ => ?_))
      | exact ih0 _ _ _ _ _
      | exact ih1 _ _ _ _
      | exact ih2 _ _ _ _ _
      | exact ih3 _ _ _
      | exact understoryref12_Is.mono _ _ _
      | exact understoryref12_once.mono _ _ _
      | exact LeO.none _
      | refine LeO.ite ?_ ?_
      | refine LeO.bind ?_ (fun _ => ?_)
    · intro y0 y1 y2 y3 y4
      unfold understoryref12_Account.l2
      repeat' first
      | (with_reducible exact ih0 _ _ _ _ _)
      | (with_reducible exact ih1 _ _ _ _)
      | (with_reducible exact ih2 _ _ _ _ _)
      | (with_reducible exact ih3 _ _ _)
      | (with_reducible exact understoryref12_Is.mono _ _ _)
      | (with_reducible exact understoryref12_once.mono _ _ _)
      | (with_reducible exact LeO.refl _)
      | (with_reducible exact LeO.none _)
      | (with_reducible refine LeO.ite ?_ ?_)
      | (with_reducible refine LeO.bind ?_ (fun _ => ?_))
      | exact ih0 _ _ _ _ _
      | exact ih1 _ _ _ _
      | exact ih2 _ _ _ _ _
      | exact ih3 _ _ _
      | exact understoryref12_Is.mono _ _ _
      | exact understoryref12_once.mono _ _ _
      | exact LeO.none _
      | refine LeO.ite ?_ ?_
      | refine LeO.bind ?_ (fun _ => ?_)
    · intro y0 y1 y2
      unfold understoryref12_Account.l3
      repeat' first
      | (with_reducible exact ih0 _ _ _ _ _)
      | (with_reducible exact ih1 _ _ _ _)
      | (with_reducible exact ih2 _ _ _ _ _)
      | (with_reducible exact ih3 _ _ _)
      | (with_reducible exact understoryref12_Is.mono _ _ _)
      | (with_reducible exact understoryref12_once.mono _ _ _)
      | (with_reducible exact LeO.refl _)
      | (with_reducible exact LeO.none _)
      | (with_reducible refine LeO.ite ?_ ?_)
      | (with_reducible refine LeO.bind ?_ (fun _ => ?_))
      | exact ih0 _ _ _ _ _
      | exact ih1 _ _ _ _
      | exact ih2 _ _ _ _ _
      | exact ih3 _ _ _
      | exact understoryref12_Is.mono _ _ _
      | exact understoryref12_once.mono _ _ _
      | exact LeO.none _
      | refine LeO.ite ?_ ?_
      | refine LeO.bind ?_ (fun _ => ?_)
theorem understoryref12_Account.mono : ∀ a0 a1 a2 k, LeO (understoryref12_Account.f k a0 a1 a2) (understoryref12_Account.f (k + 1) a0 a1 a2) := by
  intro a0 a1 a2 k
  obtain ⟨ih0, ih1, ih2, ih3⟩ := understoryref12_Account.mono_l k
  unfold understoryref12_Account.f
  repeat' first
      | (with_reducible exact ih0 _ _ _ _ _)
      | (with_reducible exact ih1 _ _ _ _)
      | (with_reducible exact ih2 _ _ _ _ _)
      | (with_reducible exact ih3 _ _ _)
      | (with_reducible exact understoryref12_Is.mono _ _ _)
      | (with_reducible exact understoryref12_once.mono _ _ _)
      | (with_reducible exact LeO.refl _)
      | (with_reducible exact LeO.none _)
      | (with_reducible refine LeO.ite ?_ ?_)
      | (with_reducible refine LeO.bind ?_ (fun _ => ?_))
      | exact ih0 _ _ _ _ _
      | exact ih1 _ _ _ _
      | exact ih2 _ _ _ _ _
      | exact ih3 _ _ _
      | exact understoryref12_Is.mono _ _ _
      | exact understoryref12_once.mono _ _ _
      | exact LeO.none _
      | refine LeO.ite ?_ ?_
      | refine LeO.bind ?_ (fun _ => ?_)
/-! ### space_Total: function 29 -/
def space_Total.l0 : Nat → Int → List (S64) → Int → Int → Option (Int)
  | 0, _, _, _, _ => none
  | k + 1, x3, x6, x7, x8 => if x8 < x7 then (if 0 ≤ x8 then (if x8 < (x6.length : Int) then (space_Total.l0 k (wrap64 (x3 + (((rd_T64 x6 x8).f1).length : Int))) x6 x7 (wrap64 (x8 + 1))) else (none)) else (none)) else (some x3)
def space_Total.f (k : Nat) (l0 : List (S64)) : Option (Int) := space_Total.l0 k 0 l0 (l0.length : Int) 0
theorem space_Total.mono_l : ∀ k, (∀ y0 y1 y2 y3, LeO (space_Total.l0 k y0 y1 y2 y3) (space_Total.l0 (k + 1) y0 y1 y2 y3))
  | 0 => fun _ _ _ _ r h => by simp [space_Total.l0] at h
  | k + 1 => by
    have ih0 := space_Total.mono_l k
    · intro y0 y1 y2 y3
      unfold space_Total.l0
      repeat' first
      | (with_reducible exact ih0 _ _ _ _)
      | (with_reducible exact LeO.refl _)
      | (with_reducible exact LeO.none _)
      | (with_reducible refine LeO.ite ?_ ?_)
      | (with_reducible refine LeO.bind ?_ (fun _ => ?_))
      | exact ih0 _ _ _ _
      | exact LeO.none _
      | refine LeO.ite ?_ ?_
      | refine LeO.bind ?_ (fun _ => ?_)
theorem space_Total.mono : ∀ a0 k, LeO (space_Total.f k a0) (space_Total.f (k + 1) a0) := by
  intro a0 k
  have ih0 := space_Total.mono_l k
  unfold space_Total.f
  repeat' first
      | (with_reducible exact ih0 _ _ _ _)
      | (with_reducible exact LeO.refl _)
      | (with_reducible exact LeO.none _)
      | (with_reducible refine LeO.ite ?_ ?_)
      | (with_reducible refine LeO.bind ?_ (fun _ => ?_))
      | exact ih0 _ _ _ _
      | exact LeO.none _
      | refine LeO.ite ?_ ?_
      | refine LeO.bind ?_ (fun _ => ?_)
set_option maxHeartbeats 8000000 in
set_option maxRecDepth 100000 in
theorem space_Total.calls (k : Nat) (A0 : Option Addr) (c0 : Nat) (l0 : List (S64)) (r : Int) (w : World) (hr0 : Kd.C k64 w A0 l0.length l0) (hc0 : l0.length ≤ c0) (h : space_Total.f k l0 = some r) :
    Calls Tryz.prog 29 #[.slice A0 l0.length c0] w fun e w' => e = .returned (.int .i64 r) ∧ Below w.heap.size w w' := by
  have hu64 := Tryz.underlying64
  have HR0 := Aside0.mk hr0
  have HC0 := Aside0.mk hc0
  clear hr0 hc0
  have HB := Aside0.mk (Below.refl w.heap.size w)
  have H : (space_Total.l0 k 0 l0 (l0.length : Int) 0) = some r := h
  clear h
  have H' := Aside0.mk H
  clear H
  go_enter Tryz.func29, Tryz.ntmps29
  go_wp2
  go_loopg [3, 8] k (fun kq v3 v8 w' => ∃ (x3_1 : Int) (x8_1 : Int), v3 = .int .i64 x3_1 ∧ v8 = .int .i64 x8_1 ∧ Aside0 (space_Total.l0 kq x3_1 l0 (l0.length : Int) x8_1 = some r) ∧ Aside0 (kq ≤ k) ∧ Aside0 (Below w.heap.size w w'))
  case atStart => exact ⟨(0), (0), (by first | rfl | (simp; done) | (simp [*]; done)), (by first | rfl | (simp; done) | (simp [*]; done)), H', ⟨Nat.le_refl _⟩, ⟨by repeat (first | (with_reducible first | exact HB.out | apply below_alloc | apply pw_below_drewN | apply below_drew1) | exact HB.out)⟩⟩
  case round =>
    clear H'
    obtain ⟨x3_1, x8_1, rfl, rfl, HA, HK1, HB⟩ := hrel
    cases gk with
    | zero => exact absurd HA.out (by simp [space_Total.l0])
    | succ k1 =>
      have H := HA.out
      clear HA
      simp only [space_Total.l0] at H
      by_cases c2 : x8_1 < (l0.length : Int)
      · rw [if_pos c2] at H
        have c2b0 : decide (x8_1 < (l0.length : Int)) = true := decide_eq_true c2
        clear c2
        by_cases c3 : 0 ≤ x8_1
        · rw [if_pos c3] at H
          have c3b0 : decide (0 ≤ x8_1) = true := decide_eq_true c3
          clear c3
          by_cases c4 : x8_1 < (l0.length : Int)
          · rw [if_pos c4] at H
            have c4b0 : decide (x8_1 < (l0.length : Int)) = true := decide_eq_true c4
            clear c4
            have H' := Aside0.mk H
            clear H
            have p502 : 0 ≤ (x8_1 : Int) := of_decide_eq_true (by first | (with_reducible assumption) | assumption)
            have q502 : x8_1 < (l0.length : Int) := of_decide_eq_true (by first | (with_reducible assumption) | assumption)
            obtain ⟨ad502, A502_1, c502_1, e502, hx502_0, hx502_1, hl502_1, hi502_1⟩ := at_T64 HR0.out x8_1 p502 q502
            cases e502
            replace hx502_0 := (HB.out.cell (World.block_lt_of_cell? w _ hx502_0)).trans hx502_0
            replace hx502_1 := (HB.out.cell (World.block_lt_of_cell? w _ hx502_1)).trans hx502_1
            have HR502_1 := Aside0.mk hi502_1
            have HC502_1 := Aside0.mk hl502_1
            clear hi502_1 hl502_1
            replace p502 := eq_true p502
            replace q502 := eq_true q502
            go_wp2_with (first | ((with_reducible refine gate_dst (N := 5) rfl ?_); refine box_event ?hg (N := 5) ?hd (cs := #[.int .i64 0, .slice none 0 0]) (t := 64) ?hr ?_; (case hd => rfl); (case hg => rfl); (case hr => first | (go_simp; done) | (go_simp; rfl)); intro gb503 hg w5 hbox hb; have n0_ := Aside0.mk (below_step (by repeat (first | (with_reducible first | exact HB.out | apply below_alloc | apply pw_below_drewN | apply below_drew1) | exact HB.out)) hb); have n1_ := Aside0.mk (hbox); have n2_ := Aside0.mk ((by rw [hg]; exact (below_size (by repeat (first | (with_reducible first | exact HB.out | apply below_alloc | apply pw_below_drewN | apply below_drew1) | exact HB.out))) : w.heap.size ≤ gb503)); have n3_ := Aside0.mk ((by rw [hg]; exact (below_size (by repeat (first | (with_reducible first | exact HB.out | apply below_alloc | apply pw_below_drewN | apply below_drew1) | exact HB.out))) : w.heap.size ≤ gb503)); clear HB; have HB := n0_; have BK503 := n1_; have GW503 := n2_; have GE503 := n3_; clear n0_ n1_ n2_ n3_; clear hb hbox hg; have hcz6_0 : w5.cell? ⟨gb503, 0, none⟩ = some (.int .i64 0) := (blk_cell BK503.out 0).trans rfl; have hcz6_1 : w5.cell? ⟨gb503, 1, none⟩ = some (.slice none 0 0) := (blk_cell BK503.out 1).trans rfl; have hfz6_0 := blk_frozen BK503.out 0; have hfz6_1 := blk_frozen BK503.out 1))
            go_roundg k1
            case measure => have := HK1.out; omega
            case rel => exact ⟨(wrap64 (x3_1 + (((rd_T64 l0 x8_1).f1).length : Int))), (wrap64 (x8_1 + 1)), (by first | rfl | (simp; done) | (simp [*]; done)), (by first | rfl | (simp; done) | (simp [*]; done)), H', ⟨by have := HK1.out; omega⟩, ⟨by repeat (first | (with_reducible first | exact HB.out | apply below_alloc | apply pw_below_drewN | apply below_drew1 | refine below_set ?_ GE503.out) | exact HB.out)⟩⟩
          · rw [if_neg c4] at H
            exact absurd H (by simp)
        · rw [if_neg c3] at H
          exact absurd H (by simp)
      · rw [if_neg c2] at H
        have c2b0 : decide (x8_1 < (l0.length : Int)) = false := decide_eq_false c2
        clear c2
        obtain rfl := Option.some.inj H
        go_wp2
        go_ret
        exact ⟨by first | rfl | (simp [errW_none, errW_some] <;> rfl) | (simp [*, errW_none, errW_some] <;> rfl), by repeat (first | (with_reducible first | exact HB.out | apply below_alloc | apply pw_below_drewN | apply below_drew1) | exact HB.out)⟩

end Go.Proofs.YtpnhelcemodnmaaGreat.PA

-- PRINTED by print.py (a twelfth state) out of the translation. Not trusted: Lean checks it.
namespace Go.Proofs.YtpnhelcemodnmaaGreat.PA
open Go.RowKit Go.Proofs.YtpnhelcemodnmaaGreatW.PrintWords Go.Proofs.YtpnhelcemodnmaaGreatW.PrintLast Go.Proofs.YtpnhelcemodnmaaGreatW.PrintMore
attribute [local go_sem] max2_int min2_int max_two min_two max_three min_three max_four min_four   -- for this text's walks alone
set_option linter.unusedVariables false
set_option linter.unusedSimpArgs false

/-! ### understoryref12_Total: function 30 -/
def understoryref12_Total.l0 : Nat → List (S64) → Int → Int → Option (Int)
  | 0, _, _, _ => none
  | k + 1, x0, x3, x4 => if x4 < (x0.length : Int) then (if 0 ≤ x4 then (understoryref12_Total.l0 k x0 (wrap64 (x3 + (((rd_T64 x0 x4).f1).length : Int))) (wrap64 (x4 + 1))) else (none)) else (some x3)
def understoryref12_Total.f (k : Nat) (l0 : List (S64)) : Option (Int) := understoryref12_Total.l0 k l0 0 0
theorem understoryref12_Total.mono_l : ∀ k, (∀ y0 y1 y2, LeO (understoryref12_Total.l0 k y0 y1 y2) (understoryref12_Total.l0 (k + 1) y0 y1 y2))
  | 0 => fun _ _ _ r h => by simp [understoryref12_Total.l0] at h
  | k + 1 => by
    have ih0 := understoryref12_Total.mono_l k
    · intro y0 y1 y2
      unfold understoryref12_Total.l0
      repeat' first
      | (with_reducible exact ih0 _ _ _)
      | (with_reducible exact LeO.refl _)
      | (with_reducible exact LeO.none _)
      | (with_reducible refine LeO.ite ?_ ?_)
      | (with_reducible refine LeO.bind ?_ (fun _ => ?_))
      | exact ih0 _ _ _
      | exact LeO.none _
      | refine LeO.ite ?_ ?_
      | refine LeO.bind ?_ (fun _ => ?_)
theorem understoryref12_Total.mono : ∀ a0 k, LeO (understoryref12_Total.f k a0) (understoryref12_Total.f (k + 1) a0) := by
  intro a0 k
  have ih0 := understoryref12_Total.mono_l k
  unfold understoryref12_Total.f
  repeat' first
      | (with_reducible exact ih0 _ _ _)
      | (with_reducible exact LeO.refl _)
      | (with_reducible exact LeO.none _)
      | (with_reducible refine LeO.ite ?_ ?_)
      | (with_reducible refine LeO.bind ?_ (fun _ => ?_))
      | exact ih0 _ _ _
      | exact LeO.none _
      | refine LeO.ite ?_ ?_
      | refine LeO.bind ?_ (fun _ => ?_)
set_option maxHeartbeats 8000000 in
set_option maxRecDepth 100000 in
theorem understoryref12_Total.calls (k : Nat) (A0 : Option Addr) (c0 : Nat) (l0 : List (S64)) (r : Int) (w : World) (hr0 : Kd.C k64 w A0 l0.length l0) (hc0 : l0.length ≤ c0) (h : understoryref12_Total.f k l0 = some r) :
    Calls Tryz.prog 30 #[.slice A0 l0.length c0] w fun e w' => e = .returned (.int .i64 r) ∧ Drawn0 w w' := by
  have HR0 := Aside0.mk hr0
  have HC0 := Aside0.mk hc0
  clear hr0 hc0
  have H : (understoryref12_Total.l0 k l0 0 0) = some r := h
  clear h
  have H' := Aside0.mk H
  clear H
  go_enter Tryz.func30, Tryz.ntmps30
  go_wp2
  go_loopg [3, 4] k (fun kq v3 v4 w' => ∃ (x3_1 : Int) (x4_1 : Int), v3 = .int .i64 x3_1 ∧ v4 = .int .i64 x4_1 ∧ Aside0 (understoryref12_Total.l0 kq l0 x3_1 x4_1 = some r) ∧ Aside0 (kq ≤ k) ∧ Drawn0 w w')
  case atStart => exact ⟨(0), (0), (by first | rfl | (simp; done) | (simp [*]; done)), (by first | rfl | (simp; done) | (simp [*]; done)), H', ⟨Nat.le_refl _⟩, by repeat (first | exact Drawn0.refl _ | apply Drawn0.step)⟩
  case round =>
    clear H'
    obtain ⟨x3_1, x4_1, rfl, rfl, HA, HK1, ⟨m1, rfl⟩⟩ := hrel
    cases gk with
    | zero => exact absurd HA.out (by simp [understoryref12_Total.l0])
    | succ k1 =>
      have H := HA.out
      clear HA
      simp only [understoryref12_Total.l0] at H
      by_cases c2 : x4_1 < (l0.length : Int)
      · rw [if_pos c2] at H
        have c2b0 : decide (x4_1 < (l0.length : Int)) = true := decide_eq_true c2
        clear c2
        by_cases c3 : 0 ≤ x4_1
        · rw [if_pos c3] at H
          have c3b0 : decide (0 ≤ x4_1) = true := decide_eq_true c3
          clear c3
          have H' := Aside0.mk H
          clear H
          have p504 : 0 ≤ (x4_1 : Int) := of_decide_eq_true (by first | (with_reducible assumption) | assumption)
          have q504 : x4_1 < (l0.length : Int) := of_decide_eq_true (by first | (with_reducible assumption) | assumption)
          obtain ⟨ad504, A504_1, c504_1, e504, hx504_0, hx504_1, hl504_1, hi504_1⟩ := at_T64 HR0.out x4_1 p504 q504
          cases e504
          have HR504_1 := Aside0.mk hi504_1
          have HC504_1 := Aside0.mk hl504_1
          clear hi504_1 hl504_1
          replace p504 := eq_true p504
          replace q504 := eq_true q504
          go_wp2
          go_roundg k1
          case measure => have := HK1.out; omega
          case rel => exact ⟨(wrap64 (x3_1 + (((rd_T64 l0 x4_1).f1).length : Int))), (wrap64 (x4_1 + 1)), (by first | rfl | (simp; done) | (simp [*]; done)), (by first | rfl | (simp; done) | (simp [*]; done)), H', ⟨by have := HK1.out; omega⟩, by repeat (first | exact Drawn0.refl _ | apply Drawn0.step)⟩
        · rw [if_neg c3] at H
          exact absurd H (by simp)
      · rw [if_neg c2] at H
        have c2b0 : decide (x4_1 < (l0.length : Int)) = false := decide_eq_false c2
        clear c2
        obtain rfl := Option.some.inj H
        go_wp2
        go_ret
        exact ⟨by first | rfl | (simp; done) | (simp [*]; done), by repeat (first | exact Drawn0.refl _ | apply Drawn0.step)⟩

-- NOT PRINTED: function 4 (understorylaw12_SpaceLists)

-- NOT PRINTED: function 115 (page_numbersOf)

-- NOT PRINTED: function 116 (api_Page_116)

-- NOT PRINTED: function 124 (api_Freed_124)

-- NOT PRINTED: function 160 (page_plain)

-- NOT PRINTED: function 117 (page_same)

-- NOT PRINTED: function 74 (page_ListOf)

-- NOT PRINTED: function 32 (space_ListOf)

-- NOT PRINTED: function 5 (understorylaw12_SpaceStores)

-- NOT PRINTED: function 123 (understoryref04_numbers)

-- NOT PRINTED: function 77 (understoryref04_ListOf)

-- NOT PRINTED: function 34 (understoryref12_ListOf)

-- NOT PRINTED: function 79 (space_same)

-- NOT PRINTED: function 35 (space_Begin)

-- NOT PRINTED: function 36 (understoryref12_Begin)

-- NOT PRINTED: function 6 (understorylaw12_SpaceBegins)

/-! ### understorylaw12_few: function 37 -/
mutual
def understorylaw12_few.l0 : Nat → List (S137) → Int → Option (Bool)
  | 0, _, _ => none
  | k + 1, x0, x3 => if x3 < (x0.length : Int) then (understorylaw12_few.j1 k x0 x3 (decide (x3 ≤ 40))) else (understorylaw12_few.j1 k x0 x3 false)
def understorylaw12_few.j1 : Nat → List (S137) → Int → Bool → Option (Bool)
  | 0, _, _, _ => none
  | k + 1, x0, x3, x11 => if x11 = true then (if 0 ≤ x3 then (if x3 < (x0.length : Int) then (if ((rd_T137 x0 x3).f1) > 30 then (if ((rd_T137 x0 x3).f1) ≤ 4096 then (some false) else (if (((rd_T137 x0 x3).f2).length : Int) > 30 then (some false) else (understorylaw12_few.l0 k x0 (wrap64 (x3 + 1))))) else (if (((rd_T137 x0 x3).f2).length : Int) > 30 then (some false) else (understorylaw12_few.l0 k x0 (wrap64 (x3 + 1))))) else (none)) else (none)) else (some (decide ((x0.length : Int) ≤ 40)))
end
def understorylaw12_few.f (k : Nat) (l0 : List (S137)) : Option (Bool) := understorylaw12_few.l0 k l0 0
theorem understorylaw12_few.mono_l : ∀ k, (∀ y0 y1, LeO (understorylaw12_few.l0 k y0 y1) (understorylaw12_few.l0 (k + 1) y0 y1)) ∧ (∀ y0 y1 y2, LeO (understorylaw12_few.j1 k y0 y1 y2) (understorylaw12_few.j1 (k + 1) y0 y1 y2))
  | 0 => ⟨fun _ _ r h => by simp [understorylaw12_few.l0] at h, fun _ _ _ r h => by simp [understorylaw12_few.j1] at h⟩
  | k + 1 => by
    obtain ⟨ih0, ih1⟩ := understorylaw12_few.mono_l k
    refine ⟨?_, ?_⟩
    · intro y0 y1
      unfold understorylaw12_few.l0
      repeat' first
      | (with_reducible exact ih0 _ _)
      | (with_reducible exact ih1 _ _ _)
      | (with_reducible exact LeO.refl _)
      | (with_reducible exact LeO.none _)
      | (with_reducible refine LeO.ite ?_ ?_)
      | (with_reducible refine LeO.bind ?_ (fun _ => ?_))
      | exact ih0 _ _
      | exact ih1 _ _ _
      | exact LeO.none _
      | refine LeO.ite ?_ ?_
      | refine LeO.bind ?_ (fun _ => ?_)
    · intro y0 y1 y2
      unfold understorylaw12_few.j1
      repeat' first
      | (with_reducible exact ih0 _ _)
      | (with_reducible exact ih1 _ _ _)
      | (with_reducible exact LeO.refl _)
      | (with_reducible exact LeO.none _)
      | (with_reducible refine LeO.ite ?_ ?_)
      | (with_reducible refine LeO.bind ?_ (fun _ => ?_))
      | exact ih0 _ _
      | exact ih1 _ _ _
      | exact LeO.none _
      | refine LeO.ite ?_ ?_
      | refine LeO.bind ?_ (fun _ => ?_)
theorem understorylaw12_few.mono : ∀ a0 k, LeO (understorylaw12_few.f k a0) (understorylaw12_few.f (k + 1) a0) := by
  intro a0 k
  obtain ⟨ih0, ih1⟩ := understorylaw12_few.mono_l k
  unfold understorylaw12_few.f
  repeat' first
      | (with_reducible exact ih0 _ _)
      | (with_reducible exact ih1 _ _ _)
      | (with_reducible exact LeO.refl _)
      | (with_reducible exact LeO.none _)
      | (with_reducible refine LeO.ite ?_ ?_)
      | (with_reducible refine LeO.bind ?_ (fun _ => ?_))
      | exact ih0 _ _
      | exact ih1 _ _ _
      | exact LeO.none _
      | refine LeO.ite ?_ ?_
      | refine LeO.bind ?_ (fun _ => ?_)
/-! ### understorylaw12_with: function 130 -/
def understorylaw12_with.l0 : Nat → List Int → Int → List Int → Int → Option (List Int)
  | 0, _, _, _, _ => none
  | k + 1, x0, x1, x5, x6 => if x6 < (x0.length : Int) then (if 0 ≤ x6 then (if (rd x0 x6) < x1 then (if x5.length < 17592186044416 then (understorylaw12_with.l0 k x0 x1 (x5 ++ [rd x0 x6]) (wrap64 (x6 + 1))) else (none)) else (if x5.length < 17592186044416 then ((some (x5 ++ [x1] : List Int)).bind fun y514 => (if x6 ≤ (x0.length : Int) then (if y514.length + (x0.drop (x6 : Int).toNat).length < 17592186044416 then (some (y514 ++ (x0.drop (x6 : Int).toNat))) else (none)) else (none))) else (none))) else (none)) else (if x5.length < 17592186044416 then ((some (x5 ++ [x1] : List Int)).bind fun y521 => (if 0 ≤ x6 then (if x6 ≤ (x0.length : Int) then (if y521.length + (x0.drop (x6 : Int).toNat).length < 17592186044416 then (some (y521 ++ (x0.drop (x6 : Int).toNat))) else (none)) else (none)) else (none))) else (none))
def understorylaw12_with.f (k : Nat) (l0 : List Int) (a1 : Int) : Option (List Int) := understorylaw12_with.l0 k l0 a1 ([] : List Int) 0
theorem understorylaw12_with.mono_l : ∀ k, (∀ y0 y1 y2 y3, LeO (understorylaw12_with.l0 k y0 y1 y2 y3) (understorylaw12_with.l0 (k + 1) y0 y1 y2 y3))
  | 0 => fun _ _ _ _ r h => by simp [understorylaw12_with.l0] at h
  | k + 1 => by
    have ih0 := understorylaw12_with.mono_l k
    · intro y0 y1 y2 y3
      unfold understorylaw12_with.l0
      repeat' first
      | (with_reducible exact ih0 _ _ _ _)
      | (with_reducible exact LeO.refl _)
      | (with_reducible exact LeO.none _)
      | (with_reducible refine LeO.ite ?_ ?_)
      | (with_reducible refine LeO.bind ?_ (fun _ => ?_))
      | exact ih0 _ _ _ _
      | exact LeO.none _
      | refine LeO.ite ?_ ?_
      | refine LeO.bind ?_ (fun _ => ?_)
theorem understorylaw12_with.mono : ∀ a0 a1 k, LeO (understorylaw12_with.f k a0 a1) (understorylaw12_with.f (k + 1) a0 a1) := by
  intro a0 a1 k
  have ih0 := understorylaw12_with.mono_l k
  unfold understorylaw12_with.f
  repeat' first
      | (with_reducible exact ih0 _ _ _ _)
      | (with_reducible exact LeO.refl _)
      | (with_reducible exact LeO.none _)
      | (with_reducible refine LeO.ite ?_ ?_)
      | (with_reducible refine LeO.bind ?_ (fun _ => ?_))
      | exact ih0 _ _ _ _
      | exact LeO.none _
      | refine LeO.ite ?_ ?_
      | refine LeO.bind ?_ (fun _ => ?_)
/-! ### understorylaw12_without: function 162 -/
def understorylaw12_without.l0 : Nat → List Int → Int → List Int → Int → Option (List Int)
  | 0, _, _, _, _ => none
  | k + 1, x0, x1, x5, x6 => if x6 < (x0.length : Int) then (if 0 ≤ x6 then (if (rd x0 x6) = x1 then (understorylaw12_without.l0 k x0 x1 x5 (wrap64 (x6 + 1))) else (if x5.length < 17592186044416 then (understorylaw12_without.l0 k x0 x1 (x5 ++ [rd x0 x6]) (wrap64 (x6 + 1))) else (none))) else (none)) else (some x5)
def understorylaw12_without.f (k : Nat) (l0 : List Int) (a1 : Int) : Option (List Int) := understorylaw12_without.l0 k l0 a1 ([] : List Int) 0
theorem understorylaw12_without.mono_l : ∀ k, (∀ y0 y1 y2 y3, LeO (understorylaw12_without.l0 k y0 y1 y2 y3) (understorylaw12_without.l0 (k + 1) y0 y1 y2 y3))
  | 0 => fun _ _ _ _ r h => by simp [understorylaw12_without.l0] at h
  | k + 1 => by
    have ih0 := understorylaw12_without.mono_l k
    · intro y0 y1 y2 y3
      unfold understorylaw12_without.l0
      repeat' first
      | (with_reducible exact ih0 _ _ _ _)
      | (with_reducible exact LeO.refl _)
      | (with_reducible exact LeO.none _)
      | (with_reducible refine LeO.ite ?_ ?_)
      | (with_reducible refine LeO.bind ?_ (fun _ => ?_))
      | exact ih0 _ _ _ _
      | exact LeO.none _
      | refine LeO.ite ?_ ?_
      | refine LeO.bind ?_ (fun _ => ?_)
theorem understorylaw12_without.mono : ∀ a0 a1 k, LeO (understorylaw12_without.f k a0 a1) (understorylaw12_without.f (k + 1) a0 a1) := by
  intro a0 a1 k
  have ih0 := understorylaw12_without.mono_l k
  unfold understorylaw12_without.f
  repeat' first
      | (with_reducible exact ih0 _ _ _ _)
      | (with_reducible exact LeO.refl _)
      | (with_reducible exact LeO.none _)
      | (with_reducible refine LeO.ite ?_ ?_)
      | (with_reducible refine LeO.bind ?_ (fun _ => ?_))
      | exact ih0 _ _ _ _
      | exact LeO.none _
      | refine LeO.ite ?_ ?_
      | refine LeO.bind ?_ (fun _ => ?_)
end Go.Proofs.YtpnhelcemodnmaaGreat.PA

/- Total and the reference's Total: how many pages a list has. -/
namespace Go.Proofs.YtpnhelcemodnmaaGreat
open Go.RowKit Go.Shelf Go.Proofs.YtpnhelcemodnmaaGreatW.PrintWords Go.Proofs.YtpnhelcemodnmaaGreatW.PrintLast Go.Proofs.YtpnhelcemodnmaaGreatW.PrintMore PA
set_option linter.unusedVariables false
set_option linter.unusedSimpArgs false
theorem total_step (l : List S64) (hs : smallL l) (i : Nat) (h : i < l.length) : wrap64 (((pagesOf (l.take i)).length : Int) + ((rd_T64 l (i : Int)).f1.length : Int)) = ((pagesOf (l.take (i + 1))).length : Int) := by
  have e : (pagesOf (l.take (i + 1))).length = (pagesOf (l.take i)).length + (rd_T64 l (i : Int)).f1.length := by rw [take_rd l i h, pages_append, pages_one, List.length_append]
  have h2 := pages_take_le l (i + 1)
  have h3 := hs.2
  unfold wrap64
  omega
theorem total_l0 (l : List S64) (hs : smallL l) (d : Nat) : ∀ i : Nat, i ≤ l.length → l.length - i = d → space_Total.l0 (d + 1) ((pagesOf (l.take i)).length : Int) l (l.length : Int) (i : Int) = some ((pagesOf l).length : Int) := by
  have hl := hs.1
  induction d with
  | zero =>
    intro i h1 h2
    obtain rfl : i = l.length := by omega
    simp only [space_Total.l0]
    rw [if_neg (by omega), List.take_length]
  | succ d ih =>
    intro i h1 h2
    simp only [space_Total.l0]
    rw [if_pos (by omega), if_pos (by omega), if_pos (by omega), total_step l hs i (by omega), wrapp i (by omega)]
    exact ih (i + 1) (by omega) (by omega)
theorem rtotal_l0 (l : List S64) (hs : smallL l) (d : Nat) : ∀ i : Nat, i ≤ l.length → l.length - i = d → understoryref12_Total.l0 (d + 1) l ((pagesOf (l.take i)).length : Int) (i : Int) = some ((pagesOf l).length : Int) := by
  have hl := hs.1
  induction d with
  | zero =>
    intro i h1 h2
    obtain rfl : i = l.length := by omega
    simp only [understoryref12_Total.l0]
    rw [if_neg (by omega), List.take_length]
  | succ d ih =>
    intro i h1 h2
    simp only [understoryref12_Total.l0]
    rw [if_pos (by omega), if_pos (by omega), total_step l hs i (by omega), wrapp i (by omega)]
    exact ih (i + 1) (by omega) (by omega)
theorem take0 (l : List S64) : (pagesOf (l.take 0)).length = 0 := by simp [pagesOf, flat]
theorem total_any (l : List S64) (A : Option Addr) (c : Nat) (w : World) (hC : k64.C w A l.length l) (hc : l.length ≤ c) (hs : smallL l) :
    Calls Tryz.prog 29 #[.slice A l.length c] w fun e w' => e = .returned (.int .i64 (pagesOf l).length) ∧ Below w.heap.size w w' :=
  space_Total.calls _ A c l _ w hC hc (by have := total_l0 l hs _ 0 (Nat.zero_le _) rfl; rw [take0] at this; exact this)
theorem rtotal_any (l : List S64) (A : Option Addr) (c : Nat) (w : World) (hC : k64.C w A l.length l) (hc : l.length ≤ c) (hs : smallL l) :
    Calls Tryz.prog 30 #[.slice A l.length c] w fun e w' => e = .returned (.int .i64 (pagesOf l).length) ∧ Drawn0 w w' :=
  understoryref12_Total.calls _ A c l _ w hC hc (by have := rtotal_l0 l hs _ 0 (Nat.zero_le _) rfl; rw [take0] at this; exact this)
end Go.Proofs.YtpnhelcemodnmaaGreat

/- SpaceLists. -/
namespace Go.Proofs.YtpnhelcemodnmaaGreat
open Go.RowKit Go.Shelf Go.Proofs.YtpnhelcemodnmaaGreatW.PrintWords Go.Proofs.YtpnhelcemodnmaaGreatW.PrintLast Go.Proofs.YtpnhelcemodnmaaGreatW.PrintMore PA
set_option linter.unusedVariables false
set_option linter.unusedSimpArgs false
attribute [local go_sem] Oper.semAt_some
def mmL (a b : List S64) : List S64 := if mergeOk a b = true then mergeL a b else []
def mmE (a b : List S64) : Int := if mergeOk a b = true then 0 else 2
theorem mm_small {a b : List S64} (ha : tinyL a) (hb : tinyL b) : smallL (mmL a b) := by
  unfold mmL
  split
  · have h1 := merge_length a b
    have h2 := merge_pages a b
    have := ha.1; have := ha.2; have := hb.1; have := hb.2
    exact ⟨by omega, by omega⟩
  · exact ⟨by simp, by simp [pagesOf, flat]⟩
theorem merge_u (a b : List S64) (A : Option Addr) (ca : Nat) (B : Option Addr) (cb : Nat) (w : World) (hA : k64.C w A a.length a) (hca : a.length ≤ ca) (hB : k64.C w B b.length b) (hcb : b.length ≤ cb) (ha : tinyL a) (hb : tinyL b) :
    Calls Tryz.prog 24 #[.slice A a.length ca, .slice B b.length cb] w fun e w' => ∃ V vc, e = .returned (.tuple #[.slice V (mmL a b).length vc, .int .i64 (mmE a b)]) ∧ ((mmL a b).length ≤ vc ∧ k64.C w' V (mmL a b).length (mmL a b)) ∧ Below w.heap.size w w' := by
  refine (Merge_any a b A ca B cb w hA hca hB hcb (tiny_small ha) (tiny_small hb)).mono ?_
  rintro e w' ⟨⟨h, rfl⟩ | ⟨h, v, rfl, hN⟩, hbw⟩
  · have e1 : mmL a b = [] := if_neg (by rw [h]; simp)
    have e2 : mmE a b = 2 := if_neg (by rw [h]; simp)
    rw [e1, e2]
    exact ⟨none, 0, rfl, ⟨Nat.le_refl _, Kd.C_nil k64 w'⟩, hbw⟩
  · have e1 : mmL a b = mergeL a b := if_pos h
    have e2 : mmE a b = 0 := if_pos h
    rw [e1, e2]
    obtain ⟨V, vc, rfl⟩ := Kd.N_slice hN
    exact ⟨V, vc, rfl, (Kd.N_reads' hN).2, hbw⟩
theorem rmerge_u (a b : List S64) (A : Option Addr) (ca : Nat) (B : Option Addr) (cb : Nat) (w : World) (hA : k64.C w A a.length a) (hca : a.length ≤ ca) (hB : k64.C w B b.length b) (hcb : b.length ≤ cb) (ha : tinyL a) (hb : tinyL b) :
    Calls Tryz.prog 25 #[.slice A a.length ca, .slice B b.length cb] w fun e w' => ∃ V vc, e = .returned (.agg #[.slice V (mmL a b).length vc, .int .i64 (mmE a b)]) ∧ ((mmL a b).length ≤ vc ∧ k64.C w' V (mmL a b).length (mmL a b)) ∧ Below w.heap.size w w' := by
  refine (rmerge25 a b A ca B cb w hA hca hB hcb ha hb).mono ?_
  rintro e w' ⟨⟨h, rfl⟩ | ⟨h, O, oc, rfl, h1, h2⟩, hbw⟩
  · have e1 : mmL a b = [] := if_neg (by rw [h]; simp)
    have e2 : mmE a b = 2 := if_neg (by rw [h]; simp)
    rw [e1, e2]
    exact ⟨none, 0, rfl, ⟨Nat.le_refl _, Kd.C_nil k64 w'⟩, hbw⟩
  · have e1 : mmL a b = mergeL a b := if_pos h
    have e2 : mmE a b = 0 := if_pos h
    rw [e1, e2]
    exact ⟨O, oc, rfl, ⟨h1, h2⟩, hbw⟩
def usL (o : Int) (l : List S64) : List Int := if useE o l = 0 then sortI (pagesOf (lowL o l)) else []
def rsL (o : Int) (l : List S64) : List S64 := if useE o l = 0 then hiL o l else []
theorem us_len (o : Int) {l : List S64} (h : tinyL l) : (usL o l).length ≤ 1000000 := by
  unfold usL
  split
  · rw [sortI_length]; have := pages_low_le o l; have := h.2; omega
  · simp
theorem pages_hi_le (o : Int) (l : List S64) : (pagesOf (hiL o l)).length ≤ (pagesOf l).length := by
  induction l with
  | nil => simp [hiL]
  | cons x t ih =>
    have e1 : ∀ (z : S64) (l : List S64), pagesOf (z :: l) = z.f1 ++ pagesOf l := fun z l => by rw [← List.singleton_append, pages_append, pages_one]
    unfold hiL at ih ⊢
    by_cases h : x.f0 < o
    · rw [List.filter_cons_of_neg (by simp [h]), e1, List.length_append]; omega
    · rw [List.filter_cons_of_pos (by simp [h]), e1, e1, List.length_append, List.length_append]; omega
theorem rs_small (o : Int) {l : List S64} (h : tinyL l) : smallL (rsL o l) := by
  unfold rsL
  split
  · have h1 := pages_hi_le o l
    have h2 : (hiL o l).length ≤ l.length := List.length_filter_le _ _
    have := h.1; have := h.2
    exact ⟨by omega, by omega⟩
  · exact ⟨by simp, by simp [pagesOf, flat]⟩
theorem usable_u (l : List S64) (o : Int) (A : Option Addr) (c : Nat) (w : World) (hC : k64.C w A l.length l) (hc : l.length ≤ c) (ht : tinyL l) :
    Calls Tryz.prog 26 #[.slice A l.length c, .int .i64 o] w fun e w' => ∃ U uc R rc, e = .returned (.tuple #[.slice U (usL o l).length uc, .slice R (rsL o l).length rc, .int .i64 (useE o l)]) ∧ ((usL o l).length ≤ uc ∧ (Kd.int .i64).C w' U (usL o l).length (usL o l)) ∧ ((rsL o l).length ≤ rc ∧ k64.C w' R (rsL o l).length (rsL o l)) ∧ Below w.heap.size w w' := by
  by_cases h : useE o l = 0
  · have e1 : usL o l = sortI (pagesOf (lowL o l)) := if_pos h
    have e2 : rsL o l = hiL o l := if_pos h
    rw [e1, e2, h]
    refine (usable_yes l o A c w hC hc (tiny_small ht) h).mono ?_
    rintro e w' ⟨u, r, rfl, hu, hr, hb⟩
    obtain ⟨U, uc, rfl⟩ := Kd.R_slice hu
    obtain ⟨R, rc, rfl⟩ := Kd.R_slice hr
    exact ⟨U, uc, R, rc, rfl, (Kd.R_reads' hu).2, (Kd.R_reads' hr).2, hb⟩
  · have e1 : usL o l = [] := if_neg h
    have e2 : rsL o l = [] := if_neg h
    rw [e1, e2]
    refine (usable_no l o A c w hC hc h).mono ?_
    rintro e w' ⟨rfl, hb⟩
    exact ⟨none, 0, none, 0, rfl, ⟨Nat.le_refl _, Kd.C_nil _ w'⟩, ⟨Nat.le_refl _, Kd.C_nil k64 w'⟩, hb⟩
theorem rusable_u (l : List S64) (o : Int) (A : Option Addr) (c : Nat) (w : World) (hC : k64.C w A l.length l) (hc : l.length ≤ c) (ht : tinyL l) :
    Calls Tryz.prog 27 #[.slice A l.length c, .int .i64 o] w fun e w' => ∃ U uc R rc, e = .returned (.agg #[.slice U (usL o l).length uc, .slice R (rsL o l).length rc, .int .i64 (useE o l)]) ∧ ((usL o l).length ≤ uc ∧ (Kd.int .i64).C w' U (usL o l).length (usL o l)) ∧ ((rsL o l).length ≤ rc ∧ k64.C w' R (rsL o l).length (rsL o l)) ∧ Below w.heap.size w w' := by
  refine (rusable27 l o A c w hC hc ht).mono ?_
  rintro e w' ⟨⟨h, rfl⟩ | ⟨h, U, uc, R, rc, rfl, h1, h2, h3, h4⟩, hb⟩
  · have e1 : usL o l = [] := if_neg h
    have e2 : rsL o l = [] := if_neg h
    rw [e1, e2]
    exact ⟨none, 0, none, 0, rfl, ⟨Nat.le_refl _, Kd.C_nil _ w'⟩, ⟨Nat.le_refl _, Kd.C_nil k64 w'⟩, hb⟩
  · have e1 : usL o l = sortI (pagesOf (lowL o l)) := if_pos h
    have e2 : rsL o l = hiL o l := if_pos h
    rw [e1, e2, h]
    exact ⟨U, uc, R, rc, rfl, ⟨h1, h3⟩, ⟨h2, h4⟩, hb⟩
theorem row_two {w : World} {n : Nat} {a b : List S64} {A B : Option Addr} {ca cb : Nat} (h : w.heap[n]? = some (.cells #[.slice A a.length ca, .slice B b.length cb] 26 (0, 0))) (hA : k64.C w A a.length a) (hca : a.length ≤ ca) (hB : k64.C w B b.length b) (hcb : b.length ≤ cb) : (Kd.slice 64 k64).C w (some ⟨n, 0, none⟩) 2 [a, b] := by
  refine block_row (ps := [a, b]) h ⟨rfl, fun j q hj => ?_⟩ (by simp)
  match j with
  | 0 => obtain rfl : a = q := by simpa using hj
         exact ⟨A, ca, rfl, hca, hA⟩
  | 1 => obtain rfl : b = q := by simpa using hj
         exact ⟨B, cb, rfl, hcb, hB⟩
  | j + 2 => simp at hj
set_option maxRecDepth 100000 in
set_option maxHeartbeats 1000000 in
theorem lists_any (a b : List S64) (A : Option Addr) (ca : Nat) (B : Option Addr) (cb : Nat) (p o : Int) (w : World) (hA : k64.C w A a.length a) (hca : a.length ≤ ca) (hB : k64.C w B b.length b) (hcb : b.length ≤ cb) (ba : ∀ f ∈ a, f.f1.length ≤ 17592186044416) (bb : ∀ f ∈ b, f.f1.length ≤ 17592186044416) :
    Calls Tryz.prog 4 #[.slice A a.length ca, .slice B b.length cb, .int .i64 p, .int .i64 o] w fun e w' => e = .returned (.bool true) ∧ Below w.heap.size w w' := by
  have HA := Aside0.mk hA
  have HB := Aside0.mk hB
  have HSA := Aside0.mk (sane_any w)
  have HBA := Aside0.mk ba
  have HBB := Aside0.mk bb
  have HCA := Aside0.mk hca
  have HCB := Aside0.mk hcb
  clear hA hB ba bb
  go_enter Tryz.func4, Tryz.ntmps4
  go_upto_region 2 with (go_at_call 12; (refine HSA.out.mono ?_); rintro e w1 ⟨rfl, hb1⟩)
  have HW1 := Aside0.mk hb1
  have HSH := Aside0.mk (short_any a b (some ⟨w1.heap.size, 0, none⟩) 2 (w1.alloc (.cells #[.slice A a.length ca, .slice B b.length cb] 26)) (row_two (new1 w1 _) (Kd.C_below (Kd.C_below HA.out hb1) (below1 w1 _)) HCA.out (Kd.C_below (Kd.C_below HB.out hb1) (below1 w1 _)) HCB.out) (Nat.le_refl _) HBA.out HBB.out)
  clear hb1
  by_cases hs : shortP a ∧ shortP b
  · rw [decide_eq_true hs] at HSH
    have ta := short_tiny hs.1
    have tb := short_tiny hs.2
    have TA := Aside0.mk ta
    have TB := Aside0.mk tb
    clear hs ta tb
    go_upto_region 4 with (go_at_call 14; (refine HSH.out.mono ?_); rintro e w2 ⟨rfl, hd2⟩)
    have HW2 := Aside0.mk (HW1.out.trans (((below1 w1 _).trans (hd2.below.mono (by simp))).mono HW1.out.size))
    have HME := Aside0.mk (merge_u a b A ca B cb w2 (Kd.C_below HA.out HW2.out) HCA.out (Kd.C_below HB.out HW2.out) HCB.out TA.out TB.out)
    clear hd2
    go_upto_region 5 with (go_at_call 24; (refine HME.out.mono ?_); rintro e w3 ⟨V, vc, rfl, hV, hb3⟩)
    have HW3 := Aside0.mk (HW2.out.trans (hb3.mono HW2.out.size))
    have HV3 := Aside0.mk hV
    have HRM := Aside0.mk (rmerge_u a b A ca B cb w3 (Kd.C_below HA.out HW3.out) HCA.out (Kd.C_below HB.out HW3.out) HCB.out TA.out TB.out)
    clear hV hb3 HME
    go_upto_region 6 with (go_at_call 25; (refine HRM.out.mono ?_); rintro e w4 ⟨V2, vd, rfl, hV, hb4⟩)
    have hb4a := below1 w4 (.cells #[.slice V2 (mmL a b).length vd, .int .i64 (mmE a b)] 51)
    have hk4 := new1 w4 (.cells #[.slice V2 (mmL a b).length vd, .int .i64 (mmE a b)] 51)
    obtain ⟨W4, hW4⟩ : ∃ W, w4.alloc (.cells #[.slice V2 (mmL a b).length vd, .int .i64 (mmE a b)] 51) = W := ⟨_, rfl⟩
    obtain ⟨n4, hn4⟩ : ∃ n, w4.heap.size = n := ⟨_, rfl⟩
    rw [hW4] at hb4a hk4 ⊢
    rw [hn4] at hk4 ⊢
    have hb34 : Below w3.heap.size w3 W4 := hb4.trans (hb4a.mono hb4.size)
    have HW4 := Aside0.mk (HW3.out.trans (hb34.mono HW3.out.size))
    have HV4 := Aside0.mk (show (mmL a b).length ≤ vc ∧ k64.C W4 V (mmL a b).length (mmL a b) from ⟨HV3.out.1, Kd.C_below HV3.out.2 hb34⟩)
    have HX4 := Aside0.mk (show (mmL a b).length ≤ vd ∧ k64.C W4 V2 (mmL a b).length (mmL a b) from ⟨hV.1, Kd.C_below hV.2 hb4a⟩)
    have HK4 := Aside0.mk hk4
    have HUS := Aside0.mk (usable_u a o A ca W4 (Kd.C_below HA.out HW4.out) HCA.out TA.out)
    clear hb4 hV hb4a hk4 hW4 hn4 hb34 HRM HW3 HV3
    go_upto_region 7 with (go_at_call 26; (refine HUS.out.mono ?_); rintro e w5 ⟨U, uc, R, rc, rfl, hU, hR, hb5⟩)
    have HW5 := Aside0.mk (HW4.out.trans (hb5.mono HW4.out.size))
    have HV5 := Aside0.mk (show (mmL a b).length ≤ vc ∧ k64.C w5 V (mmL a b).length (mmL a b) from ⟨HV4.out.1, Kd.C_below HV4.out.2 hb5⟩)
    have HX5 := Aside0.mk (show (mmL a b).length ≤ vd ∧ k64.C w5 V2 (mmL a b).length (mmL a b) from ⟨HX4.out.1, Kd.C_below HX4.out.2 hb5⟩)
    have HK5 := Aside0.mk (blk_below HK4.out hb5)
    have HU5 := Aside0.mk hU
    have HR5 := Aside0.mk hR
    have HRU := Aside0.mk (rusable_u a o A ca w5 (Kd.C_below HA.out HW5.out) HCA.out TA.out)
    clear hb5 hU hR HUS HW4 HV4 HX4 HK4
    go_upto_region 8 with (go_at_call 27; (refine HRU.out.mono ?_); rintro e w6 ⟨U2, ud, R2, rd, rfl, hU, hR, hb6⟩)
    have hb6a := below1 w6 (.cells #[.slice U2 (usL o a).length ud, .slice R2 (rsL o a).length rd, .int .i64 (useE o a)] 56)
    have hk6 := new1 w6 (.cells #[.slice U2 (usL o a).length ud, .slice R2 (rsL o a).length rd, .int .i64 (useE o a)] 56)
    obtain ⟨W6, hW6⟩ : ∃ W, w6.alloc (.cells #[.slice U2 (usL o a).length ud, .slice R2 (rsL o a).length rd, .int .i64 (useE o a)] 56) = W := ⟨_, rfl⟩
    obtain ⟨n6, hn6⟩ : ∃ n, w6.heap.size = n := ⟨_, rfl⟩
    rw [hW6] at hb6a hk6 ⊢
    rw [hn6] at hk6 ⊢
    have hb56 : Below w5.heap.size w5 W6 := hb6.trans (hb6a.mono hb6.size)
    have HW6 := Aside0.mk (HW5.out.trans (hb56.mono HW5.out.size))
    have HV6 := Aside0.mk (show (mmL a b).length ≤ vc ∧ k64.C W6 V (mmL a b).length (mmL a b) from ⟨HV5.out.1, Kd.C_below HV5.out.2 hb56⟩)
    have HX6 := Aside0.mk (show (mmL a b).length ≤ vd ∧ k64.C W6 V2 (mmL a b).length (mmL a b) from ⟨HX5.out.1, Kd.C_below HX5.out.2 hb56⟩)
    have HK6 := Aside0.mk (blk_below HK5.out hb56)
    have HU6 := Aside0.mk (show (usL o a).length ≤ uc ∧ (Kd.int .i64).C W6 U (usL o a).length (usL o a) from ⟨HU5.out.1, Kd.C_below HU5.out.2 hb56⟩)
    have HR6 := Aside0.mk (show (rsL o a).length ≤ rc ∧ k64.C W6 R (rsL o a).length (rsL o a) from ⟨HR5.out.1, Kd.C_below HR5.out.2 hb56⟩)
    have HP6 := Aside0.mk (show (usL o a).length ≤ ud ∧ (Kd.int .i64).C W6 U2 (usL o a).length (usL o a) from ⟨hU.1, Kd.C_below hU.2 hb6a⟩)
    have HQ6 := Aside0.mk (show (rsL o a).length ≤ rd ∧ k64.C W6 R2 (rsL o a).length (rsL o a) from ⟨hR.1, Kd.C_below hR.2 hb6a⟩)
    have HK6' := Aside0.mk hk6
    have HCK := Aside0.mk (fun W' (hb : Below w.heap.size w W') => check_any a p A ca W' (Kd.C_below HA.out hb) HCA.out)
    have HRC := Aside0.mk (fun W' (hb : Below w.heap.size w W') => refCheck_any a p A ca W' (Kd.C_below HA.out hb) HCA.out (tiny_small TA.out))
    have HTO := Aside0.mk (fun W' (hb : Below w.heap.size w W') => total_any a A ca W' (Kd.C_below HA.out hb) HCA.out (tiny_small TA.out))
    have HTR := Aside0.mk (fun W' (hb : Below w.heap.size w W') => rtotal_any a A ca W' (Kd.C_below HA.out hb) HCA.out (tiny_small TA.out))
    obtain ⟨c0, hc0⟩ : ∃ c, checkE p a = c := ⟨_, rfl⟩
    obtain ⟨t0, ht0⟩ : ∃ c : Int, ((pagesOf a).length : Int) = c := ⟨_, rfl⟩
    rw [hc0] at HCK HRC
    rw [ht0] at HTO HTR
    clear hb6 hU hR hb6a hk6 hW6 hn6 hb56 HRU HW5 HV5 HX5 HK5 HU5 HR5 hc0 ht0
    go_upto_region 10 with (first | (go_at_call 28; (refine (HCK.out _ HW6.out).mono ?_); rintro e w7 ⟨rfl, hb7⟩; have HW7 := Aside0.mk hb7; clear hb7) | (go_at_call 20; (refine (HRC.out _ (HW6.out.trans (HW7.out.mono HW6.out.size))).mono ?_); rintro e w8 ⟨rfl, hb8⟩; have HW8 := Aside0.mk (HW7.out.trans (hb8.mono HW7.out.size)); clear hb8) | (go_at_call 29; (refine (HTO.out _ (HW6.out.trans (HW8.out.mono HW6.out.size))).mono ?_); rintro e w9 ⟨rfl, hb9⟩; have HW9 := Aside0.mk (HW8.out.trans (hb9.mono HW8.out.size)); clear hb9) | (go_at_call 30; (refine (HTR.out _ (HW6.out.trans (HW9.out.mono HW6.out.size))).mono ?_); rintro e w10 ⟨rfl, hb10⟩; have HW10 := Aside0.mk (HW9.out.trans (hb10.below.mono HW9.out.size)); clear hb10))
    have HSM : Aside0 (∀ W', Below W6.heap.size W6 W' → Calls Tryz.prog 18 #[.slice V (mmL a b).length vc, .slice V2 (mmL a b).length vd] W' fun e w' => e = .returned (.bool true) ∧ Drawn0 W' w') := ⟨fun W' hb => by
      have := sameFreed_any (mmL a b) (mmL a b) V V2 vc vd W' (Kd.C_below HV6.out.2 hb) HV6.out.1 (Kd.C_below HX6.out.2 hb) HX6.out.1 (mm_small TA.out TB.out)
      rw [decide_eq_true rfl] at this
      exact this⟩
    have HSI : Aside0 (∀ W', Below W6.heap.size W6 W' → Calls Tryz.prog 31 #[.slice U (usL o a).length uc, .slice U2 (usL o a).length ud] W' fun e w' => e = .returned (.bool true) ∧ Drawn0 W' w') := ⟨fun W' hb => by
      have := sameInts_any (usL o a) (usL o a) U U2 uc ud W' (Kd.C_below HU6.out.2 hb) HU6.out.1 (Kd.C_below HP6.out.2 hb) HP6.out.1 (us_len o TA.out)
      rw [decide_eq_true rfl] at this
      exact this⟩
    have HSR : Aside0 (∀ W', Below W6.heap.size W6 W' → Calls Tryz.prog 18 #[.slice R (rsL o a).length rc, .slice R2 (rsL o a).length rd] W' fun e w' => e = .returned (.bool true) ∧ Drawn0 W' w') := ⟨fun W' hb => by
      have := sameFreed_any (rsL o a) (rsL o a) R R2 rc rd W' (Kd.C_below HR6.out.2 hb) HR6.out.1 (Kd.C_below HQ6.out.2 hb) HQ6.out.1 (rs_small o TA.out)
      rw [decide_eq_true rfl] at this
      exact this⟩
    have HY0 := Aside0.mk (fun W' (hb : Below W6.heap.size W6 W') => (blk_cell (blk_below HK6.out hb) 0).trans rfl)
    have HY1 := Aside0.mk (fun W' (hb : Below W6.heap.size W6 W') => (blk_cell (blk_below HK6.out hb) 1).trans rfl)
    have HZ0 := Aside0.mk (fun W' (hb : Below W6.heap.size W6 W') => (blk_cell (blk_below HK6'.out hb) 0).trans rfl)
    have HZ1 := Aside0.mk (fun W' (hb : Below W6.heap.size W6 W') => (blk_cell (blk_below HK6'.out hb) 1).trans rfl)
    have HZ2 := Aside0.mk (fun W' (hb : Below W6.heap.size W6 W') => (blk_cell (blk_below HK6'.out hb) 2).trans rfl)
    clear HV6 HX6 HU6 HR6 HP6 HQ6 HK6 HK6' HCK HRC HTO HTR HA HB HCA HCB HBA HBB HSA HSH HW7 HW8 HW9
    obtain ⟨e0, he0⟩ : ∃ c, mmE a b = c := ⟨_, rfl⟩
    obtain ⟨e1, he1⟩ : ∃ c, useE o a = c := ⟨_, rfl⟩
    obtain ⟨m0, hm0⟩ : ∃ c, (mmL a b).length = c := ⟨_, rfl⟩
    obtain ⟨u0, hu0⟩ : ∃ c, (usL o a).length = c := ⟨_, rfl⟩
    obtain ⟨r0, hr0⟩ : ∃ c, (rsL o a).length = c := ⟨_, rfl⟩
    rw [hm0] at HSM
    rw [hu0] at HSI
    rw [hr0] at HSR
    simp only [he0, hm0] at HY0 HY1
    simp only [he1, hu0, hr0] at HZ0 HZ1 HZ2
    rw [he0, hm0, he1, hu0, hr0]
    clear he0 he1 hm0 hu0 hr0
    have y0 := HY0.out _ HW10.out
    have y1 := HY1.out _ HW10.out
    have z0 := HZ0.out _ HW10.out
    have z1 := HZ1.out _ HW10.out
    have z2 := HZ2.out _ HW10.out
    go_wp2_with (first | (go_at_call 18; (refine (HSR.out _ HW12.out).mono ?_); rintro e w13 ⟨rfl, hb13⟩; have HW13 := Aside0.mk (HW12.out.trans (hb13.below.mono HW12.out.size)); clear hb13 z1 z2; have z2 := HZ2.out _ HW13.out) | (go_at_call 31; (refine (HSI.out _ HW11.out).mono ?_); rintro e w12 ⟨rfl, hb12⟩; have HW12 := Aside0.mk (HW11.out.trans (hb12.below.mono HW11.out.size)); clear hb12 y1 z0 z1 z2; have z1 := HZ1.out _ HW12.out; have z2 := HZ2.out _ HW12.out) | (go_at_call 18; (refine (HSM.out _ HW10.out).mono ?_); rintro e w11 ⟨rfl, hb11⟩; have HW11 := Aside0.mk (HW10.out.trans (hb11.below.mono HW10.out.size)); clear hb11 y0 y1 z0 z1 z2; have y1 := HY1.out _ HW11.out; have z0 := HZ0.out _ HW11.out; have z1 := HZ1.out _ HW11.out; have z2 := HZ2.out _ HW11.out))
    go_ret
    exact ⟨rfl, HW6.out.trans (HW13.out.mono HW6.out.size)⟩
  · rw [decide_eq_false hs] at HSH
    clear hs
    go_wp2_with (go_at_call 14; (refine HSH.out.mono ?_); rintro e w2 ⟨rfl, hd2⟩)
    go_ret
    exact ⟨rfl, HW1.out.trans (((below1 w1 _).trans (hd2.below.mono (by simp))).mono HW1.out.size)⟩
end Go.Proofs.YtpnhelcemodnmaaGreat

