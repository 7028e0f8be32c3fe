/- Texts put together for one claim: part 6. -/
import Derived.Deep.LoopGhost
import Derived.Deep.CutRange
import Derived.Maps.OwnOps
import Derived.Maps.OwnSet
import Derived.DeepKeys
import Derived.Laws.Cells
import Derived.Laws.StructEq
import Derived.Deep.Slices
import Derived.Lib.SmallJoins
import Derived.WalkKit
import Derived.ProofKit
import Derived.OpenShut
import Derived.ShutString
import Derived.ChangeOld
import Derived.Below
import Derived.SizedLaws
import Derived.MapViews
import Derived.Test.YtpnhelcemodnmaaGreatU5
namespace Go.Proofs.YtpnhelcemodnmaaGreat
open Go.RowKit Go.Shelf Go.Proofs.YtpnhelcemodnmaaGreatW.PrintWords Go.Proofs.YtpnhelcemodnmaaGreatW.PrintLast Go.Proofs.YtpnhelcemodnmaaGreatW.PrintMore PA
set_option linter.unusedVariables false
set_option linter.unusedSimpArgs false
attribute [local go_sem] Oper.semAt_some
theorem pos_succ {a k : Nat} (h : a < k) : ∃ j, k = j + 1 := ⟨k - 1, by omega⟩
def EndF (b : Nat) (w : World) (sp : Array Value) (W : World) : Prop := Below b w W ∧ EndC W b sp ∧ b + 5 ≤ W.heap.size
theorem EndF.drawn {b : Nat} {w W W' : World} {sp : Array Value} (h1 : Below b w W) (h2 : EndC W b sp) (h3 : b + 5 ≤ W.heap.size) (hb : Below W.heap.size W W') : EndF b w sp W' := ⟨h1.trans (hb.mono (by omega)), h2.below hb, Nat.le_trans h3 hb.size⟩
def EndE (b : Nat) (x : Int) (W : World) : Prop :=
  W.heap[b + 1]? = some (.cells #[.slice none 0 0, .slice none 0 0, .slice none 0 0, .slice none 0 0, .int .i64 0, .int .i64 0] 25 (0, 0)) ∧ W.heap[b + 1 + 1]? = some (.cells #[.int .i64 0] 3 (0, 0)) ∧ W.heap[b + 1 + 1 + 1]? = some (.cells #[.slice none 0 0] 26 (0, 0)) ∧ W.heap[b + 1 + 1 + 1 + 1]? = some (.cells #[.int .i64 x] 30 (0, 0))
set_option maxHeartbeats 1000000 in
theorem end_leaves {b : Nat} {w W : World} {sp : Array Value} {x ver tree : Int} (tmps : Array Value) (h6 : tmps[6]?.getD undef = .pointer (some ⟨b + 1, 0, none⟩)) (h7 : tmps[7]?.getD undef = .pointer (some ⟨b + 1 + 1, 0, none⟩)) (h8 : tmps[8]?.getD undef = .pointer (some ⟨b + 1 + 1 + 1, 0, none⟩)) (h9 : tmps[9]?.getD undef = .pointer (some ⟨b + 1 + 1 + 1 + 1, 0, none⟩)) (hb : w.heap.size = b) (hF : EndF b w sp W) :
    bodyPostD Tryz.prog Tryz.f15 (EndA w ver tree (.error x)) (.panic [failE x]) { tmps := tmps, defers := [{ target := .fn (.func 43) #[], args := #[.pointer (some ⟨b + 1 + 1 + 1 + 1, 0, none⟩), .func (.func 44) #[] #[.pointer (some ⟨b + 1, 0, none⟩), .pointer (some ⟨b + 1 + 1, 0, none⟩), .pointer (some ⟨b + 1 + 1 + 1, 0, none⟩)]] }] } W := by
  obtain ⟨hB, ⟨h0, h1, h2, h3, h4⟩, hS⟩ := hF
  refine leaves_cons (f := 43) (args := #[.pointer (some ⟨b + 1 + 1 + 1 + 1, 0, none⟩), .func (.func 44) #[] #[.pointer (some ⟨b + 1, 0, none⟩), .pointer (some ⟨b + 1 + 1, 0, none⟩), .pointer (some ⟨b + 1 + 1 + 1, 0, none⟩)]]) (by simp) (by simp [go_sem]) ?_
  have hn := blk_new W (.cells #[.int .i64 x] 166)
  have hbl := below_alloc1 W (.cells #[.int .i64 x] 166)
  have g1 := blk_alloc h1 (.cells #[.int .i64 x] 166)
  have g2 := blk_alloc h2 (.cells #[.int .i64 x] 166)
  have g3 := blk_alloc h3 (.cells #[.int .i64 x] 166)
  have g4 := blk_alloc h4 (.cells #[.int .i64 x] 166)
  refine (caught_44 ⟨b + 1 + 1 + 1 + 1, 0, none⟩ ⟨b + 1, 0, none⟩ ⟨b + 1 + 1, 0, none⟩ ⟨b + 1 + 1 + 1, 0, none⟩ x 0 [] W (fun w2 => EndE b x w2 ∧ Below b w w2) ?_).mono ?_
  · refine (reset44 b _ _ _ _ _ _ _ _ (W.alloc (.cells #[.int .i64 x] 166)) g1 g2 g3).mono ?_
    rintro e w2 ⟨rfl, hw2⟩
    have s1 := below_same6 g1
    have s2 := below_same (blk_below g2 s1)
    have s3 := below_same (blk_below (blk_below g3 s1) s2)
    have hs : Below (W.alloc (.cells #[.int .i64 x] 166)).heap.size (W.alloc (.cells #[.int .i64 x] 166)) w2 := by
      rw [hw2]
      exact s1.trans ((s2.trans (s3.mono s2.size)).mono s1.size)
    clear s1 s2 s3 hw2
    have k1 := blk_below g1 hs
    have k2 := blk_below g2 hs
    have k3 := blk_below g3 hs
    have k4 := blk_below g4 hs
    have kn := blk_below hn hs
    refine ⟨rfl, blk_cell kn 0, blk_cell k4 0, blk_frozen k4 0, ⟨?_, ?_, ?_, ?_⟩, ?_⟩
    · exact blk_far k1 (by show b + 1 ≠ b + 1 + 1 + 1 + 1; omega) _
    · exact blk_far k2 (by show b + 2 ≠ b + 1 + 1 + 1 + 1; omega) _
    · exact blk_far k3 (by show b + 3 ≠ b + 1 + 1 + 1 + 1; omega) _
    · exact blk_put k4 0 _ rfl
    · exact (hB.trans ((hbl.trans (hs.mono hbl.size)).mono (by omega))).setCell (p := ⟨b + 1 + 1 + 1 + 1, 0, none⟩) (by show b ≤ b + 1 + 1 + 1 + 1; omega) _
  · rintro e u' w2 ⟨rfl, rfl, ⟨k1, k2, k3, k4⟩, hB2⟩
    show ∃ v, (results Tryz.f15 tmps).run Tryz.prog w2 = .ok v w2 ∧ EndA w ver tree (.error x) (.returned v) w2
    exact ⟨_, end_results tmps w2 b _ _ _ _ _ _ _ _ _ h6 h7 h8 h9 (blk_cell k1 0) (blk_cell k1 1) (blk_cell k1 2) (blk_cell k1 3) (blk_cell k1 4) (blk_cell k1 5) (blk_cell k2 0) (blk_cell k3 0) (blk_cell k4 0), rfl, by rw [hb]; exact hB2⟩
set_option maxRecDepth 100000 in
set_option maxHeartbeats 2000000 in
theorem end_all (pg : List S89) (free gone : List Int) (rest : List S64) (ver tree : Int) (shrink : Bool) (PA FA RA GA A : Option Addr) (pc fc rn rc gc c : Nat) (w : World)
    (hPG : k89.C w PA pg.length pg) (hpc : pg.length ≤ pc) (hFR : (Kd.int .i64).C w FA free.length free) (hfc : free.length ≤ fc) (hGO : (Kd.int .i64).C w GA gone.length gone) (hgc : gone.length ≤ gc) (hRE : k64.C w A rest.length rest) (hc : rest.length ≤ c)
    (hsm : smallL rest ∧ free.length ≤ 1000 ∧ gone.length ≤ 1000 ∧ (pagesOf rest).length ≤ 10000 ∧ rest.length ≤ 10000) (hpl : pg.length ≤ 1000000) :
    Calls Tryz.prog 15 #[.agg #[.slice PA pg.length pc, .slice FA free.length fc, .slice RA rn rc, .slice GA gone.length gc, .int .i64 ver, .int .i64 tree], .slice A rest.length c, .bool shrink] w (EndA w ver tree (endX pg free gone rest ver shrink)) := by
  obtain ⟨R, hR⟩ : ∃ R, endX pg free gone rest ver shrink = R := ⟨_, rfl⟩
  rw [hR]
  have HR0 := Aside0.mk hR
  obtain ⟨K, hK⟩ : ∃ K : Nat, 1000000 = K := ⟨_, rfl⟩
  have HKK := Lib.hid hK
  clear hR
  have hmf : ∀ (fn : Fn) (first cap : Array Value) (w : World), (Instr.makeFunc fn first cap).run Tryz.prog w = .ok (.func fn first cap) w := fun _ _ _ _ => rfl
  go_enter_defers Tryz.func15, Tryz.ntmps15
  go_upto_region 3 with (fail)
  obtain ⟨b, hb⟩ : ∃ b, w.heap.size = b := ⟨_, rfl⟩
  obtain ⟨sp, hsp⟩ : ∃ sp, sp = #[Value.slice PA pg.length pc, .slice FA free.length fc, .slice RA rn rc, .slice GA gone.length gc, .int .i64 ver, .int .i64 tree] := ⟨_, rfl⟩
  have hW : ∃ W0, ((((w.alloc (.cells #[.slice PA pg.length pc, .slice FA free.length fc, .slice RA rn rc, .slice GA gone.length gc, .int .i64 ver, .int .i64 tree] 25)).alloc (.cells #[.slice none 0 0, .slice none 0 0, .slice none 0 0, .slice none 0 0, .int .i64 0, .int .i64 0] 25)).alloc (.cells #[.int .i64 0] 3)).alloc (.cells #[.slice none 0 0] 26)).alloc (.cells #[.int .i64 0] 30) = W0 := ⟨_, rfl⟩
  obtain ⟨W0, hW0⟩ := hW
  rw [hW0]
  have hs0 : W0.heap.size = b + 5 := by rw [← hW0, ← hb]; simp
  have hE0 : EndC W0 b sp := by
    rw [← hW0, ← hb, hsp]
    refine ⟨blk_alloc (blk_alloc (blk_alloc (blk_alloc (blk_new _ _) _) _) _) _, ?_, ?_, ?_, ?_⟩
    · have := blk_new (w.alloc (.cells #[.slice PA pg.length pc, .slice FA free.length fc, .slice RA rn rc, .slice GA gone.length gc, .int .i64 ver, .int .i64 tree] 25)) (.cells #[.slice none 0 0, .slice none 0 0, .slice none 0 0, .slice none 0 0, .int .i64 0, .int .i64 0] 25)
      rw [World.size_alloc] at this
      exact blk_alloc (blk_alloc (blk_alloc this _) _) _
    · have := blk_new ((w.alloc (.cells #[.slice PA pg.length pc, .slice FA free.length fc, .slice RA rn rc, .slice GA gone.length gc, .int .i64 ver, .int .i64 tree] 25)).alloc (.cells #[.slice none 0 0, .slice none 0 0, .slice none 0 0, .slice none 0 0, .int .i64 0, .int .i64 0] 25)) (.cells #[.int .i64 0] 3)
      rw [World.size_alloc, World.size_alloc] at this
      exact blk_alloc (blk_alloc this _) _
    · have := blk_new (((w.alloc (.cells #[.slice PA pg.length pc, .slice FA free.length fc, .slice RA rn rc, .slice GA gone.length gc, .int .i64 ver, .int .i64 tree] 25)).alloc (.cells #[.slice none 0 0, .slice none 0 0, .slice none 0 0, .slice none 0 0, .int .i64 0, .int .i64 0] 25)).alloc (.cells #[.int .i64 0] 3)) (.cells #[.slice none 0 0] 26)
      rw [World.size_alloc, World.size_alloc, World.size_alloc] at this
      exact blk_alloc this _
    · have := blk_new ((((w.alloc (.cells #[.slice PA pg.length pc, .slice FA free.length fc, .slice RA rn rc, .slice GA gone.length gc, .int .i64 ver, .int .i64 tree] 25)).alloc (.cells #[.slice none 0 0, .slice none 0 0, .slice none 0 0, .slice none 0 0, .int .i64 0, .int .i64 0] 25)).alloc (.cells #[.int .i64 0] 3)).alloc (.cells #[.slice none 0 0] 26)) (.cells #[.int .i64 0] 30)
      rw [World.size_alloc, World.size_alloc, World.size_alloc, World.size_alloc] at this
      exact this
  have hB0 : Below b w W0 := by rw [← hW0, ← hb]; exact ((((below_alloc1 w _).alloc (by simp) _).alloc (by simp; omega) _).alloc (by simp; omega) _).alloc (by simp; omega) _
  clear hW0
  rw [hb]
  subst hsp
  obtain ⟨x0, x1, x3, x4, x5⟩ := hE0.cells
  have HE0 := Aside0.mk hE0
  have HB0 := Aside0.mk hB0
  have HS0 := Lib.hid hs0
  clear hE0 hB0 hs0
  by_cases hv : 1 ≤ ver ∧ ver ≤ 1099511627776
  rotate_left
  · have HD1 := Lib.hid (decide_eq_false hv)
    obtain rfl : R = .error 1 := by rw [← HR0.out]; exact endX_1 (fun h => hv h.1)
    clear hv
    go_wp2_with (first
      | (go_at_call 46; (with_reducible refine (within_any ver 1 1099511627776 _).mono ?_); rintro e wa ⟨rfl, hda⟩; rw [HD1.out]; have HFa := Aside0.mk (EndF.drawn HB0.out HE0.out (Nat.le_of_eq HS0.out.symm) hda.below); clear hda)
      | (go_at_call 45; (with_reducible refine (need_no _ _).mono ?_); rintro e w' ⟨rfl, rfl⟩))
    exact end_leaves _ (by rfl) (by rfl) (by rfl) (by rfl) hb HFa.out
  by_cases hn : 2 ≤ pg.length ∧ pg.length ≤ 4096
  rotate_left
  · have HD1 := Lib.hid (decide_eq_true hv)
    have HD2 := Lib.hid (show decide (2 ≤ (pg.length : Int) ∧ (pg.length : Int) ≤ 4096) = false from decide_eq_false (by omega))
    obtain rfl : R = .error 1 := by rw [← HR0.out]; exact endX_1 (fun h => hn h.2)
    clear hn
    go_wp2_with (first
      | (go_at_call 46; (with_reducible refine (within_any ver 1 1099511627776 _).mono ?_); rintro e wa ⟨rfl, hda⟩; rw [HD1.out])
      | (go_at_call 46; (with_reducible refine (within_any (pg.length : Int) 2 4096 _).mono ?_); rintro e wb ⟨rfl, hdb⟩; rw [HD2.out]; have HFa := Aside0.mk (EndF.drawn HB0.out HE0.out (Nat.le_of_eq HS0.out.symm) (hda.below.trans (hdb.below.mono hda.below.size))); clear hda hdb)
      | (go_at_call 45; (with_reducible refine (need_no _ _).mono ?_); rintro e w' ⟨rfl, rfl⟩))
    exact end_leaves _ (by rfl) (by rfl) (by rfl) (by rfl) hb HFa.out
  have HD1 := Lib.hid (decide_eq_true hv)
  have HD2 := Lib.hid (show decide (2 ≤ (pg.length : Int) ∧ (pg.length : Int) ≤ 4096) = true from decide_eq_true (by omega))
  have HV1 := Lib.hid (fun (w1 : World) (hb : Below w.heap.size w w1) => valid_any rest pg.length A c w1 (Kd.C_below hRE hb) hc)
  have HI1 := Lib.hid (fun (w1 : World) (hb : Below w.heap.size w w1) => inc_any pg.length (by omega) (by omega) free FA fc w1 (Kd.C_below hFR hb) hfc)
  have HI2 := Lib.hid (fun (w1 : World) (hb : Below w.heap.size w w1) => inc_any pg.length (by omega) (by omega) gone GA gc w1 (Kd.C_below hGO hb) hgc)
  have HCP := Lib.hid (fun (w1 : World) (hb : Below w.heap.size w w1) (h5 : w.heap.size + 5 ≤ w1.heap.size) => clonePages pg PA pc w1 (off5 w.heap.size) (Kd.F_mono (Kd.F_below (Kd.C_F k89_heap hPG) hb) (fun k hk => .inl hk)) (fun k hk => .inr (by omega)) (by omega))
  simp only [hb] at HV1 HI1 HI2 HCP
  go_upto_region 4 with (first
    | (go_at_call 46; (with_reducible refine (within_any ver 1 1099511627776 _).mono ?_); rintro e wa ⟨rfl, hda⟩; rw [HD1.out])
    | (go_at_call 46; (with_reducible refine (within_any (pg.length : Int) 2 4096 _).mono ?_); rintro e wb ⟨rfl, hdb⟩; rw [HD2.out])
    | (go_at_call 45; (with_reducible refine (need_yes _ _).mono ?_); rintro e w' ⟨rfl, rfl⟩))
  have hBb : Below W0.heap.size W0 wb := hda.below.trans (hdb.below.mono hda.below.size)
  have hEb := HE0.out.below hBb
  have HBb := Aside0.mk (HB0.out.trans (hBb.mono (by rw [HS0.out]; omega)))
  have HEb := Aside0.mk hEb
  have HSb := Aside0.mk (show b + 5 ≤ wb.heap.size by have := hBb.size; have := HS0.out; omega)
  clear x0 x1 x3 x4 x5
  obtain ⟨x0, x1, x3, x4, x5⟩ := hEb.cells
  clear hEb hda hdb hBb
  by_cases h1 : validB pg.length rest = true
  rotate_left
  · rw [show validB pg.length rest = false by simpa using h1] at HV1
    obtain rfl : R = .error 2 := by rw [← HR0.out]; exact endX_2 ⟨hv, hn⟩ (fun h => h1 h.1.1)
    clear h1
    go_wp2_with (first
      | (go_at_call 47; (refine (HV1.out _ HBb.out).mono ?_); rintro e wc ⟨rfl, hbc⟩; have HFa := Aside0.mk (EndF.drawn HBb.out HEb.out HSb.out hbc); clear hbc)
      | (go_at_call 45; (with_reducible refine (need_no _ _).mono ?_); rintro e w' ⟨rfl, rfl⟩))
    exact end_leaves _ (by rfl) (by rfl) (by rfl) (by rfl) hb HFa.out
  rw [h1] at HV1
  by_cases h2 : incB pg.length free = true
  rotate_left
  · rw [show incB pg.length free = false by simpa using h2] at HI1
    obtain rfl : R = .error 2 := by rw [← HR0.out]; exact endX_2 ⟨hv, hn⟩ (fun h => h2 h.1.2.1)
    clear h2
    go_wp2_with (first
      | (go_at_call 47; (refine (HV1.out _ HBb.out).mono ?_); rintro e wc ⟨rfl, hbc⟩; have HFa := Aside0.mk (EndF.drawn HBb.out HEb.out HSb.out hbc); have HGa := Aside0.mk HFa.out.1; clear hbc x1; have x1 := HFa.out.2.1.cells.2.1)
      | (go_at_call 48; (with_reducible refine (HI1.out _ HGa.out).mono ?_); rintro e wd ⟨rfl, hdd⟩; have HFb := Aside0.mk (EndF.drawn HFa.out.1 HFa.out.2.1 HFa.out.2.2 hdd.below); clear hdd)
      | (go_at_call 45; (with_reducible refine (need_no _ _).mono ?_); rintro e w' ⟨rfl, rfl⟩))
    exact end_leaves _ (by rfl) (by rfl) (by rfl) (by rfl) hb HFb.out
  rw [h2] at HI1
  by_cases h3 : incB pg.length gone = true
  rotate_left
  · rw [show incB pg.length gone = false by simpa using h3] at HI2
    obtain rfl : R = .error 2 := by rw [← HR0.out]; exact endX_2 ⟨hv, hn⟩ (fun h => h3 h.1.2.2)
    clear h3
    go_wp2_with (first
      | (go_at_call 47; (refine (HV1.out _ HBb.out).mono ?_); rintro e wc ⟨rfl, hbc⟩; have HFa := Aside0.mk (EndF.drawn HBb.out HEb.out HSb.out hbc); have HGa := Aside0.mk HFa.out.1; clear hbc x1 x3; have x1 := HFa.out.2.1.cells.2.1; have x3 := HFa.out.2.1.cells.2.2.1)
      | (go_at_call 48; (with_reducible refine (HI1.out _ HGa.out).mono ?_); rintro e wd ⟨rfl, hdd⟩; have HFb := Aside0.mk (EndF.drawn HFa.out.1 HFa.out.2.1 HFa.out.2.2 hdd.below); have HGb := Aside0.mk HFb.out.1; clear hdd x3; have x3 := HFb.out.2.1.cells.2.2.1)
      | (go_at_call 48; (with_reducible refine (HI2.out _ HGb.out).mono ?_); rintro e we ⟨rfl, hde⟩; have HFc := Aside0.mk (EndF.drawn HFb.out.1 HFb.out.2.1 HFb.out.2.2 hde.below); clear hde)
      | (go_at_call 45; (with_reducible refine (need_no _ _).mono ?_); rintro e w' ⟨rfl, rfl⟩))
    exact end_leaves _ (by rfl) (by rfl) (by rfl) (by rfl) hb HFc.out
  rw [h3] at HI2
  go_upto_region 5 with (first
    | (go_at_call 47; (refine (HV1.out _ HBb.out).mono ?_); rintro e wc ⟨rfl, hbc⟩; have HBc := Aside0.mk (HBb.out.trans (hbc.mono (by have := HSb.out; omega))); have HEc := Aside0.mk (HEb.out.below hbc); have HSc := Aside0.mk (Nat.le_trans HSb.out hbc.size); clear hbc x0 x1 x3 x4 x5; obtain ⟨x0, x1, x3, x4, x5⟩ := HEc.out.cells)
    | (go_at_call 48; (with_reducible refine (HI1.out _ HBc.out).mono ?_); rintro e wd ⟨rfl, hdd⟩; have HBd := Aside0.mk (HBc.out.trans (hdd.below.mono (by have := HSc.out; omega))); have HEd := Aside0.mk (HEc.out.below hdd.below); have HSd := Aside0.mk (Nat.le_trans HSc.out hdd.below.size); clear hdd x0 x1 x3 x4 x5; obtain ⟨x0, x1, x3, x4, x5⟩ := HEd.out.cells)
    | (go_at_call 48; (with_reducible refine (HI2.out _ HBd.out).mono ?_); rintro e we ⟨rfl, hde⟩; have HBe := Aside0.mk (HBd.out.trans (hde.below.mono (by have := HSd.out; omega))); have HEe := Aside0.mk (HEd.out.below hde.below); have HSe := Aside0.mk (Nat.le_trans HSd.out hde.below.size); clear hde x0 x1 x3 x4 x5; obtain ⟨x0, x1, x3, x4, x5⟩ := HEe.out.cells)
    | (go_at_call 45; (with_reducible refine (need_yes _ _).mono ?_); rintro e w' ⟨rfl, rfl⟩))
  go_upto_region 6 with (go_at_call 49; (refine (HCP.out _ HBe.out HSe.out).mono ?_); rintro e wf ⟨v, rfl, hv, hbf⟩; obtain ⟨QA, qc, rfl⟩ := Kd.N_slice hv; have HQ := Aside0.mk hv; have HBf := Aside0.mk (HBe.out.trans (hbf.mono (by have := HSe.out; omega))); have HEf := Aside0.mk (HEe.out.below hbf); have HSf := Aside0.mk (Nat.le_trans HSe.out hbf.size); clear hv hbf x0 x1 x3 x4 x5)
  obtain ⟨g, hg⟩ : ∃ g, wf.heap.size = g := ⟨_, rfl⟩
  have hQb := Kd.N_base HQ.out
  have hQl := Kd.N_lt HQ.out
  have hBg : Below w.heap.size w (wf.alloc (.cells #[.slice QA pg.length qc, .slice A rest.length c] 102)) := by rw [hb]; exact HBf.out.trans ((below_alloc1 wf (.cells #[.slice QA pg.length qc, .slice A rest.length c] 102)).mono (by have := HSf.out; omega))
  have hAg : AccX (off5 b) (wf.alloc (.cells #[.slice QA pg.length qc, .slice A rest.length c] 102)) g (.slice QA pg.length qc) rest := ⟨A, c, by rw [← hg]; exact blk_new wf _, hc, Kd.F_below (Kd.F_mono (Kd.C_F k64_heap hRE) (fun k hk => ⟨⟨by have := HSf.out; omega, fun e => by have := hQb k e.symm; have := HSe.out; omega⟩, .inl (by omega)⟩)) hBg⟩
  have hEg := HEf.out.below (below_alloc1 wf (.cells #[.slice QA pg.length qc, .slice A rest.length c] 102))
  have hQg := Kd.N_mono (ok' := fun k => k ≠ g ∧ off5 b k) (Kd.N_below (Kd.N_bound HQ.out) (below_alloc1 wf (.cells #[.slice QA pg.length qc, .slice A rest.length c] 102))) (fun k hk => ⟨by have := hk.2; omega, hk.1⟩)
  have hsg : (wf.alloc (.cells #[.slice QA pg.length qc, .slice A rest.length c] 102)).heap.size = g + 1 := by rw [← hg]; simp
  rw [hg]
  rw [hb] at hBg
  obtain ⟨Wg, hWg⟩ : ∃ Wg, wf.alloc (.cells #[.slice QA pg.length qc, .slice A rest.length c] 102) = Wg := ⟨_, rfl⟩
  rw [hWg] at hAg hEg hBg hQg hsg ⊢
  have hSb : Wg.heap[b]? = some (.cells #[.slice PA pg.length pc, .slice FA free.length fc, .slice RA rn rc, .slice GA gone.length gc, .int .i64 ver, .int .i64 tree] 25 (0, 0)) := hEg.1
  have hbg5 : b + 5 ≤ g := by have := HSf.out; omega
  have hQlg : ∀ k, (Value.slice QA pg.length qc).ownBlock = some k → k < g := fun k hk => hg ▸ hQl k hk
  have HPUT1 := Lib.hid (putX_any rest g (.slice QA pg.length qc) (ver - 1) gone GA gc Wg.drew (off5 b) (fun k hk => .inr (by have h1 : Wg.heap.size ≤ k := hk; omega)) hAg (fun k hk => by have := hQlg k hk; show k < Wg.heap.size; omega) (Kd.C_below hGO (by rw [hb]; exact hBg.drew)) hgc hsm.1 (by omega))
  have HWV := Lib.hid (show IntKind.i64.wrap (ver - 1) = ver - 1 by rw [IntKind.wrap_i64]; omega)
  have hgb : b ≠ g := by omega
  have HBg := Aside0.mk hBg
  have HEg := Aside0.mk hEg
  have HQg := Aside0.mk hQg
  clear hWg hAg hBg hEg hQg hQb hQl
  refine wp_region_noPanic ?_
  refine wp_region_held_drew (S := fun W => W.heap[b]? = some (.cells #[.slice PA pg.length pc, .slice FA free.length fc, .slice RA rn rc, .slice GA gone.length gc, .int .i64 ver, .int .i64 tree] 25 (0, 0))) (by kernel_rfl) (hSb) (fun hS => ?_)
  simp only [List.size_toArray, List.length_cons, List.length_nil, Nat.reduceAdd, Array.replicate_succ, Array.replicate_zero, List.push_toArray, List.nil_append, List.cons_append]
  refine take_at (i := 0) 55 (.pointer (some ⟨g, 0, none⟩)) rfl rfl (by kernel_rfl) (by kernel_rfl) (by kernel_rfl) (fun _ _ _ h => h) (Or.inl ⟨by rfl, fun W hW => by go_simp⟩) hS ?_
  try simp only [List.setIfInBounds_toArray, List.set_cons_zero, List.set_cons_succ]
  refine take_at (i := 1) 56 (.pointer (some ⟨g, 0, none⟩)) rfl rfl (by kernel_rfl) (by kernel_rfl) (by kernel_rfl) (fun _ _ _ h => h) (Or.inl ⟨by rfl, fun W hW => by go_simp⟩) hS ?_
  try simp only [List.setIfInBounds_toArray, List.set_cons_zero, List.set_cons_succ]
  refine take_at (i := 2) 57 (.pointer (some ⟨g, 1, none⟩)) rfl rfl (by kernel_rfl) (by kernel_rfl) (by kernel_rfl) (fun _ _ _ h => h) (Or.inl ⟨by rfl, fun W hW => by go_simp⟩) hS ?_
  try simp only [List.setIfInBounds_toArray, List.set_cons_zero, List.set_cons_succ]
  refine take_at (i := 3) 58 (.pointer (some ⟨b, 4, none⟩)) rfl rfl (by kernel_rfl) (by kernel_rfl) (by kernel_rfl) (fun _ _ _ h => h) (Or.inl ⟨by rfl, fun W hW => by go_simp⟩) hS ?_
  try simp only [List.setIfInBounds_toArray, List.set_cons_zero, List.set_cons_succ]
  refine take_at (i := 4) 59 (.int .i64 ver) rfl rfl (by kernel_rfl) (by kernel_rfl) (by kernel_rfl) (fun _ _ _ h => h) (Or.inl ⟨by rfl, fun W hW => by have h0 : W.cell? ⟨b, 4, none⟩ = some (.int .i64 ver) := (blk_cell hW 4).trans rfl; go_simp⟩) hS ?_
  try simp only [List.setIfInBounds_toArray, List.set_cons_zero, List.set_cons_succ]
  refine take_at (i := 5) 60 (.int .i64 (ver - 1)) rfl rfl (by kernel_rfl) (by kernel_rfl) (by kernel_rfl) (fun _ _ _ h => h) (Or.inl ⟨by rfl, fun W hW => by have h0 : IntKind.i64.wrap (ver - 1) = ver - 1 := HWV.out; go_simp⟩) hS ?_
  try simp only [List.setIfInBounds_toArray, List.set_cons_zero, List.set_cons_succ]
  refine take_at (i := 6) 61 (.pointer (some ⟨b, 3, none⟩)) rfl rfl (by kernel_rfl) (by kernel_rfl) (by kernel_rfl) (fun _ _ _ h => h) (Or.inl ⟨by rfl, fun W hW => by go_simp⟩) hS ?_
  try simp only [List.setIfInBounds_toArray, List.set_cons_zero, List.set_cons_succ]
  refine take_at (i := 7) 62 (.slice GA gone.length gc) rfl rfl (by kernel_rfl) (by kernel_rfl) (by kernel_rfl) (fun _ _ _ h => h) (Or.inl ⟨by rfl, fun W hW => by have h0 : W.cell? ⟨b, 3, none⟩ = some (.slice GA gone.length gc) := (blk_cell hW 3).trans rfl; go_simp⟩) hS ?_
  try simp only [List.setIfInBounds_toArray, List.set_cons_zero, List.set_cons_succ]
  refine wpAnyH_ready (rs := [8]) (by kernel_rfl) (by simp) ?_
  refine AllReadyH.cons rfl (fun K hK => ?_) AllReadyH.nil
  go_simp
  refine HPUT1.out.mono ?_
  rintro e w1 ⟨rfl, ha1, ht1⟩
  refine hK.out _ _ (ht1.blk hgb hS) (fun hS => ?_)
  clear hK K
  try simp only [Act.put, List.getElem_toArray, List.getElem_cons_succ, List.getElem_cons_zero, List.setIfInBounds_toArray, List.set_cons_zero, List.set_cons_succ]
  refine wpAnyH_done (by kernel_rfl) ?_ _
  refine NoPanic.normal ?_
  have hsz1 : g + 1 ≤ w1.heap.size := by have := ht1.size; have e : Wg.drew.heap.size = Wg.heap.size := rfl; omega
  have hB1 : Below b w w1 := HBg.out.drew.trans (ht1.below.mono (by omega))
  have hE1 : EndC w1 b #[.slice PA pg.length pc, .slice FA free.length fc, .slice RA rn rc, .slice GA gone.length gc, .int .i64 ver, .int .i64 tree] := EndC.turned (W := Wg.drew) HEg.out ht1 hbg5
  have hQ1 : Kd.N k89 89 w1 we.heap.size (fun k => k ≠ g ∧ off5 b k) (.slice QA pg.length qc) pg := ht1.N (fun k hk => hk.1) (Kd.N_drew HQg.out)
  have hSb1 : w1.heap[b]? = some (.cells #[.slice PA pg.length pc, .slice FA free.length fc, .slice RA rn rc, .slice GA gone.length gc, .int .i64 ver, .int .i64 tree] 25 (0, 0)) := hE1.1
  have HL1 := Lib.hid (show (if gone = [] then rest else mergeL rest [⟨ver - 1, gone⟩]) = putL (ver - 1) gone rest from rfl)
  rw [HL1.out] at ha1
  have HPUT2 := Lib.hid (putX_any (putL (ver - 1) gone rest) g (.slice QA pg.length qc) 0 free FA fc w1.drew (off5 b) (fun k hk => .inr (by have h1 : w1.heap.size ≤ k := hk; omega)) ha1 (fun k hk => by have := hQlg k hk; show k < w1.heap.size; omega) (Kd.C_below hFR (by rw [hb]; exact hB1.drew)) hfc (small_put hsm.2.2.2.2 hsm.2.2.2.1 (by omega)) (by omega))
  have HB1 := Aside0.mk hB1
  have HE1 := Aside0.mk hE1
  have HQ1 := Aside0.mk hQ1
  have HS1 := Aside0.mk hsz1
  clear hB1 hE1 hQ1 ha1 ht1 hsz1 HBg HEg HQg hS
  go_upto_region 7 with (fail)
  refine wp_region_noPanic ?_
  refine wp_region_held_drew (S := fun W => W.heap[b]? = some (.cells #[.slice PA pg.length pc, .slice FA free.length fc, .slice RA rn rc, .slice GA gone.length gc, .int .i64 ver, .int .i64 tree] 25 (0, 0))) (by kernel_rfl) (hSb1) (fun hS => ?_)
  simp only [List.size_toArray, List.length_cons, List.length_nil, Nat.reduceAdd, Array.replicate_succ, Array.replicate_zero, List.push_toArray, List.nil_append, List.cons_append]
  refine take_at (i := 0) 64 (.pointer (some ⟨g, 0, none⟩)) rfl rfl (by kernel_rfl) (by kernel_rfl) (by kernel_rfl) (fun _ _ _ h => h) (Or.inl ⟨by rfl, fun W hW => by go_simp⟩) hS ?_
  try simp only [List.setIfInBounds_toArray, List.set_cons_zero, List.set_cons_succ]
  refine take_at (i := 1) 65 (.pointer (some ⟨g, 0, none⟩)) rfl rfl (by kernel_rfl) (by kernel_rfl) (by kernel_rfl) (fun _ _ _ h => h) (Or.inl ⟨by rfl, fun W hW => by go_simp⟩) hS ?_
  try simp only [List.setIfInBounds_toArray, List.set_cons_zero, List.set_cons_succ]
  refine take_at (i := 2) 66 (.pointer (some ⟨g, 1, none⟩)) rfl rfl (by kernel_rfl) (by kernel_rfl) (by kernel_rfl) (fun _ _ _ h => h) (Or.inl ⟨by rfl, fun W hW => by go_simp⟩) hS ?_
  try simp only [List.setIfInBounds_toArray, List.set_cons_zero, List.set_cons_succ]
  refine take_at (i := 3) 67 (.pointer (some ⟨b, 1, none⟩)) rfl rfl (by kernel_rfl) (by kernel_rfl) (by kernel_rfl) (fun _ _ _ h => h) (Or.inl ⟨by rfl, fun W hW => by go_simp⟩) hS ?_
  try simp only [List.setIfInBounds_toArray, List.set_cons_zero, List.set_cons_succ]
  refine take_at (i := 4) 68 (.slice FA free.length fc) rfl rfl (by kernel_rfl) (by kernel_rfl) (by kernel_rfl) (fun _ _ _ h => h) (Or.inl ⟨by rfl, fun W hW => by have h0 : W.cell? ⟨b, 1, none⟩ = some (.slice FA free.length fc) := (blk_cell hW 1).trans rfl; go_simp⟩) hS ?_
  try simp only [List.setIfInBounds_toArray, List.set_cons_zero, List.set_cons_succ]
  refine wpAnyH_ready (rs := [5]) (by kernel_rfl) (by simp) ?_
  refine AllReadyH.cons rfl (fun K hK => ?_) AllReadyH.nil
  go_simp
  refine HPUT2.out.mono ?_
  rintro e w2 ⟨rfl, ha2, ht2⟩
  refine hK.out _ _ (ht2.blk hgb hS) (fun hS => ?_)
  clear hK K
  try simp only [Act.put, List.getElem_toArray, List.getElem_cons_succ, List.getElem_cons_zero, List.setIfInBounds_toArray, List.set_cons_zero, List.set_cons_succ]
  refine wpAnyH_done (by kernel_rfl) ?_ _
  refine NoPanic.normal ?_
  have HL2 := Lib.hid (show (if free = [] then putL (ver - 1) gone rest else mergeL (putL (ver - 1) gone rest) [⟨0, free⟩]) = putL 0 free (putL (ver - 1) gone rest) from rfl)
  rw [HL2.out] at ha2
  obtain ⟨l2, hl2⟩ : ∃ l2, putL 0 free (putL (ver - 1) gone rest) = l2 := ⟨_, rfl⟩
  rw [hl2] at ha2
  have HLL := Lib.hid hl2
  have hsz2 : g + 1 ≤ w2.heap.size := by have := ht2.size; have e : w1.drew.heap.size = w1.heap.size := rfl; have := HS1.out; omega
  have hB2 : Below b w w2 := HB1.out.drew.trans (ht2.below.mono (by omega))
  have hE2 : EndC w2 b #[.slice PA pg.length pc, .slice FA free.length fc, .slice RA rn rc, .slice GA gone.length gc, .int .i64 ver, .int .i64 tree] := EndC.turned (W := w1.drew) HE1.out ht2 hbg5
  have hQ2 : Kd.N k89 89 w2 we.heap.size (fun k => k ≠ g ∧ off5 b k) (.slice QA pg.length qc) pg := ht2.N (fun k hk => hk.1) (Kd.N_drew HQ1.out)
  have HB2 := Aside0.mk hB2
  have HE2 := Aside0.mk hE2
  have HQ2 := Aside0.mk hQ2
  have HS2 := Aside0.mk hsz2
  have HA2 := Aside0.mk ha2
  obtain ⟨A2, c2, hb2, hc2, hF2⟩ := ha2
  have x6 : w2.cell? ⟨g, 1, none⟩ = some (.slice A2 l2.length c2) := (blk_cell hb2 1).trans rfl
  have HV4 := Lib.hid (valid_any l2 pg.length A2 c2 w2 (Kd.F_now hF2) hc2)
  by_cases h4 : validB pg.length l2 = true
  rotate_left
  · rw [show validB pg.length l2 = false by simpa using h4] at HV4
    obtain rfl : R = .error 2 := by rw [← HR0.out]; exact endX_2 ⟨hv, hn⟩ (fun h => h4 (by rw [← HLL.out]; exact h.2))
    clear h4
    go_wp2_with (first
      | (go_at_call 47; (refine HV4.out.mono ?_); rintro e w3 ⟨rfl, hb3⟩; have HFa := Aside0.mk (EndF.drawn HB2.out HE2.out (by have := HS2.out; omega) hb3); clear hb3)
      | (go_at_call 45; (with_reducible refine (need_no _ _).mono ?_); rintro e w' ⟨rfl, rfl⟩))
    exact end_leaves _ (by rfl) (by rfl) (by rfl) (by rfl) hb HFa.out
  have HTI := Aside0.mk (end_TI (shrink := shrink) ⟨hsm.2.1, hsm.2.2.1, hsm.2.2.2.1, hsm.2.2.2.2⟩ hn (show validB pg.length (endL2 free gone rest ver) = true from by unfold endL2; rw [HLL.out]; exact h4))
  have HX7 := Aside0.mk (fun h => endX_7 (shrink := shrink) (pg := pg) (rest := rest) (free := free) (gone := gone) (ver := ver) ⟨hv, hn⟩ ⟨⟨h1, h2, h3⟩, show validB pg.length (endL2 free gone rest ver) = true from by unfold endL2; rw [HLL.out]; exact h4⟩ h)
  have HX0 := Aside0.mk (fun l m own h => endX_0 (shrink := shrink) (pg := pg) (rest := rest) (free := free) (gone := gone) (ver := ver) (l := l) (m := m) (own := own) ⟨hv, hn⟩ ⟨⟨h1, h2, h3⟩, show validB pg.length (endL2 free gone rest ver) = true from by unfold endL2; rw [HLL.out]; exact h4⟩ h)
  rw [h4] at HV4
  clear hB2 hE2 hQ2 ht2 hsz2 hl2 hF2 hb2 HB1 HE1 HQ1 hS
  go_upto_region 9 with (first
    | (go_at_call 47; (refine HV4.out.mono ?_); rintro e w3 ⟨rfl, hb3⟩; have HB3 := Aside0.mk (HB2.out.trans (hb3.mono (by have := HS2.out; omega))); have HE3 := Aside0.mk (HE2.out.below hb3); have HS3 := Aside0.mk (Nat.le_trans HS2.out hb3.size); have HQ3 := Aside0.mk (Kd.N_below HQ2.out hb3); have HA3 := Aside0.mk (HA2.out.below hb3); clear hb3 x6; obtain ⟨x0, x1, x3, x4, x5⟩ := HE3.out.cells)
    | (go_at_call 45; (with_reducible refine (need_yes _ _).mono ?_); rintro e w' ⟨rfl, rfl⟩))
  clear HB2 HE2 HQ2 HA2
  have hqb : ∀ k, (Value.slice QA pg.length qc).ownBlock = some k → b + 5 ≤ k := fun k hk => by have := Kd.N_base HQ3.out k hk; have := HSe.out; omega
  have HQ4 := Aside0.mk (Kd.N_lower HQ3.out (show b ≤ we.heap.size by have := HSe.out; omega))
  have hfree : ∀ x ∈ free, 2 ≤ x ∧ x ≤ (pg.length : Int) - 1 := (of_decide_eq_true h2).1
  have h89 : (Tryz.prog.info? 89).map (·.size) = some 10 := by kernel_rfl
  clear x0 x3 x4 x5 HQ3
  go_upto_region 10 with (fail)
  go_loopw [13, 81] (fun u i wr => ∃ k : Nat, k ≤ free.length ∧ i = .int .i64 k ∧ Aside0 (Kd.N k89 89 wr b (fun q => q ≠ g ∧ off5 b q) (.slice QA pg.length qc) (zeroTo k free pg)) ∧ Aside0 (AccX (off5 b) wr g (.slice QA pg.length qc) l2) ∧ Aside0 (EndC wr b #[.slice PA pg.length pc, .slice FA free.length fc, .slice RA rn rc, .slice GA gone.length gc, .int .i64 ver, .int .i64 tree]) ∧ Aside0 (Below b w wr) ∧ Aside0 (g + 1 ≤ wr.heap.size))
    (fun _ i _ => free.length - (intOf i).toNat)
  case atStart => exact ⟨0, Nat.zero_le _, rfl, HQ4, HA3, HE3, HB3, HS3⟩
  case round =>
    clear HQ4 HA3 HE3 HB3 HS3
    obtain ⟨k, hk, rfl, HQ, HA, HE, HB, HS⟩ := hrel
    by_cases hlt : k < free.length
    · have hlen := zeroAll_length (free.take k) pg
      obtain ⟨q, qc', hve, hbq, hqs, _⟩ := Kd.N_form HQ.out (by show 0 < (zeroAll (free.take k) pg).length; omega)
      rw [show (zeroTo k free pg).length = pg.length from hlen] at hve
      injection hve with e1 _ e2
      subst e1 e2
      obtain ⟨ad, had, hxc⟩ := Kd.at_int (Kd.C_below hFR (show Below w.heap.size w wr by rw [hb]; exact HB.out)) (k : Int) (by omega) (by omega)
      subst had
      rw [Int.toNat_natCast, rd_at free k hlt] at hxc
      have hx := hfree _ (List.getElem_mem hlt)
      have HZS := Lib.hid (zeroTo_succ k free pg hlt)
      obtain ⟨x, hxx⟩ : ∃ x, free[k] = x := ⟨_, rfl⟩
      rw [hxx] at hxc hx HZS
      obtain ⟨A9, c9, hb9, _, _⟩ := HA.out
      have y0 : wr.cell? ⟨g, 0, none⟩ = some (.slice (some ⟨q, 0, none⟩) pg.length qc) := (blk_cell hb9 0).trans rfl
      obtain ⟨cs, hcl, hFK, hcc, hfr⟩ := Kd.N_elem HQ.out z89 x (by omega) (by omega)
      obtain ⟨A8, c8, rfl, _, _⟩ := k89_openF hFK
      have HCC := Aside0.mk hcc
      have hx0 : 0 ≤ x := by omega
      have hxl : x < (pg.length : Int) := by omega
      have HX0 := Aside0.mk hx0
      have HXL := Aside0.mk hxl
      have hgq : g ≠ q := fun e => by have := HQ.out.1 q (by simp [Value.ownBlock]); exact this.1 e.symm
      have hq5 := hqb q (by simp [Value.ownBlock])
      clear hFK hcc hfr hxx hb9
      go_upto_region 13 with (refine Kd.N_store k89 (w0 := w) b rfl rfl 89 (.tmp 91) (.tmp 90) rfl 89 x 0 (zeroTo k free pg) z89 (.agg #[.int .i64 0, .int .i64 0, .int .i64 0, .int .i64 0, .int .i64 0, .bool false, .slice none 0 0, .int .i64 0, .string ⟨#[]⟩, .slice none 0 0]) [.int .i64 0, .int .i64 0, .int .i64 0, .int .i64 0, .int .i64 0, .bool false, .slice none 0 0, .int .i64 0, .string ⟨#[]⟩, .slice none 0 0] (cells89 _ A8 c8) (fun y => y ≠ g ∧ off5 b y) (fun _ => False) rfl rfl rfl rfl h89 (by simp [Value.oneCell']) HQ.out HX0.out HXL.out hcl HCC.out (by show 0 + 10 ≤ 10; omega) (by exact zero89F) (fun _ h => h.elim) HB.out ?_; intro w4 hn4 hb4 hg4)
      have HQ6 := Aside0.mk hn4
      have HB6 := Aside0.mk hb4
      have HA6 := Aside0.mk (show AccX (off5 b) w4 g (.slice (some ⟨q, 0, none⟩) pg.length qc) l2 by
        obtain ⟨A9, c9, hb9, hc9, hF9⟩ := HA.out
        exact ⟨A9, c9, (hg4.block g (blk_lt hb9) (fun e => hgq (by injection e))).trans hb9, hc9, Kd.F_grown hF9 hg4 (fun y hy e => hy.1.2 (by simpa [Value.ownBlock] using e))⟩)
      have HE6 := Aside0.mk (show EndC w4 b #[.slice PA pg.length pc, .slice (some ad) free.length fc, .slice RA rn rc, .slice GA gone.length gc, .int .i64 ver, .int .i64 tree] from HE.out.keep fun y _ h5 hy => hg4.block y hy (fun e => by injection e with e; omega))
      have HS6 := Aside0.mk (Nat.le_trans HS.out hg4.size)
      clear hn4 hb4 hg4 hgq hq5 hx0 hxl hx hxc y0 hcl
      go_wp2
      go_roundw
      case rel => exact ⟨k + 1, by omega, by go_num, ⟨by rw [HZS.out]; exact HQ6.out⟩, HA6, HE6, HB6, HS6⟩
      case measure => simp [intOf]; omega
    · obtain rfl : k = free.length := by omega
      have HQ5 := Aside0.mk (show Kd.N k89 89 wr b (fun q => q ≠ g ∧ off5 b q) (.slice QA pg.length qc) (zeroAll free pg) by have := HQ.out; unfold zeroTo at this; rw [List.take_length] at this; exact this)
      clear HQ
      have hfl2 : fullL l2 := form_fullL (of_decide_eq_true h4).2.1
      have htl := tailN_le l2 pg.length (of_decide_eq_true h4).2.1 (by omega)
      have hsl2 : smallL l2 := by rw [← HLL.out]; have q1 := putL_len (ver - 1) gone rest; have q2 := putL_len 0 free (putL (ver - 1) gone rest); exact ⟨by omega, by omega⟩
      have HSL := Aside0.mk hsl2
      clear hsl2
      obtain ⟨m, hm⟩ : ∃ m : Nat, tailN l2 pg.length = (m : Int) := ⟨(tailN l2 pg.length).toNat, by omega⟩
      have HM := Lib.hid hm
      rw [hm] at htl
      have hmn : m ≤ pg.length := by omega
      clear htl
      go_upto_if 93 with (fail)
      go_cut [] from 93 (fun wx => EndM w b g #[.slice PA pg.length pc, .slice FA free.length fc, .slice RA rn rc, .slice GA gone.length gc, .int .i64 ver, .int .i64 tree] (if shrink then (zeroAll free pg).take m else zeroAll free pg) (if shrink then keepAll m l2 else l2) (off5 b) wx)
      case first =>
        cases shrink with
        | false =>
          clear hm
          go_wp2
          go_meet
          case rel => exact ⟨_, HQ5.out, HA.out, HE.out, HB.out, HS.out, hqb⟩
        | true =>
          obtain ⟨A9, c9, hb9, hc9, hF9⟩ := HA.out
          have hT5 := tail_any l2 pg.length A9 c9 wr.drew (Kd.C_below (Kd.F_now hF9) (below_drew1 (Below.refl _ _))) hc9 (by omega) (by omega) (small_each HSL.out)
          rw [hm] at hT5
          have HT5 := Lib.hid hT5
          have HMQ := Aside0.mk (show m ≤ qc from Nat.le_trans hmn (Kd.N_reads' HQ5.out).2.1)
          have HB9 := Aside0.mk hb9
          have v0 : wr.cell? ⟨g, 0, none⟩ = some (.slice QA pg.length qc) := (blk_cell hb9 0).trans rfl
          have v1 : wr.cell? ⟨g, 1, none⟩ = some (.slice A9 l2.length c9) := (blk_cell hb9 1).trans rfl
          clear hm hT5 hb9 hF9
          go_upto_region 15 with (fail)
          refine wp_region_noPanic ?_
          refine wp_region_keptK (S := fun W => W.cell? ⟨g, 0, none⟩ = some (.slice QA pg.length qc) ∧ W.cell? ⟨g, 1, none⟩ = some (.slice A9 l2.length c9)) 15 (by kernel_rfl) (⟨v0, v1⟩) (fun hS => ?_)
          simp only [List.size_toArray, List.length_cons, List.length_nil, Nat.reduceAdd, Array.replicate_succ, Array.replicate_zero, List.push_toArray, List.nil_append, List.cons_append]
          refine take_atK (i := 0) 94 (.pointer (some ⟨g, 0, none⟩)) [15] rfl rfl (by kernel_rfl) (by decide) (by decide) (by kernel_rfl) (by kernel_rfl) (by kernel_rfl) (by kernel_rfl) (fun _ _ _ h => h) (Or.inl ⟨by rfl, fun W hW => by go_simp⟩) hS ?_
          try simp only [List.setIfInBounds_toArray, List.set_cons_zero, List.set_cons_succ]
          refine take_atK (i := 1) 95 (.pointer (some ⟨g, 0, none⟩)) [15] rfl rfl (by kernel_rfl) (by decide) (by decide) (by kernel_rfl) (by kernel_rfl) (by kernel_rfl) (by kernel_rfl) (fun _ _ _ h => h) (Or.inl ⟨by rfl, fun W hW => by go_simp⟩) hS ?_
          try simp only [List.setIfInBounds_toArray, List.set_cons_zero, List.set_cons_succ]
          refine take_atK (i := 2) 96 (.pointer (some ⟨g, 0, none⟩)) [15] rfl rfl (by kernel_rfl) (by decide) (by decide) (by kernel_rfl) (by kernel_rfl) (by kernel_rfl) (by kernel_rfl) (fun _ _ _ h => h) (Or.inl ⟨by rfl, fun W hW => by go_simp⟩) hS ?_
          try simp only [List.setIfInBounds_toArray, List.set_cons_zero, List.set_cons_succ]
          refine take_atK (i := 3) 97 (.pointer (some ⟨g, 0, none⟩)) [15] rfl rfl (by kernel_rfl) (by decide) (by decide) (by kernel_rfl) (by kernel_rfl) (by kernel_rfl) (by kernel_rfl) (fun _ _ _ h => h) (Or.inl ⟨by rfl, fun W hW => by go_simp⟩) hS ?_
          try simp only [List.setIfInBounds_toArray, List.set_cons_zero, List.set_cons_succ]
          refine take_atK (i := 4) 98 (.slice QA pg.length qc) [15] rfl rfl (by kernel_rfl) (by decide) (by decide) (by kernel_rfl) (by kernel_rfl) (by kernel_rfl) (by kernel_rfl) (fun _ _ _ h => h) (Or.inl ⟨by rfl, fun W hW => by have h0 := hW.1; go_simp⟩) hS ?_
          try simp only [List.setIfInBounds_toArray, List.set_cons_zero, List.set_cons_succ]
          refine take_atK (i := 5) 99 (.pointer (some ⟨g, 0, none⟩)) [15] rfl rfl (by kernel_rfl) (by decide) (by decide) (by kernel_rfl) (by kernel_rfl) (by kernel_rfl) (by kernel_rfl) (fun _ _ _ h => h) (Or.inl ⟨by rfl, fun W hW => by go_simp⟩) hS ?_
          try simp only [List.setIfInBounds_toArray, List.set_cons_zero, List.set_cons_succ]
          refine take_atK (i := 6) 100 (.pointer (some ⟨g, 0, none⟩)) [15] rfl rfl (by kernel_rfl) (by decide) (by decide) (by kernel_rfl) (by kernel_rfl) (by kernel_rfl) (by kernel_rfl) (fun _ _ _ h => h) (Or.inl ⟨by rfl, fun W hW => by go_simp⟩) hS ?_
          try simp only [List.setIfInBounds_toArray, List.set_cons_zero, List.set_cons_succ]
          refine take_atK (i := 7) 101 (.pointer (some ⟨g, 1, none⟩)) [15] rfl rfl (by kernel_rfl) (by decide) (by decide) (by kernel_rfl) (by kernel_rfl) (by kernel_rfl) (by kernel_rfl) (fun _ _ _ h => h) (Or.inl ⟨by rfl, fun W hW => by go_simp⟩) hS ?_
          try simp only [List.setIfInBounds_toArray, List.set_cons_zero, List.set_cons_succ]
          refine take_atK (i := 8) 102 (.pointer (some ⟨g, 1, none⟩)) [15] rfl rfl (by kernel_rfl) (by decide) (by decide) (by kernel_rfl) (by kernel_rfl) (by kernel_rfl) (by kernel_rfl) (fun _ _ _ h => h) (Or.inl ⟨by rfl, fun W hW => by go_simp⟩) hS ?_
          try simp only [List.setIfInBounds_toArray, List.set_cons_zero, List.set_cons_succ]
          refine take_atK (i := 9) 103 (.slice A9 l2.length c9) [15] rfl rfl (by kernel_rfl) (by decide) (by decide) (by kernel_rfl) (by kernel_rfl) (by kernel_rfl) (by kernel_rfl) (fun _ _ _ h => h) (Or.inl ⟨by rfl, fun W hW => by have h0 := hW.2; go_simp⟩) hS ?_
          try simp only [List.setIfInBounds_toArray, List.set_cons_zero, List.set_cons_succ]
          refine take_atK (i := 10) 104 (.int .i64 (pg.length : Int)) [15] rfl rfl (by kernel_rfl) (by decide) (by decide) (by kernel_rfl) (by kernel_rfl) (by kernel_rfl) (by kernel_rfl) (fun _ _ _ h => h) (Or.inl ⟨by rfl, fun W hW => by go_simp⟩) hS ?_
          try simp only [List.setIfInBounds_toArray, List.set_cons_zero, List.set_cons_succ]
          refine wpAnyK_ready (rs := [11]) (by kernel_rfl) (by simp) ?_
          refine AllReadyK.cons rfl (fun K hK => ?_) AllReadyK.nil
          go_simp
          refine HT5.out.mono ?_
          rintro e w5 ⟨rfl, hd5⟩
          refine hK.out _ _ (⟨cellB hd5.below (Nat.le_refl _) hS.1, cellB hd5.below (Nat.le_refl _) hS.2⟩) (fun hS => ?_)
          clear hK K
          try simp only [Act.put, List.getElem_toArray, List.getElem_cons_succ, List.getElem_cons_zero, List.setIfInBounds_toArray, List.set_cons_zero, List.set_cons_succ]
          refine take_atK (i := 12) 106 (.slice QA m qc) [15] rfl rfl (by kernel_rfl) (by decide) (by decide) (by kernel_rfl) (by kernel_rfl) (by kernel_rfl) (by kernel_rfl) (fun _ _ _ h => h) (Or.inl ⟨by rfl, fun W hW => exec_sliceTo _ 22 89 10 (.tmp 98) (.tmp 105) rfl _ _ _ m rfl rfl Tryz.underlying22 h89 HMQ.out⟩) hS ?_
          try simp only [List.setIfInBounds_toArray, List.set_cons_zero, List.set_cons_succ]
          refine take_atK (i := 13) 107 (.pointer (some ⟨g, 0, none⟩)) [14, 15] rfl rfl (by kernel_rfl) (by decide) (by decide) (by kernel_rfl) (by kernel_rfl) (by kernel_rfl) (by kernel_rfl) (fun _ _ _ h => h) (Or.inl ⟨by rfl, fun W hW => by go_simp⟩) hS ?_
          try simp only [List.setIfInBounds_toArray, List.set_cons_zero, List.set_cons_succ]
          refine take_atK (i := 14) 108 (.pointer (some ⟨g, 0, none⟩)) [15] rfl rfl (by kernel_rfl) (by decide) (by decide) (by kernel_rfl) (by kernel_rfl) (by kernel_rfl) (by kernel_rfl) (fun _ _ _ h => h) (Or.inl ⟨by rfl, fun W hW => by go_simp⟩) hS ?_
          try simp only [List.setIfInBounds_toArray, List.set_cons_zero, List.set_cons_succ]
          refine storeK (by kernel_rfl) (by decide) rfl rfl (fun K hK => ?_)
          have y0 := hS.1
          have z0 : w5.frozen? ⟨g, 0, none⟩ = false := blk_frozen (blk_below (blk_drew HB9.out) hd5.below) 0
          go_simp
          refine hK.out _ _ ?_
          clear hK K
          have hS : True := trivial
          try simp only [Act.put, List.getElem_toArray, List.getElem_cons_succ, List.getElem_cons_zero, List.setIfInBounds_toArray, List.set_cons_zero, List.set_cons_succ]
          refine wpAnyH_done (by kernel_rfl) ?_ _
          refine NoPanic.normal ?_
          have hbw5 : Below wr.heap.size wr w5 := (below_drew1 (Below.refl _ _)).trans hd5.below
          have hQ6 : Kd.N k89 89 (w5.setCell ⟨g, 0, none⟩ (.slice QA m qc)) b (fun q => q ≠ g ∧ off5 b q) (.slice QA m qc) ((zeroAll free pg).take m) := Kd.N_far (Kd.N_take (Kd.N_below HQ5.out hbw5) (by rw [zeroAll_length]; omega)) (p := ⟨g, 0, none⟩) (fun k hk => hk.1) _
          have hA6 : AccX (off5 b) (w5.setCell ⟨g, 0, none⟩ (.slice QA m qc)) g (.slice QA m qc) l2 := (HA.out.below hbw5).pages (by cases QA <;> rfl)
          have hT6 : Turned g wr (w5.setCell ⟨g, 0, none⟩ (.slice QA m qc)) := (Turned.of_below hbw5 HA.out.lt).set 0 _
          have u0 : (w5.setCell ⟨g, 0, none⟩ (.slice QA m qc)).cell? ⟨g, 0, none⟩ = some (.slice QA m qc) := World.cell?_setCell_same _ _ _ y0
          obtain ⟨W6, hW6⟩ : ∃ W6, w5.setCell ⟨g, 0, none⟩ (.slice QA m qc) = W6 := ⟨_, rfl⟩
          rw [hW6] at hQ6 hA6 hT6 u0 ⊢
          have HK6 := Lib.hid (keep_any l2 g (.slice QA m qc) m W6.drew (off5 b) (fun q hq => .inr (by have h1 : W6.heap.size ≤ q := hq; have h2 := hT6.size; have h3 := HS.out; omega)) (hA6.below (below_drew1 (Below.refl _ _))) hfl2 (fun q hq => by have h1 := hQlg q (by have e : (Value.slice QA m qc).ownBlock = (Value.slice QA pg.length qc).ownBlock := (by cases QA <;> rfl); rw [← e]; exact hq); have h2 := hT6.size; have h3 := HS.out; show q < W6.heap.size; omega) HSL.out)
          have HQ6 := Aside0.mk hQ6
          have HT6 := Aside0.mk hT6
          clear hW6 hQ6 hA6 hT6 hbw5 hd5 y0 z0 v0 v1 hS
          go_upto_region 16 with (fail)
          refine wp_region_noPanic ?_
          refine wp_region_keptK (S := fun W => W.cell? ⟨g, 0, none⟩ = some (.slice QA m qc)) 8 (by kernel_rfl) (u0) (fun hS => ?_)
          simp only [List.size_toArray, List.length_cons, List.length_nil, Nat.reduceAdd, Array.replicate_succ, Array.replicate_zero, List.push_toArray, List.nil_append, List.cons_append]
          refine take_atK (i := 0) 109 (.pointer (some ⟨g, 0, none⟩)) [1, 2, 8] rfl rfl (by kernel_rfl) (by decide) (by decide) (by kernel_rfl) (by kernel_rfl) (by kernel_rfl) (by kernel_rfl) (fun _ _ _ h => h) (Or.inl ⟨by rfl, fun W hW => by go_simp⟩) hS ?_
          try simp only [List.setIfInBounds_toArray, List.set_cons_zero, List.set_cons_succ]
          refine take_atK (i := 1) 110 (.pointer (some ⟨g, 0, none⟩)) [2, 8] rfl rfl (by kernel_rfl) (by decide) (by decide) (by kernel_rfl) (by kernel_rfl) (by kernel_rfl) (by kernel_rfl) (fun _ _ _ h => h) (Or.inl ⟨by rfl, fun W hW => by go_simp⟩) hS ?_
          try simp only [List.setIfInBounds_toArray, List.set_cons_zero, List.set_cons_succ]
          refine take_atK (i := 2) 111 (.pointer (some ⟨g, 1, none⟩)) [8] rfl rfl (by kernel_rfl) (by decide) (by decide) (by kernel_rfl) (by kernel_rfl) (by kernel_rfl) (by kernel_rfl) (fun _ _ _ h => h) (Or.inl ⟨by rfl, fun W hW => by go_simp⟩) hS ?_
          try simp only [List.setIfInBounds_toArray, List.set_cons_zero, List.set_cons_succ]
          refine take_atK (i := 3) 112 (.pointer (some ⟨g, 0, none⟩)) [4, 5, 6, 7, 8] rfl rfl (by kernel_rfl) (by decide) (by decide) (by kernel_rfl) (by kernel_rfl) (by kernel_rfl) (by kernel_rfl) (fun _ _ _ h => h) (Or.inl ⟨by rfl, fun W hW => by go_simp⟩) hS ?_
          try simp only [List.setIfInBounds_toArray, List.set_cons_zero, List.set_cons_succ]
          refine take_atK (i := 4) 113 (.pointer (some ⟨g, 0, none⟩)) [5, 6, 7, 8] rfl rfl (by kernel_rfl) (by decide) (by decide) (by kernel_rfl) (by kernel_rfl) (by kernel_rfl) (by kernel_rfl) (fun _ _ _ h => h) (Or.inl ⟨by rfl, fun W hW => by go_simp⟩) hS ?_
          try simp only [List.setIfInBounds_toArray, List.set_cons_zero, List.set_cons_succ]
          refine take_atK (i := 5) 114 (.pointer (some ⟨g, 0, none⟩)) [6, 7, 8] rfl rfl (by kernel_rfl) (by decide) (by decide) (by kernel_rfl) (by kernel_rfl) (by kernel_rfl) (by kernel_rfl) (fun _ _ _ h => h) (Or.inl ⟨by rfl, fun W hW => by go_simp⟩) hS ?_
          try simp only [List.setIfInBounds_toArray, List.set_cons_zero, List.set_cons_succ]
          refine take_atK (i := 6) 115 (.slice QA m qc) [7, 8] rfl rfl (by kernel_rfl) (by decide) (by decide) (by kernel_rfl) (by kernel_rfl) (by kernel_rfl) (by kernel_rfl) (fun _ _ _ h => h) (Or.inl ⟨by rfl, fun W hW => by have h0 := hW; go_simp⟩) hS ?_
          try simp only [List.setIfInBounds_toArray, List.set_cons_zero, List.set_cons_succ]
          refine take_atK (i := 7) 116 (.int .i64 (m : Int)) [8] rfl rfl (by kernel_rfl) (by decide) (by decide) (by kernel_rfl) (by kernel_rfl) (by kernel_rfl) (by kernel_rfl) (fun _ _ _ h => h) (Or.inl ⟨by rfl, fun W hW => by go_simp⟩) hS ?_
          try simp only [List.setIfInBounds_toArray, List.set_cons_zero, List.set_cons_succ]
          refine storeK (by kernel_rfl) (by decide) rfl rfl (fun K hK => ?_)
          go_simp
          refine HK6.out.mono ?_
          rintro e w7 ⟨rfl, ha7, ht7⟩
          refine hK.out _ _ ?_
          clear hK K
          have hS : True := trivial
          try simp only [Act.put, List.getElem_toArray, List.getElem_cons_succ, List.getElem_cons_zero, List.setIfInBounds_toArray, List.set_cons_zero, List.set_cons_succ]
          refine wpAnyH_done (by kernel_rfl) ?_ _
          refine NoPanic.normal ?_
          go_wp2
          go_meet
          case rel =>
            have ht7' : Turned g wr w7 := HT6.out.trans ((Turned.of_below (below_drew1 (Below.refl _ W6)) (by have := HT6.out.size; have := HS.out; omega)).trans ht7)
            refine ⟨.slice QA m qc, ht7.N (fun k hk => hk.1) (Kd.N_drew HQ6.out), ?_, HE.out.turned ht7' hbg5, HB.out.trans (ht7'.below.mono (by omega)), Nat.le_trans HS.out ht7'.size, fun q hq => hqb q (by have e : (Value.slice QA m qc).ownBlock = (Value.slice QA pg.length qc).ownBlock := (by cases QA <;> rfl); rw [← e]; exact hq)⟩
            rw [if_pos trivial]
            exact ha7
      case rest =>
        have hti := HTI.out.1
        have hx7 := HX7.out
        have hx0 := HX0.out
        unfold endN3 endL3 endL2 at hti hx7 hx0
        unfold endP3 endN3 endL2 at hx0
        rw [HLL.out, HM.out, Int.toNat_natCast] at hti hx7
        rw [HLL.out, HM.out, Int.toNat_natCast] at hx0
        simp only [if_true] at hx0
        obtain ⟨pg3, hpg3⟩ : ∃ x, (if shrink then (zeroAll free pg).take m else zeroAll free pg) = x := ⟨_, rfl⟩
        obtain ⟨l3, hl3⟩ : ∃ x, (if shrink then keepAll m l2 else l2) = x := ⟨_, rfl⟩
        have hlen3 : (if shrink then m else pg.length) = pg3.length := by rw [← hpg3]; cases shrink <;> simp [zeroAll_length]; omega
        have hn3 : pg3.length ≤ 4096 := by rw [← hlen3]; cases shrink <;> simp <;> omega
        rw [hpg3, hl3] at hcut
        rw [hl3, hlen3] at hti hx7 hx0
        rw [hpg3] at hx0
        rw [HKK.out] at hx7 hx0
        obtain ⟨r, hr⟩ : ∃ r, takeRun K l3 pg3.length [] = r := ⟨_, rfl⟩
        rw [hr] at hx7 hx0
        rw [HR0.out] at hx7 hx0
        have HX7' := Aside0.mk hx7
        have HX0' := Aside0.mk hx0
        have HTI' := Aside0.mk hti
        have hrk : roundsL l3 pg3.length < K := by have h := rounds_le (n := pg3.length) hti.1; have h' := HKK.out; omega
        have HRK := Aside0.mk hrk
        have HRR := Aside0.mk hr
        clear hx7 hx0 hti hrk hr HX7 HX0 HTI
        have HCUT := Aside0.mk (hcut.x (X' := offT b (.slice none 0 0)) (fun k hk _ => ⟨by simp [offV, Value.ownBlock], hk⟩))
        have HN3 := Aside0.mk hn3
        clear hpg3 hl3 hlen3 hn3 hcut hm HV1 HI1 HI2 HCP HE0 HB0 HS0 HBb HEb HSb HBc HEc HSc HBd HEd HSd HBe HEe HQ HBf HEf HSf hsg hSb HPUT1 HWV HL1 hSb1 HPUT2 HV4
        go_upto_region 18 with (fail)
        go_loopg [14] K (fun k t wr => ∃ (l : List S64) (n : Nat) (own' : List Int), Aside0 (takeRun k l n own' = r) ∧ Aside0 (roundsL l n < k) ∧ Aside0 (TI n l own') ∧ Aside0 ((Kd.int .i64).R 3 wr (b + 5) (fun q => q ≠ g) t own') ∧ Aside0 (EndM w b g #[.slice PA pg.length pc, .slice FA free.length fc, .slice RA rn rc, .slice GA gone.length gc, .int .i64 ver, .int .i64 tree] (pg3 ++ List.replicate (n - pg3.length) z89) l (offT b t) wr) ∧ Aside0 (pg3.length ≤ n ∧ n ≤ 4096 ∧ own'.length + k ≤ K))
        case atStart => exact ⟨l3, pg3.length, [], HRR, HRK, HTI', ⟨Kd.R_nil _ _ _ _ _⟩, ⟨by rw [Nat.sub_self, List.replicate_zero, List.append_nil]; exact HCUT.out⟩, ⟨Nat.le_refl _, HN3.out, by simp⟩⟩
        case round =>
          clear HRR HRK HTI' HCUT
          obtain ⟨l, n, own', HRU, HRK, HTI, HR, HEM, HBD⟩ := hrel
          have HF := Aside0.mk HTI.out.1
          have HSM := Aside0.mk HTI.out.2.1
          obtain ⟨j, rfl⟩ := pos_succ HRK.out
          obtain ⟨TA, tc, rfl⟩ := Kd.R_slice HR.out
          obtain ⟨A9, c9, v1, HNE⟩ : ∃ A9 c9, wr.cell? ⟨g, 1, none⟩ = some (.slice A9 l.length c9) ∧ Aside0 (Calls Tryz.prog 33 #[.slice A9 l.length c9] wr fun e w' => e = .returned (.tuple #[.int .i64 (partsOf l).length, .int .i64 0]) ∧ Below wr.heap.size wr w') := by
            obtain ⟨P, hN, ⟨A9, c9, hb9, hc9, hF9⟩, _⟩ := HEM.out
            exact ⟨A9, c9, (blk_cell hb9 1).trans rfl, ⟨needs_yes l A9 c9 wr (Kd.F_now hF9) hc9 HSM.out HF.out⟩⟩
          by_cases hdn : (partsOf l).length ≤ own'.length
          · obtain ⟨l4, m4, own, rfl, rfl, rfl⟩ : ∃ l4 m4 own, l4 = l ∧ m4 = n ∧ own = own' := ⟨_, _, _, rfl, rfl, rfl⟩
            have hx := HX0'.out l4 m4 own (by rw [← HRU.out]; exact takeRun_done hdn)
            obtain ⟨PF, hPF⟩ : ∃ x, layAll (listPg l4 own ver) (pg3 ++ List.replicate (m4 - pg3.length) z89) = x := ⟨_, rfl⟩
            obtain ⟨hd, hhd⟩ : ∃ x, own.headD 0 = x := ⟨_, rfl⟩
            rw [hPF, hhd] at hx
            subst hx
            have HPF := Lib.hid hPF
            have HHD := Lib.hid hhd
            have HNUM := Aside0.mk (TI_num HTI.out (show 0 ≤ ver ∧ ver ≤ 1099511627776 by omega))
            have HIDX := Aside0.mk (TI_idx (ver := ver) HTI.out)
            clear hPF hhd HX0' HX7' HRK
            have hpg := pages_grow (pg := pg3) HBD.out.1 (Nat.le_refl m4)
            obtain ⟨pg4, hpg4⟩ : ∃ x, pg3 ++ List.replicate (m4 - pg3.length) z89 = x := ⟨_, rfl⟩
            rw [hpg4] at HEM hpg
            have hl4 : pg4.length = m4 := hpg.1
            have HPG4 := Lib.hid hpg4
            have HL4 := Lib.hid hl4
            have HD := Aside0.mk hdn
            have HSML := Aside0.mk HSM.out
            clear hpg hpg4 hl4
            go_upto_region 22 with (first
              | (go_at_call 33; (refine HNE.out.mono ?_); rintro e w8 ⟨rfl, hb8⟩)
              | (go_at_call 53; refine (must_ok _).mono ?_; rintro e w' ⟨rfl, rfl⟩))
            have HEM8 := Aside0.mk (HEM.out.below (by omega) hb8)
            have HR8 := Aside0.mk (Kd.R_below HR.out hb8)
            have HE8 : Aside0 (EndC w8 b #[.slice PA pg.length pc, .slice FA free.length fc, .slice RA rn rc, .slice GA gone.length gc, .int .i64 ver, .int .i64 tree]) := ⟨by obtain ⟨_, _, _, h9, _⟩ := HEM8.out; exact h9⟩
            have v4 : w8.cell? ⟨b, 4, none⟩ = some (.int .i64 ver) := HE8.out.cells.2.2.2.1
            clear v1
            obtain ⟨A9, c9, v1, HLP⟩ : ∃ A9 c9, w8.cell? ⟨g, 1, none⟩ = some (.slice A9 l4.length c9) ∧ Aside0 (Calls Tryz.prog 55 #[.slice A9 l4.length c9, .slice TA own.length tc, .int .i64 ver] w8.drew fun e w' => ∃ u, e = .returned (.tuple #[u, .int .i64 0]) ∧ Kd.N k89 89 w' w8.drew.heap.size (fun q => w8.drew.heap.size ≤ q) u (listPg l4 own ver) ∧ Below w8.drew.heap.size w8.drew w') := by
              obtain ⟨P, hN, ⟨A9, c9, hb9, hc9, hF9⟩, _⟩ := HEM8.out
              obtain ⟨_, hcb, hCT⟩ := Kd.R_reads' HR8.out
              exact ⟨A9, c9, (blk_cell hb9 1).trans rfl, ⟨pages_yes l4 own ver A9 TA c9 tc w8.drew (Kd.C_below (Kd.F_now hF9) (below_drew1 (Below.refl _ _))) hc9 HSM.out HF.out (Kd.C_below hCT (below_drew1 (Below.refl _ _))) hcb (by have h1 := HBD.out; have h2 := HKK.out; omega) HD.out HNUM.out⟩⟩
            have hidx := HIDX.out
            obtain ⟨ps, hps⟩ : ∃ ps, listPg l4 own ver = ps := ⟨_, rfl⟩
            rw [hps] at HLP hidx
            have HPS := Lib.hid hps
            have HIX := Aside0.mk hidx
            clear hidx hps hdn HNE hb8
            refine wp_region_noPanic ?_
            refine wp_region_held_drew (S := fun W => W.cell? ⟨g, 1, none⟩ = some (.slice A9 l4.length c9) ∧ W.cell? ⟨b, 4, none⟩ = some (.int .i64 ver)) (by kernel_rfl) (⟨v1, v4⟩) (fun hS => ?_)
            simp only [List.size_toArray, List.length_cons, List.length_nil, Nat.reduceAdd, Array.replicate_succ, Array.replicate_zero, List.push_toArray, List.nil_append, List.cons_append]
            refine take_at (i := 0) 139 (.pointer (some ⟨g, 0, none⟩)) rfl rfl (by kernel_rfl) (by kernel_rfl) (by kernel_rfl) (fun _ _ _ h => h) (Or.inl ⟨by rfl, fun W hW => by go_simp⟩) hS ?_
            try simp only [List.setIfInBounds_toArray, List.set_cons_zero, List.set_cons_succ]
            refine take_at (i := 1) 140 (.pointer (some ⟨g, 0, none⟩)) rfl rfl (by kernel_rfl) (by kernel_rfl) (by kernel_rfl) (fun _ _ _ h => h) (Or.inl ⟨by rfl, fun W hW => by go_simp⟩) hS ?_
            try simp only [List.setIfInBounds_toArray, List.set_cons_zero, List.set_cons_succ]
            refine take_at (i := 2) 141 (.pointer (some ⟨g, 1, none⟩)) rfl rfl (by kernel_rfl) (by kernel_rfl) (by kernel_rfl) (fun _ _ _ h => h) (Or.inl ⟨by rfl, fun W hW => by go_simp⟩) hS ?_
            try simp only [List.setIfInBounds_toArray, List.set_cons_zero, List.set_cons_succ]
            refine take_at (i := 3) 142 (.pointer (some ⟨g, 1, none⟩)) rfl rfl (by kernel_rfl) (by kernel_rfl) (by kernel_rfl) (fun _ _ _ h => h) (Or.inl ⟨by rfl, fun W hW => by go_simp⟩) hS ?_
            try simp only [List.setIfInBounds_toArray, List.set_cons_zero, List.set_cons_succ]
            refine take_at (i := 4) 143 (.slice A9 l4.length c9) rfl rfl (by kernel_rfl) (by kernel_rfl) (by kernel_rfl) (fun _ _ _ h => h) (Or.inl ⟨by rfl, fun W hW => by have h0 := hW.1; go_simp⟩) hS ?_
            try simp only [List.setIfInBounds_toArray, List.set_cons_zero, List.set_cons_succ]
            refine take_at (i := 5) 144 (.slice TA own.length tc) rfl rfl (by kernel_rfl) (by kernel_rfl) (by kernel_rfl) (fun _ _ _ h => h) (Or.inl ⟨by rfl, fun W hW => by go_simp⟩) hS ?_
            try simp only [List.setIfInBounds_toArray, List.set_cons_zero, List.set_cons_succ]
            refine take_at (i := 6) 145 (.pointer (some ⟨b, 4, none⟩)) rfl rfl (by kernel_rfl) (by kernel_rfl) (by kernel_rfl) (fun _ _ _ h => h) (Or.inl ⟨by rfl, fun W hW => by go_simp⟩) hS ?_
            try simp only [List.setIfInBounds_toArray, List.set_cons_zero, List.set_cons_succ]
            refine take_at (i := 7) 146 (.int .i64 ver) rfl rfl (by kernel_rfl) (by kernel_rfl) (by kernel_rfl) (fun _ _ _ h => h) (Or.inl ⟨by rfl, fun W hW => by have h0 := hW.2; go_simp⟩) hS ?_
            try simp only [List.setIfInBounds_toArray, List.set_cons_zero, List.set_cons_succ]
            refine wpAnyH_ready (rs := [8]) (by kernel_rfl) (by simp) ?_
            refine AllReadyH.cons rfl (fun K hK => ?_) AllReadyH.nil
            go_simp
            refine HLP.out.mono ?_
            rintro e w10 ⟨u, rfl, hu, hb10⟩
            obtain ⟨UA, uc, rfl⟩ := Kd.N_slice hu
            have HU := Aside0.mk hu
            have HB10 := Aside0.mk ((below_drew1 (Below.refl _ w8)).trans hb10)
            clear hu
            refine hK.out _ _ (⟨cellB hb10 (Nat.le_refl _) hS.1, cellB hb10 (Nat.le_refl _) hS.2⟩) (fun hS => ?_)
            clear hK K
            try simp only [Act.put, List.getElem_toArray, List.getElem_cons_succ, List.getElem_cons_zero, List.setIfInBounds_toArray, List.set_cons_zero, List.set_cons_succ]
            refine take_at (i := 9) 138 (.tuple #[.slice UA ps.length uc, .int .i64 0]) rfl rfl (by kernel_rfl) (by kernel_rfl) (by kernel_rfl) (fun _ _ _ h => h) (Or.inl ⟨by rfl, fun W hW => by go_simp⟩) hS ?_
            try simp only [List.setIfInBounds_toArray, List.set_cons_zero, List.set_cons_succ]
            refine take_at (i := 10) 148 (.slice UA ps.length uc) rfl rfl (by kernel_rfl) (by kernel_rfl) (by kernel_rfl) (fun _ _ _ h => h) (Or.inl ⟨by rfl, fun W hW => by go_simp⟩) hS ?_
            try simp only [List.setIfInBounds_toArray, List.set_cons_zero, List.set_cons_succ]
            refine take_at (i := 11) 149 (.int .i64 0) rfl rfl (by kernel_rfl) (by kernel_rfl) (by kernel_rfl) (fun _ _ _ h => h) (Or.inl ⟨by rfl, fun W hW => by go_simp⟩) hS ?_
            try simp only [List.setIfInBounds_toArray, List.set_cons_zero, List.set_cons_succ]
            refine take_at (i := 12) 17 (.slice UA ps.length uc) rfl rfl (by kernel_rfl) (by kernel_rfl) (by kernel_rfl) (fun _ _ _ h => h) (Or.inl ⟨by rfl, fun W hW => by go_simp⟩) hS ?_
            try simp only [List.setIfInBounds_toArray, List.set_cons_zero, List.set_cons_succ]
            refine wpAnyH_ready (rs := [13]) (by kernel_rfl) (by simp) ?_
            refine AllReadyH.cons rfl (fun K hK => ?_) AllReadyH.nil
            have he10 := blk_below HE8.out.2.2.2.2 HB10.out
            have HSM := Aside0.mk (below_same he10)
            have q0 : w10.cell? ⟨b + 1 + 1 + 1 + 1, 0, none⟩ = some (.int .i64 0) := (blk_cell he10 0).trans rfl
            have q1 : w10.frozen? ⟨b + 1 + 1 + 1 + 1, 0, none⟩ = false := blk_frozen he10 0
            go_simp
            refine hK.out _ _ (⟨cellB HSM.out (Nat.le_refl _) hS.1, cellB HSM.out (Nat.le_refl _) hS.2⟩) (fun hS => ?_)
            clear hK K
            try simp only [Act.put, List.getElem_toArray, List.getElem_cons_succ, List.getElem_cons_zero, List.setIfInBounds_toArray, List.set_cons_zero, List.set_cons_succ]
            refine wpAnyH_done (by kernel_rfl) ?_ _
            refine NoPanic.normal ?_
            obtain ⟨P, hN8, hA8, hE8', hB8, hS8, hq8⟩ := HEM8.out
            obtain ⟨QP, qp, rfl⟩ := Kd.N_slice hN8
            have hPlt : ∀ q, (Value.slice QP pg4.length qp).ownBlock = some q → q < w8.heap.size := Kd.N_lt hN8
            have hTlt : ∀ q, (Value.slice TA own.length tc).ownBlock = some q → q < w8.heap.size := Kd.R_lt HR8.out
            have hb811 : Below w8.heap.size w8 (w10.setCell ⟨b + 1 + 1 + 1 + 1, 0, none⟩ (.int .i64 0)) := HB10.out.trans (HSM.out.mono HB10.out.size)
            have HN11 := Aside0.mk (Kd.N_below hN8 hb811)
            have HA11 := Aside0.mk (hA8.below hb811)
            have HE11 := Aside0.mk (hE8'.below hb811)
            have HB11 := Aside0.mk (hB8.trans (hb811.mono (by omega)))
            have HS11 := Aside0.mk (show g + 1 ≤ w8.heap.size from hS8)
            have HW11 := Aside0.mk hb811
            have HPL := Aside0.mk hPlt
            have HTL := Aside0.mk hTlt
            have HQ8 := Aside0.mk hq8
            have HR11 := Aside0.mk (Kd.R_below HR8.out hb811)
            have HU11 := Aside0.mk (Kd.N_below HU.out HSM.out)
            have q2 : (w10.setCell ⟨b + 1 + 1 + 1 + 1, 0, none⟩ (.int .i64 0)).cell? ⟨b + 1 + 1 + 1 + 1, 0, none⟩ = some (.int .i64 0) := World.cell?_setCell_same _ _ _ q0
            obtain ⟨w11, hw11⟩ : ∃ w11, w10.setCell ⟨b + 1 + 1 + 1 + 1, 0, none⟩ (.int .i64 0) = w11 := ⟨_, rfl⟩
            rw [hw11] at HN11 HA11 HE11 HB11 HW11 HR11 HU11 q2 ⊢
            have hq3 : ∀ p ∈ ps, 0 ≤ p.no ∧ p.no < m4 := HIX.out
            have HQ3 := Aside0.mk hq3
            have hpsl : ps.length ≤ 1000000 := by rw [← HPS.out]; unfold listPg; rw [chTo_length, fillTo_length]; have h1 := HBD.out; have h2 := HKK.out; omega
            clear hq3 hw11 q0 q1 he10 hS v1 v4 HSM hN8 hA8 hE8' hB8 hS8 hq8 hPlt hTlt hb811 HLP hb10 HIX
            go_upto_region 25 with (first
              | (go_at_call 53; refine (must_ok _).mono ?_; rintro e w' ⟨rfl, rfl⟩))
            go_loopw [154] (fun i wr => ∃ k : Nat, k ≤ ps.length ∧ i = .int .i64 k ∧ Aside0 (Kd.N k89 89 wr b (fun q => q ≠ g ∧ offT b (.slice TA own.length tc) q) (.slice QP pg4.length qp) (layTo k ps pg4)) ∧ Aside0 (AccX (offT b (.slice TA own.length tc)) wr g (.slice QP pg4.length qp) l4) ∧ Aside0 (EndC wr b #[.slice PA pg.length pc, .slice FA free.length fc, .slice RA rn rc, .slice GA gone.length gc, .int .i64 ver, .int .i64 tree]) ∧ Aside0 (Below b w wr) ∧ Aside0 (w8.heap.size ≤ wr.heap.size) ∧ Aside0 ((Kd.int .i64).R 3 wr (b + 5) (fun q => q ≠ g) (.slice TA own.length tc) own) ∧ Aside0 (Kd.N k89 89 wr w8.drew.heap.size (fun q => w8.drew.heap.size ≤ q) (.slice UA ps.length uc) ps))
              (fun i _ => ps.length - (intOf i).toNat)
            case atStart => exact ⟨0, Nat.zero_le _, rfl, HN11, HA11, HE11, HB11, ⟨HW11.out.size⟩, HR11, HU11⟩
            case round =>
              clear HN11 HA11 HE11 HB11 HW11 HR11 HU11 HU HEM8 HR8 HE8 HEM HR
              obtain ⟨k, hk, rfl, HN, HA, HE, HB, HS, HR, HU⟩ := hrel
              by_cases hlt : k < ps.length
              · have HLT := Aside0.mk hlt
                have hx := HQ3.out ps[k] (List.getElem_mem hlt)
                have hgd : ps.getD (k : Int).toNat z89 = ps[k] := by rw [Int.toNat_natCast]; simp [hlt]
                have HZS := Lib.hid (layTo_succ k ps pg4 hlt)
                obtain ⟨x, hxx⟩ : ∃ x, ps[k] = x := ⟨_, rfl⟩
                rw [hxx] at hx hgd HZS
                have hlen : (layTo k ps pg4).length = pg4.length := layAll_length _ _
                have hm4 := HL4.out
                obtain ⟨q, qp', hve, hbq, hqs, _⟩ := Kd.N_form HN.out (by rw [hlen]; omega)
                rw [hlen] at hve
                injection hve with e1 _ e2
                subst e1 e2
                obtain ⟨ug, uc', hue, hub, hus, _⟩ := Kd.N_form HU.out (by omega)
                injection hue with e1 _ e2
                subst e1 e2
                obtain ⟨c1, hcl1, hFK1, hcc1, _⟩ := Kd.N_elem HU.out z89 (k : Int) (by omega) (by omega)
                rw [hgd] at hFK1
                obtain ⟨A1, c2, rfl, hl1, hF1⟩ := k89_openF hFK1
                have u0 := hcc1 0 _ rfl
                have u1 := hcc1 1 _ rfl
                have u2 := hcc1 2 _ rfl
                have u3 := hcc1 3 _ rfl
                have u4 := hcc1 4 _ rfl
                have u5 := hcc1 5 _ rfl
                have u6 := hcc1 6 _ rfl
                have u7 := hcc1 7 _ rfl
                have u8 := hcc1 8 _ rfl
                have u9 := hcc1 9 _ rfl
                simp only [Int.toNat_natCast, k89_sz, Nat.add_zero] at u0 u1 u2 u3 u4 u5 u6 u7 u8 u9
                go_upto_region 27 with (fail)
                have hbk := blk_new wr (.cells #[.int .i64 x.kind, .int .i64 x.no, .int .i64 x.ver, .int .i64 x.tree, .int .i64 x.level, .bool x.top, .slice x.ent.1 x.ent.2.1 x.ent.2.2, .int .i64 x.next, .string x.data, .slice A1 x.freed.length c2] 89)
                have hb1 := below_alloc1 wr (.cells #[.int .i64 x.kind, .int .i64 x.no, .int .i64 x.ver, .int .i64 x.tree, .int .i64 x.level, .bool x.top, .slice x.ent.1 x.ent.2.1 x.ent.2.2, .int .i64 x.next, .string x.data, .slice A1 x.freed.length c2] 89)
                obtain ⟨B, hBe⟩ : ∃ B, wr.heap.size = B := ⟨_, rfl⟩
                obtain ⟨W1, hW1⟩ : ∃ W1, wr.alloc (.cells #[.int .i64 x.kind, .int .i64 x.no, .int .i64 x.ver, .int .i64 x.tree, .int .i64 x.level, .bool x.top, .slice x.ent.1 x.ent.2.1 x.ent.2.2, .int .i64 x.next, .string x.data, .slice A1 x.freed.length c2] 89) = W1 := ⟨_, rfl⟩
                rw [hW1] at hbk hb1 ⊢
                have HN1 := Aside0.mk (Kd.N_below HN.out hb1)
                have HA1 := Aside0.mk (HA.out.below hb1)
                have HE1 := Aside0.mk (HE.out.below hb1)
                have HB1 := Aside0.mk (HB.out.trans (hb1.mono (by have h1 := HS.out; have h2 := HS11.out; omega)))
                have HS1 := Aside0.mk (Nat.le_trans HS.out hb1.size)
                have HR1 := Aside0.mk (Kd.R_below HR.out hb1)
                have HU1 := Aside0.mk (Kd.N_below HU.out hb1)
                have HFX : Aside0 (Kd.FK k89 W1.drew (fun y => w8.drew.heap.size ≤ y) x (cells89 x A1 c2)) := ⟨k89_mkF _ _ x hl1 (Kd.F_drew (Kd.F_below (Kd.F_mono hF1 (fun y hy => hy.1)) hb1))⟩
                rw [hBe] at hbk ⊢
                have hBk : W1.heap[B]? = some (.cells #[.int .i64 x.kind, .int .i64 x.no, .int .i64 x.ver, .int .i64 x.tree, .int .i64 x.level, .bool x.top, .slice x.ent.1 x.ent.2.1 x.ent.2.2, .int .i64 x.next, .string x.data, .slice A1 x.freed.length c2] 89 (0, 0)) := hbk
                have hqg : q ≠ g := (HN.out.1 q (by simp [Value.ownBlock])).1
                have hq8 := HPL.out q (by simp [Value.ownBlock])
                have hq5 := HQ8.out q (by simp [Value.ownBlock])
                have hqT := (HN.out.1 q (by simp [Value.ownBlock])).2.1
                have HGQ := Aside0.mk (show g ≠ q from fun e => hqg e.symm)
                have HBQ := Aside0.mk (show B ≠ q by have h1 := HS.out; omega)
                have HOK := Aside0.mk (show ∀ y, w8.drew.heap.size ≤ y → (y ≠ g ∧ offT b (.slice TA own.length tc) y) ∧ y ≠ q from fun y hy => by
                  have h1 : w8.heap.size ≤ y := hy
                  have h2 := HS11.out
                  exact ⟨⟨by omega, fun e => by have h3 := HTL.out y e.symm; omega, .inr (by omega)⟩, by omega⟩)
                have HQT := Aside0.mk hqT
                have HQ5 := Aside0.mk hq5
                have HQL := Aside0.mk hq8
                have hxl : x.no < (pg4.length : Int) := by omega
                have HX0 := Aside0.mk hx.1
                have HXL := Aside0.mk hxl
                obtain ⟨cs, hcl, hFK, hcc, hfr⟩ := Kd.N_elem HN1.out z89 x.no HX0.out HXL.out
                obtain ⟨A8, c8, rfl, _, _⟩ := k89_openF hFK
                have HCC := Aside0.mk hcc
                obtain ⟨A9, c9, hb9, hc9, hF9⟩ := HA1.out
                have y0 : W1.cell? ⟨g, 0, none⟩ = some (.slice (some ⟨q, 0, none⟩) pg4.length qp) := (blk_cell hb9 0).trans rfl
                have hx0 := HX0.out
                clear hW1 hBe hbk hb1 hqg hq8 hq5 hqT hFK hcc hfr hb9 hc9 hF9 u0 u1 u2 u3 u4 u5 u6 u7 u8 u9 hFK1 hcc1 hl1 hF1 hxx hgd hx hm4 hlen
                refine wp_region_noPanic ?_
                refine wp_region_held_drew (S := fun W => W.cell? ⟨g, 0, none⟩ = some (.slice (some ⟨q, 0, none⟩) pg4.length qp) ∧ W.heap[B]? = some (.cells #[.int .i64 x.kind, .int .i64 x.no, .int .i64 x.ver, .int .i64 x.tree, .int .i64 x.level, .bool x.top, .slice x.ent.1 x.ent.2.1 x.ent.2.2, .int .i64 x.next, .string x.data, .slice A1 x.freed.length c2] 89 (0, 0))) (by kernel_rfl) (⟨y0, hBk⟩) (fun hS => ?_)
                simp only [List.size_toArray, List.length_cons, List.length_nil, Nat.reduceAdd, Array.replicate_succ, Array.replicate_zero, List.push_toArray, List.nil_append, List.cons_append]
                refine take_at (i := 0) 158 (.pointer (some ⟨g, 0, none⟩)) rfl rfl (by kernel_rfl) (by kernel_rfl) (by kernel_rfl) (fun _ _ _ h => h) (Or.inl ⟨by rfl, fun W hW => by go_simp⟩) hS ?_
                try simp only [List.setIfInBounds_toArray, List.set_cons_zero, List.set_cons_succ]
                refine take_at (i := 1) 159 (.pointer (some ⟨g, 0, none⟩)) rfl rfl (by kernel_rfl) (by kernel_rfl) (by kernel_rfl) (fun _ _ _ h => h) (Or.inl ⟨by rfl, fun W hW => by go_simp⟩) hS ?_
                try simp only [List.setIfInBounds_toArray, List.set_cons_zero, List.set_cons_succ]
                refine take_at (i := 2) 160 (.pointer (some ⟨g, 0, none⟩)) rfl rfl (by kernel_rfl) (by kernel_rfl) (by kernel_rfl) (fun _ _ _ h => h) (Or.inl ⟨by rfl, fun W hW => by go_simp⟩) hS ?_
                try simp only [List.setIfInBounds_toArray, List.set_cons_zero, List.set_cons_succ]
                refine take_at (i := 3) 161 (.slice (some ⟨q, 0, none⟩) pg4.length qp) rfl rfl (by kernel_rfl) (by kernel_rfl) (by kernel_rfl) (fun _ _ _ h => h) (Or.inl ⟨by rfl, fun W hW => by have h0 := hW.1; go_simp⟩) hS ?_
                try simp only [List.setIfInBounds_toArray, List.set_cons_zero, List.set_cons_succ]
                refine take_at (i := 4) 162 (.pointer (some ⟨B, 1, none⟩)) rfl rfl (by kernel_rfl) (by kernel_rfl) (by kernel_rfl) (fun _ _ _ h => h) (Or.inl ⟨by rfl, fun W hW => by go_simp⟩) hS ?_
                try simp only [List.setIfInBounds_toArray, List.set_cons_zero, List.set_cons_succ]
                refine take_at (i := 5) 163 (.int .i64 x.no) rfl rfl (by kernel_rfl) (by kernel_rfl) (by kernel_rfl) (fun _ _ _ h => h) (Or.inl ⟨by rfl, fun W hW => by have h0 : W.cell? ⟨B, 1, none⟩ = some (.int .i64 x.no) := (blk_cell hW.2 1).trans rfl; go_simp⟩) hS ?_
                try simp only [List.setIfInBounds_toArray, List.set_cons_zero, List.set_cons_succ]
                refine take_at (i := 6) 164 (.agg #[.int .i64 x.kind, .int .i64 x.no, .int .i64 x.ver, .int .i64 x.tree, .int .i64 x.level, .bool x.top, .slice x.ent.1 x.ent.2.1 x.ent.2.2, .int .i64 x.next, .string x.data, .slice A1 x.freed.length c2]) rfl rfl (by kernel_rfl) (by kernel_rfl) (by kernel_rfl) (fun _ _ _ h => h) (Or.inl ⟨by rfl, fun W hW => by have h0 := blk_cell hW.2 0; have h1 := blk_cell hW.2 1; have h2 := blk_cell hW.2 2; have h3 := blk_cell hW.2 3; have h4 := blk_cell hW.2 4; have h5 := blk_cell hW.2 5; have h6 := blk_cell hW.2 6; have h7 := blk_cell hW.2 7; have h8 := blk_cell hW.2 8; have h9 := blk_cell hW.2 9; go_simp⟩) hS ?_
                try simp only [List.setIfInBounds_toArray, List.set_cons_zero, List.set_cons_succ]
                refine take_at (i := 7) 165 (.pointer (some ⟨q, x.no.toNat * 10, none⟩)) rfl rfl (by kernel_rfl) (by kernel_rfl) (by kernel_rfl) (fun _ _ _ h => h) (Or.inl ⟨by rfl, fun W hW => by go_simp⟩) hS ?_
                try simp only [List.setIfInBounds_toArray, List.set_cons_zero, List.set_cons_succ]
                refine wpAnyH_ready (rs := [8]) (by kernel_rfl) (by simp) ?_
                refine AllReadyH.cons rfl (fun K hK => ?_) AllReadyH.nil
                rw [if_pos (by rfl)]
                refine N_store_o k89 (w0 := w) b rfl 89 (.tmp 165) (.tmp 164) rfl 89 x.no 0 (layTo k ps pg4) x (.agg #[.int .i64 x.kind, .int .i64 x.no, .int .i64 x.ver, .int .i64 x.tree, .int .i64 x.level, .bool x.top, .slice x.ent.1 x.ent.2.1 x.ent.2.2, .int .i64 x.next, .string x.data, .slice A1 x.freed.length c2]) [.int .i64 x.kind, .int .i64 x.no, .int .i64 x.ver, .int .i64 x.tree, .int .i64 x.level, .bool x.top, .slice x.ent.1 x.ent.2.1 x.ent.2.2, .int .i64 x.next, .string x.data, .slice A1 x.freed.length c2] (cells89 _ A8 c8) (fun y => y ≠ g ∧ offT b (.slice TA own.length tc) y) (fun y => w8.drew.heap.size ≤ y) rfl rfl rfl rfl h89 (by simp [Value.oneCell']) (Kd.N_drew HN1.out) HX0.out HXL.out hcl HCC.out (by show 0 + 10 ≤ 10; omega) (by exact HFX.out) HOK.out HB1.out.drew ?_
                intro w4 hn4 hb4 hg4
                refine hK.out _ _ (⟨cell_grown hg4 hS.1 (fun e => HGQ.out (by injection e)), blk_grown hS.2 hg4 (fun e => HBQ.out (by injection e))⟩) (fun hS => ?_)
                clear hK K
                try simp only [Act.put, List.getElem_toArray, List.getElem_cons_succ, List.getElem_cons_zero, List.setIfInBounds_toArray, List.set_cons_zero, List.set_cons_succ]
                refine wpAnyH_done (by kernel_rfl) ?_ _
                refine NoPanic.normal ?_
                have HN4 := Aside0.mk hn4
                have HB4 := Aside0.mk hb4
                have HA4 := Aside0.mk (show AccX (offT b (.slice TA own.length tc)) w4 g (.slice (some ⟨q, 0, none⟩) pg4.length qp) l4 by
                  obtain ⟨A9, c9, hb9, hc9, hF9⟩ := HA1.out
                  exact ⟨A9, c9, (hg4.block g (blk_lt hb9) (fun e => HGQ.out (by injection e))).trans hb9, hc9, Kd.F_grown (Kd.F_drew hF9) hg4 (fun y hy e => hy.1.2 (by simpa [Value.ownBlock] using e))⟩)
                have HE4 := Aside0.mk (show EndC w4 b #[.slice PA pg.length pc, .slice FA free.length fc, .slice RA rn rc, .slice GA gone.length gc, .int .i64 ver, .int .i64 tree] from HE1.out.keep fun y _ h5 hy => hg4.block y hy (fun e => by injection e with e; have := HQ5.out; omega))
                have HS4 := Aside0.mk (Nat.le_trans HS1.out hg4.size)
                have HR4 := Aside0.mk (R_off (Kd.R_drew HR1.out) (fun y h1 h2 h3 => hg4.block y h1 (fun e => h3 (by injection e with e; rw [e]; exact HQT.out))))
                have HU4 := Aside0.mk (Kd.N_grown (Kd.N_drew HU1.out) hg4 (fun y hy e => by injection e with e; have h1 : w8.heap.size ≤ y := hy; have h2 := HQL.out; omega))
                clear hn4 hb4 hg4 hS y0 hBk hcl
                go_wp2
                go_roundw
                case rel => exact ⟨k + 1, by have h1 := HLT.out; omega, by go_num, ⟨by rw [HZS.out]; exact HN4.out⟩, HA4, HE4, HB4, HS4, HR4, HU4⟩
                case measure => have h1 := HLT.out; simp [intOf]; omega
              · obtain rfl : k = ps.length := by omega
                have hN5 := HN.out
                unfold layTo at hN5
                rw [List.take_length] at hN5
                have HN5 := Aside0.mk hN5
                clear hN5 HN
                have hN5' := HN5.out
                have hT0 : EndT w b g #[.slice PA pg.length pc, .slice FA free.length fc, .slice RA rn rc, .slice GA gone.length gc, .int .i64 ver, .int .i64 tree] #[.slice none 0 0, .slice none 0 0, .slice none 0 0, .slice none 0 0, .int .i64 0, .int .i64 0] (.int .i64 0) (.slice none 0 0) (.slice QP pg4.length qp) (layAll ps pg4) l4 wr := ⟨Kd.N_mono HN5.out (fun k hk => ⟨hk.1, hk.2.2⟩), HA.out.mono (fun k hk => hk.2), HE.out.s, HB.out, by have h1 := HS.out; have h2 := HS11.out; omega, hbg5, HQ8.out⟩
                have HT0 := Aside0.mk hT0
                have y2 : wr.cell? ⟨b + 1 + 1, 0, none⟩ = some (.int .i64 0) := (blk_cell hT0.2.2.1.2.2.1 0).trans rfl
                have z2 := blk_frozen hT0.2.2.1.2.2.1 0
                clear hT0 hN5' HN5 HA HE HB HU
                go_upto_if 169 with (fail)
                go_cut [] from 167 (fun wx => EndT w b g #[.slice PA pg.length pc, .slice FA free.length fc, .slice RA rn rc, .slice GA gone.length gc, .int .i64 ver, .int .i64 tree] #[.slice none 0 0, .slice none 0 0, .slice none 0 0, .slice none 0 0, .int .i64 0, .int .i64 0] (.int .i64 hd) (.slice none 0 0) (.slice QP pg4.length qp) (layAll ps pg4) l4 wx)
                case first =>
                  by_cases h0 : 0 < own.length
                  · obtain ⟨_, _, hCT⟩ := Kd.R_reads' HR.out
                    obtain ⟨ad, had, hxc⟩ := Kd.at_int hCT 0 (by omega) (by omega)
                    subst had
                    rw [show ad.add (0 : Int).toNat = ad from addr_add0 ad, show rd own 0 = hd by rw [← HHD.out]; cases own with | nil => simp at h0 | cons p t => rfl] at hxc
                    clear hCT
                    go_wp2
                    go_meet
                    case rel => exact HT0.out.set2 _
                  · have hh0 := Lib.hid (show hd = 0 by rw [← HHD.out, List.length_eq_zero_iff.1 (show own.length = 0 by omega)]; rfl)
                    go_wp2
                    go_meet
                    case rel => rw [hh0.out]; exact HT0.out
                case rest =>
                  clear y2 z2 HT0 HR HS
                  obtain ⟨A7, c7, hb7, _, _⟩ := hcut.2.1
                  have hEL : EndL b g (.slice QP pg4.length qp) (.slice A7 l4.length c7) (.int .i64 ver) (.int .i64 tree) (.int .i64 hd) wc.drew := ⟨(blk_cell hb7 0).trans rfl, (blk_cell hb7 1).trans rfl, (blk_cell hcut.2.2.1.1 4).trans rfl, (blk_cell hcut.2.2.1.1 5).trans rfl, (blk_cell hcut.2.2.1.2.2.1 0).trans rfl⟩
                  have HT := Aside0.mk (hcut.below (below_drew1 (Below.refl _ wc)))
                  have HSL4 := Aside0.mk HSML.out
                  clear hb7 hcut
                  go_upto_region 31 with (fail)
                  go_cut [] from 173 (fun wx => ∃ LA lc, EndT w b g #[.slice PA pg.length pc, .slice FA free.length fc, .slice RA rn rc, .slice GA gone.length gc, .int .i64 ver, .int .i64 tree] #[.slice QP pg4.length qp, .slice none 0 0, .slice none 0 0, .slice none 0 0, .int .i64 ver, .int .i64 tree] (.int .i64 hd) (.slice LA l4.length lc) (.slice QP pg4.length qp) (layAll ps pg4) l4 wx ∧ EndV b (.slice LA l4.length lc) l4 wx)
                  case first =>
                    refine wp_region_noPanic ?_
                    refine wp_region_held_drew (S := EndL b g (.slice QP pg4.length qp) (.slice A7 l4.length c7) (.int .i64 ver) (.int .i64 tree) (.int .i64 hd)) (by kernel_rfl) (hEL) (fun hS => ?_)
                    simp only [List.size_toArray, List.length_cons, List.length_nil, Nat.reduceAdd, Array.replicate_succ, Array.replicate_zero, List.push_toArray, List.nil_append, List.cons_append]
                    refine take_at (i := 0) 173 (.pointer (some ⟨g, 0, none⟩)) rfl rfl (by kernel_rfl) (by kernel_rfl) (by kernel_rfl) (fun _ _ _ h => h) (Or.inl ⟨by rfl, fun W hW => by go_simp⟩) hS ?_
                    try simp only [List.setIfInBounds_toArray, List.set_cons_zero, List.set_cons_succ]
                    refine take_at (i := 1) 174 (.pointer (some ⟨g, 0, none⟩)) rfl rfl (by kernel_rfl) (by kernel_rfl) (by kernel_rfl) (fun _ _ _ h => h) (Or.inl ⟨by rfl, fun W hW => by go_simp⟩) hS ?_
                    try simp only [List.setIfInBounds_toArray, List.set_cons_zero, List.set_cons_succ]
                    refine take_at (i := 2) 175 (.pointer (some ⟨g, 0, none⟩)) rfl rfl (by kernel_rfl) (by kernel_rfl) (by kernel_rfl) (fun _ _ _ h => h) (Or.inl ⟨by rfl, fun W hW => by go_simp⟩) hS ?_
                    try simp only [List.setIfInBounds_toArray, List.set_cons_zero, List.set_cons_succ]
                    refine take_at (i := 3) 176 (.slice QP pg4.length qp) rfl rfl (by kernel_rfl) (by kernel_rfl) (by kernel_rfl) (fun _ _ _ h => h) (Or.inl ⟨by rfl, fun W hW => by have h0 := hW.1; go_simp⟩) hS ?_
                    try simp only [List.setIfInBounds_toArray, List.set_cons_zero, List.set_cons_succ]
                    refine take_at (i := 4) 177 (.pointer (some ⟨b, 4, none⟩)) rfl rfl (by kernel_rfl) (by kernel_rfl) (by kernel_rfl) (fun _ _ _ h => h) (Or.inl ⟨by rfl, fun W hW => by go_simp⟩) hS ?_
                    try simp only [List.setIfInBounds_toArray, List.set_cons_zero, List.set_cons_succ]
                    refine take_at (i := 5) 178 (.int .i64 ver) rfl rfl (by kernel_rfl) (by kernel_rfl) (by kernel_rfl) (fun _ _ _ h => h) (Or.inl ⟨by rfl, fun W hW => by have h0 := hW.2.2.1; go_simp⟩) hS ?_
                    try simp only [List.setIfInBounds_toArray, List.set_cons_zero, List.set_cons_succ]
                    refine take_at (i := 6) 179 (.pointer (some ⟨b, 5, none⟩)) rfl rfl (by kernel_rfl) (by kernel_rfl) (by kernel_rfl) (fun _ _ _ h => h) (Or.inl ⟨by rfl, fun W hW => by go_simp⟩) hS ?_
                    try simp only [List.setIfInBounds_toArray, List.set_cons_zero, List.set_cons_succ]
                    refine take_at (i := 7) 180 (.int .i64 tree) rfl rfl (by kernel_rfl) (by kernel_rfl) (by kernel_rfl) (fun _ _ _ h => h) (Or.inl ⟨by rfl, fun W hW => by have h0 := hW.2.2.2.1; go_simp⟩) hS ?_
                    try simp only [List.setIfInBounds_toArray, List.set_cons_zero, List.set_cons_succ]
                    refine take_at (i := 8) 181 (.int .i64 hd) rfl rfl (by kernel_rfl) (by kernel_rfl) (by kernel_rfl) (fun _ _ _ h => h) (Or.inl ⟨by rfl, fun W hW => by have h0 := hW.2.2.2.2; go_simp⟩) hS ?_
                    try simp only [List.setIfInBounds_toArray, List.set_cons_zero, List.set_cons_succ]
                    refine take_at (i := 9) 182 (.pointer (some ⟨g, 0, none⟩)) rfl rfl (by kernel_rfl) (by kernel_rfl) (by kernel_rfl) (fun _ _ _ h => h) (Or.inl ⟨by rfl, fun W hW => by go_simp⟩) hS ?_
                    try simp only [List.setIfInBounds_toArray, List.set_cons_zero, List.set_cons_succ]
                    refine take_at (i := 10) 183 (.pointer (some ⟨g, 0, none⟩)) rfl rfl (by kernel_rfl) (by kernel_rfl) (by kernel_rfl) (fun _ _ _ h => h) (Or.inl ⟨by rfl, fun W hW => by go_simp⟩) hS ?_
                    try simp only [List.setIfInBounds_toArray, List.set_cons_zero, List.set_cons_succ]
                    refine take_at (i := 11) 184 (.pointer (some ⟨g, 1, none⟩)) rfl rfl (by kernel_rfl) (by kernel_rfl) (by kernel_rfl) (fun _ _ _ h => h) (Or.inl ⟨by rfl, fun W hW => by go_simp⟩) hS ?_
                    try simp only [List.setIfInBounds_toArray, List.set_cons_zero, List.set_cons_succ]
                    refine take_at (i := 12) 185 (.pointer (some ⟨g, 1, none⟩)) rfl rfl (by kernel_rfl) (by kernel_rfl) (by kernel_rfl) (fun _ _ _ h => h) (Or.inl ⟨by rfl, fun W hW => by go_simp⟩) hS ?_
                    try simp only [List.setIfInBounds_toArray, List.set_cons_zero, List.set_cons_succ]
                    refine take_at (i := 13) 186 (.slice A7 l4.length c7) rfl rfl (by kernel_rfl) (by kernel_rfl) (by kernel_rfl) (fun _ _ _ h => h) (Or.inl ⟨by rfl, fun W hW => by have h0 := hW.2.1; go_simp⟩) hS ?_
                    try simp only [List.setIfInBounds_toArray, List.set_cons_zero, List.set_cons_succ]
                    refine wpAnyH_ready (rs := [14]) (by kernel_rfl) (by simp) ?_
                    refine AllReadyH.cons rfl (fun K hK => ?_) AllReadyH.nil
                    go_simp
                    refine (HT.out.merge hS.2.1 HSL4.out).mono ?_
                    rintro e w12 ⟨v12, rfl, hv12, hb12⟩
                    obtain ⟨RA7, rc7, rfl⟩ := Kd.N_slice hv12
                    refine hK.out _ _ (hS.below hb12) (fun hS => ?_)
                    clear hK K
                    have HLV : Aside0 (EndV b (.slice RA7 l4.length rc7) l4 w12) := ⟨hv12⟩
                    replace HT := Aside0.mk (HT.out.below hb12)
                    clear hv12 hb12
                    try simp only [Act.put, List.getElem_toArray, List.getElem_cons_succ, List.getElem_cons_zero, List.setIfInBounds_toArray, List.set_cons_zero, List.set_cons_succ]
                    refine wpAnyH_ready (rs := [15]) (by kernel_rfl) (by simp) ?_
                    refine AllReadyH.cons rfl (fun K hK => ?_) AllReadyH.nil
                    have hcb := HT.out.2.2.1.2.1
                    have yc0 := blk_cell hcb 0
                    have yc1 := blk_cell hcb 1
                    have yc2 := blk_cell hcb 2
                    have yc3 := blk_cell hcb 3
                    have yc4 := blk_cell hcb 4
                    have yc5 := blk_cell hcb 5
                    have zc0 := blk_frozen hcb 0
                    have zc1 := blk_frozen hcb 1
                    have zc2 := blk_frozen hcb 2
                    have zc3 := blk_frozen hcb 3
                    have zc4 := blk_frozen hcb 4
                    have zc5 := blk_frozen hcb 5
                    go_simp
                    refine hK.out _ _ (hS.below (below_same6 hcb)) (fun hS => ?_)
                    clear hK K
                    refine wp_two (HT.out.below (below_same6 hcb)) (HLV.out.below (below_same6 hcb)) hS ?_
                    clear hS
                    intro Wn ht hl hS
                    replace HT := Aside0.mk ht
                    replace HLV := Aside0.mk hl
                    clear ht hl
                    clear hcb yc0 zc0 yc1 zc1 yc2 zc2 yc3 zc3 yc4 zc4 yc5 zc5
                    try simp only [Act.put, List.getElem_toArray, List.getElem_cons_succ, List.getElem_cons_zero, List.setIfInBounds_toArray, List.set_cons_zero, List.set_cons_succ]
                    refine take_at (i := 16) 188 (.pointer (some ⟨b + 1, 0, none⟩)) rfl rfl (by kernel_rfl) (by kernel_rfl) (by kernel_rfl) (fun _ _ _ h => h) (Or.inl ⟨by rfl, fun W hW => by go_simp⟩) hS ?_
                    try simp only [List.setIfInBounds_toArray, List.set_cons_zero, List.set_cons_succ]
                    refine wpAnyH_ready (rs := [17]) (by kernel_rfl) (by simp) ?_
                    refine AllReadyH.cons rfl (fun K hK => ?_) AllReadyH.nil
                    have hcb := HT.out.2.2.1.2.1
                    have yc := blk_cell hcb 0
                    have zc := blk_frozen hcb 0
                    go_simp
                    refine hK.out _ _ (hS.far ⟨b + 1, 0, none⟩ _ (by show b + 1 ≠ g; omega) (by show b + 1 ≠ b; omega) (by show b + 1 ≠ b + 1 + 1; omega)) (fun hS => ?_)
                    clear hK K
                    refine wp_two (HT.out.set1 0 _ #[.slice QP pg4.length qp, .slice none 0 0, .slice none 0 0, .slice none 0 0, .int .i64 0, .int .i64 0] rfl) (HLV.out.far ⟨b + 1, 0, none⟩ _ (by show b + 1 < b + 5; omega)) hS ?_
                    clear hS
                    intro Wn ht hl hS
                    replace HT := Aside0.mk ht
                    replace HLV := Aside0.mk hl
                    clear ht hl
                    clear hcb yc zc
                    try simp only [Act.put, List.getElem_toArray, List.getElem_cons_succ, List.getElem_cons_zero, List.setIfInBounds_toArray, List.set_cons_zero, List.set_cons_succ]
                    refine take_at (i := 18) 189 (.pointer (some ⟨b + 1, 4, none⟩)) rfl rfl (by kernel_rfl) (by kernel_rfl) (by kernel_rfl) (fun _ _ _ h => h) (Or.inl ⟨by rfl, fun W hW => by go_simp⟩) hS ?_
                    try simp only [List.setIfInBounds_toArray, List.set_cons_zero, List.set_cons_succ]
                    refine wpAnyH_ready (rs := [19]) (by kernel_rfl) (by simp) ?_
                    refine AllReadyH.cons rfl (fun K hK => ?_) AllReadyH.nil
                    have hcb := HT.out.2.2.1.2.1
                    have yc := blk_cell hcb 4
                    have zc := blk_frozen hcb 4
                    go_simp
                    refine hK.out _ _ (hS.far ⟨b + 1, 4, none⟩ _ (by show b + 1 ≠ g; omega) (by show b + 1 ≠ b; omega) (by show b + 1 ≠ b + 1 + 1; omega)) (fun hS => ?_)
                    clear hK K
                    refine wp_two (HT.out.set1 4 _ #[.slice QP pg4.length qp, .slice none 0 0, .slice none 0 0, .slice none 0 0, .int .i64 ver, .int .i64 0] rfl) (HLV.out.far ⟨b + 1, 4, none⟩ _ (by show b + 1 < b + 5; omega)) hS ?_
                    clear hS
                    intro Wn ht hl hS
                    replace HT := Aside0.mk ht
                    replace HLV := Aside0.mk hl
                    clear ht hl
                    clear hcb yc zc
                    try simp only [Act.put, List.getElem_toArray, List.getElem_cons_succ, List.getElem_cons_zero, List.setIfInBounds_toArray, List.set_cons_zero, List.set_cons_succ]
                    refine take_at (i := 20) 190 (.pointer (some ⟨b + 1, 5, none⟩)) rfl rfl (by kernel_rfl) (by kernel_rfl) (by kernel_rfl) (fun _ _ _ h => h) (Or.inl ⟨by rfl, fun W hW => by go_simp⟩) hS ?_
                    try simp only [List.setIfInBounds_toArray, List.set_cons_zero, List.set_cons_succ]
                    refine wpAnyH_ready (rs := [21]) (by kernel_rfl) (by simp) ?_
                    refine AllReadyH.cons rfl (fun K hK => ?_) AllReadyH.nil
                    have hcb := HT.out.2.2.1.2.1
                    have yc := blk_cell hcb 5
                    have zc := blk_frozen hcb 5
                    go_simp
                    refine hK.out _ _ (hS.far ⟨b + 1, 5, none⟩ _ (by show b + 1 ≠ g; omega) (by show b + 1 ≠ b; omega) (by show b + 1 ≠ b + 1 + 1; omega)) (fun hS => ?_)
                    clear hK K
                    refine wp_two (HT.out.set1 5 _ #[.slice QP pg4.length qp, .slice none 0 0, .slice none 0 0, .slice none 0 0, .int .i64 ver, .int .i64 tree] rfl) (HLV.out.far ⟨b + 1, 5, none⟩ _ (by show b + 1 < b + 5; omega)) hS ?_
                    clear hS
                    intro Wn ht hl hS
                    replace HT := Aside0.mk ht
                    replace HLV := Aside0.mk hl
                    clear ht hl
                    clear hcb yc zc
                    try simp only [Act.put, List.getElem_toArray, List.getElem_cons_succ, List.getElem_cons_zero, List.setIfInBounds_toArray, List.set_cons_zero, List.set_cons_succ]
                    refine wpAnyH_ready (rs := [22]) (by kernel_rfl) (by simp) ?_
                    refine AllReadyH.cons rfl (fun K hK => ?_) AllReadyH.nil
                    have hcb := HT.out.2.2.1.2.2.1
                    have yc0 := blk_cell hcb 0
                    have zc0 := blk_frozen hcb 0
                    go_simp
                    refine hK.out _ _ (hS.below (below_same hcb)) (fun hS => ?_)
                    clear hK K
                    refine wp_two (HT.out.below (below_same hcb)) (HLV.out.below (below_same hcb)) hS ?_
                    clear hS
                    intro Wn ht hl hS
                    replace HT := Aside0.mk ht
                    replace HLV := Aside0.mk hl
                    clear ht hl
                    clear hcb yc0 zc0
                    try simp only [Act.put, List.getElem_toArray, List.getElem_cons_succ, List.getElem_cons_zero, List.setIfInBounds_toArray, List.set_cons_zero, List.set_cons_succ]
                    refine wpAnyH_ready (rs := [23]) (by kernel_rfl) (by simp) ?_
                    refine AllReadyH.cons rfl (fun K hK => ?_) AllReadyH.nil
                    have hcb := HT.out.2.2.1.2.2.2.1
                    have yc := blk_cell hcb 0
                    have zc := blk_frozen hcb 0
                    go_simp
                    refine hK.out _ _ (hS.far ⟨b + 1 + 1 + 1, 0, none⟩ _ (by show b + 1 + 1 + 1 ≠ g; omega) (by show b + 1 + 1 + 1 ≠ b; omega) (by show b + 1 + 1 + 1 ≠ b + 1 + 1; omega)) (fun hS => ?_)
                    clear hK K
                    refine wp_two (HT.out.set3 _) (HLV.out.far ⟨b + 1 + 1 + 1, 0, none⟩ _ (by show b + 1 + 1 + 1 < b + 5; omega)) hS ?_
                    clear hS
                    intro Wn ht hl hS
                    replace HT := Aside0.mk ht
                    replace HLV := Aside0.mk hl
                    clear ht hl
                    clear hcb yc zc
                    try simp only [Act.put, List.getElem_toArray, List.getElem_cons_succ, List.getElem_cons_zero, List.setIfInBounds_toArray, List.set_cons_zero, List.set_cons_succ]
                    refine wpAnyH_ready (rs := [24]) (by kernel_rfl) (by simp) ?_
                    refine AllReadyH.cons rfl (fun K hK => ?_) AllReadyH.nil
                    have hcb := HT.out.2.2.1.2.2.2.2
                    have yc0 := blk_cell hcb 0
                    have zc0 := blk_frozen hcb 0
                    go_simp
                    refine hK.out _ _ (hS.below (below_same hcb)) (fun hS => ?_)
                    clear hK K
                    refine wp_two (HT.out.below (below_same hcb)) (HLV.out.below (below_same hcb)) hS ?_
                    clear hS
                    intro Wn ht hl hS
                    replace HT := Aside0.mk ht
                    replace HLV := Aside0.mk hl
                    clear ht hl
                    clear hcb yc0 zc0
                    try simp only [Act.put, List.getElem_toArray, List.getElem_cons_succ, List.getElem_cons_zero, List.setIfInBounds_toArray, List.set_cons_zero, List.set_cons_succ]
                    refine wpAnyH_done (by kernel_rfl) ?_ _
                    refine NoPanic.normal ?_
                    go_wp2
                    go_meet
                    case rel => exact ⟨RA7, rc7, HT.out, HLV.out⟩
                  case rest =>
                    obtain ⟨LA, lc, hT9, hL9⟩ := hcut
                    have HT9 := Aside0.mk hT9
                    have HL9 := Aside0.mk hL9
                    clear hT9 hL9 HT hEL
                    go_wp2
                    refine leaves_cons (f := 43) (args := #[.pointer (some ⟨b + 1 + 1 + 1 + 1, 0, none⟩), .func (.func 44) #[] #[.pointer (some ⟨b + 1, 0, none⟩), .pointer (some ⟨b + 1 + 1, 0, none⟩), .pointer (some ⟨b + 1 + 1 + 1, 0, none⟩)]]) (by simp) (by simp [go_sem]) ?_
                    refine (caught_idle _ _ _ _ _).mono ?_
                    rintro e u' w2 ⟨rfl, rfl, rfl⟩
                    have k1 := HT9.out.2.2.1.2.1
                    have k2 := HT9.out.2.2.1.2.2.1
                    have k3 := HT9.out.2.2.1.2.2.2.1
                    have k4 := HT9.out.2.2.1.2.2.2.2
                    have c10 : w2.cell? ⟨b + 1, 0, none⟩ = some (.slice QP pg4.length qp) := (blk_cell k1 0).trans rfl
                    have c11 : w2.cell? ⟨b + 1, 1, none⟩ = some (.slice none 0 0) := (blk_cell k1 1).trans rfl
                    have c12 : w2.cell? ⟨b + 1, 2, none⟩ = some (.slice none 0 0) := (blk_cell k1 2).trans rfl
                    have c13 : w2.cell? ⟨b + 1, 3, none⟩ = some (.slice none 0 0) := (blk_cell k1 3).trans rfl
                    have c14 : w2.cell? ⟨b + 1, 4, none⟩ = some (.int .i64 ver) := (blk_cell k1 4).trans rfl
                    have c15 : w2.cell? ⟨b + 1, 5, none⟩ = some (.int .i64 tree) := (blk_cell k1 5).trans rfl
                    have c20 : w2.cell? ⟨b + 1 + 1, 0, none⟩ = some (.int .i64 hd) := (blk_cell k2 0).trans rfl
                    have c30 : w2.cell? ⟨b + 1 + 1 + 1, 0, none⟩ = some (.slice LA l4.length lc) := (blk_cell k3 0).trans rfl
                    have c40 : w2.cell? ⟨b + 1 + 1 + 1 + 1, 0, none⟩ = some (.int .i64 0) := (blk_cell k4 0).trans rfl
                    have HFIN : EndR w ver tree hd PF l4 (.returned (.tuple #[.agg #[.slice QP pg4.length qp, .slice none 0 0, .slice none 0 0, .slice none 0 0, .int .i64 ver, .int .i64 tree], .int .i64 hd, .slice LA l4.length lc, .int .i64 0])) w2 := by
                      refine ⟨_, LA, lc, rfl, ?_, ?_, ?_⟩
                      · rw [← HPF.out, HPG4.out, HPS.out, hb]
                        exact Kd.N_mono HT9.out.1 (fun _ _ => trivial)
                      · rw [hb]; exact Kd.N_mono HL9.out (fun _ _ => trivial)
                      · rw [hb]; exact HT9.out.2.2.2.1
                    clear k1 k2 k3 k4
                    show ∃ v, (results Tryz.f15 _).run Tryz.prog w2 = .ok v w2 ∧ EndA w ver tree (.ok (PF, hd, l4)) (.returned v) w2
                    exact ⟨_, end_results _ w2 b _ _ _ _ _ _ _ _ _ rfl rfl rfl rfl c10 c11 c12 c13 c14 c15 c20 c30 c40, HFIN⟩
          · have hln := (pages_grow (pg := pg3) HBD.out.1 (Nat.le_refl n)).1
            rcases hst : takeStep l n with _ | ⟨p, l', n'⟩
            · have hx := HX7'.out (by rw [← HRU.out]; exact takeRun_none hdn hst)
              subst hx
              have HST := Aside0.mk hst
              have HLN := Lib.hid hln
              clear hst hln
              go_upto_region 21 with (first
                | (go_at_call 33; (refine HNE.out.mono ?_); rintro e w8 ⟨rfl, hb8⟩)
                | (go_at_call 53; refine (must_ok _).mono ?_; rintro e w' ⟨rfl, rfl⟩))
              have HEM8 := Aside0.mk (HEM.out.below (by omega) hb8)
              have HT := Aside0.mk (take_none w8 HEM8.out (by rw [HLN.out]; exact HST.out) (form_fullL HF.out) (by rw [HLN.out]; have h := HBD.out; omega))
              have HFa : Aside0 (EndF b w #[.slice PA pg.length pc, .slice FA free.length fc, .slice RA rn rc, .slice GA gone.length gc, .int .i64 ver, .int .i64 tree] w8) := ⟨by obtain ⟨_, _, _, h9, h10, h11, _⟩ := HEM8.out; exact ⟨h10, h9, by omega⟩⟩
              clear v1 hb8
              go_wp2_with (go_at_call 54; (refine HT.out.mono ?_); rintro e w9 ⟨rfl, rfl⟩)
              exact end_leaves _ (by rfl) (by rfl) (by rfl) (by rfl) hb HFa.out
            have hru : takeRun j l' n' (own' ++ [p]) = r := by rw [← HRU.out]; exact (takeRun_some hdn hst).symm
            have HRK' := Aside0.mk (show roundsL l' n' < j from by have h := rounds_step HF.out HTI.out.2.2.2.1 hst; have h' := HRK.out; omega)
            have HTI' := Aside0.mk (TI_step HTI.out hst)
            clear hln HRK HTI
            have hkp := takeStep_keeps hst HF.out HSM.out
            have hpg := pages_grow (pg := pg3) HBD.out.1 hkp.2.2.1
            have HRU' := Aside0.mk hru
            have HST := Aside0.mk hst
            have HKP := Aside0.mk hkp
            have HPG := Aside0.mk hpg
            clear hst hkp hpg hru
            go_upto_region 21 with (first
              | (go_at_call 33; (refine HNE.out.mono ?_); rintro e w8 ⟨rfl, hb8⟩)
              | (go_at_call 53; refine (must_ok _).mono ?_; rintro e w' ⟨rfl, rfl⟩))
            have HR8 := Aside0.mk (Kd.R_below HR.out hb8)
            have HS8 := Aside0.mk (show b + 5 ≤ w8.heap.size by obtain ⟨_, _, _, _, _, h9, _⟩ := HEM.out; have h10 := hb8.size; omega)
            have HT := Aside0.mk (take_any w8 (HEM.out.below (by omega) hb8) hbg5 (fun q hq => ⟨fun e => by have h1 := Kd.R_lt HR8.out q e.symm; omega, .inr (by have h1 := HS8.out; omega)⟩) (by rw [HPG.out.1]; exact HST.out) (form_fullL HF.out) HSM.out)
            have hlk : ∀ q, (Value.slice TA own'.length tc).ownBlock = some q → b + 5 ≤ q ∧ q ≠ g := fun q hq => ⟨Kd.R_base HR.out q hq, HR.out.1 q hq⟩
            have HLK := Aside0.mk hlk
            clear hlk v1
            go_wp2_with (first
              | (go_at_call 54; (refine HT.out.mono ?_); rintro e w9 ⟨rfl, hm9, hk9, hs9⟩; rw [HPG.out.1, HPG.out.2] at hm9; have HM9 := Aside0.mk hm9; have HR9 := Aside0.mk (R_off HR8.out (fun k h1 h2 h3 => hk9 k h1 h2 (fun hx => h3 hx.1))); have HS9 := Aside0.mk (show b + 5 ≤ w9.heap.size by (obtain ⟨_, _, _, _, _, h9, _⟩ := hm9; omega)); have HG9 := Aside0.mk (show g < w9.heap.size by (obtain ⟨_, _, _, _, _, h9, _⟩ := hm9; omega)); clear hm9 hk9 hs9)
              | (at_builtin; refine Kd.R_append (Kd.int .i64) (w0 := w9) (b + 5) rfl (.tmp 133) (.tmp 136) 23 3 (.int .i64 0) 8 rfl Tryz.underlying23 info3 rfl (by decide) (by omega) (.slice TA own'.length tc) own' p [.int .i64 p] (fun q => q ≠ g) (fun _ => False) rfl rfl rfl (fun _ hk => hk.elim) (fun q hq e => by have h1 := HG9.out; omega) HR9.out (Below.refl _ _) HS9.out (by have h1 := HBD.out; have h2 := HKK.out; omega) ?_; intro v2 w3 hr3 hb3 hg3 hat3))
            have HM3 := Aside0.mk (HM9.out.grown hbg5 HLK.out hg3 hat3 hb3)
            have HR3 := Aside0.mk hr3
            clear hr3 hb3 hg3 hat3
            go_roundg j
            case measure => omega
            case rel => exact ⟨l', n', own' ++ [p], HRU', HRK', HTI', HR3, HM3, ⟨by have h1 := HBD.out; have h2 := HKP.out; omega, by have h1 := HBD.out; have h2 := HKP.out; omega, by have h1 := HBD.out; simp; omega⟩⟩
theorem run_form {k : Nat} : ∀ {n m : Nat} {l l4 : List S64} {own own4 : List Int}, formP 4096 l → smallL l → takeRun k l n own = some (l4, m, own4) →
    ∃ olds news : List Int, own4 = own ++ (olds ++ news) ∧ first0 l = olds ++ first0 l4 ∧ (news.Pairwise (· < ·) ∧ ∀ x ∈ news, (n : Int) ≤ x) ∧ (olds = [] → l4 = l) ∧ (olds ≠ [] → ∃ t, l = ⟨0, olds ++ first0 l4⟩ :: t ∧ l4 = restL (first0 l4) t) ∧ own4.length ≤ max own.length (partsOf l).length := by
  induction k with
  | zero => intro n m l l4 own own4 _ _ h; simp [takeRun] at h
  | succ k ih =>
    intro n m l l4 own own4 hf hs h
    rw [takeRun] at h
    split at h
    · next hd =>
      obtain ⟨rfl, rfl, rfl⟩ : l = l4 ∧ n = m ∧ own = own4 := by simpa using h
      exact ⟨[], [], by simp, by simp, ⟨List.Pairwise.nil, fun x hx => by cases hx⟩, fun _ => rfl, fun e => absurd rfl e, by omega⟩
    · next hd =>
      split at h
      · next p l' n' he =>
        have hk := takeStep_keeps he hf hs
        obtain ⟨olds, news, e1, e2, e3, e4, e5, e6⟩ := ih hk.1 hk.2.1 h
        rw [List.length_append, List.length_singleton] at e6
        rcases takeStep_cases he with ⟨q, qs, t, rfl, rfl, rfl, rfl⟩ | ⟨h0, hm, rfl, rfl, rfl⟩
        · have hq : first0 (restL qs t) = qs := first0_rest hf qs
          rw [hq] at e2
          refine ⟨p :: olds, news, by rw [e1]; simp, by rw [first0_yes rfl, e2]; rfl, e3, fun e => by simp at e, fun _ => ⟨t, by rw [e2]; rfl, ?_⟩, ?_⟩
          · by_cases ho : olds = []
            · rw [e4 ho, hq]
            · obtain ⟨t', e7, e8⟩ := e5 ho
              have hqn : qs ≠ [] := by rw [e2]; simp [ho]
              unfold restL at e7
              rw [if_neg hqn] at e7
              injection e7 with _ e9
              rw [e9]; exact e8
          · have := parts_rest p qs t (form_fullL hf)
            omega
        · have h00 : first0 l' = [] := by
            cases l' with
            | nil => rfl
            | cons f t =>
              rcases h0 with h0 | h0
              · cases h0
              · exact first0_no (by simpa [rd_T64] using h0)
          rw [h00] at e2
          obtain ⟨ho, ho4⟩ : olds = [] ∧ first0 l4 = [] := by
            have := congrArg List.length e2
            simp at this
            exact ⟨List.length_eq_zero_iff.1 (by omega), List.length_eq_zero_iff.1 (by omega)⟩
          subst ho
          refine ⟨[], (n : Int) :: news, by rw [e1]; simp, by rw [h00, ho4]; rfl, ⟨List.pairwise_cons.2 ⟨fun x hx => by have := e3.2 x hx; omega, e3.1⟩, fun x hx => ?_⟩, fun _ => e4 rfl, fun e => absurd rfl e, by omega⟩
          rcases List.mem_cons.1 hx with rfl | hx
          · omega
          · have := e3.2 x hx; omega
      · simp at h
theorem layAll_other (ps : List S89) : ∀ (pg : List S89) (j : Nat), (∀ p ∈ ps, p.no.toNat ≠ j) → (layAll ps pg).getD j z89 = pg.getD j z89 := by
  induction ps with
  | nil => intro pg j _; rfl
  | cons p t ih =>
    intro pg j h
    show (layAll t (pg.set p.no.toNat p)).getD j z89 = _
    rw [ih _ _ (fun q hq => h q (List.mem_cons_of_mem _ hq))]
    have hne := h p (List.mem_cons_self)
    simp [List.getElem?_set_ne hne]
theorem layAll_at (ps : List S89) : ∀ (pg : List S89) (i : Nat) (p : S89), (ps.map (·.no.toNat)).Nodup → ps[i]? = some p → p.no.toNat < pg.length → (layAll ps pg).getD p.no.toNat z89 = p := by
  induction ps with
  | nil => intro pg i p _ h; simp at h
  | cons x t ih =>
    intro pg i p hn h hlt
    rw [List.map_cons, List.nodup_cons] at hn
    show (layAll t (pg.set x.no.toNat x)).getD _ z89 = p
    cases i with
    | zero =>
      obtain rfl : x = p := by simpa using h
      rw [layAll_other t _ _ (fun q hq e => hn.1 (by rw [← e]; exact List.mem_map_of_mem hq))]
      simp [hlt]
    | succ i =>
      exact ih _ i p hn.2 (by simpa using h) (by rw [List.length_set]; exact hlt)
theorem listPg_getD (l : List S64) (no : List Int) (v : Int) (i : Nat) (hi : i < no.length) : (listPg l no v).getD i z89 = ⟨4, rd no (i : Int), v, 0, 0, false, (none, 0, 0), if i + 1 < no.length then rd no ((i + 1 : Nat) : Int) else 0, ⟨#[]⟩, if i < (partsOf l).length then rd_L3 (partsOf l) (i : Int) else []⟩ := by
  have := listPg_at l no v i hi
  rw [List.getD_eq_getElem?_getD, this]
  rfl
theorem listPg_nums (l : List S64) (no : List Int) (v : Int) : numsOf (listPg l no v) = no := by
  refine List.ext_getElem (by simp [numsOf, listPg_length]) fun i h1 h2 => ?_
  have hi : i < (listPg l no v).length := by simpa [numsOf] using h1
  have e := Option.some.inj ((List.getElem?_eq_getElem hi).symm.trans (listPg_at l no v i h2))
  simp only [numsOf, List.getElem_map, e]
  exact rd_cast no i h2
theorem listPg_plain (l : List S64) (no : List Int) (v : Int) : ∀ x ∈ listPg l no v, plainP x := by
  intro x hx
  obtain ⟨i, hi, rfl⟩ := List.mem_iff_getElem.1 hx
  have h2 : i < no.length := by rw [listPg_length] at hi; exact hi
  have e := Option.some.inj ((List.getElem?_eq_getElem hi).symm.trans (listPg_at l no v i h2))
  rw [e]
  exact ⟨rfl, rfl, rfl, rfl⟩
theorem listPg_freed (l : List S64) (no : List Int) (v : Int) (h : (partsOf l).length ≤ no.length) : (listPg l no v).map (·.freed) = partsOf l ++ List.replicate (no.length - (partsOf l).length) [] := by
  refine List.ext_getElem (by simp [listPg_length]; omega) fun i h1 h2 => ?_
  have hi : i < (listPg l no v).length := by simpa using h1
  have h3 : i < no.length := by rw [listPg_length] at hi; exact hi
  have e := Option.some.inj ((List.getElem?_eq_getElem hi).symm.trans (listPg_at l no v i h3))
  simp only [List.getElem_map, e]
  by_cases hp : i < (partsOf l).length
  · rw [if_pos hp, List.getElem_append_left hp]
    unfold rd_L3
    simp [hp]
  · rw [if_neg hp, List.getElem_append_right (by omega), List.getElem_replicate]
theorem foldl_empty (n : Nat) (out : List S64) : (List.replicate n ([] : List S64)).foldl glue out = out := by
  induction n generalizing out with
  | zero => rfl
  | succ n ih => rw [List.replicate_succ, List.foldl_cons]; exact ih out
theorem join_listPg (l : List S64) (no : List Int) (v : Int) (h : (partsOf l).length ≤ no.length) (hf : formP 4096 l) : joinL (listPg l no v) = l := by
  have e : joinL (listPg l no v) = ((listPg l no v).map (·.freed)).foldl glue [] := by unfold joinL; rw [List.foldl_map]
  rw [e, listPg_freed l no v h, List.foldl_append, foldl_empty]
  unfold partsOf
  rw [join_parts _ l [] (form_fullL hf) (Nat.lt_succ_self _) hf.2]
  cases l <;> rfl
theorem chain_end (l : List S64) (own : List Int) (v : Int) (pg : List S89) (hn : own.Nodup) (hr : ∀ x ∈ own, 2 ≤ x ∧ x < (pg.length : Int)) : ChainP (layAll (listPg l own v) pg) own (listPg l own v) := by
  refine ⟨listPg_length l own v, hn, fun i hi => ?_⟩
  have hx := hr _ (List.getElem_mem hi)
  have e := rd_cast own i hi
  rw [e, layAll_length]
  have hg := listPg_getD l own v i hi
  refine ⟨hx, ?_, by rw [hg], by rw [hg, e], ?_⟩
  · have hp : (listPg l own v)[i]? = some ((listPg l own v).getD i z89) := by
      have hl : i < (listPg l own v).length := by rw [listPg_length]; exact hi
      simp [hl]
    have hno : ((listPg l own v).getD i z89).no = own[i] := by rw [hg]; exact e
    have := layAll_at (listPg l own v) pg i _ ?_ hp (by rw [hno]; omega)
    · rw [hno] at this; exact this
    · have e2 : (listPg l own v).map (·.no.toNat) = own.map Int.toNat := by
        have := congrArg (List.map Int.toNat) (listPg_nums l own v)
        rw [numsOf, List.map_map] at this
        exact this
      rw [e2]
      refine List.pairwise_map.2 (hn.imp_of_mem fun {a b} ha hb hne e => hne ?_)
      have := hr a ha; have := hr b hb; omega
  · rw [hg]
    show (if i + 1 < own.length then rd own ((i + 1 : Nat) : Int) else 0) = _
    split
    · rfl
    · next h => unfold rd; rw [Int.toNat_natCast]; simp [show own.length ≤ i + 1 by omega]
def Cnt (w : World) (g p : Nat) (S : List Int) : Prop := ∃ cs, w.heap[g]? = some (.cells cs 3 (0, 0)) ∧ ∀ j, j < p → cs[j]? = some (.int .i64 (S.count (j : Int) : Int))
theorem Cnt.cell {w : World} {g p : Nat} {S : List Int} (h : Cnt w g p S) (n : Nat) (hn : n < p) : w.cell? ⟨g, n, none⟩ = some (.int .i64 (S.count (n : Int) : Int)) := by
  obtain ⟨cs, h1, h3⟩ := h
  exact (blk_cell h1 n).trans (h3 n hn)
theorem Cnt.free {w : World} {g p : Nat} {S : List Int} (h : Cnt w g p S) (n : Nat) : w.frozen? ⟨g, n, none⟩ = false := by
  obtain ⟨cs, h1, h3⟩ := h
  exact blk_frozen h1 n
theorem Cnt.lt {w : World} {g p : Nat} {S : List Int} (h : Cnt w g p S) : g < w.heap.size := by
  obtain ⟨cs, h1, h3⟩ := h
  exact blk_lt h1
theorem Cnt.kept {w w1 : World} {g p : Nat} {S : List Int} (h : Cnt w g p S) (e : w1.heap[g]? = w.heap[g]?) : Cnt w1 g p S := by
  obtain ⟨cs, h1, h2⟩ := h
  exact ⟨cs, e.trans h1, h2⟩
theorem Cnt.add {w : World} {g p : Nat} {S : List Int} (h : Cnt w g p S) (n : Nat) (hn : n < p) : Cnt (w.setCell ⟨g, n, none⟩ (.int .i64 ((S.count (n : Int) : Int) + 1))) g p (S ++ [(n : Int)]) := by
  obtain ⟨cs, h1, h3⟩ := h
  refine ⟨cs.setIfInBounds n (.int .i64 ((S.count (n : Int) : Int) + 1)), blk_set h1 n _, fun j hj => ?_⟩
  have hs : n < cs.size := (Array.getElem?_eq_some_iff.1 (h3 n hn)).1
  by_cases e : j = n
  · subst e
    simp [hs, List.count_append]
  · rw [Array.getElem?_setIfInBounds_ne (Ne.symm e), h3 j hj, List.count_append]
    have : List.count (j : Int) [(n : Int)] = 0 := List.count_eq_zero_of_not_mem (by rw [List.mem_singleton]; omega)
    rw [this, Nat.add_zero]
def AccOut (p : Nat) (S : List Int) (e n : Int) : Prop := (e = 0 ∧ n = 0 ∧ ∀ m : Nat, 2 ≤ m → m < p → S.count (m : Int) = 1) ∨ (e = 9 ∧ ∃ k : Nat, n = (k : Int) ∧ 2 ≤ k ∧ k < p ∧ S.count (k : Int) ≠ 1 ∧ ∀ m : Nat, 2 ≤ m → m < k → S.count (m : Int) = 1)
def AccR (p : Nat) (S : List Int) (w : World) (e : Ending) (w' : World) : Prop := ∃ a n : Int, e = .returned (.tuple #[.int .i64 a, .int .i64 n]) ∧ AccOut p S a n ∧ Below w.heap.size w w'
def AI (l : List S64) (w : World) (g nb p mc : Nat) (used : List Int) (pre : List (Pg l)) (W : World) : Prop :=
  (Cnt W g p (used ++ pre.map (·.1.2)) ∧ W.heap[nb]? = some (.cells #[.slice (some ⟨g, 0, none⟩) p mc] 23 (0, 0))) ∧ Below w.heap.size w W
theorem AI.own (l : List S64) (w : World) (g nb p mc : Nat) (used : List Int) (B : Nat) (h1 : w.heap.size ≤ B) : OwnFrom B (AI l w g nb p mc used) := by
  rintro pre A C row ⟨⟨hb, h3⟩, h5⟩ hg hr
  have hr' := fun r e => (hr r e).2
  refine ⟨⟨?_, (own_blk h3 hg hr').trans h3⟩, h5.grown hg h5.size fun k e => Nat.le_trans h1 (hr k e).1⟩
  obtain ⟨cs, hb1, hb2⟩ := hb
  exact ⟨cs, (own_blk hb1 hg hr').trans hb1, hb2⟩
def AX (l : List S64) (c : Code) (pre : List (Pg l)) (W : World) : Prop := False
theorem AX.own (l : List S64) (B : Nat) (c : Code) : OwnFrom B (AX l c) := by
  rintro pre A C row h
  exact h.elim
set_option maxRecDepth 100000 in
set_option maxHeartbeats 4000000 in
theorem account_walk (p : Nat) (used : List Int) (l : List S64) (U : Option Addr) (uc : Nat) (A : Option Addr) (c : Nat) (w : World) (hU : (Kd.int .i64).C w U used.length used) (huc : used.length ≤ uc) (hC : k64.C w A l.length l) (hc : l.length ≤ c) (h0 : checkE p l = 0) (h1 : incB p used = true) (hul : used.length ≤ 1000000) (hpl : (pagesOf l).length ≤ 1000000) :
    Calls Tryz.prog 22 #[.int .i64 (p : Int), .slice U used.length uc, .slice A l.length c] w (AccR p (used ++ pagesOf l) w) := by
  have hp : 2 ≤ p ∧ p ≤ 4096 := by
    unfold checkE at h0
    by_cases hp : (2 : Int) ≤ p ∧ (p : Int) ≤ 4096
    · omega
    · rw [if_neg hp] at h0; cases h0
  have hv : validB p l = true := by
    unfold checkE at h0
    rw [if_pos ⟨by omega, by omega⟩] at h0
    by_cases hv : validB p l = true
    · exact hv
    · rw [if_neg hv] at h0; cases h0
  have HCK := Lib.hid (check_any l p A c w hC hc)
  rw [h0] at HCK
  have HIN := Lib.hid (fun (w1 : World) (hb : Below w.heap.size w w1) => inc_any p (by omega) (by omega) used U uc w1 (Kd.C_below hU hb) huc)
  rw [h1] at HIN
  have hinc := of_decide_eq_true h1
  have HINC := Lib.hid hinc
  have HV := Lib.hid (of_decide_eq_true hv).2.1
  have HU := Aside0.mk hU
  have HC := Aside0.mk hC
  have HP := Aside0.mk hp
  have hp2 : 2 ≤ p := hp.1
  have hp4 : p ≤ 4096 := hp.2
  clear h0 h1 hinc hv hU hp
  refine (callsIn_wide (n := 3)).1 ?_
  refine callsIn_of_wp_marks Tryz.func22 rfl trivial ?_ rfl
  simp only [Tryz.ntmps22, List.size_toArray, List.length_cons, List.length_nil, Nat.reduceAdd, Nat.reduceSub, Array.replicate_succ, Array.replicate_zero, List.push_toArray, List.append_toArray, List.nil_append, List.cons_append]
  refine (wpIn_wide (n := 3)).2 ?_
  go_upto_region 6 with (first
    | (go_at_call 28; (with_reducible refine HCK.out.mono ?_); rintro e w1 ⟨rfl, hb1⟩)
    | (go_at_call 48; (with_reducible refine (HIN.out _ hb1).mono ?_); rintro e w2 ⟨rfl, hd2⟩))
  have hB2 : Below w.heap.size w w2 := hb1.trans (hd2.below.mono hb1.size)
  have HB2 := Aside0.mk hB2
  have HS2 := Aside0.mk hB2.size
  clear hb1 hd2 hB2 HCK HIN
  go_upto_region 8 with ((with_reducible refine gate_dst (N := 26) rfl ?_); refine Kd.R_make (Kd.int .i64) (w0 := w) w.heap.size 3 rfl (N := 26) rfl 23 _ _ rfl (p : Int) rfl rfl Tryz.underlying23 (.int .i64 0) 8 info3 rfl (by decide) (by omega) (0 : Int) (ok := fun _ => True) (okp := fun _ => True) rfl (fun _ hk => hk) trivial (by omega) (by omega) HB2.out HS2.out ?_; intro v5 w5 ho5 hb5 hg5 hn5; have hrl : (List.replicate (p : Int).toNat (0 : Int)).length = p := (by simp); obtain ⟨g, mc, hv5, hbg, hgs, cells, hcells⟩ := Kd.R_form ho5 (by rw [hrl]; omega); rw [hrl] at hv5; subst hv5)
  have hcn : Cnt w5 g p [] := ⟨cells, hcells, fun j hj => by
    have h2 := (Kd.R_celln (0 : Int) ho5 (j : Int) (by omega) (by omega)).1
    rw [Int.toNat_natCast, blk_cell hcells j] at h2
    rw [h2]
    simp [rdOf, hj]⟩
  have hbk := blk_new w5 (.cells #[.slice (some ⟨g, 0, none⟩) p mc] 23)
  have hb1 := below_alloc1 w5 (.cells #[.slice (some ⟨g, 0, none⟩) p mc] 23)
  obtain ⟨nb, hnb⟩ : ∃ nb, w5.heap.size = nb := ⟨_, rfl⟩
  obtain ⟨W6, hW6⟩ : ∃ W6, w5.alloc (.cells #[.slice (some ⟨g, 0, none⟩) p mc] 23) = W6 := ⟨_, rfl⟩
  rw [hW6] at hbk hb1 ⊢
  rw [hnb] at hbk hgs ⊢
  have HB6 := Aside0.mk (hb5.trans (hb1.mono hb5.size))
  have HC6 := Aside0.mk (hcn.kept (hb1.block g (by omega)))
  have HN6 := Aside0.mk hbk
  clear hcn hbk hb1 hW6 ho5 hb5 hg5 hn5 hcells hrl hnb
  go_loopw [29] (fun i wr => ∃ k : Nat, k ≤ used.length ∧ i = .int .i64 k ∧ Aside0 (Cnt wr g p (used.take k)) ∧ Aside0 (wr.heap[nb]? = some (.cells #[.slice (some ⟨g, 0, none⟩) p mc] 23 (0, 0))) ∧ Aside0 (Below w.heap.size w wr))
    (fun i _ => used.length - (intOf i).toNat)
  case atStart => exact ⟨0, Nat.zero_le _, rfl, HC6, HN6, HB6⟩
  case round =>
    clear HC6 HN6 HB6
    obtain ⟨k, hk, rfl, HCN, HNB, HB⟩ := hrel
    have y0 : wr.cell? ⟨nb, 0, none⟩ = some (.slice (some ⟨g, 0, none⟩) p mc) := (blk_cell HNB.out 0).trans rfl
    by_cases hlt : k < used.length
    · obtain ⟨ad, rfl, hx⟩ := Kd.at_int (Kd.C_below HU.out HB.out) (k : Int) (by omega) (by omega)
      rw [Int.toNat_natCast, rd_at used k hlt] at hx
      have hxb := HINC.out.1 _ (List.getElem_mem hlt)
      have HTS := Lib.hid (List.take_succ_eq_append_getElem hlt)
      obtain ⟨x, hxx⟩ : ∃ x, used[k] = x := ⟨_, rfl⟩
      rw [hxx] at hx hxb HTS
      obtain ⟨n, rfl⟩ : ∃ n : Nat, x = (n : Int) := ⟨x.toNat, by omega⟩
      have hc1 := HCN.out.cell n (by omega)
      have hz1 := HCN.out.free n
      have hadd := HCN.out.add n (by omega)
      have hcl : (used.take k).count (n : Int) ≤ 1000000 := Nat.le_trans List.count_le_length (by rw [List.length_take]; omega)
      obtain ⟨q, hq⟩ : ∃ q, (used.take k).count (n : Int) = q := ⟨_, rfl⟩
      rw [hq] at hc1 hadd hcl
      have HADD := Aside0.mk hadd
      have hn4 : (n : Int) < (p : Int) := by omega
      have hn0 : (0 : Int) ≤ (n : Int) := by omega
      clear hxx hadd hq
      go_wp2
      go_roundw
      case rel => exact ⟨k + 1, by omega, by go_num, ⟨by rw [HTS.out]; exact HADD.out⟩, ⟨blk_far HNB.out (p := ⟨g, n, none⟩) (by show nb ≠ g; omega) _⟩, ⟨HB.out.setCell (p := ⟨g, n, none⟩) hbg _⟩⟩
      case measure => simp [intOf]; omega
    · obtain rfl : k = used.length := by omega
      have HCU := Aside0.mk (show Cnt wr g p used by have := HCN.out; rw [List.take_length] at this; exact this)
      clear HCN
      go_wp2_with (go_at_call 68; (with_reducible refine (each_any A l.length c _).mono ?_); rintro e w' ⟨rfl, rfl⟩)
      have hC := HC.out
      have hlb := blk_lt HNB.out
      have hl0 := blk_new wr (.cells #[.slice A l.length c] 26)
      have hb1 := below_alloc1 wr (.cells #[.slice A l.length c] 26)
      obtain ⟨Bl, hBl⟩ : ∃ Bl, wr.heap.size = Bl := ⟨_, rfl⟩
      obtain ⟨W0, hW0⟩ : ∃ W0, wr.alloc (.cells #[.slice A l.length c] 26) = W0 := ⟨_, rfl⟩
      have hs0 : W0.heap.size = Bl + 1 := by rw [← hW0, ← hBl]; simp
      rw [hW0] at hl0 hb1 ⊢
      have hB0 : Below w.heap.size w W0 := HB.out.trans (hb1.mono HB.out.size)
      have hcu0 : Cnt W0 g p used := HCU.out.kept (hb1.block g (HCU.out.lt))
      have hnb0 := blk_below HNB.out hb1
      rw [hBl] at hl0 hlb ⊢
      clear hW0 hBl hb1 y0
      have hseq := fun (F : Fence) (n : Nat) (h7 : F.fn 112) (hro : F.round = none) (hn : 1 ≤ n) => each_stops F n h7 hro hn l Bl g (by omega) A c hc w W0 hB0 hC (by omega) (by omega) hl0
      clear hl0
      refine (wpIn_wide (n := 3)).1 ?_
      refine wpIn_rangeFunc_ownG (gf := 112) (lb := #[.pointer (some ⟨Bl, 0, none⟩)]) rfl (by decide) rfl trivial (enters_of Tryz.func112 (by kernel_rfl) rfl)
        (hseq Fence.wide 2 trivial rfl (by decide)) KpE.trans (fun W lo o o' h1 h2 h3 _ => KpE.putObj W lo o o' (Nat.le_trans hB0.size h1) h2 h3) (Below.refl _ _) (fun _ => rfl)
        (AI l w g nb p mc used) (AX l) (AI.own l w g nb p mc used _ (by omega)) (AX.own l _) ⟨⟨by simpa using hcu0, hnb0⟩, hB0⟩ ?a₁ ?assign ?body ?done ?stop
      case assign =>
        intro lo x W K hK
        gi_wp2
        exact hK
      case body =>
        rintro lo pre x W ⟨⟨hb, hnbx⟩, hB⟩ hlen
        have hx := form_page HV.out x.1 x.2
        obtain ⟨n, hxn⟩ : ∃ n : Nat, x.1.2 = (n : Int) := ⟨x.1.2.toNat, by omega⟩
        have y0 : W.cell? ⟨nb, 0, none⟩ = some (.slice (some ⟨g, 0, none⟩) p mc) := (blk_cell hnbx 0).trans rfl
        have hc1 := hb.cell n (by omega)
        have hz1 := hb.free n
        have hadd := hb.add n (by omega)
        have hpe : used ++ (pre ++ [x]).map (·.1.2) = used ++ pre.map (·.1.2) ++ [(n : Int)] := by simp [hxn]
        rw [← hpe] at hadd
        have hcl : (used ++ pre.map (·.1.2)).count (n : Int) ≤ 2000000 := Nat.le_trans List.count_le_length (by
          have e : (pagesOf l).length = (flat l).length := by simp [pagesOf]
          rw [List.length_append, List.length_map]
          omega)
        obtain ⟨q, hq⟩ : ∃ q, (used ++ pre.map (·.1.2)).count (n : Int) = q := ⟨_, rfl⟩
        rw [hq] at hc1 hadd hcl
        have HADD := Aside0.mk hadd
        have HNBX := Aside0.mk hnbx
        have hn4 : (n : Int) < (p : Int) := by omega
        have hn0 : (0 : Int) ≤ (n : Int) := by omega
        clear hadd hq hpe hb hnbx
        rw [hxn]
        gi_wp2
        exact ⟨(KeepsOthers.setCell _ _ _).from _, (KpE.refl W).setCell (by omega) n _, ⟨HADD.out, blk_far HNBX.out (p := ⟨g, n, none⟩) (by show nb ≠ g; omega) _⟩, hB.setCell (p := ⟨g, n, none⟩) hbg _⟩
      case done =>
        rintro D xs W hD hS ⟨⟨hb, hnbx⟩, hB⟩ hK
        have hS' : used ++ xs.map (·.1.2) = used ++ pagesOf l := by
          have e := congrArg (List.map (·.2)) hS
          rw [List.map_map] at e
          exact congrArg (used ++ ·) e
        rw [hS'] at hb
        clear hS' hS
        obtain ⟨T, hT⟩ : ∃ T, used ++ pagesOf l = T := ⟨_, rfl⟩
        rw [hT] at hb
        have HTE := Lib.hid hT
        have HB := Aside0.mk hb
        have HK := Aside0.mk hK
        have hD2 : w.heap.size ≤ D := by have := hB0.size; omega
        have HBF := Aside0.mk (show Below w.heap.size w (W.putObj D (.deferred none)) from hB.trans ⟨rfl, rfl, rfl, by simp, fun k hk => World.putObj_heap_other (by omega)⟩)
        have y0 : W.cell? ⟨nb, 0, none⟩ = some (.slice (some ⟨g, 0, none⟩) p mc) := (blk_cell hnbx 0).trans rfl
        have HTL := Lib.hid (show T.length ≤ 2000000 by rw [← hT, List.length_append]; omega)
        clear hT hb hK hB hnbx hD
        go_upto_region 16 with (fail)
        go_loop [14] (fun i => ∃ n : Nat, 2 ≤ n ∧ n ≤ p ∧ i = .int .i64 n ∧ Hid (∀ m : Nat, 2 ≤ m → m < n → T.count (m : Int) = 1))
          (fun i => p - (intOf i).toNat)
        case atStart => exact ⟨2, Nat.le_refl _, hp2, rfl, Lib.hid (fun m _ _ => by omega)⟩
        case round =>
          obtain ⟨n, hn2, hnp, rfl, HM⟩ := hrel
          by_cases hlt : n < p
          · have hc1 := HB.out.cell n hlt
            obtain ⟨q, hq⟩ : ∃ q, T.count (n : Int) = q := ⟨_, rfl⟩
            have hql : q ≤ 2000000 := by rw [← hq]; exact Nat.le_trans List.count_le_length HTL.out
            rw [hq] at hc1
            have HQ := Lib.hid hq
            have hn4 : (n : Int) < (p : Int) := by omega
            have hn0 : (0 : Int) ≤ (n : Int) := by omega
            clear hq
            by_cases h1 : q = 1
            · subst h1
              have HNX := Lib.hid (show ∀ m : Nat, 2 ≤ m → m < n + 1 → T.count (m : Int) = 1 from fun m h2 h3 => by
                by_cases e : m = n
                · subst e; exact HQ.out
                · exact HM.out m h2 (by omega))
              go_wp2
              go_round
              case rel => exact ⟨n + 1, by omega, by omega, by go_num, HNX⟩
              case measure => simp [intOf]; omega
            · have hq1 : ((q : Int) != 1) = true := by simp; omega
              have HOUT := Lib.hid (show AccOut p T 9 n from .inr ⟨rfl, n, rfl, hn2, hlt, by rw [HQ.out]; exact h1, HM.out⟩)
              clear h1 hlt
              go_wp2
              refine ⟨by simp, .inl ⟨_, _, rfl, run_takeDeferred HK.out, ?_⟩⟩
              exact ⟨.tuple #[.int .i64 9, .int .i64 n], by simp [results, Tryz.results22, go_sem], 9, n, rfl, by rw [HTE.out]; exact HOUT.out, HBF.out⟩
          · obtain rfl : n = p := by omega
            have HOUT := Lib.hid (show AccOut n T 0 0 from .inl ⟨rfl, rfl, HM.out⟩)
            clear hlt
            go_wp2
            refine ⟨by simp, .inl ⟨_, _, rfl, run_takeDeferred HK.out, ?_⟩⟩
            exact ⟨.tuple #[.int .i64 0, .int .i64 0], by simp [results, Tryz.results22, go_sem], 0, 0, rfl, by rw [HTE.out]; exact HOUT.out, HBF.out⟩
      case stop =>
        rintro D c pre W hD hS h hK
        exact h.elim
theorem takeRun_up {k k' : Nat} {l : List S64} {n : Nat} {own : List Int} {r : List S64 × Nat × List Int} (h : takeRun k l n own = some r) (hk : k ≤ k') : takeRun k' l n own = some r := by
  induction k generalizing k' l n own with
  | zero => simp [takeRun] at h
  | succ k ih =>
    obtain ⟨j, rfl⟩ : ∃ j, k' = j + 1 := ⟨k' - 1, by omega⟩
    rw [takeRun] at h ⊢
    split at h
    · next hd => rw [if_pos hd]; exact h
    · next hd =>
      rw [if_neg hd]
      split at h
      · next p l' n' he => first | (rw [he]; exact ih h (by omega)) | exact ih h (by omega)
      · simp at h
theorem end_ok3 (pg : List S89) (free gone : List Int) (rest : List S64) (ver tree : Int) (shrink : Bool) (PA FA RA GA A : Option Addr) (pc fc rn rc gc c : Nat) (w : World)
    (hPG : k89.C w PA pg.length pg) (hpc : pg.length ≤ pc) (hFR : (Kd.int .i64).C w FA free.length free) (hfc : free.length ≤ fc) (hGO : (Kd.int .i64).C w GA gone.length gone) (hgc : gone.length ≤ gc) (hRE : k64.C w A rest.length rest) (hc : rest.length ≤ c)
    (hsm : smallL rest ∧ free.length ≤ 1000 ∧ gone.length ≤ 1000 ∧ (pagesOf rest).length ≤ 10000 ∧ rest.length ≤ 10000) (hv : 1 ≤ ver ∧ ver ≤ 1099511627776) (hn : 2 ≤ pg.length ∧ pg.length ≤ 4096) (h1 : validB pg.length rest = true) (h2 : incB pg.length free = true) (h3 : incB pg.length gone = true)
    (h4 : validB pg.length (putL 0 free (putL (ver - 1) gone rest)) = true)
    (K : Nat) (l4 : List S64) (m4 : Nat) (own : List Int) (hK : K ≤ 1000000) (hf3 : formP 4096 (if shrink then keepAll (tailN (putL 0 free (putL (ver - 1) gone rest)) pg.length) (putL 0 free (putL (ver - 1) gone rest)) else (putL 0 free (putL (ver - 1) gone rest)))) (hs3 : smallL (if shrink then keepAll (tailN (putL 0 free (putL (ver - 1) gone rest)) pg.length) (putL 0 free (putL (ver - 1) gone rest)) else (putL 0 free (putL (ver - 1) gone rest))))
    (hrun : takeRun K (if shrink then keepAll (tailN (putL 0 free (putL (ver - 1) gone rest)) pg.length) (putL 0 free (putL (ver - 1) gone rest)) else (putL 0 free (putL (ver - 1) gone rest))) (if shrink then (tailN (putL 0 free (putL (ver - 1) gone rest)) pg.length).toNat else pg.length) [] = some (l4, m4, own)) (hnum : numB own ver = true) (hidx : ∀ p ∈ listPg l4 own ver, 0 ≤ p.no ∧ p.no < m4) :
    Calls Tryz.prog 15 #[.agg #[.slice PA pg.length pc, .slice FA free.length fc, .slice RA rn rc, .slice GA gone.length gc, .int .i64 ver, .int .i64 tree], .slice A rest.length c, .bool shrink] w fun e w' => EndR w ver tree (own.headD 0) (layAll (listPg l4 own ver) ((if shrink then (zeroAll free pg).take (tailN (putL 0 free (putL (ver - 1) gone rest)) pg.length).toNat else zeroAll free pg) ++ List.replicate (m4 - (if shrink then (tailN (putL 0 free (putL (ver - 1) gone rest)) pg.length).toNat else pg.length)) z89)) l4 e w' := by
  have h4' : validB pg.length (endL2 free gone rest ver) = true := h4
  have hr : takeRun 1000000 (endL3 free gone rest ver pg.length shrink) (endN3 free gone rest ver pg.length shrink) [] = some (l4, m4, own) := takeRun_up hrun hK
  refine (end_all pg free gone rest ver tree shrink PA FA RA GA A pc fc rn rc gc c w hPG hpc hFR hfc hGO hgc hRE hc hsm (by omega)).mono ?_
  intro e w' h
  rw [endX_0 ⟨hv, hn⟩ ⟨⟨h1, h2, h3⟩, h4'⟩ hr] at h
  cases shrink <;> exact h
end Go.Proofs.YtpnhelcemodnmaaGreat
namespace Go.Proofs.YtpnhelcemodnmaaGreat
open Go.RowKit Go.Shelf Go.Proofs.YtpnhelcemodnmaaGreatW.PrintWords Go.Proofs.YtpnhelcemodnmaaGreatW.PrintLast Go.Proofs.YtpnhelcemodnmaaGreatW.PrintMore PA Go.Maps
set_option linter.unusedVariables false
set_option linter.unusedSimpArgs false
attribute [local go_sem] Oper.semAt_some
theorem key3 : Keyed Tryz.prog 3 := int_keyed Tryz.underlying3
theorem zero3 (w : World) : (zeroValue 3).run Tryz.prog w = .ok (.int .i64 0) w := by kernel_rfl
def pinD (l : List S83) : DataW Unit := l.foldl (fun D x => D.put (.int .i64 x.f0) (.lit (.int .i64 x.f1))) (.map [])
theorem pinD_step (l : List S83) (k : Nat) (hk : k < l.length) : pinD (l.take (k + 1)) = (pinD (l.take k)).put (.int .i64 (rd_T83 l (k : Int)).f0) (.lit (.int .i64 (rd_T83 l (k : Int)).f1)) := by
  have e : rd_T83 l (k : Int) = l[k] := by
    unfold rd_T83
    simp [List.getD_eq_getElem?_getD, hk]
  rw [e, List.take_succ_eq_append_getElem hk, pinD, List.foldl_append]
  rfl
set_option maxRecDepth 100000 in
set_option maxHeartbeats 2000000 in
theorem pinned_yes (l : List S83) (v : Int) (K : Nat) (A : Option Addr) (c : Nat) (w : World) (hC : k83.C w A l.length l) (hc : l.length ≤ c) (hk : space_CheckPins.f K l = some 0) (hv : 1 ≤ v ∧ v ≤ 1099511627776) (hl : l.length ≤ 1000000)
    (hp : ∀ k, k < l.length → (Lit.int .i64 (rd_T83 l (k : Int)).f0).wf = true ∧ (Lit.int .i64 (rd_T83 l (k : Int)).f1).wf = true) :
    Calls Tryz.prog 92 #[.slice A l.length c, .int .i64 v] w fun e w' => ∃ B, e = .returned (.map (some B)) ∧ w'.ownsMap Tryz.prog 3 (plainElem Tryz.prog 3) B l.length (pinD l) ∧ w.heap.size ≤ B ∧ Below w.heap.size w w' := by
  have hmm := @run_makeMap Tryz.prog
  have HK := Lib.hid (space_CheckPins.calls K A c l 0 w hC hc hk)
  have HD := Lib.hid (decide_eq_true hv)
  clear hk hv
  go_enter Tryz.func92, Tryz.ntmps92
  go_wp2_with (first | (go_at_call 137; (refine HK.out.mono ?_); rintro e w1 ⟨rfl, hb1⟩) | (go_at_call 53; (with_reducible refine (must_ok _).mono ?_); rintro e w' ⟨rfl, rfl⟩) | (go_at_call 46; (with_reducible refine (within_any v 1 1099511627776 _).mono ?_); rintro e w' ⟨rfl, ⟨nd, rfl⟩⟩; rw [HD.out]) | (go_at_call 45; (with_reducible refine (need_yes _ _).mono ?_); rintro e w' ⟨rfl, rfl⟩))
  obtain ⟨B, hB⟩ : ∃ B, w1.heap.size = B := ⟨_, rfl⟩
  have hM0 : ((w1.drewN nd).alloc (.map #[] 0)).ownsMap Tryz.prog 3 (plainElem (H := Unit) Tryz.prog 3) B 0 (.map []) := hB ▸ World.ownsMap_made _ _ _ _
  have hB0 : Below w.heap.size w ((w1.drewN nd).alloc (.map #[] 0)) := (pw_below_drewN hb1 nd).alloc (by exact hb1.size) _
  have hBw : w.heap.size ≤ B := hB ▸ hb1.size
  rw [hB]
  obtain ⟨W0, hW0⟩ : ∃ W0, (w1.drewN nd).alloc (.map #[] 0) = W0 := ⟨_, rfl⟩
  rw [hW0] at hM0 hB0 ⊢
  clear hW0 hB hb1 HK HD hmm
  go_loopw [17] (fun i wr => ∃ k : Nat, k ≤ l.length ∧ i = .int .i64 k ∧ Aside0 (wr.ownsMap Tryz.prog 3 (plainElem (H := Unit) Tryz.prog 3) B k (pinD (l.take k))) ∧ Aside0 (Below w.heap.size w wr))
    (fun i _ => l.length - (intOf i).toNat)
  case atStart => exact ⟨0, Nat.zero_le _, rfl, ⟨hM0⟩, ⟨hB0⟩⟩
  case round =>
    clear hM0 hB0
    obtain ⟨k, hk, rfl, HM, HB⟩ := hrel
    by_cases hlt : k < l.length
    · obtain ⟨ad, rfl, hx0, hx1⟩ := at_T83 (Kd.C_below hC HB.out) (k : Int) (by omega) (by omega)
      rw [Int.toNat_natCast] at hx0 hx1
      have HS := Lib.hid (pinD_step l k hlt)
      have hp0 := (hp k hlt).1
      have hp1 := (hp k hlt).2
      obtain ⟨a, ha⟩ : ∃ a, (rd_T83 l (k : Int)).f0 = a := ⟨_, rfl⟩
      obtain ⟨b, hb⟩ : ∃ b, (rd_T83 l (k : Int)).f1 = b := ⟨_, rfl⟩
      rw [ha] at hx0 hp0 HS
      rw [hb] at hx1 hp1 HS
      have hkey : keyOf Tryz.prog 3 (.int .i64 a) = some (.int .i64 a) := keyOf_int_mk Tryz.underlying3 hp0
      have HKEY := Aside0.mk hkey
      have HP1 := Aside0.mk hp1
      have HMA := Aside0.mk (HM.out.alloc (.cells #[.int .i64 a, .int .i64 b] 83))
      have HBA := Aside0.mk (HB.out.alloc HB.out.size (.cells #[.int .i64 a, .int .i64 b] 83))
      clear ha hb hkey hp0 hp1 hC
      go_wp2_with (at_mapUpdate; refine wpList_mapUpdate_own _ rfl _ _ _ 162 rfl 3 3 key3 Tryz.underlying162 _ B k _ rfl HMA.out (by unfold maxLen; omega) _ _ _ rfl rfl HKEY.out _ [] (plainElem_int Tryz.underlying3 HP1.out) ?_; intro w2 hown2 hgrow2)
      go_roundw
      case rel => exact ⟨k + 1, by omega, by go_num, ⟨HS.out.symm ▸ hown2⟩, ⟨HBA.out.grown hgrow2 HBA.out.size (fun j hj => by cases hj; exact hBw)⟩⟩
      case measure => simp [intOf]; omega
    · obtain rfl : k = l.length := by omega
      rw [List.take_length] at HM
      go_wp2
      go_ret
      exact ⟨B, rfl, HM.out, hBw, HB.out⟩
attribute [local go_sem] max2_int min2_int max_two min_two
theorem two_cells {w : World} {n : Nat} {a b x y : Value} {t t' : TypeId} (h0 : w.heap[n]? = some (.cells #[a] t (0, 0))) (h1 : w.heap[n + 1]? = some (.cells #[b] t' (0, 0))) :
    ((w.setCell ⟨n, 0, none⟩ x).setCell ⟨n + 1, 0, none⟩ y).cell? ⟨n, 0, none⟩ = some x ∧ ((w.setCell ⟨n, 0, none⟩ x).setCell ⟨n + 1, 0, none⟩ y).cell? ⟨n + 1, 0, none⟩ = some y :=
  ⟨blk_cell (blk_far (blk_put h0 0 x rfl) (p := ⟨n + 1, 0, none⟩) (by simp) y) 0, blk_cell (blk_put (blk_far h1 (p := ⟨n, 0, none⟩) (by simp) x) 0 y rfl) 0⟩
def oldestN (l : List S83) (v : Int) : Int := if 0 < l.length then (if (rd_T83 l 0).f0 < v then (rd_T83 l 0).f0 else v) else v
set_option maxRecDepth 100000 in
set_option maxHeartbeats 2000000 in
theorem oldest_yes (l : List S83) (v : Int) (K : Nat) (A : Option Addr) (c : Nat) (w : World) (hC : k83.C w A l.length l) (hc : l.length ≤ c) (hk : space_CheckPins.f K l = some 0) (hv : 1 ≤ v ∧ v ≤ 1099511627776) (hl : l.length ≤ 1000000)
    (hp : ∀ k, k < l.length → (Lit.int .i64 (rd_T83 l (k : Int)).f0).wf = true ∧ (Lit.int .i64 (rd_T83 l (k : Int)).f1).wf = true) :
    Calls Tryz.prog 41 #[.slice A l.length c, .int .i64 v] w fun e w' => e = .returned (.tuple #[.int .i64 (oldestN l v), .int .i64 0]) ∧ Below w.heap.size w w' := by
  have hmf : ∀ (fn : Fn) (first cap : Array Value) (w : World), (Instr.makeFunc fn first cap).run Tryz.prog w = .ok (.func fn first cap) w := fun _ _ _ _ => rfl
  have HP := Lib.hid (fun (w1 : World) (hb : Below w.heap.size w w1) => pinned_yes l v K A c w1 (Kd.C_below hC hb) hc hk hv hl hp)
  have hb00 : Below w.heap.size w ((w.alloc (.cells #[.int .i64 0] 3)).alloc (.cells #[.int .i64 0] 30)) := ((Below.refl w.heap.size w).alloc (Nat.le_refl _) (.cells #[.int .i64 0] 3)).alloc (by simp) (.cells #[.int .i64 0] 30)
  have HB0 := Aside0.mk hb00
  have hC0 := Kd.C_below hC hb00
  have HE0 := Aside0.mk (blk_alloc (o' := .cells #[.int .i64 0] 30) (blk_new w (.cells #[.int .i64 0] 3)))
  have HE1 := Aside0.mk (blk_new (w.alloc (.cells #[.int .i64 0] 3)) (.cells #[.int .i64 0] 30))
  clear hk hv hp hC hb00
  go_enter_defers Tryz.func41, Tryz.ntmps41
  cases l with
  | nil =>
    have hN : oldestN ([] : List S83) v = v := rfl
    rw [hN]
    clear hN hC0
    go_wp2_with (first | (go_at_call 92; (refine (HP.out _ HB0.out).mono ?_); rintro e w1 ⟨B, rfl, hm, hbw, hb1⟩; have hf0 := blk_below HE0.out hb1; have hf1 := blk_below HE1.out hb1; rw [World.size_alloc] at hf1; have hc0 := blk_cell hf0 0; have hc1 := blk_cell hf1 0; have hz0 := blk_frozen hf0 0; have hz1 := blk_frozen hf1 0))
    refine leaves_cons (f := 43) (args := #[.pointer (some ⟨w.heap.size + 1, 0, none⟩), .func (.func 91) #[] #[.pointer (some ⟨w.heap.size, 0, none⟩)]]) (by simp) (by simp [go_sem]) ?_
    refine (caught_idle _ _ _ _ _).mono ?_
    rintro e u' w2 ⟨rfl, rfl, rfl⟩
    have hq := two_cells (x := (.int .i64 v)) (y := .int .i64 0) hf0 hf1
    have hbf := ((HB0.out.trans (hb1.mono HB0.out.size)).setCell (p := ⟨w.heap.size, 0, none⟩) (Nat.le_refl _) (.int .i64 v)).setCell (p := ⟨w.heap.size + 1, 0, none⟩) (Nat.le_succ _) (.int .i64 0)
    simp [Leaves, settle, results, Tryz.results41, go_sem, hq.1, hq.2, hbf]
  | cons x t =>
    have hpos : 0 < (x :: t).length := by simp
    obtain ⟨a, ha⟩ : ∃ a, (rd_T83 (x :: t) 0).f0 = a := ⟨_, rfl⟩
    have HCL := Aside0.mk (fun (w1 : World) (hb : Below ((w.alloc (.cells #[.int .i64 0] 3)).alloc (.cells #[.int .i64 0] 30)).heap.size _ w1) => at_T83 (Kd.C_below hC0 hb) 0 (Int.le_refl _) (by omega))
    rw [ha] at HCL
    have hN : oldestN (x :: t) v = if a < v then a else v := by rw [oldestN, if_pos hpos, ha]
    rw [hN]
    obtain ⟨n, hn⟩ : ∃ n, (x :: t).length = n := ⟨_, rfl⟩
    rw [hn] at HP hpos hc ⊢
    clear hN hC0 hl hn ha
    by_cases hav : a < v
    · rw [if_pos hav]
      have hmin : min v a = a := by omega
      go_wp2_with (first | (go_at_call 92; (refine (HP.out _ HB0.out).mono ?_); rintro e w1 ⟨B, rfl, hm, hbw, hb1⟩; have hf0 := blk_below HE0.out hb1; have hf1 := blk_below HE1.out hb1; rw [World.size_alloc] at hf1; have hc0 := blk_cell hf0 0; have hc1 := blk_cell hf1 0; have hz0 := blk_frozen hf0 0; have hz1 := blk_frozen hf1 0; obtain ⟨ad, rfl, hx0, hx1⟩ := HCL.out w1 hb1; rw [show ad.add ((0 : Int).toNat * 2) = ad from addr_add0 ad] at hx0))
      refine leaves_cons (f := 43) (args := #[.pointer (some ⟨w.heap.size + 1, 0, none⟩), .func (.func 91) #[] #[.pointer (some ⟨w.heap.size, 0, none⟩)]]) (by simp) (by simp [go_sem]) ?_
      refine (caught_idle _ _ _ _ _).mono ?_
      rintro e u' w2 ⟨rfl, rfl, rfl⟩
      have hq := two_cells (x := (.int .i64 a)) (y := .int .i64 0) hf0 hf1
      have hbf := ((HB0.out.trans (hb1.mono HB0.out.size)).setCell (p := ⟨w.heap.size, 0, none⟩) (Nat.le_refl _) (.int .i64 a)).setCell (p := ⟨w.heap.size + 1, 0, none⟩) (Nat.le_succ _) (.int .i64 0)
      simp [Leaves, settle, results, Tryz.results41, go_sem, hq.1, hq.2, hbf]
    · rw [if_neg hav]
      have hmin : min v a = v := by omega
      go_wp2_with (first | (go_at_call 92; (refine (HP.out _ HB0.out).mono ?_); rintro e w1 ⟨B, rfl, hm, hbw, hb1⟩; have hf0 := blk_below HE0.out hb1; have hf1 := blk_below HE1.out hb1; rw [World.size_alloc] at hf1; have hc0 := blk_cell hf0 0; have hc1 := blk_cell hf1 0; have hz0 := blk_frozen hf0 0; have hz1 := blk_frozen hf1 0; obtain ⟨ad, rfl, hx0, hx1⟩ := HCL.out w1 hb1; rw [show ad.add ((0 : Int).toNat * 2) = ad from addr_add0 ad] at hx0))
      refine leaves_cons (f := 43) (args := #[.pointer (some ⟨w.heap.size + 1, 0, none⟩), .func (.func 91) #[] #[.pointer (some ⟨w.heap.size, 0, none⟩)]]) (by simp) (by simp [go_sem]) ?_
      refine (caught_idle _ _ _ _ _).mono ?_
      rintro e u' w2 ⟨rfl, rfl, rfl⟩
      have hq := two_cells (x := (.int .i64 v)) (y := .int .i64 0) hf0 hf1
      have hbf := ((HB0.out.trans (hb1.mono HB0.out.size)).setCell (p := ⟨w.heap.size, 0, none⟩) (Nat.le_refl _) (.int .i64 v)).setCell (p := ⟨w.heap.size + 1, 0, none⟩) (Nat.le_succ _) (.int .i64 0)
      simp [Leaves, settle, results, Tryz.results41, go_sem, hq.1, hq.2, hbf]
theorem reset93 (q : Addr) (v : Value) (w : World) (hc : w.cell? q = some v) (hz : w.frozen? q = false) : Calls Tryz.prog 93 #[.pointer (some q)] w fun e w' => e = .returned (.tuple #[]) ∧ w' = w.setCell q (.slice none 0 0) := by
  go_enter Tryz.func93, Tryz.ntmps93
  go_wp2
  go_end0
  simp
set_option maxRecDepth 100000 in
set_option maxHeartbeats 2000000 in
theorem unpin_none (l : List S83) (v : Int) (K : Nat) (A : Option Addr) (c : Nat) (w : World) (hC : k83.C w A l.length l) (hc : l.length ≤ c) (hk : space_CheckPins.f K l = some 0) (hv : 1 ≤ v ∧ v ≤ 1099511627776) (hl : l.length ≤ 1000000)
    (hp : ∀ k, k < l.length → (Lit.int .i64 (rd_T83 l (k : Int)).f0).wf = true ∧ (Lit.int .i64 (rd_T83 l (k : Int)).f1).wf = true) (hn : (pinD l).atKey (.int .i64 v) (.lit (.int .i64 0)) = .lit (.int .i64 0)) :
    Calls Tryz.prog 42 #[.slice A l.length c, .int .i64 v] w fun e w' => e = .returned (.tuple #[.slice none 0 0, .int .i64 4]) ∧ Below w.heap.size w w' := by
  have hmf : ∀ (fn : Fn) (first cap : Array Value) (w : World), (Instr.makeFunc fn first cap).run Tryz.prog w = .ok (.func fn first cap) w := fun _ _ _ _ => rfl
  have HP := Lib.hid (fun (w1 : World) (hb : Below w.heap.size w w1) => pinned_yes l v K A c w1 (Kd.C_below hC hb) hc hk hv hl hp)
  have HB0 := Aside0.mk (((Below.refl w.heap.size w).alloc (Nat.le_refl _) (.cells #[.slice none 0 0] 84)).alloc (by simp) (.cells #[.int .i64 0] 30))
  have HE0 := Aside0.mk (blk_alloc (o' := .cells #[.int .i64 0] 30) (blk_new w (.cells #[.slice none 0 0] 84)))
  have HE1 := Aside0.mk (blk_new (w.alloc (.cells #[.slice none 0 0] 84)) (.cells #[.int .i64 0] 30))
  have hkey : keyOf Tryz.prog 3 (.int .i64 v) = some (.int .i64 v) := keyOf_int_mk Tryz.underlying3 (WalkArith.wf_i64 (by omega))
  have HKEY := Aside0.mk hkey
  have HN := Lib.hid hn
  clear hk hv hp hC hkey hn
  go_enter_defers Tryz.func42, Tryz.ntmps42
  go_wp2_with (first | (go_at_call 92; (refine (HP.out _ HB0.out).mono ?_); rintro e w1 ⟨B, rfl, hm, hbw, hb1⟩; have HM := Aside0.mk hm; clear hm) | (at_lookup; refine wpList_lookup_own_int _ rfl _ _ 162 rfl 3 3 .i64 key3 Tryz.underlying162 Tryz.underlying3 (zero3 _) B l.length _ rfl HM.out _ _ rfl HKEY.out ?_; intro q hat hwq; rw [HN.out] at hat; obtain rfl : 0 = q := (by injection hat with h; injection h)) | (go_at_call 45; refine (need_no _ _).mono ?_; rintro e w' ⟨rfl, rfl⟩))
  have hf0 := blk_below HE0.out hb1
  have hf1 := blk_below HE1.out hb1
  rw [World.size_alloc] at hf1
  refine leaves_cons (f := 43) (args := #[.pointer (some ⟨w.heap.size + 1, 0, none⟩), .func (.func 93) #[] #[.pointer (some ⟨w.heap.size, 0, none⟩)]]) (by simp) (by simp [go_sem]) ?_
  have hb2 := (HB0.out.trans (hb1.mono HB0.out.size)).alloc (HB0.out.trans (hb1.mono HB0.out.size)).size (.cells #[.int .i64 4] 166)
  have hg0 := blk_alloc hf0 (.cells #[.int .i64 4] 166)
  have hg1 := blk_alloc hf1 (.cells #[.int .i64 4] 166)
  have hg2 := blk_new w1 (.cells #[.int .i64 4] 166)
  have hn0 : w.heap.size ≠ w1.heap.size := Nat.ne_of_lt (blk_lt hf0)
  refine (caught_93 ⟨w.heap.size + 1, 0, none⟩ ⟨w.heap.size, 0, none⟩ 4 0 [] w1 (fun w2 => w2.cell? ⟨w.heap.size, 0, none⟩ = some (.slice none 0 0) ∧ w2.cell? ⟨w.heap.size + 1, 0, none⟩ = some (.int .i64 4) ∧ Below w.heap.size w w2) ?_).mono ?_
  · refine (reset93 _ _ _ (blk_cell hg0 0) (blk_frozen hg0 0)).mono ?_
    rintro e w2 ⟨rfl, rfl⟩
    have hq := two_cells (x := .slice none 0 0) (y := .int .i64 4) hg0 hg1
    exact ⟨rfl, blk_cell (blk_far hg2 (Ne.symm hn0) _) 0, blk_cell (blk_far hg1 (by simp) _) 0, blk_frozen (blk_far hg1 (by simp) _) 0, hq.1, hq.2, (hb2.setCell (p := ⟨w.heap.size, 0, none⟩) (Nat.le_refl _) _).setCell (p := ⟨w.heap.size + 1, 0, none⟩) (Nat.le_succ _) _⟩
  · rintro e u' w2 ⟨rfl, rfl, hq0, hq1, hbf⟩
    simp [Leaves, settle, results, Tryz.results42, go_sem, hq0, hq1, hbf, failE]
end Go.Proofs.YtpnhelcemodnmaaGreat
namespace Go.Proofs.YtpnhelcemodnmaaGreat
open Go.RowKit Go.Shelf Go.Proofs.YtpnhelcemodnmaaGreatW.PrintWords Go.Proofs.YtpnhelcemodnmaaGreatW.PrintLast Go.Proofs.YtpnhelcemodnmaaGreatW.PrintMore PA
set_option linter.unusedVariables false
set_option linter.unusedSimpArgs false
attribute [local go_sem] Oper.semAt_some
theorem sortI_self {l : List Int} (h : l.Pairwise (· ≤ ·)) : sortI l = l :=
  List.Perm.eq_of_pairwise (le := (· ≤ ·)) (fun a b _ _ h1 h2 => by omega) (sortI_pair l) h (sortI_perm l)
theorem sane_put : putL 0 [4, 5] (putL (2 - 1) [3] []) = [⟨0, [4, 5]⟩, ⟨1, [3]⟩] := by
  have h1 : putL (2 - 1) [3] [] = [⟨1, [3]⟩] := by unfold putL; rw [if_neg (by simp), merge_nil]; rfl
  rw [h1]
  unfold putL
  rw [if_neg (by simp), merge_gt (x := ⟨1, [3]⟩) (y := ⟨0, [4, 5]⟩) _ _ (by decide), merge_nil2]
theorem sane_valid : validB ((6 : Nat) : Int) [⟨0, [4, 5]⟩, ⟨1, [3]⟩] = true := by decide
theorem sane_valid0 : validB ((6 : Nat) : Int) [] = true := by decide
theorem sane_inc1 : incB ((6 : Nat) : Int) [4, 5] = true := by decide
theorem sane_inc2 : incB ((6 : Nat) : Int) [3] = true := by decide
theorem sane_take : takeRun 2 [⟨0, [4, 5]⟩, ⟨1, [3]⟩] 6 [] = some ([⟨0, [5]⟩, ⟨1, [3]⟩], 6, [4]) := by rfl
theorem sane_tail : tailN [⟨0, [4, 5]⟩, ⟨1, [3]⟩] ((6 : Nat) : Int) = 4 := by rfl
theorem sane_keep : keepAll 4 [⟨0, [4, 5]⟩, ⟨1, [3]⟩] = [⟨1, [3]⟩] := by decide
theorem sane_take2 : takeRun 2 [⟨1, [3]⟩] 4 [] = some ([⟨1, [3]⟩], 5, [4]) := by rfl
theorem sane_num : numB [4] 2 = true := by decide
def sanePage (l : List S64) : S89 := { z89 with kind := 4, no := 4, ver := 2, freed := l }
theorem sane_pg1 : listPg [⟨0, [5]⟩, ⟨1, [3]⟩] [4] 2 = [sanePage [⟨0, [5]⟩, ⟨1, [3]⟩]] := by rfl
theorem sane_pg2 : listPg [⟨1, [3]⟩] [4] 2 = [sanePage [⟨1, [3]⟩]] := by rfl
theorem sane_use : useE 4 [⟨0, [5]⟩, ⟨3, [7, 8]⟩, ⟨4, [9]⟩] = 0 := by decide
theorem sane_low : pagesOf (lowL 4 [⟨0, [5]⟩, ⟨3, [7, 8]⟩, ⟨4, [9]⟩]) = [5, 7, 8] := by decide
theorem sane_hi : hiL 4 [⟨0, [5]⟩, ⟨3, [7, 8]⟩, ⟨4, [9]⟩] = [⟨4, [9]⟩] := by decide
theorem sane_check : checkE ((6 : Nat) : Int) [⟨0, [5]⟩, ⟨1, [3]⟩] = 0 := by decide
theorem sane_inc3 : incB ((6 : Nat) : Int) [2, 4] = true := by decide
theorem sane_acc {e n : Int} (h : AccOut 6 ([2, 4] ++ pagesOf [⟨0, [5]⟩, ⟨1, [3]⟩]) e n) : e = 0 ∧ n = 0 := by
  rcases h with ⟨h1, h2, _⟩ | ⟨_, k, rfl, h2, h3, h4, _⟩
  · exact ⟨h1, h2⟩
  · exfalso
    have : k = 2 ∨ k = 3 ∨ k = 4 ∨ k = 5 := by omega
    rcases this with rfl | rfl | rfl | rfl <;> exact h4 (by decide)
theorem sane_check2 : checkE ((6 : Nat) : Int) [⟨0, [4, 5]⟩] = 0 := by decide
theorem sane_tail2 : tailN [⟨0, [4, 5]⟩] ((6 : Nat) : Int) = 4 := by rfl
theorem sane_pins : ∃ K, space_CheckPins.f K [⟨3, 1⟩, ⟨6, 1⟩] = some 0 := ⟨5, by simp [space_CheckPins.f, space_CheckPins.l0, rd_T83, wrap64]⟩
theorem sane_pins2 : ∃ K, space_CheckPins.f K [⟨3, 2⟩] = some 0 := ⟨5, by simp [space_CheckPins.f, space_CheckPins.l0, rd_T83, wrap64]⟩
theorem sane_old : oldestN [⟨3, 1⟩, ⟨6, 1⟩] 7 = 3 := by decide
theorem sane_unpin : (pinD [⟨3, 2⟩]).atKey (.int .i64 5) (.lit (.int .i64 0)) = .lit (.int .i64 0) := by rfl
theorem sane_small {l : List S64} (h : l.length ≤ 10 ∧ (pagesOf l).length ≤ 10) : smallL l := ⟨by omega, by omega⟩
theorem sane_form1 : formP 4096 [⟨0, [4, 5]⟩, ⟨1, [3]⟩] := by decide
theorem sane_form2 : formP 4096 [⟨1, [3]⟩] := by decide
theorem headD_rd (own : List Int) : own.headD 0 = rd own 0 := by cases own <;> rfl
theorem sorted_append {a b : List Int} {n : Int} (ha : a.Pairwise (· < ·)) (hb : b.Pairwise (· < ·)) (h1 : ∀ x ∈ a, x < n) (h2 : ∀ x ∈ b, n ≤ x) : (a ++ b).Pairwise (· < ·) :=
  List.pairwise_append.2 ⟨ha, hb, fun x hx y hy => by have := h1 x hx; have := h2 y hy; omega⟩
structure EndFacts (pg : List S89) (free gone : List Int) (rest : List S64) (ver : Int) (P : List S89) (first : Int) (l4 : List S64) (own olds : List Int) : Prop where
  first_ : first = rd own 0
  chain : ChainP P own (listPg l4 own ver)
  plen : P.length ≤ 4096
  sorted : own.Pairwise (· < ·)
  join : joinL (listPg l4 own ver) = l4
  form : formP 4096 l4
  small : smallL l4
  num : numB own ver = true
  parts : (partsOf l4).length ≤ own.length
  olen : own.length ≤ 4096
  olds_ : own.filter (fun x => decide (x < (pg.length : Int))) = olds
  form0 : formP 4096 (endL2 free gone rest ver)
  small0 : smallL (endL2 free gone rest ver)
  needs : own.length ≤ (partsOf (endL2 free gone rest ver)).length
  same : olds = [] → l4 = endL2 free gone rest ver
  merge : olds ≠ [] → mergeOk l4 [⟨0, olds⟩] = true ∧ mergeL l4 [⟨0, olds⟩] = endL2 free gone rest ver
theorem end_facts {pg : List S89} {free gone : List Int} {rest : List S64} {ver : Int} {P : List S89} {first : Int} {l4 : List S64} (h : endX pg free gone rest ver false = .ok (P, first, l4))
    (hsm : smallL rest ∧ free.length ≤ 1000 ∧ gone.length ≤ 1000 ∧ (pagesOf rest).length ≤ 10000 ∧ rest.length ≤ 10000) : ∃ own olds, EndFacts pg free gone rest ver P first l4 own olds := by
  unfold endX at h
  split at h
  · next hv =>
    split at h
    · next hv2 =>
      have hV0 := of_decide_eq_true hv2.2
      obtain ⟨hTI, hle⟩ := end_TI (shrink := false) hsm.2 hv.2 hv2.2
      have eL : endL3 free gone rest ver pg.length false = endL2 free gone rest ver := by unfold endL3; simp
      have eN : endN3 free gone rest ver pg.length false = pg.length := by unfold endN3; simp
      have eP : endP3 pg free gone rest ver false = zeroAll free pg := by unfold endP3; simp
      rw [eL, eN] at hTI
      rw [eL, eN, eP] at h
      split at h
      · simp at h
      · next l4' m own hrun =>
        injection h with h
        injection h with h1 h
        injection h with h2 h3
        subst h1 h2 h3
        obtain ⟨hT4, hnm, hpo⟩ := TI_run hTI hrun
        obtain ⟨olds, news, e1, e2, e3, e4, e5, e6⟩ := run_form hTI.1 hTI.2.1 hrun
        rw [List.nil_append] at e1
        have hF0 := first0_form hV0.2.1
        rw [e2] at hF0
        have ho1 : ∀ x ∈ olds, x < (pg.length : Int) := fun x hx => by have := (hF0.1 x (List.mem_append_left _ hx)).2; omega
        have hop : olds.Pairwise (· < ·) := (List.pairwise_append.1 hF0.2).1
        have hsort : own.Pairwise (· < ·) := by rw [e1]; exact sorted_append hop e3.1 ho1 e3.2
        have hlen : (layAll (listPg l4' own ver) (zeroAll free pg ++ List.replicate (m - pg.length) z89)).length = m := by
          rw [layAll_length, List.length_append, zeroAll_length, List.length_replicate]; omega
        have hm4 : m ≤ 4096 := hT4.2.2.2.1
        have hown := hT4.2.2.2.2.2.2.1
        have hnd := hT4.2.2.2.2.2.1
        have hol : own.length ≤ 4096 := by
          have := inc_len own 2 4095 hsort (fun x hx => by have := hown x hx; omega)
          omega
        refine ⟨own, olds, ⟨headD_rd own, ?_, by rw [hlen]; exact hm4, hsort, join_listPg _ _ _ hpo hT4.1, hT4.1, hT4.2.1, TI_num hT4 ⟨by omega, by omega⟩, hpo, hol, ?_, hTI.1, hTI.2.1, ?_, e4, fun hne => ?_⟩⟩
        · refine chain_end l4' own ver _ hnd (fun x hx => ?_)
          have := hown x hx
          rw [List.length_append, zeroAll_length, List.length_replicate]
          omega
        · rw [e1, List.filter_append, List.filter_eq_self.2 (fun x hx => decide_eq_true (ho1 x hx)), List.filter_eq_nil_iff.2 (fun x hx => by have := e3.2 x hx; simp; omega), List.append_nil]
        · simp only [List.length_nil] at e6
          omega
        · obtain ⟨t, hL0, hl4⟩ := e5 hne
          rw [hL0] at hV0 hTI
          have hform := hV0.2.1
          have hft := form_cons hform
          have hks : (first0 l4').Pairwise (· < ·) := (List.pairwise_append.1 hF0.2).2.1
          have hcross := (List.pairwise_append.1 hF0.2).2.2
          have hmerge : mergeL l4' [⟨0, olds⟩] = endL2 free gone rest ver := by
            rw [hL0]
            obtain ⟨ks, hk⟩ : ∃ ks, first0 l4' = ks := ⟨_, rfl⟩
            rw [hk] at hl4 hks hcross ⊢
            rw [hl4]
            unfold restL
            split
            · next hke =>
              rw [hke, List.append_nil]
              cases t with
              | nil => rw [merge_nil]
              | cons y s =>
                have hy : (0 : Int) < y.f0 := hft.1 y (List.mem_cons_self)
                rw [mergeL, if_neg (show ¬ y.f0 < (0 : Int) by omega), if_pos (show (0 : Int) < y.f0 from hy)]
                rw [merge_nil2]
            · rw [merge_eq (x := ⟨0, ks⟩) (y := ⟨0, olds⟩) t [] rfl, merge_nil2]
              have hs : sortI (ks ++ olds) = olds ++ ks := by
                have h1 : sortI (ks ++ olds) = sortI (olds ++ ks) := by
                  refine List.Perm.eq_of_pairwise (fun a b _ _ h1 h2 => by omega) (sortI_pair _) (sortI_pair _) ?_
                  exact ((sortI_perm _).trans List.perm_append_comm).trans (sortI_perm _).symm
                rw [h1]
                refine sortI_self ((List.pairwise_append.2 ⟨hop, hks, hcross⟩).imp fun h => ?_)
                omega
              rw [hs]
          refine ⟨?_, hmerge⟩
          have hv0 : validB 4096 (endL2 free gone rest ver) = true := decide_eq_true ⟨by omega, by rw [hL0]; exact hTI.1, by rw [hL0]; exact hV0.2.2⟩
          have hnd0 := hV0.2.2
          rw [show (⟨0, olds ++ first0 l4'⟩ :: t : List S64) = [⟨0, olds ++ first0 l4'⟩] ++ t from rfl, pages_append, pages_one, List.append_assoc] at hnd0
          have hpl4 : pagesOf l4' = first0 l4' ++ pagesOf t := by
            obtain ⟨ks, hk⟩ : ∃ ks, first0 l4' = ks := ⟨_, rfl⟩
            rw [hk] at hl4 ⊢
            rw [hl4]
            unfold restL
            split
            · next hke => rw [hke]; rfl
            · rw [show (⟨0, ks⟩ :: t : List S64) = [⟨0, ks⟩] ++ t from rfl, pages_append, pages_one]
          have hv4 : validB 4096 l4' = true := decide_eq_true ⟨by omega, hT4.1, by rw [hpl4]; exact (List.nodup_append.1 hnd0).2.1⟩
          have hvo : validB 4096 [⟨0, olds⟩] = true := by
            refine decide_eq_true ⟨by omega, ⟨fun f hf => ?_, by simp⟩, by rw [pages_one]; exact hop.imp fun h => by omega⟩
            obtain rfl := List.mem_singleton.1 hf
            refine ⟨by show (0 : Int) ≤ 0; omega, by show (0 : Int) ≤ _; omega, hne, fun x hx => ?_, hop⟩
            have h1 := (hF0.1 x (List.mem_append_left _ hx))
            omega
          unfold mergeOk
          rw [hv4, hvo, hmerge, hv0]
          rfl
    · simp at h
  · simp at h
theorem plistOf_nil (P : Option Addr) (c : Nat) (w : World) : Calls Tryz.prog 74 #[.slice P 0 c] w fun e w' => e = .returned (.tuple #[.slice none 0 0, .int .i64 0]) ∧ Below w.heap.size w w' := by
  go_enter Tryz.func74, Tryz.ntmps74
  go_wp2
  go_ret2
  exact ⟨rfl, Below.refl _ _⟩
theorem parts_zero {l : List S64} (hf : formP 4096 l) (h : (partsOf l).length = 0) : l = [] := by
  cases l with
  | nil => rfl
  | cons f t => rw [parts_cons f t (form_fullL hf)] at h; simp at h
theorem listOf_end {pg : List S89} {free gone : List Int} {rest : List S64} {ver : Int} {P : List S89} {first : Int} {l4 : List S64} {own olds : List Int} (h : EndFacts pg free gone rest ver P first l4 own olds) (tree : Int) (PA : Option Addr) (pc : Nat) (w : World) (hP : k89.C w PA P.length P) (hpc : P.length ≤ pc) :
    Calls Tryz.prog 32 #[.agg #[.slice PA P.length pc, .slice none 0 0, .slice none 0 0, .slice none 0 0, .int .i64 ver, .int .i64 tree], .int .i64 first] w fun e w' => ∃ v u, e = .returned (.tuple #[v, u, .int .i64 0]) ∧ Kd.N k64 64 w' w.heap.size (fun y => w.heap.size ≤ y) v l4 ∧ (Kd.int .i64).R 3 w' w.heap.size (fun _ => True) u own ∧ Below w.heap.size w w' := by
  have hol := h.olen
  have hL : ∀ (W : World) (P : Option Addr) (c : Nat), k89.C W P (listPg l4 own ver).length (listPg l4 own ver) → (listPg l4 own ver).length ≤ c → Calls Tryz.prog 74 #[.slice P (listPg l4 own ver).length c] W fun e w' => ∃ v, e = .returned (.tuple #[v, .int .i64 0]) ∧ Kd.N k64 64 w' W.heap.size (fun y => W.heap.size ≤ y) v l4 ∧ Below W.heap.size W w' := by
    intro W Q c hC hc
    by_cases ho : own = []
    · have hl4 : l4 = [] := parts_zero h.form (by have := h.parts; rw [ho] at this; simpa using this)
      have e0 : (listPg l4 own ver).length = 0 := by rw [listPg_length, ho]; rfl
      rw [e0]
      refine (plistOf_nil Q c W).mono ?_
      rintro e w' ⟨rfl, hb⟩
      exact ⟨_, rfl, by rw [hl4]; exact Kd.N_nil _ _ _ _ _, hb⟩
    · have hp := List.length_pos_iff.2 ho
      have hj := h.join
      have hn := listPg_nums l4 own ver
      have := plistOf_yes (listPg l4 own ver) Q c W hC hc (by rw [listPg_length]; omega) (by rw [listPg_length]; exact hp) (by rw [hj]; exact h.small) (by rw [hj]; exact h.form) (listPg_plain l4 own ver) ver (by rw [listPg_getD l4 own ver 0 hp]) (by rw [hn]; exact h.num) (by rw [hj, listPg_length]; exact h.parts) (by rw [hj, hn])
      rw [hj] at this
      exact this
  have := spaceListOf P own (listPg l4 own ver) PA none none none pc 0 0 0 0 0 0 ver tree w hP hpc h.plen h.chain (by omega) l4 hL
  rw [← h.first_, sortI_self (h.sorted.imp fun h => by omega)] at this
  exact this
theorem endX_code {pg : List S89} {free gone : List Int} {rest : List S64} {ver x : Int} {s : Bool} (h : endX pg free gone rest ver s = .error x) : x ≠ 0 := by
  unfold endX at h
  split at h
  · split at h
    · split at h
      · injection h with h; omega
      · simp at h
    · injection h with h; omega
  · injection h with h; omega
def off2 (b q : Nat) : Prop := q < b ∨ b + 2 ≤ q
def REC (W : World) (b : Nat) (sp : Array Value) : Prop := W.heap[b]? = some (.cells sp 25 (0, 0)) ∧ W.heap[b + 1]? = some (.cells #[.slice none 0 0, .slice none 0 0, .slice none 0 0, .slice none 0 0, .int .i64 0, .int .i64 0, .slice none 0 0, .int .i64 0, .int .i64 0] 34 (0, 0))
theorem REC.keep {W W' : World} {b : Nat} {sp : Array Value} (h : REC W b sp) (hk : ∀ k, b ≤ k → k < b + 2 → k < W.heap.size → W'.heap[k]? = W.heap[k]?) : REC W' b sp :=
  ⟨(hk _ (by omega) (by omega) (blk_lt h.1)).trans h.1, (hk _ (by omega) (by omega) (blk_lt h.2)).trans h.2⟩
theorem REC.below {W W' : World} {b : Nat} {sp : Array Value} (h : REC W b sp) (hb : Below W.heap.size W W') : REC W' b sp := h.keep fun k _ _ hk => hb.block k hk
def RM (w0 : World) (b : Nat) (sp : Array Value) (PV LV OV : Value) (pg : List S89) (l : List S64) (own : List Int) (W : World) : Prop :=
  Kd.N k89 89 W (b + 2) (fun k => off2 b k ∧ some k ≠ OV.ownBlock) PV pg ∧
  (∃ A c, LV = .slice A l.length c ∧ l.length ≤ c ∧ Kd.F k64 W (fun k => (off2 b k ∧ some k ≠ PV.ownBlock) ∧ some k ≠ OV.ownBlock) A l.length l) ∧
  (Kd.int .i64).R 3 W (b + 2) (fun k => off2 b k ∧ some k ≠ PV.ownBlock) OV own ∧ REC W b sp ∧ Below b w0 W ∧ b + 2 ≤ W.heap.size
theorem RM.below {w0 W W' : World} {b : Nat} {sp : Array Value} {PV LV OV : Value} {pg : List S89} {l : List S64} {own : List Int} (h : RM w0 b sp PV LV OV pg l own W) (hb : Below W.heap.size W W') : RM w0 b sp PV LV OV pg l own W' := by
  obtain ⟨h1, ⟨A, c, rfl, hc, hF⟩, h3, h4, h5, h6⟩ := h
  exact ⟨Kd.N_below h1 hb, ⟨A, c, rfl, hc, Kd.F_below hF hb⟩, Kd.R_below h3 hb, h4.below hb, h5.trans (hb.mono (by omega)), Nat.le_trans h6 hb.size⟩
theorem RM.pages {w0 W W' : World} {b : Nat} {sp : Array Value} {PV PV' LV OV : Value} {pg pg' : List S89} {l : List S64} {own : List Int} (h : RM w0 b sp PV LV OV pg l own W)
    (hN : Kd.N k89 89 W' (b + 2) (fun k => off2 b k ∧ some k ≠ OV.ownBlock) PV' pg') (hB : Below (b + 2) W W') (hg : W.grownBy W' PV.ownBlock) (hat : PV'.ownBlock = PV.ownBlock ∨ ∃ q, PV'.ownBlock = some q ∧ W.heap.size ≤ q) : RM w0 b sp PV' LV OV pg' l own W' := by
  obtain ⟨h1, ⟨A, c, rfl, hc, hF⟩, h3, h4, h5, h6⟩ := h
  have hbase := Kd.N_base h1
  refine ⟨hN, ⟨A, c, rfl, hc, ?_⟩, ?_, h4.keep (fun k _ h7 hk => hB.block k (by omega)), h5.trans (hB.mono (by omega)), Nat.le_trans h6 hg.size⟩
  · refine Kd.F_mono (Kd.F_after (ok := fun k => off2 b k ∧ some k ≠ OV.ownBlock) (Kd.F_mono hF (fun k hk => ⟨⟨hk.1.1, hk.2⟩, hk.1.2⟩)) hg hat) (fun k hk => ⟨⟨hk.1.1, hk.2⟩, hk.1.2⟩)
  · have hO := Kd.R_lt h3
    have hOP := h3.1
    refine Kd.R_mono (Kd.R_step (Kd.R_tight rfl h3) (fun k hk hlt => hg.block k hlt (fun e => (hOP k hk.symm).2 e))) (fun k hk => ?_)
    refine ⟨(hOP k hk.symm).1, fun e => ?_⟩
    rcases hat with ha | ⟨q, ha, hq⟩
    · exact (hOP k hk.symm).2 (e.trans ha)
    · rw [ha] at e
      injection e with e
      have := hO k hk.symm
      omega
theorem RM.take {w0 W : World} {b n m c : Nat} {A : Option Addr} {sp : Array Value} {LV OV : Value} {pg : List S89} {l : List S64} {own : List Int} (h : RM w0 b sp (.slice A n c) LV OV pg l own W) (hm : m ≤ pg.length) : RM w0 b sp (.slice A m c) LV OV (pg.take m) l own W := by
  have e : (Value.slice A m c).ownBlock = (Value.slice A n c).ownBlock := by cases A <;> rfl
  obtain ⟨h1, h2, h3, h4, h5, h6⟩ := h
  refine ⟨Kd.N_take h1 hm, ?_, ?_, h4, h5, h6⟩
  · rw [e]; exact h2
  · rw [e]; exact h3
theorem REC.cells {W : World} {b : Nat} {a0 a1 a2 a3 a4 a5 : Value} (h : REC W b #[a0, a1, a2, a3, a4, a5]) : W.cell? ⟨b, 0, none⟩ = some a0 ∧ W.cell? ⟨b, 1, none⟩ = some a1 ∧ W.cell? ⟨b, 3, none⟩ = some a3 ∧ W.cell? ⟨b, 4, none⟩ = some a4 ∧ W.cell? ⟨b, 5, none⟩ = some a5 :=
  ⟨(blk_cell h.1 0).trans rfl, (blk_cell h.1 1).trans rfl, (blk_cell h.1 3).trans rfl, (blk_cell h.1 4).trans rfl, (blk_cell h.1 5).trans rfl⟩
def EntOk (w : World) (e : Option Addr × Nat × Nat) : Prop := e.2.1 ≤ 1000000 ∧ ∀ i, i < e.2.1 → ∃ (ad : Addr) (cs : List Value) (lx : Lit), e.1 = some ad ∧ cs.length = 22 ∧ (∀ j v, cs[j]? = some v → w.cell? ((ad.add (i * 22)).add j) = some v) ∧ keyOf Tryz.prog 231 (.agg cs.toArray) = some lx
theorem EntOk.below {w w' : World} {e : Option Addr × Nat × Nat} (h : EntOk w e) (hb : Below w.heap.size w w') : EntOk w' e :=
  ⟨h.1, fun i hi => by
    obtain ⟨ad, cs, lx, h1, h2, h3, h4⟩ := h.2 i hi
    exact ⟨ad, cs, lx, h1, h2, fun j v hv => cellB hb (Nat.le_refl _) (h3 j v hv), h4⟩⟩
def PgOk (w : World) (l : List S89) : Prop := ∀ x ∈ l, EntOk w x.ent ∧ smallL x.freed
theorem PgOk.below {w w' : World} {l : List S89} (h : PgOk w l) (hb : Below w.heap.size w w') : PgOk w' l := fun x hx => ⟨(h x hx).1.below hb, (h x hx).2⟩
theorem at_89 {W : World} {A : Option Addr} {l : List S89} (h : k89.C W A l.length l) (k : Nat) (hk : k < l.length) : ∃ (ad : Addr) (A1 : Option Addr) (c1 : Nat), A = some ad ∧ (∀ (j : Nat) (v : Value), (cells89 l[k] A1 c1)[j]? = some v → W.cell? ((ad.add (k * 10)).add j) = some v) ∧ l[k].freed.length ≤ c1 ∧ k64.C W A1 l[k].freed.length l[k].freed := by
  obtain ⟨ad, c, hA, hcl, hK, hcc⟩ := ReadsRow.get_ h z89 (k : Int) (by omega) (by omega)
  have e : l.getD (k : Int).toNat z89 = l[k] := by rw [Int.toNat_natCast]; simp [hk]
  rw [e] at hK
  obtain ⟨A1, c1, rfl, h1, h2⟩ := k89_open hK
  refine ⟨ad, A1, c1, hA, fun j v hv => ?_, h1, h2⟩
  have := hcc j v hv
  rw [Int.toNat_natCast] at this
  rw [add_add]
  exact this
end Go.Proofs.YtpnhelcemodnmaaGreat
namespace Go.Proofs.YtpnhelcemodnmaaGreat
open Go.RowKit Go.Shelf Go.Proofs.YtpnhelcemodnmaaGreatW.PrintWords Go.Proofs.YtpnhelcemodnmaaGreatW.PrintLast Go.Proofs.YtpnhelcemodnmaaGreatW.PrintMore PA
open Go.ChangeShapes Go.WideShapes Go.ChangeAt
set_option linter.unusedVariables false
set_option linter.unusedSimpArgs false
attribute [local go_sem] Oper.semAt_some
theorem fields64 : ∃ f0 f1 : Field, Tryz.prog.underlying 64 = some (.struct #[f0, f1]) ∧ f0.type = 3 ∧ f0.offset = 0 ∧ f1.type = 23 ∧ f1.offset = 1 := ⟨_, _, Tryz.underlying64, rfl, rfl, rfl, rfl⟩
theorem cells3 : Tryz.prog.cellsOf 3 = 1 := by kernel_rfl
theorem cells23 : Tryz.prog.cellsOf 23 = 1 := by kernel_rfl
theorem cells64' : Tryz.prog.cellsOf 64 = 2 := by kernel_rfl
theorem weights_all {H : Type} {P : Program} {e : TypeId} {d : DataW H} {l : List (DataW H)} (h : d ∈ l) : ∀ q ∈ DataW.weights P e d, q ∈ DataW.weightsAll P e l := by
  induction l with
  | nil => cases h
  | cons a t ih =>
    intro q hq
    rw [DataW.weightsAll]
    rcases List.mem_cons.1 h with rfl | h
    · exact List.mem_append_left _ hq
    · exact List.mem_append_right _ (ih h q hq)
theorem weights_pages {H : Type} {f0 f1 : Field} (hs : Tryz.prog.underlying 64 = some (.struct #[f0, f1])) (t1 : f1.type = 23) {y0 : DataW H} {es sp : List (DataW H)} : (es.length + sp.length) * 8 ∈ DataW.weights Tryz.prog 64 (.agg [y0, .slice es sp]) := by
  have hb : Tryz.prog.bytesOf 3 = 8 := by kernel_rfl
  simp [DataW.weights, hs, t1, Tryz.underlying23, DataW.weightsEach, hb]
theorem open_freed {H : Type} {enc : TypeId × Value → H} {W : World} {held : Bool} {fuel : Nat} {cs : List Value} {x : DataW H × List MemPlace} (h : DataW.trod enc Tryz.prog W 0 (fun _ => true) held fuel 26 cs = some x) (hsz : ∀ q ∈ DataW.weights Tryz.prog 26 x.1, q ≤ reachBytes) :
    ∃ (a : Option Addr) (len cap : Nat) (l : List S64), cs = [.slice a len cap] ∧ len = l.length ∧ len ≤ cap ∧ k64.C W a l.length l ∧ ∀ f ∈ l, f.f1.length ≤ 17592186044416 := by
  rcases Deep.open_slice Tryz.underlying26 h with ⟨rfl, _⟩ | ⟨a, len, cap, m, n, D, Pl, rfl, hb, hl, hm, hmm, rfl, hx⟩
  · exact ⟨none, 0, 0, [], rfl, rfl, Nat.le_refl _, Kd.C_nil k64 W, by simp⟩
  simp only [if_true] at hmm
  have each : ∀ i, i < len → ∃ y : Int × Option Addr × Nat × Nat × List Int, (W.cell? (a.add (i * 2)) = some (.int .i64 y.1) ∧ W.cell? (a.add (i * 2 + 1)) = some (.slice y.2.1 y.2.2.1 y.2.2.2.1)) ∧ y.2.2.2.2.length = y.2.2.1 ∧ y.2.2.1 ≤ y.2.2.2.1 ∧ y.2.2.1 ≤ 17592186044416 ∧ (Kd.int .i64).C W y.2.1 y.2.2.1 y.2.2.2.2 := by
    intro i hi
    obtain ⟨cs', h1, h2⟩ := hx i (by omega)
    obtain ⟨f0, f1, hs, t0, o0, t1, o1⟩ := fields64
    obtain ⟨y0, y1, n', hyy, hcl, h3, h4⟩ := trod_struct2 hs h2
    rw [t0, o0, cells3] at h3
    rw [t1, o1, cells23] at h4
    obtain ⟨_, hlen, hcell⟩ := World.cells?_some h1
    rw [cells64'] at hlen hcell h1
    match cs', hlen with
    | [c0, c1], _ =>
      have g0 := hcell 0 (by omega)
      have g1 := hcell 1 (by omega)
      rw [Deep.add_add] at g0 g1
      simp only [List.drop_zero, List.take_succ_cons, List.take_zero, List.drop_succ_cons, Nat.add_zero, List.getElem?_cons_zero, List.getElem?_cons_succ] at h3 h4 g0 g1
      obtain ⟨v, hv⟩ : ∃ v : Int, c0 = .int .i64 v := by
        obtain ⟨v, hv, _⟩ := DataW.trod_int Tryz.underlying3 h3
        exact ⟨v, by simpa using hv⟩
      subst hv
      rcases open_ints Tryz.underlying23 Tryz.underlying3 cells3 h4 with ⟨hcs, _⟩ | ⟨a', len', cap', zs, hcs, _, hl', hm', hz, hy1, hc', hw'⟩
      · obtain rfl : c1 = .slice none 0 0 := by simpa using hcs
        exact ⟨(v, none, 0, 0, []), ⟨g0, g1⟩, rfl, Nat.le_refl _, Nat.zero_le _, Kd.C_nil _ W⟩
      · obtain rfl : c1 = .slice (some a') len' cap' := by simpa using hcs
        simp only [if_true] at hz
        have hw1 : cap' * 8 ≤ reachBytes := by
          have hD : D i = .agg [y0.1, .slice (lits .i64 (zs.take len')) (lits .i64 (zs.drop len'))] := by
            have e1 := congrArg Prod.fst hyy
            have e2 := congrArg Prod.fst hy1
            simp only at e1 e2
            rw [e1, e2]
          refine hsz _ ?_
          have hmem : D i ∈ (List.range len).map D := List.mem_map.2 ⟨i, List.mem_range.2 hi, rfl⟩
          have h5 := weights_all (P := Tryz.prog) (e := 64) hmem (cap' * 8) (by
            rw [hD]
            have h6 := weights_pages (H := H) hs t1 (y0 := y0.1) (es := lits .i64 (zs.take len')) (sp := lits .i64 (zs.drop len'))
            have e3 : (lits (H := H) .i64 (zs.take len')).length + (lits (H := H) .i64 (zs.drop len')).length = cap' := by simp [lits]; omega
            rw [e3] at h6
            exact h6)
          simp only [DataW.weights, Tryz.underlying26]
          exact List.mem_cons_of_mem _ (List.mem_append_left _ h5)
        unfold reachBytes at hw1
        obtain ⟨xs, hxl, hR, _, _, hxc⟩ := ReadsInt.ofRowC (k := .i64) (w := W) (a := some a') (len := len') (cap := cap') (zs := zs) (.inr ⟨a', rfl, hl', hm', hz, hc', hw'⟩)
        refine ⟨(v, some a', len', cap', xs), ⟨g0, g1⟩, hxl.symm, hl', by show len' ≤ _; omega, ?_⟩
        show (Kd.int .i64).C W (some a') len' xs
        rw [hxl]
        exact Kd.C_of_reads (d := (0 : Int)) (h1 := fun _ => rfl) hR
  obtain ⟨y, hy⟩ := Deep.choose_lt each
  let l : List S64 := (List.range len).map fun i => ⟨(y i).1, (y i).2.2.2.2⟩
  have hll : l.length = len := by simp [l]
  have hmx : cap ≤ 9223372036854775807 := by unfold maxLen at hm; omega
  refine ⟨some a, len, cap, l, rfl, hll.symm, hl, ?_, ?_⟩
  · refine ⟨rfl, by omega, fun _ => ⟨_, rfl, fun j q hj => ?_⟩⟩
    have hjl := (List.getElem?_eq_some_iff.1 hj).1
    obtain ⟨⟨g0, g1⟩, e1, e2, _, e3⟩ := hy j (by omega)
    have hq : q = ⟨(y j).1, (y j).2.2.2.2⟩ := by
      have h2 := (List.getElem?_eq_some_iff.1 hj).2
      rw [← h2]
      simp [l]
    subst hq
    refine ⟨[.int .i64 (y j).1, .slice (y j).2.1 (y j).2.2.2.2.length (y j).2.2.2.1], rfl, k64_mk W ⟨(y j).1, (y j).2.2.2.2⟩ (by show (y j).2.2.2.2.length ≤ _; omega) (by show (Kd.int .i64).C W _ (y j).2.2.2.2.length _; rw [e1]; exact e3), fun i u hu => ?_⟩
    match i with
    | 0 => rw [show (some (Value.int .i64 (y j).1)) = some u from hu] at g0
           exact g0
    | 1 => rw [← e1, show (some (Value.slice (y j).2.1 (y j).2.2.2.2.length (y j).2.2.2.1)) = some u from hu] at g1
           exact g1
    | i + 2 => simp at hu
  · intro f hf
    obtain ⟨i, hi, rfl⟩ := List.mem_map.1 hf
    obtain ⟨_, e1, _, e2, _⟩ := hy i (List.mem_range.1 hi)
    show (y i).2.2.2.2.length ≤ _
    omega
end Go.Proofs.YtpnhelcemodnmaaGreat
namespace Go.Proofs.YtpnhelcemodnmaaGreat
open Go.RowKit Go.Shelf Go.Proofs.YtpnhelcemodnmaaGreatW.PrintWords Go.Proofs.YtpnhelcemodnmaaGreatW.PrintLast Go.Proofs.YtpnhelcemodnmaaGreatW.PrintMore PA
set_option linter.unusedVariables false
set_option linter.unusedSimpArgs false
attribute [local go_sem] Oper.semAt_some
theorem short_one (a : List S64) (ha : ∀ f ∈ a, f.f1.length ≤ 17592186044416) : ∃ K, understorylaw12_short.f K [a] = some (decide (shortP a)) := by
  have e0 : (pagesOf (([] : List S64))).length = 0 := by simp [pagesOf, flat]
  let da := min a.length 201
  refine ⟨1 + (da + 1 + 1), ?_⟩
  unfold understorylaw12_short.f
  rw [show 1 + (da + 1 + 1) = (da + 1 + 1) + 1 by omega]
  simp only [understorylaw12_short.l0]
  rw [if_pos (by simp)]
  have h1 := short_l1 [a] 0 (by simp) a rfl ha 1 da 0 (by omega) (by omega) rfl
  rw [List.take_zero, e0] at h1
  rw [show ((0 : Nat) : Int) = 0 from rfl] at h1
  rw [h1]
  by_cases hsa : shortP a
  · rw [if_pos hsa, decide_eq_true hsa]
    simp [understorylaw12_short.l0, show wrap64 1 = 1 from by unfold wrap64; omega]
  · rw [if_neg hsa, decide_eq_false hsa]
theorem row_one {w : World} {n : Nat} {a : List S64} {A : Option Addr} {ca : Nat} (h : w.heap[n]? = some (.cells #[.slice A a.length ca] 26 (0, 0))) (hA : k64.C w A a.length a) (hca : a.length ≤ ca) : (Kd.slice 64 k64).C w (some ⟨n, 0, none⟩) 1 [a] := by
  refine block_row (ps := [a]) h ⟨rfl, fun j q hj => ?_⟩ (by simp)
  match j with
  | 0 => obtain rfl : a = q := by simpa using hj
         exact ⟨A, ca, rfl, hca, hA⟩
  | j + 1 => simp at hj
theorem short1_any (a : List S64) (A : Option Addr) (ca : Nat) (w : World) (hA : k64.C w A a.length a) (hca : a.length ≤ ca) (ha : ∀ f ∈ a, f.f1.length ≤ 17592186044416) :
    Calls Tryz.prog 14 #[.slice (some ⟨w.heap.size, 0, none⟩) 1 1] (w.alloc (.cells #[.slice A a.length ca] 26)) fun e w' => e = .returned (.bool (decide (shortP a))) ∧ Below w.heap.size w w' := by
  obtain ⟨K, hK⟩ := short_one a ha
  have hb := below_alloc1 w (.cells #[.slice A a.length ca] 26)
  refine (understorylaw12_short.calls K (some ⟨w.heap.size, 0, none⟩) 1 [a] _ _ (row_one (blk_new w _) (Kd.C_below hA hb) hca) (Nat.le_refl _) hK).mono ?_
  rintro e w' ⟨rfl, hd⟩
  exact ⟨rfl, hb.trans (hd.below.mono hb.size)⟩
def pgSmall (x : S89) : Prop := x.ent.2.1 ≤ 20 ∧ x.freed.length ≤ 100 ∧ shortP x.freed
def SmallOk (pg : List S89) (fl rn gl : Nat) : Prop := (pg.length ≤ 400 ∧ fl ≤ 400 ∧ rn ≤ 400 ∧ gl ≤ 400) ∧ ∀ x ∈ pg, pgSmall x ∧ x.data.size ≤ 600
def SmallR (pg : List S89) (fl rn gl : Nat) (w : World) (e : Ending) (w' : World) : Prop := ((e = .returned (.bool true) ∧ SmallOk pg fl rn gl) ∨ (e = .returned (.bool false) ∧ ¬ SmallOk pg fl rn gl)) ∧ Below w.heap.size w w'
set_option maxRecDepth 100000 in
set_option maxHeartbeats 1000000 in
theorem small_any (pg : List S89) (fl gl rn : Nat) (ver tree : Int) (PA FA RA GA : Option Addr) (pc fc rc gc : Nat) (w : World) (hPG : k89.C w PA pg.length pg) (hb : ∀ x ∈ pg, ∀ f ∈ x.freed, f.f1.length ≤ 17592186044416) (hpg : pg.length ≤ 9223372036854775807) :
    Calls Tryz.prog 13 #[.agg #[.slice PA pg.length pc, .slice FA fl fc, .slice RA rn rc, .slice GA gl gc, .int .i64 ver, .int .i64 tree]] w (SmallR pg fl rn gl w) := by
  have HPG := Aside0.mk hPG
  have HBD := Aside0.mk hb
  have HB0 := Aside0.mk (below_alloc1 w (.cells #[.slice PA pg.length pc, .slice FA fl fc, .slice RA rn rc, .slice GA gl gc, .int .i64 ver, .int .i64 tree] 25))
  have HK0 := Aside0.mk (blk_new w (.cells #[.slice PA pg.length pc, .slice FA fl fc, .slice RA rn rc, .slice GA gl gc, .int .i64 ver, .int .i64 tree] 25))
  obtain ⟨W0, hW0⟩ : ∃ V, w.alloc (.cells #[.slice PA pg.length pc, .slice FA fl fc, .slice RA rn rc, .slice GA gl gc, .int .i64 ver, .int .i64 tree] 25) = V := ⟨_, rfl⟩
  rw [hW0] at HB0 HK0
  obtain ⟨b, hbe⟩ : ∃ b, w.heap.size = b := ⟨_, rfl⟩
  rw [hbe] at HK0
  have HW0 := Lib.hid hW0
  have HSB : Aside0 (b < W0.heap.size) := ⟨blk_lt HK0.out⟩
  have FAIL : Aside0 (∀ W, Below w.heap.size w W → ¬ SmallOk pg fl rn gl → SmallR pg fl rn gl w (.returned (.bool false)) W) := ⟨fun W h hn => ⟨.inr ⟨rfl, hn⟩, h⟩⟩
  have p0 : W0.cell? ⟨b, 0, none⟩ = some (.slice PA pg.length pc) := (blk_cell HK0.out 0).trans rfl
  have p1 : W0.cell? ⟨b, 1, none⟩ = some (.slice FA fl fc) := (blk_cell HK0.out 1).trans rfl
  have p2 : W0.cell? ⟨b, 2, none⟩ = some (.slice RA rn rc) := (blk_cell HK0.out 2).trans rfl
  have p3 : W0.cell? ⟨b, 3, none⟩ = some (.slice GA gl gc) := (blk_cell HK0.out 3).trans rfl
  clear hPG hb hW0
  go_enter Tryz.func13, Tryz.ntmps13
  go_upto_region 1 with (fail)
  rw [HW0.out]
  by_cases c0 : pg.length > 400
  · have d0a : decide ((pg.length : Int) > 400) = true := decide_eq_true (by omega)
    have d0b : decide (400 < pg.length) = true := decide_eq_true (by omega)
    go_wp2
    go_ret
    exact FAIL.out _ HB0.out (fun h => by have := h.1; omega)
  by_cases c1 : fl > 400
  · have d0a : decide ((pg.length : Int) > 400) = false := decide_eq_false (by omega)
    have d0b : decide (400 < pg.length) = false := decide_eq_false (by omega)
    have d1a : decide ((fl : Int) > 400) = true := decide_eq_true (by omega)
    have d1b : decide (400 < fl) = true := decide_eq_true (by omega)
    go_wp2
    go_ret
    exact FAIL.out _ HB0.out (fun h => by have := h.1; omega)
  by_cases c2 : rn > 400
  · have d0a : decide ((pg.length : Int) > 400) = false := decide_eq_false (by omega)
    have d0b : decide (400 < pg.length) = false := decide_eq_false (by omega)
    have d1a : decide ((fl : Int) > 400) = false := decide_eq_false (by omega)
    have d1b : decide (400 < fl) = false := decide_eq_false (by omega)
    have d2a : decide ((rn : Int) > 400) = true := decide_eq_true (by omega)
    have d2b : decide (400 < rn) = true := decide_eq_true (by omega)
    go_wp2
    go_ret
    exact FAIL.out _ HB0.out (fun h => by have := h.1; omega)
  by_cases c3 : gl > 400
  · have d0a : decide ((pg.length : Int) > 400) = false := decide_eq_false (by omega)
    have d0b : decide (400 < pg.length) = false := decide_eq_false (by omega)
    have d1a : decide ((fl : Int) > 400) = false := decide_eq_false (by omega)
    have d1b : decide (400 < fl) = false := decide_eq_false (by omega)
    have d2a : decide ((rn : Int) > 400) = false := decide_eq_false (by omega)
    have d2b : decide (400 < rn) = false := decide_eq_false (by omega)
    have d3a : decide ((gl : Int) > 400) = true := decide_eq_true (by omega)
    have d3b : decide (400 < gl) = true := decide_eq_true (by omega)
    go_wp2
    go_ret
    exact FAIL.out _ HB0.out (fun h => by have := h.1; omega)
  have d0a : decide ((pg.length : Int) > 400) = false := decide_eq_false (by omega)
  have d0b : decide (400 < pg.length) = false := decide_eq_false (by omega)
  have d1a : decide ((fl : Int) > 400) = false := decide_eq_false (by omega)
  have d1b : decide (400 < fl) = false := decide_eq_false (by omega)
  have d2a : decide ((rn : Int) > 400) = false := decide_eq_false (by omega)
  have d2b : decide (400 < rn) = false := decide_eq_false (by omega)
  have d3a : decide ((gl : Int) > 400) = false := decide_eq_false (by omega)
  have d3b : decide (400 < gl) = false := decide_eq_false (by omega)
  have HC := Aside0.mk (show pg.length ≤ 400 ∧ fl ≤ 400 ∧ rn ≤ 400 ∧ gl ≤ 400 by omega)
  have hpl : pg.length ≤ 400 := HC.out.1
  go_upto_region 4 with (fail)
  clear d0a d0b d1a d1b d2a d2b d3a d3b c0 c1 c2 c3 p0 p1 p2 p3
  go_loopw [3] (fun i wr => ∃ k : Nat, k ≤ pg.length ∧ i = .int .i64 k ∧ Aside0 (Below W0.heap.size W0 wr) ∧ Aside0 (∀ x ∈ pg.take k, pgSmall x ∧ x.data.size ≤ 600))
    (fun i _ => pg.length - (intOf i).toNat)
  case atStart => exact ⟨0, Nat.zero_le _, rfl, ⟨Below.refl _ _⟩, ⟨by simp⟩⟩
  case round =>
    obtain ⟨k, hk, rfl, HB, HP⟩ := hrel
    have HBW := Aside0.mk (HB0.out.trans (HB.out.mono HB0.out.size))
    have p0 : wr.cell? ⟨b, 0, none⟩ = some (.slice PA pg.length pc) := (blk_cell (blk_below HK0.out HB.out) 0).trans rfl
    by_cases hlt : k < pg.length
    · obtain ⟨ad, A1, ca, had, hca, hl1, hf1⟩ := at_89 (Kd.C_below HPG.out HBW.out) k hlt
      subst had
      have hmem : pg[k] ∈ pg := List.getElem_mem hlt
      have htk : pg.take (k + 1) = pg.take k ++ [pg[k]] := List.take_succ_eq_append_getElem hlt
      have HTK := Lib.hid htk
      have HBX := Aside0.mk (HBD.out _ hmem)
      have HMX := Aside0.mk (show SmallOk pg fl rn gl → pgSmall pg[k] ∧ pg[k].data.size ≤ 600 from fun h => h.2 _ hmem)
      obtain ⟨x, hx⟩ : ∃ x, pg[k] = x := ⟨_, rfl⟩
      rw [hx] at hca hl1 hf1 HTK HBX HMX
      clear htk hmem hx
      obtain ⟨kind, no, pver, ptree, level, top, ent, next, data, freed⟩ := x
      obtain ⟨EA, el, ec⟩ := ent
      dsimp only at hl1 hf1 HBX HMX
      have u0 : wr.cell? (ad.add (k * 10)) = some (.int .i64 kind) := by have := hca 0 _ rfl; rwa [addr_add0] at this
      have u1 : wr.cell? ⟨(ad.add (k * 10)).block, (ad.add (k * 10)).off + 1, none⟩ = some (.int .i64 no) := hca 1 _ rfl
      have u2 : wr.cell? ⟨(ad.add (k * 10)).block, (ad.add (k * 10)).off + 2, none⟩ = some (.int .i64 pver) := hca 2 _ rfl
      have u3 : wr.cell? ⟨(ad.add (k * 10)).block, (ad.add (k * 10)).off + 3, none⟩ = some (.int .i64 ptree) := hca 3 _ rfl
      have u4 : wr.cell? ⟨(ad.add (k * 10)).block, (ad.add (k * 10)).off + 4, none⟩ = some (.int .i64 level) := hca 4 _ rfl
      have u5 : wr.cell? ⟨(ad.add (k * 10)).block, (ad.add (k * 10)).off + 5, none⟩ = some (.bool top) := hca 5 _ rfl
      have u6 : wr.cell? ⟨(ad.add (k * 10)).block, (ad.add (k * 10)).off + 6, none⟩ = some (.slice EA el ec) := hca 6 _ rfl
      have u7 : wr.cell? ⟨(ad.add (k * 10)).block, (ad.add (k * 10)).off + 7, none⟩ = some (.int .i64 next) := hca 7 _ rfl
      have u8 : wr.cell? ⟨(ad.add (k * 10)).block, (ad.add (k * 10)).off + 8, none⟩ = some (.string data) := hca 8 _ rfl
      have u9 : wr.cell? ⟨(ad.add (k * 10)).block, (ad.add (k * 10)).off + 9, none⟩ = some (.slice A1 freed.length ca) := hca 9 _ rfl
      have h89 : (Tryz.prog.info? 89).map (·.size) = some 10 := size89
      clear hca
      go_upto_region 7 with (fail)
      have hbk := blk_new wr (.cells #[.int .i64 kind, .int .i64 no, .int .i64 pver, .int .i64 ptree, .int .i64 level, .bool top, .slice EA el ec, .int .i64 next, .string data, .slice A1 freed.length ca] 89)
      have hb1 := below_alloc1 wr (.cells #[.int .i64 kind, .int .i64 no, .int .i64 pver, .int .i64 ptree, .int .i64 level, .bool top, .slice EA el ec, .int .i64 next, .string data, .slice A1 freed.length ca] 89)
      obtain ⟨B, hBe⟩ : ∃ B, wr.heap.size = B := ⟨_, rfl⟩
      obtain ⟨W1, hW1⟩ : ∃ W1, wr.alloc (.cells #[.int .i64 kind, .int .i64 no, .int .i64 pver, .int .i64 ptree, .int .i64 level, .bool top, .slice EA el ec, .int .i64 next, .string data, .slice A1 freed.length ca] 89) = W1 := ⟨_, rfl⟩
      rw [hW1] at hbk hb1 ⊢
      have HBL := Aside0.mk (HB.out.trans (hb1.mono HB.out.size))
      have HBV := Aside0.mk (HBW.out.trans (hb1.mono HBW.out.size))
      have HSH := Aside0.mk (short1_any freed A1 ca W1 (Kd.C_below hf1 hb1) hl1 HBX.out)
      rw [hBe] at hbk ⊢
      have e6 : W1.cell? ⟨B, 6, none⟩ = some (.slice EA el ec) := (blk_cell hbk 6).trans rfl
      have e8 : W1.cell? ⟨B, 8, none⟩ = some (.string data) := (blk_cell hbk 8).trans rfl
      have e9 : W1.cell? ⟨B, 9, none⟩ = some (.slice A1 freed.length ca) := (blk_cell hbk 9).trans rfl
      clear hbk hb1 hW1 hBe u0 u1 u2 u3 u4 u5 u6 u7 u8 u9 hf1 hl1 p0
      by_cases g0 : el > 20
      · have g0a : decide ((el : Int) > 20) = true := decide_eq_true (by omega)
        have g0b : decide (20 < el) = true := decide_eq_true (by omega)
        go_wp2
        go_ret
        exact FAIL.out _ HBV.out (fun h => by have h1 := (HMX.out h).1.1; have h2 := (HMX.out h).2; have h3 := (HMX.out h).1.2.1; dsimp only at h1 h2 h3; omega)
      by_cases g1 : data.size > 600
      · have g0a : decide ((el : Int) > 20) = false := decide_eq_false (by omega)
        have g0b : decide (20 < el) = false := decide_eq_false (by omega)
        have g1a : decide ((data.size : Int) > 600) = true := decide_eq_true (by omega)
        have g1b : decide (600 < data.size) = true := decide_eq_true (by omega)
        go_wp2
        go_ret
        exact FAIL.out _ HBV.out (fun h => by have h1 := (HMX.out h).1.1; have h2 := (HMX.out h).2; have h3 := (HMX.out h).1.2.1; dsimp only at h1 h2 h3; omega)
      by_cases g2 : freed.length > 100
      · have g0a : decide ((el : Int) > 20) = false := decide_eq_false (by omega)
        have g0b : decide (20 < el) = false := decide_eq_false (by omega)
        have g1a : decide ((data.size : Int) > 600) = false := decide_eq_false (by omega)
        have g1b : decide (600 < data.size) = false := decide_eq_false (by omega)
        have g2a : decide ((freed.length : Int) > 100) = true := decide_eq_true (by omega)
        have g2b : decide (100 < freed.length) = true := decide_eq_true (by omega)
        go_wp2
        go_ret
        exact FAIL.out _ HBV.out (fun h => by have h1 := (HMX.out h).1.1; have h2 := (HMX.out h).2; have h3 := (HMX.out h).1.2.1; dsimp only at h1 h2 h3; omega)
      have g0a : decide ((el : Int) > 20) = false := decide_eq_false (by omega)
      have g0b : decide (20 < el) = false := decide_eq_false (by omega)
      have g1a : decide ((data.size : Int) > 600) = false := decide_eq_false (by omega)
      have g1b : decide (600 < data.size) = false := decide_eq_false (by omega)
      have g2a : decide ((freed.length : Int) > 100) = false := decide_eq_false (by omega)
      have g2b : decide (100 < freed.length) = false := decide_eq_false (by omega)
      by_cases g3 : shortP freed
      · rw [decide_eq_true g3] at HSH
        have HPX := Aside0.mk (show pgSmall ⟨kind, no, pver, ptree, level, top, (EA, el, ec), next, data, freed⟩ ∧ data.size ≤ 600 from ⟨⟨by show el ≤ 20; omega, by show freed.length ≤ 100; omega, g3⟩, by omega⟩)
        go_wp2_with (go_at_call 14; (refine HSH.out.mono ?_); rintro e w5 ⟨rfl, hb5⟩; have HB5 := Aside0.mk (HBL.out.trans (hb5.mono HBL.out.size)); clear hb5)
        go_roundw
        case rel => exact ⟨k + 1, by omega, by go_num, HB5, ⟨by
          rw [HTK.out]
          intro y hy
          rcases List.mem_append.1 hy with hy | hy
          · exact HP.out y hy
          · rw [List.mem_singleton.1 hy]; exact HPX.out⟩⟩
        case measure => simp [intOf]; omega
      · rw [decide_eq_false g3] at HSH
        go_wp2_with (go_at_call 14; (refine HSH.out.mono ?_); rintro e w5 ⟨rfl, hb5⟩; have HB5 := Aside0.mk (HBV.out.trans (hb5.mono HBV.out.size)); clear hb5)
        go_ret
        exact FAIL.out _ HB5.out (fun h => g3 (HMX.out h).1.2.2)
    · obtain rfl : k = pg.length := by omega
      have HPP := Aside0.mk (show ∀ x ∈ pg, pgSmall x ∧ x.data.size ≤ 600 by have h := HP.out; rw [List.take_length] at h; exact h)
      go_wp2
      go_ret
      exact ⟨.inl ⟨rfl, HC.out, HPP.out⟩, HBW.out⟩
end Go.Proofs.YtpnhelcemodnmaaGreat
namespace Go.Proofs.YtpnhelcemodnmaaGreat
open Go.RowKit Go.Shelf Go.Proofs.YtpnhelcemodnmaaGreatW.PrintWords Go.Proofs.YtpnhelcemodnmaaGreatW.PrintLast Go.Proofs.YtpnhelcemodnmaaGreatW.PrintMore PA
open Go.ChangeShapes Go.WideShapes Go.ChangeAt
set_option linter.unusedVariables false
set_option linter.unusedSimpArgs false
attribute [local go_sem] Oper.semAt_some
theorem open_nums {H : Type} {enc : TypeId × Value → H} {W : World} {held : Bool} {fuel : Nat} {cs : List Value} {x : DataW H × List MemPlace} (h : DataW.trod enc Tryz.prog W 0 (fun _ => true) held fuel 23 cs = some x) :
    ∃ (a : Option Addr) (len cap : Nat) (l : List Int), cs = [.slice a len cap] ∧ len = l.length ∧ len ≤ cap ∧ (Kd.int .i64).C W a l.length l := by
  rcases open_ints Tryz.underlying23 Tryz.underlying3 cells3 h with ⟨hcs, _⟩ | ⟨a', len', cap', zs, hcs, _, hl', hm', hz, hy1, hc', hw'⟩
  · exact ⟨none, 0, 0, [], hcs, rfl, Nat.le_refl _, Kd.C_nil _ W⟩
  · simp only [if_true] at hz
    obtain ⟨xs, hxl, hR, _, _, hxc⟩ := ReadsInt.ofRowC (k := .i64) (w := W) (a := some a') (len := len') (cap := cap') (zs := zs) (.inr ⟨a', rfl, hl', hm', hz, hc', hw'⟩)
    refine ⟨some a', len', cap', xs, hcs, hxl, hl', ?_⟩
    exact Kd.C_of_reads (d := (0 : Int)) (h1 := fun _ => rfl) hR
theorem cells231 : Tryz.prog.cellsOf 231 = 22 := by kernel_rfl
theorem open_entries {H : Type} {enc : TypeId × Value → H} {W : World} {held : Bool} {fuel : Nat} {cs : List Value} {x : DataW H × List MemPlace} (h : DataW.trod enc Tryz.prog W 0 (fun _ => true) held fuel 87 cs = some x) :
    ∃ (a : Option Addr) (len cap : Nat), cs = [.slice a len cap] ∧ ∀ i, i < len → ∃ (ad : Addr) (cs : List Value) (lx : Lit), a = some ad ∧ cs.length = 22 ∧ (∀ j v, cs[j]? = some v → W.cell? ((ad.add (i * 22)).add j) = some v) ∧ keyOf Tryz.prog 231 (.agg cs.toArray) = some lx := by
  rcases Deep.open_slice Tryz.underlying87 h with ⟨rfl, _⟩ | ⟨a, len, cap, m, n, D, Pl, rfl, hb, hl, hm, hmm, rfl, hx⟩
  · exact ⟨none, 0, 0, rfl, fun i hi => by omega⟩
  simp only [if_true] at hmm
  refine ⟨some a, len, cap, rfl, fun i hi => ?_⟩
  obtain ⟨cs', h1, h2⟩ := hx i (by omega)
  obtain ⟨_, hlen, hcell⟩ := World.cells?_some h1
  rw [cells231] at hlen hcell h1
  have hkey := (keyOf_asKey (enc := enc) (P := Tryz.prog) (w := W) (k := 231) (by kernel_rfl) (by kernel_rfl) (v := .agg cs'.toArray) (by
    have hs : cs'.toArray.size = 22 := by simpa using hlen
    unfold Value.formed
    simp only [Tryz.underlying231, cells231, hs]
    rfl) (d := D i) (ps := Pl i) ⟨n, by simpa [Value.cells] using h2⟩).1
  refine ⟨a, cs', _, rfl, hlen, fun j v hv => ?_, hkey⟩
  have hj : j < cs'.length := (List.getElem?_eq_some_iff.1 hv).1
  have := hcell j (by omega)
  rw [hv] at this
  exact this
theorem weights_struct {H : Type} {P : Program} {t : TypeId} {fs : Array Field} (hs : P.underlying t = some (.struct fs)) {ds : List (DataW H)} {i : Nat} {f : Field} (hf : fs[i]? = some f) {d : DataW H} (hd : ds[i]? = some d) : ∀ q ∈ DataW.weights P f.type d, q ∈ DataW.weights P t (.agg ds) := by
  intro q hq
  simp only [DataW.weights, hs]
  exact DataW.weights_mem_each (j := i) (by simpa using congrArg (Option.map (·.type)) hf) hd q hq
theorem weights_slice {H : Type} {P : Program} {t e : TypeId} (hs : P.underlying t = some (.slice e)) {es sp : List (DataW H)} {d : DataW H} (hd : d ∈ es) : ∀ q ∈ DataW.weights P e d, q ∈ DataW.weights P t (.slice es sp) := by
  intro q hq
  simp only [DataW.weights, hs]
  exact List.mem_cons_of_mem _ (List.mem_append_left _ (weights_all hd q hq))
theorem fields89 : ∃ fs : Array Field, Tryz.prog.underlying 89 = some (.struct fs) ∧ fs.size = 10 ∧ (∀ i, i < 10 → ∃ f, fs[i]? = some f ∧ f.offset = i ∧ f.type = [3, 3, 3, 3, 3, 4, 87, 3, 9, 26].getD i 0) := by
  refine ⟨_, Tryz.underlying89, rfl, fun i hi => ?_⟩
  match i, hi with
  | 0, _ => exact ⟨_, rfl, rfl, rfl⟩
  | 1, _ => exact ⟨_, rfl, rfl, rfl⟩
  | 2, _ => exact ⟨_, rfl, rfl, rfl⟩
  | 3, _ => exact ⟨_, rfl, rfl, rfl⟩
  | 4, _ => exact ⟨_, rfl, rfl, rfl⟩
  | 5, _ => exact ⟨_, rfl, rfl, rfl⟩
  | 6, _ => exact ⟨_, rfl, rfl, rfl⟩
  | 7, _ => exact ⟨_, rfl, rfl, rfl⟩
  | 8, _ => exact ⟨_, rfl, rfl, rfl⟩
  | 9, _ => exact ⟨_, rfl, rfl, rfl⟩
theorem cells4' : Tryz.prog.cellsOf 4 = 1 := by kernel_rfl
theorem cells9' : Tryz.prog.cellsOf 9 = 1 := by kernel_rfl
theorem cells26' : Tryz.prog.cellsOf 26 = 1 := by kernel_rfl
theorem cells87' : Tryz.prog.cellsOf 87 = 1 := by kernel_rfl
theorem cells89' : Tryz.prog.cellsOf 89 = 10 := by kernel_rfl
theorem cells22' : Tryz.prog.cellsOf 22 = 1 := by kernel_rfl
def PageIn (W : World) (x : S89) : Prop := (∀ i, i < x.ent.2.1 → ∃ (ad : Addr) (cs : List Value) (lx : Lit), x.ent.1 = some ad ∧ cs.length = 22 ∧ (∀ j v, cs[j]? = some v → W.cell? ((ad.add (i * 22)).add j) = some v) ∧ keyOf Tryz.prog 231 (.agg cs.toArray) = some lx) ∧ ∀ f ∈ x.freed, f.f1.length ≤ 17592186044416
set_option maxRecDepth 100000 in
theorem open_page {H : Type} {enc : TypeId × Value → H} {W : World} {held : Bool} {fuel : Nat} {cs : List Value} {x : DataW H × List MemPlace} (h : DataW.trod enc Tryz.prog W 0 (fun _ => true) held fuel 89 cs = some x) (hsz : ∀ q ∈ DataW.weights Tryz.prog 89 x.1, q ≤ reachBytes) :
    ∃ (y : S89), k89.K W y cs ∧ PageIn W y := by
  obtain ⟨fs, hs, hfs, hff⟩ := fields89
  obtain ⟨xs, n, _, rfl, hl, hlen, hf⟩ := DataW.trod_struct hs h
  rw [cells89'] at hl
  rw [hfs] at hlen
  have fld : ∀ i, i < 10 → ∀ (t : TypeId), [3, 3, 3, 3, 3, 4, 87, 3, 9, 26].getD i 0 = t → Tryz.prog.cellsOf t = 1 → ∃ y, xs[i]? = some y ∧ DataW.trod enc Tryz.prog W 0 (fun _ => true) held n t ((cs.drop i).take 1) = some y := by
    intro i hi t ht hc
    obtain ⟨f, hfi, ho, hty⟩ := hff i hi
    have h1 := hf i f hfi
    rw [hty, ht, ho, hc] at h1
    have hx : i < xs.length := by omega
    exact ⟨xs[i], List.getElem?_eq_getElem hx, h1.trans (List.getElem?_eq_getElem hx)⟩
  match cs, hl with
  | [c0, c1, c2, c3, c4, c5, c6, c7, c8, c9], _ =>
    have int3 : ∀ i (hi : i < 10) (ht : [3, 3, 3, 3, 3, 4, 87, 3, 9, 26].getD i 0 = 3), ∃ v : Int, ([c0, c1, c2, c3, c4, c5, c6, c7, c8, c9].drop i).take 1 = [.int .i64 v] := by
      intro i hi ht
      obtain ⟨y, _, hy⟩ := fld i hi 3 ht cells3
      obtain ⟨v, hv, _⟩ := DataW.trod_int Tryz.underlying3 hy
      exact ⟨v, hv⟩
    obtain ⟨v0, e0⟩ := int3 0 (by omega) rfl
    obtain ⟨v1, e1⟩ := int3 1 (by omega) rfl
    obtain ⟨v2, e2⟩ := int3 2 (by omega) rfl
    obtain ⟨v3, e3⟩ := int3 3 (by omega) rfl
    obtain ⟨v4, e4⟩ := int3 4 (by omega) rfl
    obtain ⟨v7, e7⟩ := int3 7 (by omega) rfl
    obtain ⟨y5, _, h5⟩ := fld 5 (by omega) 4 rfl cells4'
    obtain ⟨v5, e5, _⟩ := DataW.trod_bool Tryz.underlying4 h5
    obtain ⟨y6, _, h6⟩ := fld 6 (by omega) 87 rfl cells87'
    obtain ⟨ea, el, ec, e6, hent⟩ := open_entries h6
    obtain ⟨y8, _, h8⟩ := fld 8 (by omega) 9 rfl cells9'
    obtain ⟨v8, e8, _⟩ := DataW.trod_string Tryz.underlying9 h8
    obtain ⟨y9, hy9, h9⟩ := fld 9 (by omega) 26 rfl cells26'
    obtain ⟨f9, hf9, ho9, ht9⟩ := hff 9 (by omega)
    have hsz9 : ∀ q ∈ DataW.weights Tryz.prog 26 y9.1, q ≤ reachBytes := fun q hq => hsz q (by
      have := weights_struct (P := Tryz.prog) hs hf9 (ds := xs.map (·.1)) (d := y9.1) (by rw [List.getElem?_map, hy9]; rfl) q
      rw [ht9] at this
      exact this hq)
    obtain ⟨fa, fl, fc, fr, e9, hfl, hfc, hfC, hfb⟩ := open_freed h9 hsz9
    simp only [List.drop_zero, List.drop_succ_cons, List.take_succ_cons, List.take_zero, List.cons.injEq, and_true] at e0 e1 e2 e3 e4 e5 e6 e7 e8 e9
    subst e0 e1 e2 e3 e4 e5 e6 e7 e8 e9
    refine ⟨⟨v0, v1, v2, v3, v4, v5, (ea, el, ec), v7, v8, fr⟩, ?_, hent, hfb⟩
    subst hfl
    exact k89_mk W ⟨v0, v1, v2, v3, v4, v5, (ea, el, ec), v7, v8, fr⟩ hfc hfC
theorem k89_len {W : World} {y : S89} {cs : List Value} (h : k89.K W y cs) : cs.length = 10 := by
  obtain ⟨A, c, rfl, _, _⟩ := k89_open h
  rfl
theorem open_pages {H : Type} {enc : TypeId × Value → H} {W : World} {held : Bool} {fuel : Nat} {cs : List Value} {x : DataW H × List MemPlace} (h : DataW.trod enc Tryz.prog W 0 (fun _ => true) held fuel 22 cs = some x) (hsz : ∀ q ∈ DataW.weights Tryz.prog 22 x.1, q ≤ reachBytes) :
    ∃ (a : Option Addr) (len cap : Nat) (l : List S89), cs = [.slice a len cap] ∧ len = l.length ∧ len ≤ cap ∧ len ≤ 9223372036854775807 ∧ k89.C W a l.length l ∧ ∀ y ∈ l, PageIn W y := by
  rcases Deep.open_slice Tryz.underlying22 h with ⟨rfl, _⟩ | ⟨a, len, cap, m, n, D, Pl, rfl, hb, hl, hm, hmm, rfl, hx⟩
  · exact ⟨none, 0, 0, [], rfl, rfl, Nat.le_refl _, by omega, Kd.C_nil k89 W, by simp⟩
  simp only [if_true] at hmm
  have each : ∀ i, i < len → ∃ y : S89 × List Value, k89.K W y.1 y.2 ∧ PageIn W y.1 ∧ ∀ (j : Nat) (u : Value), y.2[j]? = some u → W.cell? (a.add (i * 10 + j)) = some u := by
    intro i hi
    obtain ⟨cs', h1, h2⟩ := hx i (by omega)
    obtain ⟨_, hlen, hcell⟩ := World.cells?_some h1
    rw [cells89'] at hlen hcell h1
    obtain ⟨y, hy, hp⟩ := open_page h2 (fun q hq => hsz q (weights_slice Tryz.underlying22 (List.mem_map.2 ⟨i, List.mem_range.2 hi, rfl⟩) q hq))
    refine ⟨(y, cs'), hy, hp, fun j u hu => ?_⟩
    have hj : j < cs'.length := (List.getElem?_eq_some_iff.1 hu).1
    have := hcell j (by omega)
    rw [Deep.add_add] at this
    exact this.trans hu
  haveI : Inhabited (S89 × List Value) := ⟨(z89, [])⟩
  obtain ⟨y, hy⟩ := Deep.choose_lt each
  let l : List S89 := (List.range len).map fun i => (y i).1
  have hll : l.length = len := by simp [l]
  have hmx : cap ≤ 9223372036854775807 := by unfold maxLen at hm; omega
  refine ⟨some a, len, cap, l, rfl, hll.symm, hl, by omega, ?_, ?_⟩
  · refine ⟨rfl, by omega, fun _ => ⟨_, rfl, fun j q hj => ?_⟩⟩
    have hjl := (List.getElem?_eq_some_iff.1 hj).1
    obtain ⟨g0, _, g2⟩ := hy j (by omega)
    have hq : q = (y j).1 := by
      have h2 := (List.getElem?_eq_some_iff.1 hj).2
      rw [← h2]
      simp [l]
    subst hq
    exact ⟨(y j).2, k89_len g0, g0, fun i u hu => g2 i u hu⟩
  · intro q hq
    obtain ⟨i, hi, rfl⟩ := List.mem_map.1 hq
    exact (hy i (List.mem_range.1 hi)).2.1
theorem fields25 : ∃ fs : Array Field, Tryz.prog.underlying 25 = some (.struct fs) ∧ fs.size = 6 ∧ (∀ i, i < 6 → ∃ f, fs[i]? = some f ∧ f.offset = i ∧ f.type = [22, 23, 23, 23, 3, 3].getD i 0) := by
  refine ⟨_, Tryz.underlying25, rfl, fun i hi => ?_⟩
  match i, hi with
  | 0, _ => exact ⟨_, rfl, rfl, rfl⟩
  | 1, _ => exact ⟨_, rfl, rfl, rfl⟩
  | 2, _ => exact ⟨_, rfl, rfl, rfl⟩
  | 3, _ => exact ⟨_, rfl, rfl, rfl⟩
  | 4, _ => exact ⟨_, rfl, rfl, rfl⟩
  | 5, _ => exact ⟨_, rfl, rfl, rfl⟩
theorem cells25' : Tryz.prog.cellsOf 25 = 6 := by kernel_rfl
set_option maxRecDepth 100000 in
theorem open_space {H : Type} {enc : TypeId × Value → H} {W : World} {held : Bool} {fuel : Nat} {cs : List Value} {x : DataW H × List MemPlace} (h : DataW.trod enc Tryz.prog W 0 (fun _ => true) held fuel 25 cs = some x) (hsz : ∀ q ∈ DataW.weights Tryz.prog 25 x.1, q ≤ reachBytes) :
    ∃ (PA FA RA GA : Option Addr) (pc fc rn rc gc : Nat) (pg : List S89) (free gone : List Int) (ver tree : Int), cs = [.slice PA pg.length pc, .slice FA free.length fc, .slice RA rn rc, .slice GA gone.length gc, .int .i64 ver, .int .i64 tree] ∧
      k89.C W PA pg.length pg ∧ pg.length ≤ pc ∧ pg.length ≤ 9223372036854775807 ∧ (∀ y ∈ pg, PageIn W y) ∧ (Kd.int .i64).C W FA free.length free ∧ free.length ≤ fc ∧ (Kd.int .i64).C W GA gone.length gone ∧ gone.length ≤ gc := by
  obtain ⟨fs, hs, hfs, hff⟩ := fields25
  obtain ⟨xs, n, _, rfl, hl, hlen, hf⟩ := DataW.trod_struct hs h
  rw [cells25'] at hl
  rw [hfs] at hlen
  have fld : ∀ i, i < 6 → ∀ (t : TypeId), [22, 23, 23, 23, 3, 3].getD i 0 = t → Tryz.prog.cellsOf t = 1 → ∃ y, xs[i]? = some y ∧ DataW.trod enc Tryz.prog W 0 (fun _ => true) held n t ((cs.drop i).take 1) = some y := by
    intro i hi t ht hc
    obtain ⟨f, hfi, ho, hty⟩ := hff i hi
    have h1 := hf i f hfi
    rw [hty, ht, ho, hc] at h1
    have hx : i < xs.length := by omega
    exact ⟨xs[i], List.getElem?_eq_getElem hx, h1.trans (List.getElem?_eq_getElem hx)⟩
  match cs, hl with
  | [c0, c1, c2, c3, c4, c5], _ =>
    obtain ⟨y0, hy0, h0⟩ := fld 0 (by omega) 22 rfl cells22'
    obtain ⟨f0, hf0, ho0, ht0⟩ := hff 0 (by omega)
    have hsz0 : ∀ q ∈ DataW.weights Tryz.prog 22 y0.1, q ≤ reachBytes := fun q hq => hsz q (by
      have := weights_struct (P := Tryz.prog) hs hf0 (ds := xs.map (·.1)) (d := y0.1) (by rw [List.getElem?_map, hy0]; rfl) q
      rw [ht0] at this
      exact this hq)
    obtain ⟨PA, pl, pc, pg, e0, hpl, hpc, hpm, hPC, hPI⟩ := open_pages h0 hsz0
    obtain ⟨y1, _, h1⟩ := fld 1 (by omega) 23 rfl cells23
    obtain ⟨FA, fl, fc, free, e1, hfl, hfc, hFC⟩ := open_nums h1
    obtain ⟨y2, _, h2⟩ := fld 2 (by omega) 23 rfl cells23
    obtain ⟨RA, rl, rc, fresh, e2, hrl, hrc, hRC⟩ := open_nums h2
    obtain ⟨y3, _, h3⟩ := fld 3 (by omega) 23 rfl cells23
    obtain ⟨GA, gl, gc, gone, e3, hgl, hgc, hGC⟩ := open_nums h3
    obtain ⟨y4, _, h4⟩ := fld 4 (by omega) 3 rfl cells3
    obtain ⟨ver, e4, _⟩ := DataW.trod_int Tryz.underlying3 h4
    obtain ⟨y5, _, h5⟩ := fld 5 (by omega) 3 rfl cells3
    obtain ⟨tree, e5, _⟩ := DataW.trod_int Tryz.underlying3 h5
    simp only [List.drop_zero, List.drop_succ_cons, List.take_succ_cons, List.take_zero, List.cons.injEq, and_true] at e0 e1 e2 e3 e4 e5
    subst e0 e1 e2 e3 e4 e5
    subst hpl hfl hgl
    exact ⟨PA, FA, RA, GA, pc, fc, rl, rc, gc, pg, free, gone, ver, tree, rfl, hPC, hpc, hpm, hPI, hFC, hfc, hGC, hgc⟩
end Go.Proofs.YtpnhelcemodnmaaGreat
namespace Go.Proofs.YtpnhelcemodnmaaGreat
open Go.RowKit Go.Shelf Go.Proofs.YtpnhelcemodnmaaGreatW.PrintWords Go.Proofs.YtpnhelcemodnmaaGreatW.PrintLast Go.Proofs.YtpnhelcemodnmaaGreatW.PrintMore PA
set_option linter.unusedVariables false
set_option linter.unusedSimpArgs false
attribute [local go_sem] Oper.semAt_some
theorem row_int {W : World} {n : Nat} {C : Array Value} {xs : List Int} (h : W.heap[n]? = some (.cells C 3 (0, 0))) (hC : C.toList = xs.map (fun x => Value.int .i64 x)) (hm : xs.length ≤ 1000) : (Kd.int .i64).C W (some ⟨n, 0, none⟩) xs.length xs := by
  refine block_row h ⟨by rw [hC, List.length_map]; show _ = xs.length * 1; omega, fun j q hj => ?_⟩ (by omega)
  rw [hC]
  show ((xs.map (fun x => Value.int .i64 x)).drop (j * 1)).take 1 = [Value.int .i64 q]
  have hl := (List.getElem?_eq_some_iff.1 hj)
  obtain ⟨h1, h2⟩ := hl
  rw [Nat.mul_one, ← List.map_drop, List.drop_eq_getElem_cons h1, h2]
  rfl
theorem row64 {W : World} {n : Nat} {C : Array Value} {xs : List S64} (h : W.heap[n]? = some (.cells C 64 (0, 0))) (hl : C.toList.length = xs.length * 2) (hm : xs.length ≤ 1000)
    (hr : ∀ j p, xs[j]? = some p → ∃ A c, (C.toList.drop (j * 2)).take 2 = [.int .i64 p.f0, .slice A p.f1.length c] ∧ p.f1.length ≤ c ∧ (Kd.int .i64).C W A p.f1.length p.f1) : k64.C W (some ⟨n, 0, none⟩) xs.length xs := by
  refine block_row h ⟨hl, fun j q hj => ?_⟩ (by omega)
  obtain ⟨A, c, e, h1, h2⟩ := hr j q hj
  show k64.K W q ((C.toList.drop (j * 2)).take 2)
  rw [e]
  exact k64_mk W q h1 h2
theorem row83 {W : World} {n : Nat} {C : Array Value} {xs : List S83} (h : W.heap[n]? = some (.cells C 83 (0, 0))) (hl : C.toList.length = xs.length * 2) (hm : xs.length ≤ 1000)
    (hr : ∀ j p, xs[j]? = some p → (C.toList.drop (j * 2)).take 2 = [.int .i64 p.f0, .int .i64 p.f1]) : k83.C W (some ⟨n, 0, none⟩) xs.length xs := by
  refine block_row h ⟨hl, fun j q hj => ?_⟩ (by omega)
  show k83.K W q ((C.toList.drop (j * 2)).take 2)
  rw [hr j q hj]
  exact k83_mk W q
theorem one64 {W : World} {n m : Nat} {v : Int} {xs : List Int} {C1 : Array Value} (h1 : W.heap[m]? = some (.cells C1 3 (0, 0))) (hC : C1.toList = xs.map (fun x => Value.int .i64 x)) (hm : xs.length ≤ 1000) (h : W.heap[n]? = some (.cells #[.int .i64 v, .slice (some ⟨m, 0, none⟩) xs.length xs.length] 64 (0, 0))) : k64.C W (some ⟨n, 0, none⟩) 1 [⟨v, xs⟩] := by
  refine row64 (xs := [⟨v, xs⟩]) h rfl (by simp) (fun j p hj => ?_)
  match j with
  | 0 => obtain rfl : (⟨v, xs⟩ : S64) = p := by simpa using hj
         exact ⟨_, _, rfl, Nat.le_refl _, row_int h1 hC hm⟩
  | j + 1 => simp at hj
theorem two64 {W : World} {n m1 m2 : Nat} {v1 v2 : Int} {x1 x2 : List Int} {C1 C2 : Array Value} (h1 : W.heap[m1]? = some (.cells C1 3 (0, 0))) (hC1 : C1.toList = x1.map (fun x => Value.int .i64 x)) (hm1 : x1.length ≤ 1000) (h2 : W.heap[m2]? = some (.cells C2 3 (0, 0))) (hC2 : C2.toList = x2.map (fun x => Value.int .i64 x)) (hm2 : x2.length ≤ 1000)
    (h : W.heap[n]? = some (.cells #[.int .i64 v1, .slice (some ⟨m1, 0, none⟩) x1.length x1.length, .int .i64 v2, .slice (some ⟨m2, 0, none⟩) x2.length x2.length] 64 (0, 0))) : k64.C W (some ⟨n, 0, none⟩) 2 [⟨v1, x1⟩, ⟨v2, x2⟩] := by
  refine row64 (xs := [⟨v1, x1⟩, ⟨v2, x2⟩]) h rfl (by simp) (fun j p hj => ?_)
  match j with
  | 0 => obtain rfl : (⟨v1, x1⟩ : S64) = p := by simpa using hj
         exact ⟨_, _, rfl, Nat.le_refl _, row_int h1 hC1 hm1⟩
  | 1 => obtain rfl : (⟨v2, x2⟩ : S64) = p := by simpa using hj
         exact ⟨_, _, rfl, Nat.le_refl _, row_int h2 hC2 hm2⟩
  | j + 2 => simp at hj
theorem three64 {W : World} {n m1 m2 m3 : Nat} {v1 v2 v3 : Int} {x1 x2 x3 : List Int} {C1 C2 C3 : Array Value} (h1 : W.heap[m1]? = some (.cells C1 3 (0, 0))) (hC1 : C1.toList = x1.map (fun x => Value.int .i64 x)) (hm1 : x1.length ≤ 1000) (h2 : W.heap[m2]? = some (.cells C2 3 (0, 0))) (hC2 : C2.toList = x2.map (fun x => Value.int .i64 x)) (hm2 : x2.length ≤ 1000) (h3 : W.heap[m3]? = some (.cells C3 3 (0, 0))) (hC3 : C3.toList = x3.map (fun x => Value.int .i64 x)) (hm3 : x3.length ≤ 1000)
    (h : W.heap[n]? = some (.cells #[.int .i64 v1, .slice (some ⟨m1, 0, none⟩) x1.length x1.length, .int .i64 v2, .slice (some ⟨m2, 0, none⟩) x2.length x2.length, .int .i64 v3, .slice (some ⟨m3, 0, none⟩) x3.length x3.length] 64 (0, 0))) : k64.C W (some ⟨n, 0, none⟩) 3 [⟨v1, x1⟩, ⟨v2, x2⟩, ⟨v3, x3⟩] := by
  refine row64 (xs := [⟨v1, x1⟩, ⟨v2, x2⟩, ⟨v3, x3⟩]) h rfl (by simp) (fun j p hj => ?_)
  match j with
  | 0 => obtain rfl : (⟨v1, x1⟩ : S64) = p := by simpa using hj
         exact ⟨_, _, rfl, Nat.le_refl _, row_int h1 hC1 hm1⟩
  | 1 => obtain rfl : (⟨v2, x2⟩ : S64) = p := by simpa using hj
         exact ⟨_, _, rfl, Nat.le_refl _, row_int h2 hC2 hm2⟩
  | 2 => obtain rfl : (⟨v3, x3⟩ : S64) = p := by simpa using hj
         exact ⟨_, _, rfl, Nat.le_refl _, row_int h3 hC3 hm3⟩
  | j + 3 => simp at hj
theorem new1 (w : World) (a : Obj) : (w.alloc a).heap[w.heap.size]? = some a := World.alloc_heap_new _ _
theorem new2 (w : World) (a b : Obj) : ((w.alloc a).alloc b).heap[w.heap.size]? = some a ∧ ((w.alloc a).alloc b).heap[w.heap.size + 1]? = some b := by
  have h := World.alloc_heap_new (w.alloc a) b
  rw [World.size_alloc] at h
  exact ⟨(Below.heap_alloc _ _ _ (by simp <;> omega)).trans (new1 w a), h⟩
theorem new3 (w : World) (a b c : Obj) : (((w.alloc a).alloc b).alloc c).heap[w.heap.size]? = some a ∧ (((w.alloc a).alloc b).alloc c).heap[w.heap.size + 1]? = some b ∧ (((w.alloc a).alloc b).alloc c).heap[w.heap.size + 1 + 1]? = some c := by
  have h := World.alloc_heap_new ((w.alloc a).alloc b) c
  rw [World.size_alloc, World.size_alloc] at h
  exact ⟨(Below.heap_alloc _ _ _ (by simp <;> omega)).trans (new2 w a b).1, (Below.heap_alloc _ _ _ (by simp <;> omega)).trans (new2 w a b).2, h⟩
theorem new4 (w : World) (a b c d : Obj) : ((((w.alloc a).alloc b).alloc c).alloc d).heap[w.heap.size]? = some a ∧ ((((w.alloc a).alloc b).alloc c).alloc d).heap[w.heap.size + 1]? = some b ∧ ((((w.alloc a).alloc b).alloc c).alloc d).heap[w.heap.size + 1 + 1]? = some c ∧ ((((w.alloc a).alloc b).alloc c).alloc d).heap[w.heap.size + 1 + 1 + 1]? = some d := by
  have h := World.alloc_heap_new (((w.alloc a).alloc b).alloc c) d
  rw [World.size_alloc, World.size_alloc, World.size_alloc] at h
  exact ⟨(Below.heap_alloc _ _ _ (by simp <;> omega)).trans (new3 w a b c).1, (Below.heap_alloc _ _ _ (by simp <;> omega)).trans (new3 w a b c).2.1, (Below.heap_alloc _ _ _ (by simp <;> omega)).trans (new3 w a b c).2.2, h⟩
theorem below1 (w : World) (a : Obj) : Below w.heap.size w (w.alloc a) := below_alloc1 w a
theorem below2 (w : World) (a b : Obj) : Below w.heap.size w ((w.alloc a).alloc b) := (below_alloc1 w a).alloc (by simp) b
theorem below3 (w : World) (a b c : Obj) : Below w.heap.size w (((w.alloc a).alloc b).alloc c) := (below2 w a b).alloc (by simp <;> omega) c
theorem below4 (w : World) (a b c d : Obj) : Below w.heap.size w ((((w.alloc a).alloc b).alloc c).alloc d) := (below3 w a b c).alloc (by simp <;> omega) d
theorem sane_end1 (PA FA GA : Option Addr) (pc : Nat) (W : World) (hPG : k89.C W PA 6 (List.replicate 6 z89)) (hpc : 6 ≤ pc) (hFR : (Kd.int .i64).C W FA 2 [4, 5]) (hGO : (Kd.int .i64).C W GA 1 [3]) :
    Calls Tryz.prog 15 #[.agg #[.slice PA 6 pc, .slice FA 2 2, .slice none 0 0, .slice GA 1 1, .int .i64 2, .int .i64 0], .slice none 0 0, .bool false] W fun e w' => ∃ q qc LA lc, e = .returned (.tuple #[.agg #[.slice (some ⟨q, 0, none⟩) 6 qc, .slice none 0 0, .slice none 0 0, .slice none 0 0, .int .i64 2, .int .i64 0], .int .i64 4, .slice LA 2 lc, .int .i64 0]) ∧ w'.cell? ⟨q, 40, none⟩ = some (.int .i64 4) ∧ 2 ≤ lc ∧ k64.C w' LA 2 [⟨0, [5]⟩, ⟨1, [3]⟩] ∧ Below W.heap.size W w' := by
  have h := end_ok3 (List.replicate 6 z89) [4, 5] [3] [] 2 0 false PA FA none GA none pc 2 0 0 1 0 W hPG hpc hFR (by simp) hGO (by simp) (Kd.C_nil k64 W) (Nat.le_refl _) ⟨sane_small ⟨by simp, by decide⟩, by simp, by simp, by decide, by simp⟩ (by omega) (by simp) sane_valid0 sane_inc1 sane_inc2 (by rw [sane_put]; exact sane_valid)
    2 [⟨0, [5]⟩, ⟨1, [3]⟩] 6 [4] (by omega) (by rw [if_neg (by simp), sane_put]; exact sane_form1) (by rw [if_neg (by simp), sane_put]; exact sane_small ⟨by simp, by decide⟩) (by rw [if_neg (by simp), if_neg (by simp), sane_put]; exact sane_take) sane_num (by rw [sane_pg1]; intro p hp; rw [List.mem_singleton.1 hp]; exact ⟨by decide, by decide⟩)
  refine h.mono ?_
  rintro e w' ⟨PV, LA, lc, rfl, hN, hL, hB⟩
  rw [sane_pg1, if_neg (by simp), if_neg (by simp)] at hN
  obtain ⟨pgs, hpg⟩ : ∃ pgs, layAll [sanePage [⟨0, [5]⟩, ⟨1, [3]⟩]] (zeroAll [4, 5] (List.replicate 6 z89) ++ List.replicate (6 - (List.replicate 6 z89).length) z89) = pgs := ⟨_, rfl⟩
  have hlen : pgs.length = 6 := by rw [← hpg]; rfl
  have hat : pgs.getD 4 z89 = sanePage [⟨0, [5]⟩, ⟨1, [3]⟩] := by rw [← hpg]; rfl
  rw [hpg] at hN
  obtain ⟨q, qc, rfl, _, _, _⟩ := Kd.N_form hN (by omega)
  rw [hlen] at hN ⊢
  obtain ⟨cs, _, hFK, hcc, _⟩ := Kd.N_elem hN z89 4 (by omega) (by omega)
  rw [show ((4 : Int).toNat) = 4 from rfl, hat] at hFK
  obtain ⟨A8, c8, rfl, _, _⟩ := k89_openF hFK
  exact ⟨q, qc, LA, lc, rfl, hcc 0 _ rfl, (Kd.N_reads' hL).2.1, (Kd.N_reads' hL).2.2, hB⟩
theorem sane_end2 (PA FA GA : Option Addr) (pc : Nat) (W : World) (hPG : k89.C W PA 6 (List.replicate 6 z89)) (hpc : 6 ≤ pc) (hFR : (Kd.int .i64).C W FA 2 [4, 5]) (hGO : (Kd.int .i64).C W GA 1 [3]) :
    Calls Tryz.prog 15 #[.agg #[.slice PA 6 pc, .slice FA 2 2, .slice none 0 0, .slice GA 1 1, .int .i64 2, .int .i64 0], .slice none 0 0, .bool true] W fun e w' => ∃ QA qc LA lc, e = .returned (.tuple #[.agg #[.slice QA 5 qc, .slice none 0 0, .slice none 0 0, .slice none 0 0, .int .i64 2, .int .i64 0], .int .i64 4, .slice LA 1 lc, .int .i64 0]) ∧ 1 ≤ lc ∧ k64.C w' LA 1 [⟨1, [3]⟩] ∧ Below W.heap.size W w' := by
  have h := end_ok3 (List.replicate 6 z89) [4, 5] [3] [] 2 0 true PA FA none GA none pc 2 0 0 1 0 W hPG hpc hFR (by simp) hGO (by simp) (Kd.C_nil k64 W) (Nat.le_refl _) ⟨sane_small ⟨by simp, by decide⟩, by simp, by simp, by decide, by simp⟩ (by omega) (by simp) sane_valid0 sane_inc1 sane_inc2 (by rw [sane_put]; exact sane_valid)
    2 [⟨1, [3]⟩] 5 [4] (by omega) (by rw [if_pos rfl, sane_put]; show formP 4096 (keepAll (tailN _ ((6 : Nat) : Int)) _); rw [sane_tail, sane_keep]; exact sane_form2) (by rw [if_pos rfl, sane_put]; show smallL (keepAll (tailN _ ((6 : Nat) : Int)) _); rw [sane_tail, sane_keep]; exact sane_small ⟨by simp, by decide⟩)
    (by rw [if_pos rfl, if_pos rfl, sane_put]; show takeRun 2 (keepAll (tailN _ ((6 : Nat) : Int)) _) (tailN _ ((6 : Nat) : Int)).toNat [] = _; rw [sane_tail, sane_keep]; exact sane_take2) sane_num (by rw [sane_pg2]; intro p hp; rw [List.mem_singleton.1 hp]; exact ⟨by decide, by decide⟩)
  refine h.mono ?_
  rintro e w' ⟨PV, LA, lc, rfl, hN, hL, hB⟩
  rw [if_pos rfl, if_pos rfl, sane_put] at hN
  have ht : tailN [⟨0, [4, 5]⟩, ⟨1, [3]⟩] (((List.replicate 6 z89).length : Nat) : Int) = 4 := sane_tail
  rw [ht] at hN
  obtain ⟨pgs, hpg⟩ : ∃ pgs, layAll (listPg [⟨1, [3]⟩] [4] 2) ((zeroAll [4, 5] (List.replicate 6 z89)).take (4 : Int).toNat ++ List.replicate (5 - (4 : Int).toNat) z89) = pgs := ⟨_, rfl⟩
  have hlen : pgs.length = 5 := by rw [← hpg, layAll_length]; rfl
  rw [hpg] at hN
  obtain ⟨QA, qc, rfl⟩ := Kd.N_slice hN
  rw [hlen]
  exact ⟨QA, qc, LA, lc, rfl, (Kd.N_reads' hL).2.1, (Kd.N_reads' hL).2.2, hB⟩
end Go.Proofs.YtpnhelcemodnmaaGreat
