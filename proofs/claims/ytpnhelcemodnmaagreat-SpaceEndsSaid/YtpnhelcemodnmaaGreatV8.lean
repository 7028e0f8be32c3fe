/- Texts put together for one claim: part 8. -/
import Derived.Deep.Slices
import Derived.Lib.SmallJoins
import Derived.WalkKit
import Derived.ProofKit
import Derived.OpenShut
import Derived.ShutString
import Derived.ChangeOld
import Derived.Below
import Derived.SizedLaws
import Derived.MapViews
import Derived.DeepKeys
import Derived.Maps.OwnOps
import Derived.Maps.OwnSet
import Derived.Test.YtpnhelcemodnmaaGreatV7
namespace Go.Proofs.YtpnhelcemodnmaaGreat
open Go.RowKit Go.Shelf Go.Proofs.YtpnhelcemodnmaaGreatW.PrintWords Go.Proofs.YtpnhelcemodnmaaGreatW.PrintLast Go.Proofs.YtpnhelcemodnmaaGreatW.PrintMore PA
open Go.ChangeShapes Go.WideShapes Go.ChangeAt
set_option linter.unusedVariables false
set_option linter.unusedSimpArgs false
attribute [local go_sem] Oper.semAt_some
theorem fields64 : ∃ f0 f1 : Field, Tryz.prog.underlying 64 = some (.struct #[f0, f1]) ∧ f0.type = 3 ∧ f0.offset = 0 ∧ f1.type = 23 ∧ f1.offset = 1 := ⟨_, _, Tryz.underlying64, rfl, rfl, rfl, rfl⟩
theorem cells3 : Tryz.prog.cellsOf 3 = 1 := by kernel_rfl
theorem cells23 : Tryz.prog.cellsOf 23 = 1 := by kernel_rfl
theorem cells64' : Tryz.prog.cellsOf 64 = 2 := by kernel_rfl
theorem z7o {H : Type} {P : Program} {e : TypeId} {d : DataW H} {l : List (DataW H)} (h : d ∈ l) : ∀ q ∈ DataW.weights P e d, q ∈ DataW.weightsAll P e l := by
 induction l with
 | nil => cases h
 | cons a t ih =>
  intro q hq
  rw [DataW.weightsAll]
  rcases List.mem_cons.1 h with rfl | h
  ·exact List.mem_append_left _ hq
  ·exact List.mem_append_right _ (ih h q hq)
theorem z96 {H : Type} {f0 f1 : Field} (hs : Tryz.prog.underlying 64 = some (.struct #[f0, f1])) (t1 : f1.type = 23) {y0 : DataW H} {es sp : List (DataW H)} : (es.length + sp.length) * 8 ∈ DataW.weights Tryz.prog 64 (.agg [y0, .slice es sp]) := by
 have hb : Tryz.prog.bytesOf 3 = 8 := by kernel_rfl
 simp [DataW.weights, hs, t1, Tryz.underlying23, DataW.weightsEach, hb]
theorem z7p {H : Type} {enc : TypeId × Value → H} {W : World} {held : Bool} {fuel : Nat} {cs : List Value} {x : DataW H × List MemPlace} (h : DataW.trod enc Tryz.prog W 0 (fun _ => true) held fuel 26 cs = some x) (hsz : ∀ q ∈ DataW.weights Tryz.prog 26 x.1, q ≤ reachBytes) :
  ∃ (a : Option Addr) (len cap : Nat) (l : List S64), cs = [.slice a len cap] ∧ len = l.length ∧ len ≤ cap ∧ k64.C W a l.length l ∧ ∀ f ∈ l, f.f1.length ≤ 17592186044416 := by
 rcases Deep.open_slice Tryz.underlying26 h with ⟨rfl, _⟩ | ⟨a, len, cap, m, n, D, Pl, rfl, hb, hl, hm, hmm, rfl, hx⟩
 ·exact ⟨none, 0, 0, [], rfl, rfl, Nat.le_refl _, Kd.C_nil k64 W, by simp⟩
 simp only [if_true] at hmm
 have each : ∀ i, i < len → ∃ y : Int × Option Addr × Nat × Nat × List Int, (W.cell? (a.add (i * 2)) = some (.int .i64 y.1) ∧ W.cell? (a.add (i * 2 + 1)) = some (.slice y.2.1 y.2.2.1 y.2.2.2.1)) ∧ y.2.2.2.2.length = y.2.2.1 ∧ y.2.2.1 ≤ y.2.2.2.1 ∧ y.2.2.1 ≤ 17592186044416 ∧ (Kd.int .i64).C W y.2.1 y.2.2.1 y.2.2.2.2 := by
  intro i hi
  obtain ⟨cs', h1, h2⟩ := hx i (by omega)
  obtain ⟨f0, f1, hs, t0, o0, t1, o1⟩ := fields64
  obtain ⟨y0, y1, n', hyy, hcl, h3, h4⟩ := trod_struct2 hs h2
  rw [t0, o0, cells3] at h3
  rw [t1, o1, cells23] at h4
  obtain ⟨_, hlen, hcell⟩ := World.cells?_some h1
  rw [cells64'] at hlen hcell h1
  match cs', hlen with
  | [c0, c1], _ =>
   have g0 := hcell 0 (by omega)
   have g1 := hcell 1 (by omega)
   rw [Deep.add_add] at g0 g1
   simp only [List.drop_zero, List.take_succ_cons, List.take_zero, List.drop_succ_cons, Nat.add_zero, List.getElem?_cons_zero, List.getElem?_cons_succ] at h3 h4 g0 g1
   obtain ⟨v, hv⟩ : ∃ v : Int, c0 = .int .i64 v := by
    obtain ⟨v, hv, _⟩ := DataW.trod_int Tryz.underlying3 h3
    exact ⟨v, by simpa using hv⟩
   subst hv
   rcases open_ints Tryz.underlying23 Tryz.underlying3 cells3 h4 with ⟨hcs, _⟩ | ⟨a', len', cap', zs, hcs, _, hl', hm', hz, hy1, hc', hw'⟩
   ·obtain rfl : c1 = .slice none 0 0 := by simpa using hcs
    exact ⟨(v, none, 0, 0, []), ⟨g0, g1⟩, rfl, Nat.le_refl _, Nat.zero_le _, Kd.C_nil _ W⟩
   ·obtain rfl : c1 = .slice (some a') len' cap' := by simpa using hcs
    simp only [if_true] at hz
    have hw1 : cap' * 8 ≤ reachBytes := by
     have hD : D i = .agg [y0.1, .slice (lits .i64 (zs.take len')) (lits .i64 (zs.drop len'))] := by
      have e1 := congrArg Prod.fst hyy
      have e2 := congrArg Prod.fst hy1
      simp only at e1 e2
      rw [e1, e2]
     refine hsz _ ?_
     have hmem : D i ∈ (List.range len).map D := List.mem_map.2 ⟨i, List.mem_range.2 hi, rfl⟩
     have h5 := z7o (P := Tryz.prog) (e := 64) hmem (cap' * 8) (by
      rw [hD]
      have h6 := z96 (H := H) hs t1 (y0 := y0.1) (es := lits .i64 (zs.take len')) (sp := lits .i64 (zs.drop len'))
      have e3 : (lits (H := H) .i64 (zs.take len')).length + (lits (H := H) .i64 (zs.drop len')).length = cap' := by simp [lits]; omega
      rw [e3] at h6
      exact h6)
     simp only [DataW.weights, Tryz.underlying26]
     exact List.mem_cons_of_mem _ (List.mem_append_left _ h5)
    unfold reachBytes at hw1
    obtain ⟨xs, hxl, hR, _, _, hxc⟩ := ReadsInt.ofRowC (k := .i64) (w := W) (a := some a') (len := len') (cap := cap') (zs := zs) (.inr ⟨a', rfl, hl', hm', hz, hc', hw'⟩)
    refine ⟨(v, some a', len', cap', xs), ⟨g0, g1⟩, hxl.symm, hl', by show len' ≤ _; omega, ?_⟩
    show (Kd.int .i64).C W (some a') len' xs
    rw [hxl]
    exact Kd.C_of_reads (d := (0 : Int)) (h1 := fun _ => rfl) hR
 obtain ⟨y, hy⟩ := Deep.choose_lt each
 let l : List S64 := (List.range len).map fun i => ⟨(y i).1, (y i).2.2.2.2⟩
 have hll : l.length = len := by simp [l]
 have hmx : cap ≤ 9223372036854775807 := by unfold maxLen at hm; omega
 refine ⟨some a, len, cap, l, rfl, hll.symm, hl, ?_, ?_⟩
 ·refine ⟨rfl, by omega, fun _ => ⟨_, rfl, fun j q hj => ?_⟩⟩
  have hjl := (List.getElem?_eq_some_iff.1 hj).1
  obtain ⟨⟨g0, g1⟩, e1, e2, _, e3⟩ := hy j (by omega)
  have hq : q = ⟨(y j).1, (y j).2.2.2.2⟩ := by
   have h2 := (List.getElem?_eq_some_iff.1 hj).2
   rw [← h2]
   simp [l]
  subst hq
  refine ⟨[.int .i64 (y j).1, .slice (y j).2.1 (y j).2.2.2.2.length (y j).2.2.2.1], rfl, k64_mk W ⟨(y j).1, (y j).2.2.2.2⟩ (by show (y j).2.2.2.2.length ≤ _; omega) (by show (Kd.int .i64).C W _ (y j).2.2.2.2.length _; rw [e1]; exact e3), fun i u hu => ?_⟩
  match i with
  | 0 =>
      rw [show (some (Value.int .i64 (y j).1)) = some u from hu] at g0
      exact g0
  | 1 =>
      rw [← e1, show (some (Value.slice (y j).2.1 (y j).2.2.2.2.length (y j).2.2.2.1)) = some u from hu] at g1
      exact g1
  | i + 2 => simp at hu
 ·intro f hf
  obtain ⟨i, hi, rfl⟩ := List.mem_map.1 hf
  obtain ⟨_, e1, _, e2, _⟩ := hy i (List.mem_range.1 hi)
  show (y i).2.2.2.2.length ≤ _
  omega
end Go.Proofs.YtpnhelcemodnmaaGreat
namespace Go.Proofs.YtpnhelcemodnmaaGreat
open Go.RowKit Go.Shelf Go.Proofs.YtpnhelcemodnmaaGreatW.PrintWords Go.Proofs.YtpnhelcemodnmaaGreatW.PrintLast Go.Proofs.YtpnhelcemodnmaaGreatW.PrintMore PA
set_option linter.unusedVariables false
set_option linter.unusedSimpArgs false
attribute [local go_sem] Oper.semAt_some
theorem short_one (a : List S64) (ha : ∀ f ∈ a, f.f1.length ≤ 17592186044416) : ∃ K, understorylaw12_short.f K [a] = some (decide (shortP a)) := by
 have e0 : (pagesOf (([] : List S64))).length = 0 := by simp [pagesOf, flat]
 let da := min a.length 201
 refine ⟨1 + (da + 1 + 1), ?_⟩
 unfold understorylaw12_short.f
 rw [show 1 + (da + 1 + 1) = (da + 1 + 1) + 1 by omega]
 simp only [understorylaw12_short.l0]
 rw [if_pos (by simp)]
 have h1 := short_l1 [a] 0 (by simp) a rfl ha 1 da 0 (by omega) (by omega) rfl
 rw [List.take_zero, e0] at h1
 rw [show ((0 : Nat) : Int) = 0 from rfl] at h1
 rw [h1]
 by_cases hsa : shortP a
 ·rw [if_pos hsa, decide_eq_true hsa]
  simp [understorylaw12_short.l0, show wrap64 1 = 1 from by unfold wrap64; omega]
 ·rw [if_neg hsa, decide_eq_false hsa]
theorem row_one {w : World} {n : Nat} {a : List S64} {A : Option Addr} {ca : Nat} (h : w.heap[n]? = some (.cells #[.slice A a.length ca] 26 (0, 0))) (hA : k64.C w A a.length a) (hca : a.length ≤ ca) : (Kd.slice 64 k64).C w (some ⟨n, 0, none⟩) 1 [a] := by
 refine z2e (ps := [a]) h ⟨rfl, fun j q hj => ?_⟩ (by simp)
 match j with
 | 0 =>
     obtain rfl : a = q := by simpa using hj
     exact ⟨A, ca, rfl, hca, hA⟩
 | j + 1 => simp at hj
theorem z7q (a : List S64) (A : Option Addr) (ca : Nat) (w : World) (hA : k64.C w A a.length a) (hca : a.length ≤ ca) (ha : ∀ f ∈ a, f.f1.length ≤ 17592186044416) :
  Calls Tryz.prog 14 #[.slice (some ⟨w.heap.size, 0, none⟩) 1 1] (w.alloc (.cells #[.slice A a.length ca] 26)) fun e w' => e = .returned (.bool (decide (shortP a))) ∧ Below w.heap.size w w' := by
 obtain ⟨K, hK⟩ := short_one a ha
 have hb := z0i w (.cells #[.slice A a.length ca] 26)
 refine (understorylaw12_short.calls K (some ⟨w.heap.size, 0, none⟩) 1 [a] _ _ (row_one (z0l w _) (Kd.C_below hA hb) hca) (Nat.le_refl _) hK).mono ?_
 rintro e w' ⟨rfl, hd⟩
 exact ⟨rfl, hb.trans (hd.below.mono hb.size)⟩
def pgSmall (x : S89) : Prop := x.ent.2.1 ≤ 20 ∧ x.freed.length ≤ 100 ∧ shortP x.freed
def SmallOk (pg : List S89) (fl rn gl : Nat) : Prop := (pg.length ≤ 400 ∧ fl ≤ 400 ∧ rn ≤ 400 ∧ gl ≤ 400) ∧ ∀ x ∈ pg, pgSmall x ∧ x.data.size ≤ 600
def SmallR (pg : List S89) (fl rn gl : Nat) (w : World) (e : Ending) (w' : World) : Prop := ((e = .returned (.bool true) ∧ SmallOk pg fl rn gl) ∨ (e = .returned (.bool false) ∧ ¬ SmallOk pg fl rn gl)) ∧ Below w.heap.size w w'
set_option maxRecDepth 100000 in
set_option maxHeartbeats 1000000 in
theorem small_any (pg : List S89) (fl gl rn : Nat) (ver tree : Int) (PA FA RA GA : Option Addr) (pc fc rc gc : Nat) (w : World) (hPG : k89.C w PA pg.length pg) (hb : ∀ x ∈ pg, ∀ f ∈ x.freed, f.f1.length ≤ 17592186044416) (hpg : pg.length ≤ 9223372036854775807) :
  Calls Tryz.prog 13 #[.agg #[.slice PA pg.length pc, .slice FA fl fc, .slice RA rn rc, .slice GA gl gc, .int .i64 ver, .int .i64 tree]] w (SmallR pg fl rn gl w) := by
 have HPG := Aside0.mk hPG
 have HBD := Aside0.mk hb
 have HB0 := Aside0.mk (z0i w (.cells #[.slice PA pg.length pc, .slice FA fl fc, .slice RA rn rc, .slice GA gl gc, .int .i64 ver, .int .i64 tree] 25))
 have HK0 := Aside0.mk (z0l w (.cells #[.slice PA pg.length pc, .slice FA fl fc, .slice RA rn rc, .slice GA gl gc, .int .i64 ver, .int .i64 tree] 25))
 obtain ⟨W0, hW0⟩ : ∃ V, w.alloc (.cells #[.slice PA pg.length pc, .slice FA fl fc, .slice RA rn rc, .slice GA gl gc, .int .i64 ver, .int .i64 tree] 25) = V := ⟨_, rfl⟩
 rw [hW0] at HB0 HK0
 obtain ⟨b, hbe⟩ : ∃ b, w.heap.size = b := ⟨_, rfl⟩
 rw [hbe] at HK0
 have HW0 := Lib.hid hW0
 have HSB : Aside0 (b < W0.heap.size) := ⟨z0w HK0.out⟩
 have FAIL : Aside0 (∀ W, Below w.heap.size w W → ¬ SmallOk pg fl rn gl → SmallR pg fl rn gl w (.returned (.bool false)) W) := ⟨fun W h hn => ⟨.inr ⟨rfl, hn⟩, h⟩⟩
 have p0 : W0.cell? ⟨b, 0, none⟩ = some (.slice PA pg.length pc) := (z0a HK0.out 0).trans rfl
 have p1 : W0.cell? ⟨b, 1, none⟩ = some (.slice FA fl fc) := (z0a HK0.out 1).trans rfl
 have p2 : W0.cell? ⟨b, 2, none⟩ = some (.slice RA rn rc) := (z0a HK0.out 2).trans rfl
 have p3 : W0.cell? ⟨b, 3, none⟩ = some (.slice GA gl gc) := (z0a HK0.out 3).trans rfl
 clear hPG hb hW0
 go_enter Tryz.func13, Tryz.ntmps13
 go_upto_region 1 with (fail)
 rw [HW0.out]
 by_cases c0 : pg.length > 400
 ·have d0a : decide ((pg.length : Int) > 400) = true := decide_eq_true (by omega)
  have d0b : decide (400 < pg.length) = true := decide_eq_true (by omega)
  go_wp2
  go_ret
  exact FAIL.out _ HB0.out (fun h => by have := h.1; omega)
 by_cases c1 : fl > 400
 ·have d0a : decide ((pg.length : Int) > 400) = false := decide_eq_false (by omega)
  have d0b : decide (400 < pg.length) = false := decide_eq_false (by omega)
  have d1a : decide ((fl : Int) > 400) = true := decide_eq_true (by omega)
  have d1b : decide (400 < fl) = true := decide_eq_true (by omega)
  go_wp2
  go_ret
  exact FAIL.out _ HB0.out (fun h => by have := h.1; omega)
 by_cases c2 : rn > 400
 ·have d0a : decide ((pg.length : Int) > 400) = false := decide_eq_false (by omega)
  have d0b : decide (400 < pg.length) = false := decide_eq_false (by omega)
  have d1a : decide ((fl : Int) > 400) = false := decide_eq_false (by omega)
  have d1b : decide (400 < fl) = false := decide_eq_false (by omega)
  have d2a : decide ((rn : Int) > 400) = true := decide_eq_true (by omega)
  have d2b : decide (400 < rn) = true := decide_eq_true (by omega)
  go_wp2
  go_ret
  exact FAIL.out _ HB0.out (fun h => by have := h.1; omega)
 by_cases c3 : gl > 400
 ·have d0a : decide ((pg.length : Int) > 400) = false := decide_eq_false (by omega)
  have d0b : decide (400 < pg.length) = false := decide_eq_false (by omega)
  have d1a : decide ((fl : Int) > 400) = false := decide_eq_false (by omega)
  have d1b : decide (400 < fl) = false := decide_eq_false (by omega)
  have d2a : decide ((rn : Int) > 400) = false := decide_eq_false (by omega)
  have d2b : decide (400 < rn) = false := decide_eq_false (by omega)
  have d3a : decide ((gl : Int) > 400) = true := decide_eq_true (by omega)
  have d3b : decide (400 < gl) = true := decide_eq_true (by omega)
  go_wp2
  go_ret
  exact FAIL.out _ HB0.out (fun h => by have := h.1; omega)
 have d0a : decide ((pg.length : Int) > 400) = false := decide_eq_false (by omega)
 have d0b : decide (400 < pg.length) = false := decide_eq_false (by omega)
 have d1a : decide ((fl : Int) > 400) = false := decide_eq_false (by omega)
 have d1b : decide (400 < fl) = false := decide_eq_false (by omega)
 have d2a : decide ((rn : Int) > 400) = false := decide_eq_false (by omega)
 have d2b : decide (400 < rn) = false := decide_eq_false (by omega)
 have d3a : decide ((gl : Int) > 400) = false := decide_eq_false (by omega)
 have d3b : decide (400 < gl) = false := decide_eq_false (by omega)
 have HC := Aside0.mk (show pg.length ≤ 400 ∧ fl ≤ 400 ∧ rn ≤ 400 ∧ gl ≤ 400 by omega)
 have hpl : pg.length ≤ 400 := HC.out.1
 go_upto_region 4 with (fail)
 clear d0a d0b d1a d1b d2a d2b d3a d3b c0 c1 c2 c3 p0 p1 p2 p3
 go_loopw [3] (fun i wr => ∃ k : Nat, k ≤ pg.length ∧ i = .int .i64 k ∧ Aside0 (Below W0.heap.size W0 wr) ∧ Aside0 (∀ x ∈ pg.take k, pgSmall x ∧ x.data.size ≤ 600))
  (fun i _ => pg.length - (intOf i).toNat)
 case atStart => exact ⟨0, Nat.zero_le _, rfl, ⟨Below.refl _ _⟩, ⟨by simp⟩⟩
 case round =>
  obtain ⟨k, hk, rfl, HB, HP⟩ := hrel
  have HBW := Aside0.mk (HB0.out.trans (HB.out.mono HB0.out.size))
  have p0 : wr.cell? ⟨b, 0, none⟩ = some (.slice PA pg.length pc) := (z0a (z0g HK0.out HB.out) 0).trans rfl
  by_cases hlt : k < pg.length
  ·obtain ⟨ad, A1, ca, had, hca, hl1, hf1⟩ := at_89 (Kd.C_below HPG.out HBW.out) k hlt
   subst had
   have hmem : pg[k] ∈ pg := List.getElem_mem hlt
   have htk : pg.take (k + 1) = pg.take k ++ [pg[k]] := List.take_succ_eq_append_getElem hlt
   have HTK := Lib.hid htk
   have HBX := Aside0.mk (HBD.out _ hmem)
   have HMX := Aside0.mk (show SmallOk pg fl rn gl → pgSmall pg[k] ∧ pg[k].data.size ≤ 600 from fun h => h.2 _ hmem)
   obtain ⟨x, hx⟩ : ∃ x, pg[k] = x := ⟨_, rfl⟩
   rw [hx] at hca hl1 hf1 HTK HBX HMX
   clear htk hmem hx
   obtain ⟨kind, no, pver, ptree, level, top, ent, next, data, freed⟩ := x
   obtain ⟨EA, el, ec⟩ := ent
   dsimp only at hl1 hf1 HBX HMX
   have u0 : wr.cell? (ad.add (k * 10)) = some (.int .i64 kind) := by have := hca 0 _ rfl; rwa [z09] at this
   have u1 : wr.cell? ⟨(ad.add (k * 10)).block, (ad.add (k * 10)).off + 1, none⟩ = some (.int .i64 no) := hca 1 _ rfl
   have u2 : wr.cell? ⟨(ad.add (k * 10)).block, (ad.add (k * 10)).off + 2, none⟩ = some (.int .i64 pver) := hca 2 _ rfl
   have u3 : wr.cell? ⟨(ad.add (k * 10)).block, (ad.add (k * 10)).off + 3, none⟩ = some (.int .i64 ptree) := hca 3 _ rfl
   have u4 : wr.cell? ⟨(ad.add (k * 10)).block, (ad.add (k * 10)).off + 4, none⟩ = some (.int .i64 level) := hca 4 _ rfl
   have u5 : wr.cell? ⟨(ad.add (k * 10)).block, (ad.add (k * 10)).off + 5, none⟩ = some (.bool top) := hca 5 _ rfl
   have u6 : wr.cell? ⟨(ad.add (k * 10)).block, (ad.add (k * 10)).off + 6, none⟩ = some (.slice EA el ec) := hca 6 _ rfl
   have u7 : wr.cell? ⟨(ad.add (k * 10)).block, (ad.add (k * 10)).off + 7, none⟩ = some (.int .i64 next) := hca 7 _ rfl
   have u8 : wr.cell? ⟨(ad.add (k * 10)).block, (ad.add (k * 10)).off + 8, none⟩ = some (.string data) := hca 8 _ rfl
   have u9 : wr.cell? ⟨(ad.add (k * 10)).block, (ad.add (k * 10)).off + 9, none⟩ = some (.slice A1 freed.length ca) := hca 9 _ rfl
   have h89 : (Tryz.prog.info? 89).map (·.size) = some 10 := size89
   clear hca
   go_upto_region 7 with (fail)
   have hbk := z0l wr (.cells #[.int .i64 kind, .int .i64 no, .int .i64 pver, .int .i64 ptree, .int .i64 level, .bool top, .slice EA el ec, .int .i64 next, .string data, .slice A1 freed.length ca] 89)
   have hb1 := z0i wr (.cells #[.int .i64 kind, .int .i64 no, .int .i64 pver, .int .i64 ptree, .int .i64 level, .bool top, .slice EA el ec, .int .i64 next, .string data, .slice A1 freed.length ca] 89)
   obtain ⟨B, hBe⟩ : ∃ B, wr.heap.size = B := ⟨_, rfl⟩
   obtain ⟨W1, hW1⟩ : ∃ W1, wr.alloc (.cells #[.int .i64 kind, .int .i64 no, .int .i64 pver, .int .i64 ptree, .int .i64 level, .bool top, .slice EA el ec, .int .i64 next, .string data, .slice A1 freed.length ca] 89) = W1 := ⟨_, rfl⟩
   rw [hW1] at hbk hb1 ⊢
   have HBL := Aside0.mk (HB.out.trans (hb1.mono HB.out.size))
   have HBV := Aside0.mk (HBW.out.trans (hb1.mono HBW.out.size))
   have HSH := Aside0.mk (z7q freed A1 ca W1 (Kd.C_below hf1 hb1) hl1 HBX.out)
   rw [hBe] at hbk ⊢
   have e6 : W1.cell? ⟨B, 6, none⟩ = some (.slice EA el ec) := (z0a hbk 6).trans rfl
   have e8 : W1.cell? ⟨B, 8, none⟩ = some (.string data) := (z0a hbk 8).trans rfl
   have e9 : W1.cell? ⟨B, 9, none⟩ = some (.slice A1 freed.length ca) := (z0a hbk 9).trans rfl
   clear hbk hb1 hW1 hBe u0 u1 u2 u3 u4 u5 u6 u7 u8 u9 hf1 hl1 p0
   by_cases g0 : el > 20
   ·have g0a : decide ((el : Int) > 20) = true := decide_eq_true (by omega)
    have g0b : decide (20 < el) = true := decide_eq_true (by omega)
    go_wp2
    go_ret
    exact FAIL.out _ HBV.out (fun h => by have h1 := (HMX.out h).1.1; have h2 := (HMX.out h).2; have h3 := (HMX.out h).1.2.1; dsimp only at h1 h2 h3; omega)
   by_cases g1 : data.size > 600
   ·have g0a : decide ((el : Int) > 20) = false := decide_eq_false (by omega)
    have g0b : decide (20 < el) = false := decide_eq_false (by omega)
    have g1a : decide ((data.size : Int) > 600) = true := decide_eq_true (by omega)
    have g1b : decide (600 < data.size) = true := decide_eq_true (by omega)
    go_wp2
    go_ret
    exact FAIL.out _ HBV.out (fun h => by have h1 := (HMX.out h).1.1; have h2 := (HMX.out h).2; have h3 := (HMX.out h).1.2.1; dsimp only at h1 h2 h3; omega)
   by_cases g2 : freed.length > 100
   ·have g0a : decide ((el : Int) > 20) = false := decide_eq_false (by omega)
    have g0b : decide (20 < el) = false := decide_eq_false (by omega)
    have g1a : decide ((data.size : Int) > 600) = false := decide_eq_false (by omega)
    have g1b : decide (600 < data.size) = false := decide_eq_false (by omega)
    have g2a : decide ((freed.length : Int) > 100) = true := decide_eq_true (by omega)
    have g2b : decide (100 < freed.length) = true := decide_eq_true (by omega)
    go_wp2
    go_ret
    exact FAIL.out _ HBV.out (fun h => by have h1 := (HMX.out h).1.1; have h2 := (HMX.out h).2; have h3 := (HMX.out h).1.2.1; dsimp only at h1 h2 h3; omega)
   have g0a : decide ((el : Int) > 20) = false := decide_eq_false (by omega)
   have g0b : decide (20 < el) = false := decide_eq_false (by omega)
   have g1a : decide ((data.size : Int) > 600) = false := decide_eq_false (by omega)
   have g1b : decide (600 < data.size) = false := decide_eq_false (by omega)
   have g2a : decide ((freed.length : Int) > 100) = false := decide_eq_false (by omega)
   have g2b : decide (100 < freed.length) = false := decide_eq_false (by omega)
   by_cases g3 : shortP freed
   ·rw [decide_eq_true g3] at HSH
    have HPX := Aside0.mk (show pgSmall ⟨kind, no, pver, ptree, level, top, (EA, el, ec), next, data, freed⟩ ∧ data.size ≤ 600 from ⟨⟨by show el ≤ 20; omega, by show freed.length ≤ 100; omega, g3⟩, by omega⟩)
    go_wp2_with (go_at_call 14; (refine HSH.out.mono ?_); rintro e w5 ⟨rfl, hb5⟩; have HB5 := Aside0.mk (HBL.out.trans (hb5.mono HBL.out.size)); clear hb5)
    go_roundw
    case rel => exact ⟨k + 1, by omega, by go_num, HB5, ⟨by
     rw [HTK.out]
     intro y hy
     rcases List.mem_append.1 hy with hy | hy
     ·exact HP.out y hy
     ·rw [List.mem_singleton.1 hy]; exact HPX.out⟩⟩
    case measure => simp [intOf]; omega
   ·rw [decide_eq_false g3] at HSH
    go_wp2_with (go_at_call 14; (refine HSH.out.mono ?_); rintro e w5 ⟨rfl, hb5⟩; have HB5 := Aside0.mk (HBV.out.trans (hb5.mono HBV.out.size)); clear hb5)
    go_ret
    exact FAIL.out _ HB5.out (fun h => g3 (HMX.out h).1.2.2)
  ·obtain rfl : k = pg.length := by omega
   have HPP := Aside0.mk (show ∀ x ∈ pg, pgSmall x ∧ x.data.size ≤ 600 by have h := HP.out; rw [List.take_length] at h; exact h)
   go_wp2
   go_ret
   exact ⟨.inl ⟨rfl, HC.out, HPP.out⟩, HBW.out⟩
end Go.Proofs.YtpnhelcemodnmaaGreat
namespace Go.Proofs.YtpnhelcemodnmaaGreat
open Go.RowKit Go.Shelf Go.Proofs.YtpnhelcemodnmaaGreatW.PrintWords Go.Proofs.YtpnhelcemodnmaaGreatW.PrintLast Go.Proofs.YtpnhelcemodnmaaGreatW.PrintMore PA
open Go.ChangeShapes Go.WideShapes Go.ChangeAt
set_option linter.unusedVariables false
set_option linter.unusedSimpArgs false
attribute [local go_sem] Oper.semAt_some
theorem z4e {H : Type} {enc : TypeId × Value → H} {W : World} {held : Bool} {fuel : Nat} {cs : List Value} {x : DataW H × List MemPlace} (h : DataW.trod enc Tryz.prog W 0 (fun _ => true) held fuel 23 cs = some x) :
  ∃ (a : Option Addr) (len cap : Nat) (l : List Int), cs = [.slice a len cap] ∧ len = l.length ∧ len ≤ cap ∧ (Kd.int .i64).C W a l.length l := by
 rcases open_ints Tryz.underlying23 Tryz.underlying3 cells3 h with ⟨hcs, _⟩ | ⟨a', len', cap', zs, hcs, _, hl', hm', hz, hy1, hc', hw'⟩
 ·exact ⟨none, 0, 0, [], hcs, rfl, Nat.le_refl _, Kd.C_nil _ W⟩
 ·simp only [if_true] at hz
  obtain ⟨xs, hxl, hR, _, _, hxc⟩ := ReadsInt.ofRowC (k := .i64) (w := W) (a := some a') (len := len') (cap := cap') (zs := zs) (.inr ⟨a', rfl, hl', hm', hz, hc', hw'⟩)
  refine ⟨some a', len', cap', xs, hcs, hxl, hl', ?_⟩
  exact Kd.C_of_reads (d := (0 : Int)) (h1 := fun _ => rfl) hR
theorem cells231 : Tryz.prog.cellsOf 231 = 22 := by kernel_rfl
theorem z97 {H : Type} {enc : TypeId × Value → H} {W : World} {held : Bool} {fuel : Nat} {cs : List Value} {x : DataW H × List MemPlace} (h : DataW.trod enc Tryz.prog W 0 (fun _ => true) held fuel 87 cs = some x) :
  ∃ (a : Option Addr) (len cap : Nat), cs = [.slice a len cap] ∧ ∀ i, i < len → ∃ (ad : Addr) (cs : List Value) (lx : Lit), a = some ad ∧ cs.length = 22 ∧ (∀ j v, cs[j]? = some v → W.cell? ((ad.add (i * 22)).add j) = some v) ∧ keyOf Tryz.prog 231 (.agg cs.toArray) = some lx := by
 rcases Deep.open_slice Tryz.underlying87 h with ⟨rfl, _⟩ | ⟨a, len, cap, m, n, D, Pl, rfl, hb, hl, hm, hmm, rfl, hx⟩
 ·exact ⟨none, 0, 0, rfl, fun i hi => by omega⟩
 simp only [if_true] at hmm
 refine ⟨some a, len, cap, rfl, fun i hi => ?_⟩
 obtain ⟨cs', h1, h2⟩ := hx i (by omega)
 obtain ⟨_, hlen, hcell⟩ := World.cells?_some h1
 rw [cells231] at hlen hcell h1
 have hkey := (keyOf_asKey (enc := enc) (P := Tryz.prog) (w := W) (k := 231) (by kernel_rfl) (by kernel_rfl) (v := .agg cs'.toArray) (by
  have hs : cs'.toArray.size = 22 := by simpa using hlen
  unfold Value.formed
  simp only [Tryz.underlying231, cells231, hs]
  rfl) (d := D i) (ps := Pl i) ⟨n, by simpa [Value.cells] using h2⟩).1
 refine ⟨a, cs', _, rfl, hlen, fun j v hv => ?_, hkey⟩
 have hj : j < cs'.length := (List.getElem?_eq_some_iff.1 hv).1
 have := hcell j (by omega)
 rw [hv] at this
 exact this
theorem z7r {H : Type} {P : Program} {t : TypeId} {fs : Array Field} (hs : P.underlying t = some (.struct fs)) {ds : List (DataW H)} {i : Nat} {f : Field} (hf : fs[i]? = some f) {d : DataW H} (hd : ds[i]? = some d) : ∀ q ∈ DataW.weights P f.type d, q ∈ DataW.weights P t (.agg ds) := by
 intro q hq
 simp only [DataW.weights, hs]
 exact DataW.weights_mem_each (j := i) (by simpa using congrArg (Option.map (·.type)) hf) hd q hq
theorem z98 {H : Type} {P : Program} {t e : TypeId} (hs : P.underlying t = some (.slice e)) {es sp : List (DataW H)} {d : DataW H} (hd : d ∈ es) : ∀ q ∈ DataW.weights P e d, q ∈ DataW.weights P t (.slice es sp) := by
 intro q hq
 simp only [DataW.weights, hs]
 exact List.mem_cons_of_mem _ (List.mem_append_left _ (z7o hd q hq))
theorem fields89 : ∃ fs : Array Field, Tryz.prog.underlying 89 = some (.struct fs) ∧ fs.size = 10 ∧ (∀ i, i < 10 → ∃ f, fs[i]? = some f ∧ f.offset = i ∧ f.type = [3, 3, 3, 3, 3, 4, 87, 3, 9, 26].getD i 0) := by
 refine ⟨_, Tryz.underlying89, rfl, fun i hi => ?_⟩
 match i, hi with
 | 0, _ => exact ⟨_, rfl, rfl, rfl⟩
 | 1, _ => exact ⟨_, rfl, rfl, rfl⟩
 | 2, _ => exact ⟨_, rfl, rfl, rfl⟩
 | 3, _ => exact ⟨_, rfl, rfl, rfl⟩
 | 4, _ => exact ⟨_, rfl, rfl, rfl⟩
 | 5, _ => exact ⟨_, rfl, rfl, rfl⟩
 | 6, _ => exact ⟨_, rfl, rfl, rfl⟩
 | 7, _ => exact ⟨_, rfl, rfl, rfl⟩
 | 8, _ => exact ⟨_, rfl, rfl, rfl⟩
 | 9, _ => exact ⟨_, rfl, rfl, rfl⟩
theorem cells4' : Tryz.prog.cellsOf 4 = 1 := by kernel_rfl
theorem cells9' : Tryz.prog.cellsOf 9 = 1 := by kernel_rfl
theorem cells26' : Tryz.prog.cellsOf 26 = 1 := by kernel_rfl
theorem cells87' : Tryz.prog.cellsOf 87 = 1 := by kernel_rfl
theorem cells89' : Tryz.prog.cellsOf 89 = 10 := by kernel_rfl
theorem cells22' : Tryz.prog.cellsOf 22 = 1 := by kernel_rfl
def PageIn (W : World) (x : S89) : Prop := (∀ i, i < x.ent.2.1 → ∃ (ad : Addr) (cs : List Value) (lx : Lit), x.ent.1 = some ad ∧ cs.length = 22 ∧ (∀ j v, cs[j]? = some v → W.cell? ((ad.add (i * 22)).add j) = some v) ∧ keyOf Tryz.prog 231 (.agg cs.toArray) = some lx) ∧ ∀ f ∈ x.freed, f.f1.length ≤ 17592186044416
set_option maxRecDepth 100000 in
theorem open_page {H : Type} {enc : TypeId × Value → H} {W : World} {held : Bool} {fuel : Nat} {cs : List Value} {x : DataW H × List MemPlace} (h : DataW.trod enc Tryz.prog W 0 (fun _ => true) held fuel 89 cs = some x) (hsz : ∀ q ∈ DataW.weights Tryz.prog 89 x.1, q ≤ reachBytes) :
  ∃ (y : S89), k89.K W y cs ∧ PageIn W y := by
 obtain ⟨fs, hs, hfs, hff⟩ := fields89
 obtain ⟨xs, n, _, rfl, hl, hlen, hf⟩ := DataW.trod_struct hs h
 rw [cells89'] at hl
 rw [hfs] at hlen
 have fld : ∀ i, i < 10 → ∀ (t : TypeId), [3, 3, 3, 3, 3, 4, 87, 3, 9, 26].getD i 0 = t → Tryz.prog.cellsOf t = 1 → ∃ y, xs[i]? = some y ∧ DataW.trod enc Tryz.prog W 0 (fun _ => true) held n t ((cs.drop i).take 1) = some y := by
  intro i hi t ht hc
  obtain ⟨f, hfi, ho, hty⟩ := hff i hi
  have h1 := hf i f hfi
  rw [hty, ht, ho, hc] at h1
  have hx : i < xs.length := by omega
  exact ⟨xs[i], List.getElem?_eq_getElem hx, h1.trans (List.getElem?_eq_getElem hx)⟩
 match cs, hl with
 | [c0, c1, c2, c3, c4, c5, c6, c7, c8, c9], _ =>
  have int3 : ∀ i (hi : i < 10) (ht : [3, 3, 3, 3, 3, 4, 87, 3, 9, 26].getD i 0 = 3), ∃ v : Int, ([c0, c1, c2, c3, c4, c5, c6, c7, c8, c9].drop i).take 1 = [.int .i64 v] := by
   intro i hi ht
   obtain ⟨y, _, hy⟩ := fld i hi 3 ht cells3
   obtain ⟨v, hv, _⟩ := DataW.trod_int Tryz.underlying3 hy
   exact ⟨v, hv⟩
  obtain ⟨v0, e0⟩ := int3 0 (by omega) rfl
  obtain ⟨v1, e1⟩ := int3 1 (by omega) rfl
  obtain ⟨v2, e2⟩ := int3 2 (by omega) rfl
  obtain ⟨v3, e3⟩ := int3 3 (by omega) rfl
  obtain ⟨v4, e4⟩ := int3 4 (by omega) rfl
  obtain ⟨v7, e7⟩ := int3 7 (by omega) rfl
  obtain ⟨y5, _, h5⟩ := fld 5 (by omega) 4 rfl cells4'
  obtain ⟨v5, e5, _⟩ := DataW.trod_bool Tryz.underlying4 h5
  obtain ⟨y6, _, h6⟩ := fld 6 (by omega) 87 rfl cells87'
  obtain ⟨ea, el, ec, e6, hent⟩ := z97 h6
  obtain ⟨y8, _, h8⟩ := fld 8 (by omega) 9 rfl cells9'
  obtain ⟨v8, e8, _⟩ := DataW.trod_string Tryz.underlying9 h8
  obtain ⟨y9, hy9, h9⟩ := fld 9 (by omega) 26 rfl cells26'
  obtain ⟨f9, hf9, ho9, ht9⟩ := hff 9 (by omega)
  have hsz9 : ∀ q ∈ DataW.weights Tryz.prog 26 y9.1, q ≤ reachBytes := fun q hq => hsz q (by
   have := z7r (P := Tryz.prog) hs hf9 (ds := xs.map (·.1)) (d := y9.1) (by rw [List.getElem?_map, hy9]; rfl) q
   rw [ht9] at this
   exact this hq)
  obtain ⟨fa, fl, fc, fr, e9, hfl, hfc, hfC, hfb⟩ := z7p h9 hsz9
  simp only [List.drop_zero, List.drop_succ_cons, List.take_succ_cons, List.take_zero, List.cons.injEq, and_true] at e0 e1 e2 e3 e4 e5 e6 e7 e8 e9
  subst e0 e1 e2 e3 e4 e5 e6 e7 e8 e9
  refine ⟨⟨v0, v1, v2, v3, v4, v5, (ea, el, ec), v7, v8, fr⟩, ?_, hent, hfb⟩
  subst hfl
  exact k89_mk W ⟨v0, v1, v2, v3, v4, v5, (ea, el, ec), v7, v8, fr⟩ hfc hfC
theorem k89_len {W : World} {y : S89} {cs : List Value} (h : k89.K W y cs) : cs.length = 10 := by
 obtain ⟨A, c, rfl, _, _⟩ := z34 h
 rfl
theorem z99 {H : Type} {enc : TypeId × Value → H} {W : World} {held : Bool} {fuel : Nat} {cs : List Value} {x : DataW H × List MemPlace} (h : DataW.trod enc Tryz.prog W 0 (fun _ => true) held fuel 22 cs = some x) (hsz : ∀ q ∈ DataW.weights Tryz.prog 22 x.1, q ≤ reachBytes) :
  ∃ (a : Option Addr) (len cap : Nat) (l : List S89), cs = [.slice a len cap] ∧ len = l.length ∧ len ≤ cap ∧ len ≤ 9223372036854775807 ∧ k89.C W a l.length l ∧ ∀ y ∈ l, PageIn W y := by
 rcases Deep.open_slice Tryz.underlying22 h with ⟨rfl, _⟩ | ⟨a, len, cap, m, n, D, Pl, rfl, hb, hl, hm, hmm, rfl, hx⟩
 ·exact ⟨none, 0, 0, [], rfl, rfl, Nat.le_refl _, by omega, Kd.C_nil k89 W, by simp⟩
 simp only [if_true] at hmm
 have each : ∀ i, i < len → ∃ y : S89 × List Value, k89.K W y.1 y.2 ∧ PageIn W y.1 ∧ ∀ (j : Nat) (u : Value), y.2[j]? = some u → W.cell? (a.add (i * 10 + j)) = some u := by
  intro i hi
  obtain ⟨cs', h1, h2⟩ := hx i (by omega)
  obtain ⟨_, hlen, hcell⟩ := World.cells?_some h1
  rw [cells89'] at hlen hcell h1
  obtain ⟨y, hy, hp⟩ := open_page h2 (fun q hq => hsz q (z98 Tryz.underlying22 (List.mem_map.2 ⟨i, List.mem_range.2 hi, rfl⟩) q hq))
  refine ⟨(y, cs'), hy, hp, fun j u hu => ?_⟩
  have hj : j < cs'.length := (List.getElem?_eq_some_iff.1 hu).1
  have := hcell j (by omega)
  rw [Deep.add_add] at this
  exact this.trans hu
 haveI : Inhabited (S89 × List Value) := ⟨(z89, [])⟩
 obtain ⟨y, hy⟩ := Deep.choose_lt each
 let l : List S89 := (List.range len).map fun i => (y i).1
 have hll : l.length = len := by simp [l]
 have hmx : cap ≤ 9223372036854775807 := by unfold maxLen at hm; omega
 refine ⟨some a, len, cap, l, rfl, hll.symm, hl, by omega, ?_, ?_⟩
 ·refine ⟨rfl, by omega, fun _ => ⟨_, rfl, fun j q hj => ?_⟩⟩
  have hjl := (List.getElem?_eq_some_iff.1 hj).1
  obtain ⟨g0, _, g2⟩ := hy j (by omega)
  have hq : q = (y j).1 := by
   have h2 := (List.getElem?_eq_some_iff.1 hj).2
   rw [← h2]
   simp [l]
  subst hq
  exact ⟨(y j).2, k89_len g0, g0, fun i u hu => g2 i u hu⟩
 ·intro q hq
  obtain ⟨i, hi, rfl⟩ := List.mem_map.1 hq
  exact (hy i (List.mem_range.1 hi)).2.1
theorem fields25 : ∃ fs : Array Field, Tryz.prog.underlying 25 = some (.struct fs) ∧ fs.size = 6 ∧ (∀ i, i < 6 → ∃ f, fs[i]? = some f ∧ f.offset = i ∧ f.type = [22, 23, 23, 23, 3, 3].getD i 0) := by
 refine ⟨_, Tryz.underlying25, rfl, fun i hi => ?_⟩
 match i, hi with
 | 0, _ => exact ⟨_, rfl, rfl, rfl⟩
 | 1, _ => exact ⟨_, rfl, rfl, rfl⟩
 | 2, _ => exact ⟨_, rfl, rfl, rfl⟩
 | 3, _ => exact ⟨_, rfl, rfl, rfl⟩
 | 4, _ => exact ⟨_, rfl, rfl, rfl⟩
 | 5, _ => exact ⟨_, rfl, rfl, rfl⟩
theorem cells25' : Tryz.prog.cellsOf 25 = 6 := by kernel_rfl
set_option maxRecDepth 100000 in
theorem zaa {H : Type} {enc : TypeId × Value → H} {W : World} {held : Bool} {fuel : Nat} {cs : List Value} {x : DataW H × List MemPlace} (h : DataW.trod enc Tryz.prog W 0 (fun _ => true) held fuel 25 cs = some x) (hsz : ∀ q ∈ DataW.weights Tryz.prog 25 x.1, q ≤ reachBytes) :
  ∃ (PA FA RA GA : Option Addr) (pc fc rn rc gc : Nat) (pg : List S89) (free gone : List Int) (ver tree : Int), cs = [.slice PA pg.length pc, .slice FA free.length fc, .slice RA rn rc, .slice GA gone.length gc, .int .i64 ver, .int .i64 tree] ∧
   k89.C W PA pg.length pg ∧ pg.length ≤ pc ∧ pg.length ≤ 9223372036854775807 ∧ (∀ y ∈ pg, PageIn W y) ∧ (Kd.int .i64).C W FA free.length free ∧ free.length ≤ fc ∧ (Kd.int .i64).C W GA gone.length gone ∧ gone.length ≤ gc := by
 obtain ⟨fs, hs, hfs, hff⟩ := fields25
 obtain ⟨xs, n, _, rfl, hl, hlen, hf⟩ := DataW.trod_struct hs h
 rw [cells25'] at hl
 rw [hfs] at hlen
 have fld : ∀ i, i < 6 → ∀ (t : TypeId), [22, 23, 23, 23, 3, 3].getD i 0 = t → Tryz.prog.cellsOf t = 1 → ∃ y, xs[i]? = some y ∧ DataW.trod enc Tryz.prog W 0 (fun _ => true) held n t ((cs.drop i).take 1) = some y := by
  intro i hi t ht hc
  obtain ⟨f, hfi, ho, hty⟩ := hff i hi
  have h1 := hf i f hfi
  rw [hty, ht, ho, hc] at h1
  have hx : i < xs.length := by omega
  exact ⟨xs[i], List.getElem?_eq_getElem hx, h1.trans (List.getElem?_eq_getElem hx)⟩
 match cs, hl with
 | [c0, c1, c2, c3, c4, c5], _ =>
  obtain ⟨y0, hy0, h0⟩ := fld 0 (by omega) 22 rfl cells22'
  obtain ⟨f0, hf0, ho0, ht0⟩ := hff 0 (by omega)
  have hsz0 : ∀ q ∈ DataW.weights Tryz.prog 22 y0.1, q ≤ reachBytes := fun q hq => hsz q (by
   have := z7r (P := Tryz.prog) hs hf0 (ds := xs.map (·.1)) (d := y0.1) (by rw [List.getElem?_map, hy0]; rfl) q
   rw [ht0] at this
   exact this hq)
  obtain ⟨PA, pl, pc, pg, e0, hpl, hpc, hpm, hPC, hPI⟩ := z99 h0 hsz0
  obtain ⟨y1, _, h1⟩ := fld 1 (by omega) 23 rfl cells23
  obtain ⟨FA, fl, fc, free, e1, hfl, hfc, hFC⟩ := z4e h1
  obtain ⟨y2, _, h2⟩ := fld 2 (by omega) 23 rfl cells23
  obtain ⟨RA, rl, rc, fresh, e2, hrl, hrc, hRC⟩ := z4e h2
  obtain ⟨y3, _, h3⟩ := fld 3 (by omega) 23 rfl cells23
  obtain ⟨GA, gl, gc, gone, e3, hgl, hgc, hGC⟩ := z4e h3
  obtain ⟨y4, _, h4⟩ := fld 4 (by omega) 3 rfl cells3
  obtain ⟨ver, e4, _⟩ := DataW.trod_int Tryz.underlying3 h4
  obtain ⟨y5, _, h5⟩ := fld 5 (by omega) 3 rfl cells3
  obtain ⟨tree, e5, _⟩ := DataW.trod_int Tryz.underlying3 h5
  simp only [List.drop_zero, List.drop_succ_cons, List.take_succ_cons, List.take_zero, List.cons.injEq, and_true] at e0 e1 e2 e3 e4 e5
  subst e0 e1 e2 e3 e4 e5
  subst hpl hfl hgl
  exact ⟨PA, FA, RA, GA, pc, fc, rl, rc, gc, pg, free, gone, ver, tree, rfl, hPC, hpc, hpm, hPI, hFC, hfc, hGC, hgc⟩
end Go.Proofs.YtpnhelcemodnmaaGreat
namespace Go.Proofs.YtpnhelcemodnmaaGreat
open Go.RowKit Go.Shelf Go.Proofs.YtpnhelcemodnmaaGreatW.PrintWords Go.Proofs.YtpnhelcemodnmaaGreatW.PrintLast Go.Proofs.YtpnhelcemodnmaaGreatW.PrintMore PA
set_option linter.unusedVariables false
set_option linter.unusedSimpArgs false
attribute [local go_sem] Oper.semAt_some
theorem zab (ps : List S89) : ∀ (pg : List S89) (x : S89), x ∈ layAll ps pg → x ∈ ps ∨ x ∈ pg := by
 induction ps with
 | nil => intro pg x h; exact .inr h
 | cons p t ih =>
  intro pg x h
  rcases ih (pg.set p.no.toNat p) x h with h | h
  ·exact .inl (List.mem_cons_of_mem _ h)
  ·rcases List.mem_or_eq_of_mem_set h with h | h
   ·exact .inr h
   ·exact .inl (h ▸ List.mem_cons_self)
theorem zac (free : List Int) : ∀ (pg : List S89) (x : S89), x ∈ zeroAll free pg → x = z89 ∨ x ∈ pg := by
 induction free with
 | nil => intro pg x h; exact .inr h
 | cons n t ih =>
  intro pg x h
  rcases ih (pg.set n.toNat z89) x h with h | h
  ·exact .inl h
  ·rcases List.mem_or_eq_of_mem_set h with h | h
   ·exact .inr h
   ·exact .inl h
theorem zad (r : Nat) (l : List S64) : (cutL r l).1.length ≤ l.length ∧ (pagesOf (cutL r l).1).length ≤ (pagesOf l).length := by
 induction l generalizing r with
 | nil => rw [cutL]; exact ⟨Nat.le_refl _, Nat.le_refl _⟩
 | cons f t ih =>
  by_cases h1 : r < 12
  ·rw [z2s h1]; exact ⟨Nat.zero_le _, by simp [pagesOf, flat]⟩
  ·by_cases h2 : (r - 8) / 4 < f.f1.length
   ·rw [z3e h1 h2, z02, z1h]
    simp only [List.length_cons, List.length_nil, List.length_take]
    omega
   ·rw [z3f h1 h2]
    have := ih (r - (8 + 4 * f.f1.length))
    rw [z1h, z1h]
    simp only [List.length_cons]
    omega
theorem zae (n : Nat) : ∀ (l : List S64), smallL l → fullL l → ∀ q ∈ partsL n l, smallL q := by
 induction n with
 | zero => intro l _ _ q h; rw [partsL] at h; cases h
 | succ n ih =>
  intro l hs hf q h
  cases l with
  | nil => rw [partsL] at h; cases h
  | cons f t =>
   rw [partsL] at h
   have c1 := zad 490 (f :: t)
   have c2 := z3g 490 _ hf
   rcases List.mem_cons.1 h with rfl | h
   ·exact ⟨by have := hs.1; omega, by have := hs.2; omega⟩
   ·exact ih _ ⟨by have := hs.1; omega, by have := hs.2; omega⟩ c2.1 q h
theorem zaf {l : List S64} {own : List Int} {v : Int} (hs : smallL l) (hf : fullL l) {x : S89} (h : x ∈ listPg l own v) : x.ent = (none, 0, 0) ∧ smallL x.freed := by
 obtain ⟨i, hi, rfl⟩ := List.mem_iff_getElem.1 h
 have hl : i < own.length := by rw [z48] at hi; exact hi
 have e := Option.some.inj ((List.getElem?_eq_getElem hi).symm.trans (z7c l own v i hl))
 rw [e]
 refine ⟨rfl, ?_⟩
 dsimp only
 split
 ·next hp =>
  have : rd_L3 (partsOf l) (i : Int) = (partsOf l)[i] := by unfold rd_L3; rw [Int.toNat_natCast]; simp [hp]
  rw [this]
  exact zae _ l hs hf _ (List.getElem_mem hp)
 ·exact ⟨by simp, by simp [pagesOf, flat]⟩
def outPg (R : Except Int (List S89 × Int × List S64)) : List S89 := match R with | .error _ => [] | .ok (pg, _, _) => pg
def outL (R : Except Int (List S89 × Int × List S64)) : List S64 := match R with | .error _ => [] | .ok (_, _, l) => l
def outF (R : Except Int (List S89 × Int × List S64)) : Int := match R with | .error _ => 0 | .ok (_, f, _) => f
def outE (R : Except Int (List S89 × Int × List S64)) : Int := match R with | .error x => x | .ok _ => 0
def outI (i : Int) (R : Except Int (List S89 × Int × List S64)) : Int := match R with | .error _ => 0 | .ok _ => i
theorem out_ok {pg : List S89} {free gone : List Int} {rest : List S64} {ver : Int} {shrink : Bool} (hs : smallL rest ∧ free.length ≤ 1000 ∧ gone.length ≤ 1000 ∧ (pagesOf rest).length ≤ 10000 ∧ rest.length ≤ 10000) :
  (∀ x ∈ outPg (endX pg free gone rest ver shrink), x ∈ pg ∨ x.ent = (none, 0, 0) ∧ smallL x.freed) ∧ (outPg (endX pg free gone rest ver shrink)).length ≤ 1000000 ∧ smallL (outL (endX pg free gone rest ver shrink)) := by
 have triv : ∀ x : Int, (∀ y ∈ outPg (.error x), y ∈ pg ∨ y.ent = (none, 0, 0) ∧ smallL y.freed) ∧ (outPg (.error x)).length ≤ 1000000 ∧ smallL (outL (.error x)) := fun x => ⟨(fun y hy => (by simp [outPg] at hy)), (by simp [outPg]), (by simp [outL]), (by simp [outL, pagesOf, flat])⟩
 by_cases h1 : (1 ≤ ver ∧ ver ≤ 1099511627776) ∧ 2 ≤ pg.length ∧ pg.length ≤ 4096
 ·by_cases h2 : (validB pg.length rest = true ∧ incB pg.length free = true ∧ incB pg.length gone = true) ∧ validB pg.length (endL2 free gone rest ver) = true
  ·have hTI := end_TI (shrink := shrink) hs.2 h1.2 h2.2
   rcases hr : takeRun 1000000 (endL3 free gone rest ver pg.length shrink) (endN3 free gone rest ver pg.length shrink) [] with _ | ⟨l, m, own⟩
   ·rw [endX_7 h1 h2 hr]; exact triv 7
   ·rw [endX_0 h1 h2 hr]
    obtain ⟨hT, hm, _⟩ := TI_run hTI.1 hr
    refine ⟨fun x hx => ?_, ?_, hT.2.1⟩
    ·rcases zab _ _ x hx with h | h
     ·exact .inr (zaf hT.2.1 (z1r hT.1) h)
     ·have hz : ∀ x, x = z89 → x.ent = (none, 0, 0) ∧ smallL x.freed := fun x e => by rw [e]; exact ⟨rfl, by simp [z89], by simp [z89, pagesOf, flat]⟩
      rcases List.mem_append.1 h with h | h
      ·have h' : x ∈ zeroAll free pg := by
        unfold endP3 at h
        split at h
        ·exact List.mem_of_mem_take h
        ·exact h
       rcases zac free pg x h' with h | h
       ·exact .inr (hz x h)
       ·exact .inl h
      ·exact .inr (hz x (List.eq_of_mem_replicate h))
    ·show (layAll _ _).length ≤ 1000000
     rw [z36, List.length_append, List.length_replicate]
     have h4 := hT.2.2.2.1
     have : (endP3 pg free gone rest ver shrink).length ≤ pg.length := by
      unfold endP3
      split
      ·rw [List.length_take, z2a]; omega
      ·rw [z2a]; exact Nat.le_refl _
     omega
  ·rw [z10 h1 h2]; exact triv 2
 ·rw [z3n h1]; exact triv 1
theorem endU {w : World} {ver tree : Int} {R : Except Int (List S89 × Int × List S64)} {e : Ending} {w' : World} (h : EndA w ver tree R e w') :
  ∃ A pc LA lc, e = .returned (.tuple #[.agg #[.slice A (outPg R).length pc, .slice none 0 0, .slice none 0 0, .slice none 0 0, .int .i64 (outI ver R), .int .i64 (outI tree R)], .int .i64 (outF R), .slice LA (outL R).length lc, .int .i64 (outE R)]) ∧
   k89.C w' A (outPg R).length (outPg R) ∧ ((outL R).length ≤ lc ∧ k64.C w' LA (outL R).length (outL R)) ∧ Below w.heap.size w w' := by
 cases R with
 | error x => exact ⟨none, 0, none, 0, h.1, Kd.C_nil k89 w', ⟨Nat.le_refl _, Kd.C_nil k64 w'⟩, h.2⟩
 | ok r =>
  obtain ⟨pg, f, l⟩ := r
  obtain ⟨PV, LA, lc, he, hN, hL, hb⟩ := h
  obtain ⟨A, pc, rfl⟩ := Kd.N_slice hN
  exact ⟨A, pc, LA, lc, he, (Kd.N_reads' hN).2.2, (Kd.N_reads' hL).2, hb⟩
theorem rendU {w : World} {ver tree : Int} {R : Except Int (List S89 × Int × List S64)} {e : Ending} {w' : World} (h : REndA w ver tree R e w') :
  ∃ A pc LA lc, e = .returned (.agg #[.slice A (outPg R).length pc, .slice none 0 0, .slice none 0 0, .slice none 0 0, .int .i64 (outI ver R), .int .i64 (outI tree R), .slice LA (outL R).length lc, .int .i64 (outF R), .int .i64 (outE R)]) ∧
   k89.C w' A (outPg R).length (outPg R) ∧ ((outL R).length ≤ lc ∧ k64.C w' LA (outL R).length (outL R)) ∧ Below w.heap.size w w' := by
 cases R with
 | error x => exact ⟨none, 0, none, 0, h.1, Kd.C_nil k89 w', ⟨Nat.le_refl _, Kd.C_nil k64 w'⟩, h.2⟩
 | ok r =>
  obtain ⟨pg, f, l⟩ := r
  obtain ⟨PV, LA, lc, he, hN, hL, hb⟩ := h
  obtain ⟨A, pc, rfl⟩ := Kd.N_slice hN
  exact ⟨A, pc, LA, lc, he, (Kd.N_reads' hN).2.2, hL, hb⟩
def Cnt (w : World) (g p : Nat) (S : List Int) : Prop := ∃ cs, w.heap[g]? = some (.cells cs 3 (0, 0)) ∧ ∀ j, j < p → cs[j]? = some (.int .i64 (S.count (j : Int) : Int))
theorem Cnt.cell {w : World} {g p : Nat} {S : List Int} (h : Cnt w g p S) (n : Nat) (hn : n < p) : w.cell? ⟨g, n, none⟩ = some (.int .i64 (S.count (n : Int) : Int)) := by
 obtain ⟨cs, h1, h3⟩ := h
 exact (z0a h1 n).trans (h3 n hn)
theorem Cnt.free {w : World} {g p : Nat} {S : List Int} (h : Cnt w g p S) (n : Nat) : w.frozen? ⟨g, n, none⟩ = false := by
 obtain ⟨cs, h1, h3⟩ := h
 exact z0d h1 n
theorem Cnt.lt {w : World} {g p : Nat} {S : List Int} (h : Cnt w g p S) : g < w.heap.size := by
 obtain ⟨cs, h1, h3⟩ := h
 exact z0w h1
theorem Cnt.kept {w w1 : World} {g p : Nat} {S : List Int} (h : Cnt w g p S) (e : w1.heap[g]? = w.heap[g]?) : Cnt w1 g p S := by
 obtain ⟨cs, h1, h2⟩ := h
 exact ⟨cs, e.trans h1, h2⟩
theorem Cnt.add {w : World} {g p : Nat} {S : List Int} (h : Cnt w g p S) (n : Nat) (hn : n < p) : Cnt (w.setCell ⟨g, n, none⟩ (.int .i64 ((S.count (n : Int) : Int) + 1))) g p (S ++ [(n : Int)]) := by
 obtain ⟨cs, h1, h3⟩ := h
 refine ⟨cs.setIfInBounds n (.int .i64 ((S.count (n : Int) : Int) + 1)), z1a h1 n _, fun j hj => ?_⟩
 have hs : n < cs.size := (Array.getElem?_eq_some_iff.1 (h3 n hn)).1
 by_cases e : j = n
 ·subst e
  simp [hs, List.count_append]
 ·rw [Array.getElem?_setIfInBounds_ne (Ne.symm e), h3 j hj, List.count_append]
  have : List.count (j : Int) [(n : Int)] = 0 := List.count_eq_zero_of_not_mem (by rw [List.mem_singleton]; omega)
  rw [this, Nat.add_zero]
def AccOut (p : Nat) (S : List Int) (e n : Int) : Prop := (e = 0 ∧ n = 0 ∧ ∀ m : Nat, 2 ≤ m → m < p → S.count (m : Int) = 1) ∨ (e = 9 ∧ ∃ k : Nat, n = (k : Int) ∧ 2 ≤ k ∧ k < p ∧ S.count (k : Int) ≠ 1 ∧ ∀ m : Nat, 2 ≤ m → m < k → S.count (m : Int) = 1)
def AccR (p : Nat) (S : List Int) (w : World) (e : Ending) (w' : World) : Prop := ∃ a n : Int, e = .returned (.tuple #[.int .i64 a, .int .i64 n]) ∧ AccOut p S a n ∧ Below w.heap.size w w'
def AI (l : List S64) (w : World) (g nb p mc : Nat) (used : List Int) (pre : List (Pg l)) (W : World) : Prop :=
 (Cnt W g p (used ++ pre.map (·.1.2)) ∧ W.heap[nb]? = some (.cells #[.slice (some ⟨g, 0, none⟩) p mc] 23 (0, 0))) ∧ Below w.heap.size w W
theorem AI.own (l : List S64) (w : World) (g nb p mc : Nat) (used : List Int) (B : Nat) (h1 : w.heap.size ≤ B) : OwnFrom B (AI l w g nb p mc used) := by
 rintro pre A C row ⟨⟨hb, h3⟩, h5⟩ hg hr
 have hr' := fun r e => (hr r e).2
 refine ⟨⟨?_, (own_blk h3 hg hr').trans h3⟩, h5.grown hg h5.size fun k e => Nat.le_trans h1 (hr k e).1⟩
 obtain ⟨cs, hb1, hb2⟩ := hb
 exact ⟨cs, (own_blk hb1 hg hr').trans hb1, hb2⟩
def AX (l : List S64) (c : Code) (pre : List (Pg l)) (W : World) : Prop := False
theorem AX.own (l : List S64) (B : Nat) (c : Code) : OwnFrom B (AX l c) := by
 rintro pre A C row h
 exact h.elim
set_option maxRecDepth 100000 in
set_option maxHeartbeats 4000000 in
theorem z7s (p : Nat) (used : List Int) (l : List S64) (U : Option Addr) (uc : Nat) (A : Option Addr) (c : Nat) (w : World) (hU : (Kd.int .i64).C w U used.length used) (huc : used.length ≤ uc) (hC : k64.C w A l.length l) (hc : l.length ≤ c) (h0 : checkE p l = 0) (h1 : incB p used = true) (hul : used.length ≤ 1000000) (hpl : (pagesOf l).length ≤ 1000000) :
  Calls Tryz.prog 22 #[.int .i64 (p : Int), .slice U used.length uc, .slice A l.length c] w (AccR p (used ++ pagesOf l) w) := by
 have hp : 2 ≤ p ∧ p ≤ 4096 := by
  unfold checkE at h0
  by_cases hp : (2 : Int) ≤ p ∧ (p : Int) ≤ 4096
  ·omega
  ·rw [if_neg hp] at h0; cases h0
 have hv : validB p l = true := by
  unfold checkE at h0
  rw [if_pos ⟨by omega, by omega⟩] at h0
  by_cases hv : validB p l = true
  ·exact hv
  ·rw [if_neg hv] at h0; cases h0
 have HCK := Lib.hid (z30 l p A c w hC hc)
 rw [h0] at HCK
 have HIN := Lib.hid (fun (w1 : World) (hb : Below w.heap.size w w1) => z3c p (by omega) (by omega) used U uc w1 (Kd.C_below hU hb) huc)
 rw [h1] at HIN
 have hinc := of_decide_eq_true h1
 have HINC := Lib.hid hinc
 have HV := Lib.hid (of_decide_eq_true hv).2.1
 have HU := Aside0.mk hU
 have HC := Aside0.mk hC
 have HP := Aside0.mk hp
 have hp2 : 2 ≤ p := hp.1
 have hp4 : p ≤ 4096 := hp.2
 clear h0 h1 hinc hv hU hp
 refine (callsIn_wide (n := 3)).1 ?_
 refine callsIn_of_wp_marks Tryz.func22 rfl trivial ?_ rfl
 simp only [Tryz.ntmps22, List.size_toArray, List.length_cons, List.length_nil, Nat.reduceAdd, Nat.reduceSub, Array.replicate_succ, Array.replicate_zero, List.push_toArray, List.append_toArray, List.nil_append, List.cons_append]
 refine (wpIn_wide (n := 3)).2 ?_
 go_upto_region 6 with (first
  | (go_at_call 28; (with_reducible refine HCK.out.mono ?_); rintro e w1 ⟨rfl, hb1⟩)
  | (go_at_call 48; (with_reducible refine (HIN.out _ hb1).mono ?_); rintro e w2 ⟨rfl, hd2⟩))
 have hB2 : Below w.heap.size w w2 := hb1.trans (hd2.below.mono hb1.size)
 have HB2 := Aside0.mk hB2
 have HS2 := Aside0.mk hB2.size
 clear hb1 hd2 hB2 HCK HIN
 go_upto_region 8 with ((with_reducible refine z01 (N := 26) rfl ?_); refine Kd.R_make (Kd.int .i64) (w0 := w) w.heap.size 3 rfl (N := 26) rfl 23 _ _ rfl (p : Int) rfl rfl Tryz.underlying23 (.int .i64 0) 8 info3 rfl (by decide) (by omega) (0 : Int) (ok := fun _ => True) (okp := fun _ => True) rfl (fun _ hk => hk) trivial (by omega) (by omega) HB2.out HS2.out ?_; intro v5 w5 ho5 hb5 hg5 hn5; have hrl : (List.replicate (p : Int).toNat (0 : Int)).length = p := (by simp); obtain ⟨g, mc, hv5, hbg, hgs, cells, hcells⟩ := Kd.R_form ho5 (by rw [hrl]; omega); rw [hrl] at hv5; subst hv5)
 have hcn : Cnt w5 g p [] := ⟨cells, hcells, fun j hj => by
  have h2 := (Kd.R_celln (0 : Int) ho5 (j : Int) (by omega) (by omega)).1
  rw [Int.toNat_natCast, z0a hcells j] at h2
  rw [h2]
  simp [rdOf, hj]⟩
 have hbk := z0l w5 (.cells #[.slice (some ⟨g, 0, none⟩) p mc] 23)
 have hb1 := z0i w5 (.cells #[.slice (some ⟨g, 0, none⟩) p mc] 23)
 obtain ⟨nb, hnb⟩ : ∃ nb, w5.heap.size = nb := ⟨_, rfl⟩
 obtain ⟨W6, hW6⟩ : ∃ W6, w5.alloc (.cells #[.slice (some ⟨g, 0, none⟩) p mc] 23) = W6 := ⟨_, rfl⟩
 rw [hW6] at hbk hb1 ⊢
 rw [hnb] at hbk hgs ⊢
 have HB6 := Aside0.mk (hb5.trans (hb1.mono hb5.size))
 have HC6 := Aside0.mk (hcn.kept (hb1.block g (by omega)))
 have HN6 := Aside0.mk hbk
 clear hcn hbk hb1 hW6 ho5 hb5 hg5 hn5 hcells hrl hnb
 go_loopw [29] (fun i wr => ∃ k : Nat, k ≤ used.length ∧ i = .int .i64 k ∧ Aside0 (Cnt wr g p (used.take k)) ∧ Aside0 (wr.heap[nb]? = some (.cells #[.slice (some ⟨g, 0, none⟩) p mc] 23 (0, 0))) ∧ Aside0 (Below w.heap.size w wr))
  (fun i _ => used.length - (intOf i).toNat)
 case atStart => exact ⟨0, Nat.zero_le _, rfl, HC6, HN6, HB6⟩
 case round =>
  clear HC6 HN6 HB6
  obtain ⟨k, hk, rfl, HCN, HNB, HB⟩ := hrel
  have y0 : wr.cell? ⟨nb, 0, none⟩ = some (.slice (some ⟨g, 0, none⟩) p mc) := (z0a HNB.out 0).trans rfl
  by_cases hlt : k < used.length
  ·obtain ⟨ad, rfl, hx⟩ := Kd.at_int (Kd.C_below HU.out HB.out) (k : Int) (by omega) (by omega)
   rw [Int.toNat_natCast, z0u used k hlt] at hx
   have hxb := HINC.out.1 _ (List.getElem_mem hlt)
   have HTS := Lib.hid (List.take_succ_eq_append_getElem hlt)
   obtain ⟨x, hxx⟩ : ∃ x, used[k] = x := ⟨_, rfl⟩
   rw [hxx] at hx hxb HTS
   obtain ⟨n, rfl⟩ : ∃ n : Nat, x = (n : Int) := ⟨x.toNat, by omega⟩
   have hc1 := HCN.out.cell n (by omega)
   have hz1 := HCN.out.free n
   have hadd := HCN.out.add n (by omega)
   have hcl : (used.take k).count (n : Int) ≤ 1000000 := Nat.le_trans List.count_le_length (by rw [List.length_take]; omega)
   obtain ⟨q, hq⟩ : ∃ q, (used.take k).count (n : Int) = q := ⟨_, rfl⟩
   rw [hq] at hc1 hadd hcl
   have HADD := Aside0.mk hadd
   have hn4 : (n : Int) < (p : Int) := by omega
   have hn0 : (0 : Int) ≤ (n : Int) := by omega
   clear hxx hadd hq
   go_wp2
   go_roundw
   case rel => exact ⟨k + 1, by omega, by go_num, ⟨by rw [HTS.out]; exact HADD.out⟩, ⟨z0v HNB.out (p := ⟨g, n, none⟩) (by show nb ≠ g; omega) _⟩, ⟨HB.out.setCell (p := ⟨g, n, none⟩) hbg _⟩⟩
   case measure => simp [intOf]; omega
  ·obtain rfl : k = used.length := by omega
   have HCU := Aside0.mk (show Cnt wr g p used by have := HCN.out; rw [List.take_length] at this; exact this)
   clear HCN
   go_wp2_with (go_at_call 68; (with_reducible refine (z5v A l.length c _).mono ?_); rintro e w' ⟨rfl, rfl⟩)
   have hC := HC.out
   have hlb := z0w HNB.out
   have hl0 := z0l wr (.cells #[.slice A l.length c] 26)
   have hb1 := z0i wr (.cells #[.slice A l.length c] 26)
   obtain ⟨Bl, hBl⟩ : ∃ Bl, wr.heap.size = Bl := ⟨_, rfl⟩
   obtain ⟨W0, hW0⟩ : ∃ W0, wr.alloc (.cells #[.slice A l.length c] 26) = W0 := ⟨_, rfl⟩
   have hs0 : W0.heap.size = Bl + 1 := by rw [← hW0, ← hBl]; simp
   rw [hW0] at hl0 hb1 ⊢
   have hB0 : Below w.heap.size w W0 := HB.out.trans (hb1.mono HB.out.size)
   have hcu0 : Cnt W0 g p used := HCU.out.kept (hb1.block g (HCU.out.lt))
   have hnb0 := z0g HNB.out hb1
   rw [hBl] at hl0 hlb ⊢
   clear hW0 hBl hb1 y0
   have hseq := fun (F : Fence) (n : Nat) (h7 : F.fn 112) (hro : F.round = none) (hn : 1 ≤ n) => z5w F n h7 hro hn l Bl g (by omega) A c hc w W0 hB0 hC (by omega) (by omega) hl0
   clear hl0
   refine (wpIn_wide (n := 3)).1 ?_
   refine wpIn_rangeFunc_ownG (gf := 112) (lb := #[.pointer (some ⟨Bl, 0, none⟩)]) rfl (by decide) rfl trivial (enters_of Tryz.func112 (by kernel_rfl) rfl)
    (hseq Fence.wide 2 trivial rfl (by decide)) KpE.trans (fun W lo o o' h1 h2 h3 _ => KpE.putObj W lo o o' (Nat.le_trans hB0.size h1) h2 h3) (Below.refl _ _) (fun _ => rfl)
    (AI l w g nb p mc used) (AX l) (AI.own l w g nb p mc used _ (by omega)) (AX.own l _) ⟨⟨by simpa using hcu0, hnb0⟩, hB0⟩ ?a₁ ?assign ?body ?done ?stop
   case assign =>
    intro lo x W K hK
    gi_wp2
    exact hK
   case body =>
    rintro lo pre x W ⟨⟨hb, hnbx⟩, hB⟩ hlen
    have hx := z50 HV.out x.1 x.2
    obtain ⟨n, hxn⟩ : ∃ n : Nat, x.1.2 = (n : Int) := ⟨x.1.2.toNat, by omega⟩
    have y0 : W.cell? ⟨nb, 0, none⟩ = some (.slice (some ⟨g, 0, none⟩) p mc) := (z0a hnbx 0).trans rfl
    have hc1 := hb.cell n (by omega)
    have hz1 := hb.free n
    have hadd := hb.add n (by omega)
    have hpe : used ++ (pre ++ [x]).map (·.1.2) = used ++ pre.map (·.1.2) ++ [(n : Int)] := by simp [hxn]
    rw [← hpe] at hadd
    have hcl : (used ++ pre.map (·.1.2)).count (n : Int) ≤ 2000000 := Nat.le_trans List.count_le_length (by
     have e : (pagesOf l).length = (flat l).length := by simp [pagesOf]
     rw [List.length_append, List.length_map]
     omega)
    obtain ⟨q, hq⟩ : ∃ q, (used ++ pre.map (·.1.2)).count (n : Int) = q := ⟨_, rfl⟩
    rw [hq] at hc1 hadd hcl
    have HADD := Aside0.mk hadd
    have HNBX := Aside0.mk hnbx
    have hn4 : (n : Int) < (p : Int) := by omega
    have hn0 : (0 : Int) ≤ (n : Int) := by omega
    clear hadd hq hpe hb hnbx
    rw [hxn]
    gi_wp2
    exact ⟨(KeepsOthers.setCell _ _ _).from _, (KpE.refl W).setCell (by omega) n _, ⟨HADD.out, z0v HNBX.out (p := ⟨g, n, none⟩) (by show nb ≠ g; omega) _⟩, hB.setCell (p := ⟨g, n, none⟩) hbg _⟩
   case done =>
    rintro D xs W hD hS ⟨⟨hb, hnbx⟩, hB⟩ hK
    have hS' : used ++ xs.map (·.1.2) = used ++ pagesOf l := by
     have e := congrArg (List.map (·.2)) hS
     rw [List.map_map] at e
     exact congrArg (used ++ ·) e
    rw [hS'] at hb
    clear hS' hS
    obtain ⟨T, hT⟩ : ∃ T, used ++ pagesOf l = T := ⟨_, rfl⟩
    rw [hT] at hb
    have HTE := Lib.hid hT
    have HB := Aside0.mk hb
    have HK := Aside0.mk hK
    have hD2 : w.heap.size ≤ D := by have := hB0.size; omega
    have HBF := Aside0.mk (show Below w.heap.size w (W.putObj D (.deferred none)) from hB.trans ⟨rfl, rfl, rfl, by simp, fun k hk => World.putObj_heap_other (by omega)⟩)
    have y0 : W.cell? ⟨nb, 0, none⟩ = some (.slice (some ⟨g, 0, none⟩) p mc) := (z0a hnbx 0).trans rfl
    have HTL := Lib.hid (show T.length ≤ 2000000 by rw [← hT, List.length_append]; omega)
    clear hT hb hK hB hnbx hD
    go_upto_region 16 with (fail)
    go_loop [14] (fun i => ∃ n : Nat, 2 ≤ n ∧ n ≤ p ∧ i = .int .i64 n ∧ Hid (∀ m : Nat, 2 ≤ m → m < n → T.count (m : Int) = 1))
     (fun i => p - (intOf i).toNat)
    case atStart => exact ⟨2, Nat.le_refl _, hp2, rfl, Lib.hid (fun m _ _ => by omega)⟩
    case round =>
     obtain ⟨n, hn2, hnp, rfl, HM⟩ := hrel
     by_cases hlt : n < p
     ·have hc1 := HB.out.cell n hlt
      obtain ⟨q, hq⟩ : ∃ q, T.count (n : Int) = q := ⟨_, rfl⟩
      have hql : q ≤ 2000000 := by rw [← hq]; exact Nat.le_trans List.count_le_length HTL.out
      rw [hq] at hc1
      have HQ := Lib.hid hq
      have hn4 : (n : Int) < (p : Int) := by omega
      have hn0 : (0 : Int) ≤ (n : Int) := by omega
      clear hq
      by_cases h1 : q = 1
      ·subst h1
       have HNX := Lib.hid (show ∀ m : Nat, 2 ≤ m → m < n + 1 → T.count (m : Int) = 1 from fun m h2 h3 => by
        by_cases e : m = n
        ·subst e; exact HQ.out
        ·exact HM.out m h2 (by omega))
       go_wp2
       go_round
       case rel => exact ⟨n + 1, by omega, by omega, by go_num, HNX⟩
       case measure => simp [intOf]; omega
      ·have hq1 : ((q : Int) != 1) = true := by simp; omega
       have HOUT := Lib.hid (show AccOut p T 9 n from .inr ⟨rfl, n, rfl, hn2, hlt, by rw [HQ.out]; exact h1, HM.out⟩)
       clear h1 hlt
       go_wp2
       refine ⟨by simp, .inl ⟨_, _, rfl, run_takeDeferred HK.out, ?_⟩⟩
       exact ⟨.tuple #[.int .i64 9, .int .i64 n], by simp [results, Tryz.results22, go_sem], 9, n, rfl, by rw [HTE.out]; exact HOUT.out, HBF.out⟩
     ·obtain rfl : n = p := by omega
      have HOUT := Lib.hid (show AccOut n T 0 0 from .inl ⟨rfl, rfl, HM.out⟩)
      clear hlt
      go_wp2
      refine ⟨by simp, .inl ⟨_, _, rfl, run_takeDeferred HK.out, ?_⟩⟩
      exact ⟨.tuple #[.int .i64 0, .int .i64 0], by simp [results, Tryz.results22, go_sem], 0, 0, rfl, by rw [HTE.out]; exact HOUT.out, HBF.out⟩
   case stop =>
    rintro D c pre W hD hS h hK
    exact h.elim
def AccE (p : Int) (used : List Int) (l : List S64) (a n : Int) : Prop :=
 if checkE p l = 0 then (if incB p used = true then AccOut p.toNat (used ++ pagesOf l) a n else a = 1 ∧ n = 0) else a = checkE p l ∧ n = 0
theorem zag {p : Nat} {S : List Int} {a n b m : Int} (h : AccOut p S a n) (k : AccOut p S b m) : a = b ∧ n = m := by
 rcases h with ⟨rfl, rfl, h⟩ | ⟨rfl, i, rfl, i1, i2, i3, i4⟩ <;> rcases k with ⟨rfl, rfl, k⟩ | ⟨rfl, j, rfl, j1, j2, j3, j4⟩
 ·exact ⟨rfl, rfl⟩
 ·exact absurd (h j j1 j2) j3
 ·exact absurd (k i i1 i2) i3
 ·refine ⟨rfl, ?_⟩
  by_cases e : i = j
  ·rw [e]
  ·by_cases hl : i < j
   ·exact absurd (j4 i i1 hl) i3
   ·exact absurd (i4 j j1 (by omega)) j3
theorem z7t {p : Int} {used : List Int} {l : List S64} {a n b m : Int} (h : AccE p used l a n) (k : AccE p used l b m) : a = b ∧ n = m := by
 unfold AccE at h k
 split at h
 ·next c =>
  rw [if_pos c] at k
  split at h
  ·next d => rw [if_pos d] at k; exact zag h k
  ·next d => rw [if_neg d] at k; omega
 ·next c => rw [if_neg c] at k; omega
set_option maxHeartbeats 1000000 in
theorem zah (p : Int) (used : List Int) (l : List S64) (U : Option Addr) (uc : Nat) (A : Option Addr) (c : Nat) (w : World) (hU : (Kd.int .i64).C w U used.length used) (huc : used.length ≤ uc) (hC : k64.C w A l.length l) (hc : l.length ≤ c) (hul : used.length ≤ 1000000) (hpl : (pagesOf l).length ≤ 1000000) :
  Calls Tryz.prog 22 #[.int .i64 p, .slice U used.length uc, .slice A l.length c] w fun e w' => ∃ a n : Int, e = .returned (.tuple #[.int .i64 a, .int .i64 n]) ∧ AccE p used l a n ∧ Below w.heap.size w w' := by
 by_cases h0 : checkE p l = 0
 ·have hp : 2 ≤ p ∧ p ≤ 4096 := by
   unfold checkE at h0
   by_cases hp : 2 ≤ p ∧ p ≤ 4096
   ·exact hp
   ·rw [if_neg hp] at h0; omega
  by_cases h1 : incB p used = true
  ·obtain ⟨q, rfl⟩ : ∃ q : Nat, p = (q : Int) := ⟨p.toNat, by omega⟩
   refine (z7s q used l U uc A c w hU huc hC hc h0 h1 hul hpl).mono ?_
   rintro e w' ⟨a, n, rfl, ho, hb⟩
   refine ⟨a, n, rfl, ?_, hb⟩
   unfold AccE
   rw [if_pos h0, if_pos h1]
   exact ho
  ·have h1' : incB p used = false := by simpa using h1
   have HCK := Aside0.mk (z30 l p A c w hC hc)
   rw [h0] at HCK
   have HIN := Aside0.mk (fun (w1 : World) (hb : Below w.heap.size w w1) => z3c p (by omega) (by omega) used U uc w1 (Kd.C_below hU hb) huc)
   rw [h1'] at HIN
   have HAE : Aside0 (AccE p used l 1 0) := ⟨by unfold AccE; rw [if_pos h0, if_neg h1]; exact ⟨rfl, rfl⟩⟩
   clear h0 h1 h1' hU huc hC hc
   go_enter Tryz.func22, Tryz.ntmps22
   go_wp2_with (first
    | (go_at_call 48; (refine (HIN.out _ HB1.out).mono ?_); rintro e w2 ⟨rfl, hd2⟩; have HB2 := Aside0.mk (HB1.out.trans (hd2.below.mono HB1.out.size)); clear hd2)
    | (go_at_call 28; (refine HCK.out.mono ?_); rintro e w1 ⟨rfl, hb1⟩; have HB1 := Aside0.mk hb1; clear hb1))
   go_ret2
   exact ⟨1, 0, rfl, HAE.out, HB2.out⟩
 ·have HCK := Aside0.mk (z30 l p A c w hC hc)
  have HAE : Aside0 (AccE p used l (checkE p l) 0) := ⟨by unfold AccE; rw [if_neg h0]; exact ⟨rfl, rfl⟩⟩
  obtain ⟨x, hx⟩ : ∃ x, checkE p l = x := ⟨_, rfl⟩
  rw [hx] at HCK HAE h0
  have hxn : (x != 0) = true := by simpa using h0
  have hxe : (x == 0) = false := by simpa using h0
  clear h0 hx hU huc hC hc
  go_enter Tryz.func22, Tryz.ntmps22
  go_wp2_with (go_at_call 28; (refine HCK.out.mono ?_); rintro e w1 ⟨rfl, hb1⟩; have HB1 := Aside0.mk hb1; clear hb1)
  go_ret2
  exact ⟨x, 0, rfl, HAE.out, HB1.out⟩
theorem load45 {w : World} {g : Nat} {x y : Value} (h : w.heap[g]? = some (.cells #[x, y] 45 (0, 0))) : (loadVar 45 ⟨g, 0, none⟩).run Tryz.prog w = .ok (.agg #[x, y]) w := by
 have h0 : w.cell? ⟨g, 0, none⟩ = some x := (z0a h 0).trans rfl
 have h1 : w.cell? ⟨g, 1, none⟩ = some y := (z0a h 1).trans rfl
 go_simp
def RAcc (p : Int) (used : List Int) (l : List S64) (w : World) (e : Ending) (w' : World) : Prop := ∃ a n : Int, e = .returned (.agg #[.int .i64 n, .int .i64 a]) ∧ AccE p used l a n ∧ Below w.heap.size w w'
set_option maxRecDepth 100000 in
set_option maxHeartbeats 1000000 in
theorem racc_no (p : Int) (used : List Int) (l : List S64) (U : Option Addr) (uc : Nat) (A : Option Addr) (c : Nat) (w : World) (hU : (Kd.int .i64).C w U used.length used) (huc : used.length ≤ uc) (hC : k64.C w A l.length l) (hc : l.length ≤ c) (hul : used.length ≤ 1000000) (hs : smallL l) (hn : ¬ (checkE p l = 0 ∧ incB p used = true)) :
  Calls Tryz.prog 23 #[.int .i64 p, .slice U used.length uc, .slice A l.length c] w (RAcc p used l w) := by
 have HSZ := Aside0.mk (fun w1 : World => size_any p w1)
 have hb0 := z0i w (.cells #[.int .i64 0, .int .i64 0] 45)
 have hk0 := z0l w (.cells #[.int .i64 0, .int .i64 0] 45)
 obtain ⟨W0, hW0⟩ : ∃ W0, w.alloc (.cells #[.int .i64 0, .int .i64 0] 45) = W0 := ⟨_, rfl⟩
 rw [hW0] at hb0 hk0
 have HB0 := Aside0.mk hb0
 have HK0 := Aside0.mk hk0
 have HW0 := Lib.hid hW0
 by_cases hp : 2 ≤ p ∧ p ≤ 4096
 ·rw [decide_eq_true hp] at HSZ
  have HIS := Aside0.mk (fun (w1 : World) (hb : Below w.heap.size w w1) => is_any l p A c w1 (Kd.C_below hC hb) hc hp.1 hp.2 hs)
  rw [z3o l p hp] at HIS
  have hck : checkE p l = if validB p l = true then 0 else 2 := by unfold checkE; rw [if_pos hp]
  by_cases hv : validB p l = true
  ·rw [hv] at HIS
   rw [if_pos hv] at hck
   have hi : incB p used = false := by simpa using fun h => hn ⟨hck, h⟩
   have HON := Aside0.mk (fun (w1 : World) (hb : Below w.heap.size w w1) => z4c p used U uc w1 (Kd.C_below hU hb) huc hul)
   rw [hi] at HON
   have HAE : Aside0 (AccE p used l 1 0) := ⟨by unfold AccE; rw [if_pos hck, if_neg (by simp [hi])]; exact ⟨rfl, rfl⟩⟩
   clear hn hp hv hi hck hU hC huc hc hs hb0 hk0 hW0 hul
   go_enter Tryz.func23, Tryz.ntmps23
   go_upto_region 1 with (fail)
   rw [HW0.out]
   go_upto_region 6 with (first
    | (go_at_call 57; (refine (HSZ.out _).mono ?_); rintro e w1 ⟨rfl, hd1⟩; have HB1 := Aside0.mk (HB0.out.trans (hd1.below.mono HB0.out.size)); have HK1 := Aside0.mk (z0g HK0.out hd1.below); clear hd1)
    | (go_at_call 58; (refine (HIS.out _ HB1.out).mono ?_); rintro e w2 ⟨rfl, hd2⟩; have HB2 := Aside0.mk (HB1.out.trans (hd2.mono HB1.out.size)); have HK2 := Aside0.mk (z0g HK1.out hd2); clear hd2)
    | (go_at_call 59; (refine (HON.out _ HB2.out).mono ?_); rintro e w3 ⟨rfl, hd3⟩; have HB3 := Aside0.mk (HB2.out.trans (hd3.below.mono HB2.out.size)); have HK3 := Aside0.mk (z0g HK2.out hd3.below); clear hd3))
   have y0 : w3.cell? ⟨w.heap.size, 0, none⟩ = some (.int .i64 0) := (z0a HK3.out 0).trans rfl
   have y1 : w3.cell? ⟨w.heap.size, 1, none⟩ = some (.int .i64 0) := (z0a HK3.out 1).trans rfl
   have z0 := z0d HK3.out 0
   have z1 := z0d HK3.out 1
   go_wp2
   refine bodyPost_ret (z00 rfl _ _ _ _ rfl (load45 (z0k (z0k HK3.out 0 (.int .i64 0) rfl) 1 (.int .i64 1) rfl))) rfl ?_
   exact ⟨1, 0, rfl, HAE.out, (HB3.out.setCell (p := ⟨w.heap.size, 0, none⟩) (Nat.le_refl _) _).setCell (p := ⟨w.heap.size, 1, none⟩) (Nat.le_refl _) _⟩
  ·rw [Bool.eq_false_iff.2 hv] at HIS
   rw [if_neg hv] at hck
   have HAE : Aside0 (AccE p used l 2 0) := ⟨by unfold AccE; rw [if_neg (by omega), hck]; exact ⟨rfl, rfl⟩⟩
   clear hn hp hv hck hU hC huc hc hs hb0 hk0 hW0 hul
   go_enter Tryz.func23, Tryz.ntmps23
   go_upto_region 1 with (fail)
   rw [HW0.out]
   go_upto_region 4 with (first
    | (go_at_call 57; (refine (HSZ.out _).mono ?_); rintro e w1 ⟨rfl, hd1⟩; have HB1 := Aside0.mk (HB0.out.trans (hd1.below.mono HB0.out.size)); have HK1 := Aside0.mk (z0g HK0.out hd1.below); clear hd1)
    | (go_at_call 58; (refine (HIS.out _ HB1.out).mono ?_); rintro e w2 ⟨rfl, hd2⟩; have HB2 := Aside0.mk (HB1.out.trans (hd2.mono HB1.out.size)); have HK2 := Aside0.mk (z0g HK1.out hd2); clear hd2))
   have y0 : w2.cell? ⟨w.heap.size, 0, none⟩ = some (.int .i64 0) := (z0a HK2.out 0).trans rfl
   have y1 : w2.cell? ⟨w.heap.size, 1, none⟩ = some (.int .i64 0) := (z0a HK2.out 1).trans rfl
   have z0 := z0d HK2.out 0
   have z1 := z0d HK2.out 1
   go_wp2
   refine bodyPost_ret (z00 rfl _ _ _ _ rfl (load45 (z0k (z0k HK2.out 0 (.int .i64 0) rfl) 1 (.int .i64 2) rfl))) rfl ?_
   exact ⟨2, 0, rfl, HAE.out, (HB2.out.setCell (p := ⟨w.heap.size, 0, none⟩) (Nat.le_refl _) _).setCell (p := ⟨w.heap.size, 1, none⟩) (Nat.le_refl _) _⟩
 ·rw [decide_eq_false hp] at HSZ
  have HAE : Aside0 (AccE p used l 1 0) := ⟨by unfold AccE checkE; rw [if_neg hp, if_neg (by omega)]; exact ⟨rfl, rfl⟩⟩
  clear hn hp hU hC huc hc hs hb0 hk0 hW0 hul
  go_enter Tryz.func23, Tryz.ntmps23
  go_upto_region 1 with (fail)
  rw [HW0.out]
  go_upto_region 2 with (first
   | (go_at_call 57; (refine (HSZ.out _).mono ?_); rintro e w1 ⟨rfl, hd1⟩; have HB1 := Aside0.mk (HB0.out.trans (hd1.below.mono HB0.out.size)); have HK1 := Aside0.mk (z0g HK0.out hd1.below); clear hd1))
  have y0 : w1.cell? ⟨w.heap.size, 0, none⟩ = some (.int .i64 0) := (z0a HK1.out 0).trans rfl
  have y1 : w1.cell? ⟨w.heap.size, 1, none⟩ = some (.int .i64 0) := (z0a HK1.out 1).trans rfl
  have z0 := z0d HK1.out 0
  have z1 := z0d HK1.out 1
  go_wp2
  refine bodyPost_ret (z00 rfl _ _ _ _ rfl (load45 (z0k (z0k HK1.out 0 (.int .i64 0) rfl) 1 (.int .i64 1) rfl))) rfl ?_
  exact ⟨1, 0, rfl, HAE.out, (HB1.out.setCell (p := ⟨w.heap.size, 0, none⟩) (Nat.le_refl _) _).setCell (p := ⟨w.heap.size, 1, none⟩) (Nat.le_refl _) _⟩
set_option maxRecDepth 100000 in
set_option maxHeartbeats 1000000 in
theorem racc_yes (p : Nat) (used : List Int) (l : List S64) (U : Option Addr) (uc : Nat) (A : Option Addr) (c : Nat) (w : World) (hU : (Kd.int .i64).C w U used.length used) (huc : used.length ≤ uc) (hC : k64.C w A l.length l) (hc : l.length ≤ c) (hul : used.length ≤ 1000000) (hs : smallL l) (h0 : checkE p l = 0) (h1 : incB p used = true) :
  Calls Tryz.prog 23 #[.int .i64 (p : Int), .slice U used.length uc, .slice A l.length c] w (RAcc p used l w) := by
 have hp : 2 ≤ (p : Int) ∧ (p : Int) ≤ 4096 := by
  unfold checkE at h0
  by_cases hp : (2 : Int) ≤ p ∧ (p : Int) ≤ 4096
  ·exact hp
  ·rw [if_neg hp] at h0; cases h0
 have hv : validB p l = true := by
  unfold checkE at h0
  rw [if_pos hp] at h0
  by_cases hv : validB p l = true
  ·exact hv
  ·rw [if_neg hv] at h0; cases h0
 have HSZ := Aside0.mk (fun w1 : World => size_any (p : Int) w1)
 rw [decide_eq_true hp] at HSZ
 have HIS := Aside0.mk (fun (w1 : World) (hb : Below w.heap.size w w1) => is_any l p A c w1 (Kd.C_below hC hb) hc hp.1 hp.2 hs)
 rw [z3o l p hp, hv] at HIS
 have HON := Aside0.mk (fun (w1 : World) (hb : Below w.heap.size w w1) => z4c p used U uc w1 (Kd.C_below hU hb) huc hul)
 rw [h1] at HON
 have HOUT := Aside0.mk (show ∀ a n : Int, AccOut p (used ++ pagesOf l) a n → AccE p used l a n from fun a n h => by unfold AccE; rw [if_pos h0, if_pos h1]; exact h)
 have HINC := Lib.hid (of_decide_eq_true h1)
 have HV := Lib.hid (of_decide_eq_true hv).2.1
 have HU := Aside0.mk hU
 have HC := Aside0.mk hC
 have hll := hs.1
 have hpl := hs.2
 have hp2 : 2 ≤ p := by omega
 have hp4 : p ≤ 4096 := by omega
 have hb0 := z0i w (.cells #[.int .i64 0, .int .i64 0] 45)
 have hk0 := z0l w (.cells #[.int .i64 0, .int .i64 0] 45)
 obtain ⟨W0, hW0⟩ : ∃ W0, w.alloc (.cells #[.int .i64 0, .int .i64 0] 45) = W0 := ⟨_, rfl⟩
 rw [hW0] at hb0 hk0
 have HB0 := Aside0.mk hb0
 have HK0 := Aside0.mk hk0
 have HW0 := Lib.hid hW0
 clear h0 h1 hp hv hU hC hs hb0 hk0 hW0
 go_enter Tryz.func23, Tryz.ntmps23
 go_upto_region 1 with (fail)
 rw [HW0.out]
 go_upto_region 9 with (first
  | (go_at_call 57; (refine (HSZ.out _).mono ?_); rintro e w1 ⟨rfl, hd1⟩; have HB1 := Aside0.mk (HB0.out.trans (hd1.below.mono HB0.out.size)); have HK1 := Aside0.mk (z0g HK0.out hd1.below); clear hd1)
  | (go_at_call 58; (refine (HIS.out _ HB1.out).mono ?_); rintro e w2 ⟨rfl, hd2⟩; have HB2 := Aside0.mk (HB1.out.trans (hd2.mono HB1.out.size)); have HK2 := Aside0.mk (z0g HK1.out hd2); clear hd2)
  | (go_at_call 59; (refine (HON.out _ HB2.out).mono ?_); rintro e w3 ⟨rfl, hd3⟩; have HB3 := Aside0.mk (HB2.out.trans (hd3.below.mono HB2.out.size)); have HK3 := Aside0.mk (z0g HK2.out hd3.below); clear hd3)
  | ((with_reducible refine z01 (N := 27) rfl ?_); refine Kd.R_make (Kd.int .i64) (w0 := w3) w3.heap.size 3 rfl (N := 27) rfl 23 _ _ rfl (p : Int) rfl rfl Tryz.underlying23 (.int .i64 0) 8 info3 rfl (by decide) (by omega) (0 : Int) (ok := fun _ => True) (okp := fun _ => True) rfl (fun _ hk => hk) trivial (by omega) (by omega) (Below.refl _ _) (Nat.le_refl _) ?_; intro v5 w5 ho5 hb5 hg5 hn5; have hrl : (List.replicate (p : Int).toNat (0 : Int)).length = p := (by simp); obtain ⟨g, mc, hv5, hbg, hgs, cells, hcells⟩ := Kd.R_form ho5 (by rw [hrl]; omega); rw [hrl] at hv5; subst hv5))
 have HCN : Aside0 (Cnt w5 g p []) := ⟨cells, hcells, fun j hj => by
  have h2 := (Kd.R_celln (0 : Int) ho5 (j : Int) (by omega) (by omega)).1
  rw [Int.toNat_natCast, z0a hcells j] at h2
  rw [h2]
  simp [rdOf, hj]⟩
 have hgw : w.heap.size < g := Nat.lt_of_lt_of_le (z0w HK3.out) hbg
 have HB5 := Aside0.mk (HB3.out.trans (hb5.mono HB3.out.size))
 have HK5 := Aside0.mk (z0g HK3.out hb5)
 clear ho5 hb5 hg5 hn5 hcells hrl hgs hbg HB0 HB1 HB2 HB3 HK0 HK1 HK2 HK3 HW0 HSZ HIS HON
 go_loopw [8] (fun i wr => ∃ k : Nat, k ≤ used.length ∧ i = .int .i64 k ∧ Aside0 (Cnt wr g p (used.take k)) ∧ Aside0 (wr.heap[w.heap.size]? = some (.cells #[.int .i64 0, .int .i64 0] 45 (0, 0))) ∧ Aside0 (Below w.heap.size w wr))
  (fun i _ => used.length - (intOf i).toNat)
 case atStart => exact ⟨0, Nat.zero_le _, rfl, HCN, HK5, HB5⟩
 case round =>
  clear HCN HK5 HB5
  obtain ⟨k, hk, rfl, HCN, HK, HB⟩ := hrel
  by_cases hlt : k < used.length
  ·obtain ⟨ad, rfl, hx⟩ := Kd.at_int (Kd.C_below HU.out HB.out) (k : Int) (by omega) (by omega)
   rw [Int.toNat_natCast, z0u used k hlt] at hx
   have hxb := HINC.out.1 _ (List.getElem_mem hlt)
   have HTS := Lib.hid (List.take_succ_eq_append_getElem hlt)
   obtain ⟨x, hxx⟩ : ∃ x, used[k] = x := ⟨_, rfl⟩
   rw [hxx] at hx hxb HTS
   obtain ⟨n, rfl⟩ : ∃ n : Nat, x = (n : Int) := ⟨x.toNat, by omega⟩
   have hc1 := HCN.out.cell n (by omega)
   have hz1 := HCN.out.free n
   have hadd := HCN.out.add n (by omega)
   have hcl : (used.take k).count (n : Int) ≤ 1000000 := Nat.le_trans List.count_le_length (by rw [List.length_take]; omega)
   obtain ⟨q, hq⟩ : ∃ q, (used.take k).count (n : Int) = q := ⟨_, rfl⟩
   rw [hq] at hc1 hadd hcl
   have HADD := Aside0.mk hadd
   have hn4 : (n : Int) < (p : Int) := by omega
   have hn0 : (0 : Int) ≤ (n : Int) := by omega
   clear hxx hadd hq
   go_wp2
   go_roundw
   case rel => exact ⟨k + 1, by omega, by go_num, ⟨by rw [HTS.out]; exact HADD.out⟩, ⟨z0v HK.out (p := ⟨g, n, none⟩) (by show w.heap.size ≠ g; omega) _⟩, ⟨HB.out.setCell (p := ⟨g, n, none⟩) (Nat.le_of_lt hgw) _⟩⟩
   case measure => simp [intOf]; omega
  ·obtain rfl : k = used.length := by omega
   have HCU := Aside0.mk (show Cnt wr g p (used ++ pagesOf (l.take 0)) by have := HCN.out; rw [List.take_length] at this; simpa [pagesOf, flat] using this)
   clear HCN hlt hk
   go_upto_region 13 with (fail)
   go_loopw [9] (fun i wi => ∃ k : Nat, k ≤ l.length ∧ i = .int .i64 k ∧ Aside0 (Cnt wi g p (used ++ pagesOf (l.take k))) ∧ Aside0 (wi.heap[w.heap.size]? = some (.cells #[.int .i64 0, .int .i64 0] 45 (0, 0))) ∧ Aside0 (Below w.heap.size w wi))
    (fun i _ => l.length - (intOf i).toNat)
   case atStart => exact ⟨0, Nat.zero_le _, rfl, HCU, HK, HB⟩
   case round =>
    clear HCU HK HB
    obtain ⟨k, hk, rfl, HCN, HK, HB⟩ := hrel
    by_cases hlt : k < l.length
    ·obtain ⟨ad, A1, c1, rfl, hx0, hx1, hl1, hC1⟩ := z0n HC.out (k : Int) (by omega) (by omega)
     rw [Int.toNat_natCast] at hx0 hx1
     have hpin := fun x hx => ((z1u p l k hlt).1 (z3d p l (k + 1) HV.out)).2.2.2.2.1 x hx
     have HPT := Lib.hid (z47 l k hlt)
     have hplt := z3z l (k + 1)
     rw [HPT.out, List.length_append] at hplt
     obtain ⟨T, hT⟩ : ∃ T, rd_T64 l (k : Int) = T := ⟨_, rfl⟩
     rw [hT] at hx0 hx1 hl1 hC1 hpin HPT hplt
     obtain ⟨v, xs⟩ := T
     dsimp only at hx0 hx1 hl1 hC1 hpin hplt
     replace HPT : Hid (pagesOf (l.take (k + 1)) = pagesOf (l.take k) ++ xs) := HPT
     obtain ⟨S, hS⟩ : ∃ S, used ++ pagesOf (l.take k) = S := ⟨_, rfl⟩
     have HSE := Lib.hid (show used ++ pagesOf (l.take (k + 1)) = S ++ xs by rw [HPT.out, ← List.append_assoc, hS])
     have hsl : S.length ≤ 2000000 := by rw [← hS, List.length_append]; omega
     have hxl : xs.length ≤ 1000000 := by omega
     rw [hS] at HCN
     have HCX := Aside0.mk hC1
     have HX1 := Aside0.mk hx1
     have HPN := Aside0.mk hpin
     clear hT hx0 hx1 hC1 hpin hS hplt HPT
     go_upto_region 16 with (fail)
     go_loopw [10] (fun i wj => ∃ q : Nat, q ≤ xs.length ∧ i = .int .i64 q ∧ Aside0 (Cnt wj g p (S ++ xs.take q)) ∧ Aside0 (wj.heap[w.heap.size]? = some (.cells #[.int .i64 0, .int .i64 0] 45 (0, 0))) ∧ Aside0 (Below w.heap.size w wj))
      (fun i _ => xs.length - (intOf i).toNat)
     case atStart => exact ⟨0, Nat.zero_le _, rfl, ⟨by simpa using HCN.out⟩, HK, HB⟩
     case round =>
      clear HCN HK HB
      obtain ⟨q, hq, rfl, HCN, HK, HB⟩ := hrel
      have y1 := cellB HB.out (Nat.le_refl _) HX1.out
      by_cases hql : q < xs.length
      ·obtain ⟨bd, rfl, hx⟩ := Kd.at_int (Kd.C_below HCX.out HB.out) (q : Int) (by omega) (by omega)
       rw [Int.toNat_natCast, z0u xs q hql] at hx
       have hxb := HPN.out _ (List.getElem_mem hql)
       have HTS := Lib.hid (show S ++ xs.take (q + 1) = S ++ xs.take q ++ [xs[q]] by rw [List.take_succ_eq_append_getElem hql, List.append_assoc])
       obtain ⟨x, hxx⟩ : ∃ x, xs[q] = x := ⟨_, rfl⟩
       rw [hxx] at hx hxb HTS
       obtain ⟨n, rfl⟩ : ∃ n : Nat, x = (n : Int) := ⟨x.toNat, by omega⟩
       have hc1 := HCN.out.cell n (by omega)
       have hz1 := HCN.out.free n
       have hadd := HCN.out.add n (by omega)
       have hcl : (S ++ xs.take q).count (n : Int) ≤ 3000000 := Nat.le_trans List.count_le_length (by rw [List.length_append, List.length_take]; omega)
       obtain ⟨z, hz⟩ : ∃ z, (S ++ xs.take q).count (n : Int) = z := ⟨_, rfl⟩
       rw [hz] at hc1 hadd hcl
       have HADD := Aside0.mk hadd
       have hn4 : (n : Int) < (p : Int) := by omega
       have hn0 : (0 : Int) ≤ (n : Int) := by omega
       clear hxx hadd hz
       go_wp2
       go_roundw
       case rel => exact ⟨q + 1, by omega, by go_num, ⟨by rw [HTS.out]; exact HADD.out⟩, ⟨z0v HK.out (p := ⟨g, n, none⟩) (by show w.heap.size ≠ g; omega) _⟩, ⟨HB.out.setCell (p := ⟨g, n, none⟩) (Nat.le_of_lt hgw) _⟩⟩
       case measure => simp [intOf]; omega
      ·obtain rfl : q = xs.length := by omega
       have HC2 := Aside0.mk (show Cnt wr g p (used ++ pagesOf (l.take (k + 1))) by rw [HSE.out]; have := HCN.out; rwa [List.take_length] at this)
       clear HCN
       go_wp2
       go_roundw
       case rel => exact ⟨k + 1, by omega, by go_num, HC2, HK, HB⟩
       case measure => simp [intOf]; omega
    ·obtain rfl : k = l.length := by omega
     have HC2 := Aside0.mk (show Cnt wr g p (used ++ pagesOf l) by have := HCN.out; rwa [List.take_length] at this)
     clear HCN
     obtain ⟨T, hT⟩ : ∃ T, used ++ pagesOf l = T := ⟨_, rfl⟩
     have HTL := Lib.hid (show T.length ≤ 2000000 by rw [← hT, List.length_append]; omega)
     rw [hT] at HC2 HOUT
     clear hT
     go_upto_region 20 with (fail)
     go_loop [11] (fun i => ∃ n : Nat, 2 ≤ n ∧ n ≤ p ∧ i = .int .i64 n ∧ Hid (∀ m : Nat, 2 ≤ m → m < n → T.count (m : Int) = 1))
      (fun i => p - (intOf i).toNat)
     case atStart => exact ⟨2, Nat.le_refl _, hp2, rfl, Lib.hid (fun m _ _ => by omega)⟩
     case round =>
      obtain ⟨n, hn2, hnp, rfl, HM⟩ := hrel
      have y0 : wr.cell? ⟨w.heap.size, 0, none⟩ = some (.int .i64 0) := (z0a HK.out 0).trans rfl
      have y1 : wr.cell? ⟨w.heap.size, 1, none⟩ = some (.int .i64 0) := (z0a HK.out 1).trans rfl
      have z0 := z0d HK.out 0
      have z1 := z0d HK.out 1
      by_cases hlt : n < p
      ·have hc1 := HC2.out.cell n hlt
       obtain ⟨q, hq⟩ : ∃ q, T.count (n : Int) = q := ⟨_, rfl⟩
       have hql : q ≤ 2000000 := by rw [← hq]; exact Nat.le_trans List.count_le_length HTL.out
       rw [hq] at hc1
       have HQ := Lib.hid hq
       have hn4 : (n : Int) < (p : Int) := by omega
       have hn0 : (0 : Int) ≤ (n : Int) := by omega
       clear hq
       by_cases h1 : q = 1
       ·subst h1
        have HNX := Lib.hid (show ∀ m : Nat, 2 ≤ m → m < n + 1 → T.count (m : Int) = 1 from fun m h2 h3 => by
         by_cases e : m = n
         ·subst e; exact HQ.out
         ·exact HM.out m h2 (by omega))
        go_wp2
        go_round
        case rel => exact ⟨n + 1, by omega, by omega, by go_num, HNX⟩
        case measure => simp [intOf]; omega
       ·have hq1 : ((q : Int) != 1) = true := by simp; omega
        have HAE := Lib.hid (HOUT.out 9 n (.inr ⟨rfl, n, rfl, hn2, hlt, by rw [HQ.out]; exact h1, HM.out⟩))
        clear h1 hlt
        go_wp2
        refine bodyPost_ret (z00 rfl _ _ _ _ rfl (load45 (z0k (z0k HK.out 0 (.int .i64 n) rfl) 1 (.int .i64 9) rfl))) rfl ?_
        exact ⟨9, n, rfl, HAE.out, (HB.out.setCell (p := ⟨w.heap.size, 0, none⟩) (Nat.le_refl _) _).setCell (p := ⟨w.heap.size, 1, none⟩) (Nat.le_refl _) _⟩
      ·obtain rfl : n = p := by omega
       have HAE := Lib.hid (HOUT.out 0 0 (.inl ⟨rfl, rfl, HM.out⟩))
       clear hlt
       go_wp2
       refine bodyPost_ret (z00 rfl _ _ _ _ rfl (load45 (z0k (z0k HK.out 0 (.int .i64 0) rfl) 1 (.int .i64 0) rfl))) rfl ?_
       exact ⟨0, 0, rfl, HAE.out, (HB.out.setCell (p := ⟨w.heap.size, 0, none⟩) (Nat.le_refl _) _).setCell (p := ⟨w.heap.size, 1, none⟩) (Nat.le_refl _) _⟩
theorem zai (p : Int) (used : List Int) (l : List S64) (U : Option Addr) (uc : Nat) (A : Option Addr) (c : Nat) (w : World) (hU : (Kd.int .i64).C w U used.length used) (huc : used.length ≤ uc) (hC : k64.C w A l.length l) (hc : l.length ≤ c) (hul : used.length ≤ 1000000) (hs : smallL l) :
  Calls Tryz.prog 23 #[.int .i64 p, .slice U used.length uc, .slice A l.length c] w (RAcc p used l w) := by
 by_cases h : checkE p l = 0 ∧ incB p used = true
 ·have hp : 2 ≤ p := by
   have h0 := h.1
   unfold checkE at h0
   by_cases hp : 2 ≤ p ∧ p ≤ 4096
   ·exact hp.1
   ·rw [if_neg hp] at h0; cases h0
  obtain ⟨q, rfl⟩ : ∃ q : Nat, p = (q : Int) := ⟨p.toNat, by omega⟩
  exact racc_yes q used l U uc A c w hU huc hC hc hul hs h.1 h.2
 ·exact racc_no p used l U uc A c w hU huc hC hc hul hs h
theorem zaj {k k' : Nat} {l : List S64} {n : Nat} {own : List Int} {r : List S64 × Nat × List Int} (h : takeRun k l n own = some r) (hk : k ≤ k') : takeRun k' l n own = some r := by
 induction k generalizing k' l n own with
 | zero => simp [takeRun] at h
 | succ k ih =>
  obtain ⟨j, rfl⟩ : ∃ j, k' = j + 1 := ⟨k' - 1, by omega⟩
  rw [takeRun] at h ⊢
  split at h
  ·next hd => rw [if_pos hd]; exact h
  ·next hd =>
   rw [if_neg hd]
   split at h
   ·next p l' n' he => first | (rw [he]; exact ih h (by omega)) | exact ih h (by omega)
   ·simp at h
theorem end_ok3 (pg : List S89) (free gone : List Int) (rest : List S64) (ver tree : Int) (shrink : Bool) (PA FA RA GA A : Option Addr) (pc fc rn rc gc c : Nat) (w : World)
  (hPG : k89.C w PA pg.length pg) (hpc : pg.length ≤ pc) (hFR : (Kd.int .i64).C w FA free.length free) (hfc : free.length ≤ fc) (hGO : (Kd.int .i64).C w GA gone.length gone) (hgc : gone.length ≤ gc) (hRE : k64.C w A rest.length rest) (hc : rest.length ≤ c)
  (hsm : smallL rest ∧ free.length ≤ 1000 ∧ gone.length ≤ 1000 ∧ (pagesOf rest).length ≤ 10000 ∧ rest.length ≤ 10000) (hv : 1 ≤ ver ∧ ver ≤ 1099511627776) (hn : 2 ≤ pg.length ∧ pg.length ≤ 4096) (h1 : validB pg.length rest = true) (h2 : incB pg.length free = true) (h3 : incB pg.length gone = true)
  (h4 : validB pg.length (putL 0 free (putL (ver - 1) gone rest)) = true)
  (K : Nat) (l4 : List S64) (m4 : Nat) (own : List Int) (hK : K ≤ 1000000) (hf3 : formP 4096 (if shrink then keepAll (tailN (putL 0 free (putL (ver - 1) gone rest)) pg.length) (putL 0 free (putL (ver - 1) gone rest)) else (putL 0 free (putL (ver - 1) gone rest)))) (hs3 : smallL (if shrink then keepAll (tailN (putL 0 free (putL (ver - 1) gone rest)) pg.length) (putL 0 free (putL (ver - 1) gone rest)) else (putL 0 free (putL (ver - 1) gone rest))))
  (hrun : takeRun K (if shrink then keepAll (tailN (putL 0 free (putL (ver - 1) gone rest)) pg.length) (putL 0 free (putL (ver - 1) gone rest)) else (putL 0 free (putL (ver - 1) gone rest))) (if shrink then (tailN (putL 0 free (putL (ver - 1) gone rest)) pg.length).toNat else pg.length) [] = some (l4, m4, own)) (hnum : numB own ver = true) (hidx : ∀ p ∈ listPg l4 own ver, 0 ≤ p.no ∧ p.no < m4) :
  Calls Tryz.prog 15 #[.agg #[.slice PA pg.length pc, .slice FA free.length fc, .slice RA rn rc, .slice GA gone.length gc, .int .i64 ver, .int .i64 tree], .slice A rest.length c, .bool shrink] w fun e w' => EndR w ver tree (own.headD 0) (layAll (listPg l4 own ver) ((if shrink then (zeroAll free pg).take (tailN (putL 0 free (putL (ver - 1) gone rest)) pg.length).toNat else zeroAll free pg) ++ List.replicate (m4 - (if shrink then (tailN (putL 0 free (putL (ver - 1) gone rest)) pg.length).toNat else pg.length)) z89)) l4 e w' := by
 have h4' : validB pg.length (endL2 free gone rest ver) = true := h4
 have hr : takeRun 1000000 (endL3 free gone rest ver pg.length shrink) (endN3 free gone rest ver pg.length shrink) [] = some (l4, m4, own) := zaj hrun hK
 refine (end_all pg free gone rest ver tree shrink PA FA RA GA A pc fc rn rc gc c w hPG hpc hFR hfc hGO hgc hRE hc hsm (by omega)).mono ?_
 intro e w' h
 rw [endX_0 ⟨hv, hn⟩ ⟨⟨h1, h2, h3⟩, h4'⟩ hr] at h
 cases shrink <;> exact h
end Go.Proofs.YtpnhelcemodnmaaGreat
namespace Go.Proofs.YtpnhelcemodnmaaGreat
open Go.RowKit Go.Shelf Go.Proofs.YtpnhelcemodnmaaGreatW.PrintWords Go.Proofs.YtpnhelcemodnmaaGreatW.PrintLast Go.Proofs.YtpnhelcemodnmaaGreatW.PrintMore PA Go.Maps
set_option linter.unusedVariables false
set_option linter.unusedSimpArgs false
attribute [local go_sem] Oper.semAt_some
theorem key3 : Keyed Tryz.prog 3 := int_keyed Tryz.underlying3
theorem zero3 (w : World) : (zeroValue 3).run Tryz.prog w = .ok (.int .i64 0) w := by kernel_rfl
def pinD (l : List S83) : DataW Unit := l.foldl (fun D x => D.put (.int .i64 x.f0) (.lit (.int .i64 x.f1))) (.map [])
theorem pinD_step (l : List S83) (k : Nat) (hk : k < l.length) : pinD (l.take (k + 1)) = (pinD (l.take k)).put (.int .i64 (rd_T83 l (k : Int)).f0) (.lit (.int .i64 (rd_T83 l (k : Int)).f1)) := by
 have e : rd_T83 l (k : Int) = l[k] := by
  unfold rd_T83
  simp [List.getD_eq_getElem?_getD, hk]
 rw [e, List.take_succ_eq_append_getElem hk, pinD, List.foldl_append]
 rfl
set_option maxRecDepth 100000 in
set_option maxHeartbeats 2000000 in
theorem z7u (l : List S83) (v : Int) (K : Nat) (A : Option Addr) (c : Nat) (w : World) (hC : k83.C w A l.length l) (hc : l.length ≤ c) (hk : space_CheckPins.f K l = some 0) (hv : 1 ≤ v ∧ v ≤ 1099511627776) (hl : l.length ≤ 1000000)
  (hp : ∀ k, k < l.length → (Lit.int .i64 (rd_T83 l (k : Int)).f0).wf = true ∧ (Lit.int .i64 (rd_T83 l (k : Int)).f1).wf = true) :
  Calls Tryz.prog 92 #[.slice A l.length c, .int .i64 v] w fun e w' => ∃ B, e = .returned (.map (some B)) ∧ w'.ownsMap Tryz.prog 3 (plainElem Tryz.prog 3) B l.length (pinD l) ∧ w.heap.size ≤ B ∧ Below w.heap.size w w' := by
 have hmm := @run_makeMap Tryz.prog
 have HK := Lib.hid (space_CheckPins.calls K A c l 0 w hC hc hk)
 have HD := Lib.hid (decide_eq_true hv)
 clear hk hv
 go_enter Tryz.func92, Tryz.ntmps92
 go_wp2_with (first | (go_at_call 137; (refine HK.out.mono ?_); rintro e w1 ⟨rfl, hb1⟩) | (go_at_call 53; (with_reducible refine (z3j _).mono ?_); rintro e w' ⟨rfl, rfl⟩) | (go_at_call 46; (with_reducible refine (z1o v 1 1099511627776 _).mono ?_); rintro e w' ⟨rfl, ⟨nd, rfl⟩⟩; rw [HD.out]) | (go_at_call 45; (with_reducible refine (z3i _ _).mono ?_); rintro e w' ⟨rfl, rfl⟩))
 obtain ⟨B, hB⟩ : ∃ B, w1.heap.size = B := ⟨_, rfl⟩
 have hM0 : ((w1.drewN nd).alloc (.map #[] 0)).ownsMap Tryz.prog 3 (plainElem (H := Unit) Tryz.prog 3) B 0 (.map []) := hB ▸ World.ownsMap_made _ _ _ _
 have hB0 : Below w.heap.size w ((w1.drewN nd).alloc (.map #[] 0)) := (z0c hb1 nd).alloc (by exact hb1.size) _
 have hBw : w.heap.size ≤ B := hB ▸ hb1.size
 rw [hB]
 obtain ⟨W0, hW0⟩ : ∃ W0, (w1.drewN nd).alloc (.map #[] 0) = W0 := ⟨_, rfl⟩
 rw [hW0] at hM0 hB0 ⊢
 clear hW0 hB hb1 HK HD hmm
 go_loopw [17] (fun i wr => ∃ k : Nat, k ≤ l.length ∧ i = .int .i64 k ∧ Aside0 (wr.ownsMap Tryz.prog 3 (plainElem (H := Unit) Tryz.prog 3) B k (pinD (l.take k))) ∧ Aside0 (Below w.heap.size w wr))
  (fun i _ => l.length - (intOf i).toNat)
 case atStart => exact ⟨0, Nat.zero_le _, rfl, ⟨hM0⟩, ⟨hB0⟩⟩
 case round =>
  clear hM0 hB0
  obtain ⟨k, hk, rfl, HM, HB⟩ := hrel
  by_cases hlt : k < l.length
  ·obtain ⟨ad, rfl, hx0, hx1⟩ := z1m (Kd.C_below hC HB.out) (k : Int) (by omega) (by omega)
   rw [Int.toNat_natCast] at hx0 hx1
   have HS := Lib.hid (pinD_step l k hlt)
   have hp0 := (hp k hlt).1
   have hp1 := (hp k hlt).2
   obtain ⟨a, ha⟩ : ∃ a, (rd_T83 l (k : Int)).f0 = a := ⟨_, rfl⟩
   obtain ⟨b, hb⟩ : ∃ b, (rd_T83 l (k : Int)).f1 = b := ⟨_, rfl⟩
   rw [ha] at hx0 hp0 HS
   rw [hb] at hx1 hp1 HS
   have hkey : keyOf Tryz.prog 3 (.int .i64 a) = some (.int .i64 a) := keyOf_int_mk Tryz.underlying3 hp0
   have HKEY := Aside0.mk hkey
   have HP1 := Aside0.mk hp1
   have HMA := Aside0.mk (HM.out.alloc (.cells #[.int .i64 a, .int .i64 b] 83))
   have HBA := Aside0.mk (HB.out.alloc HB.out.size (.cells #[.int .i64 a, .int .i64 b] 83))
   clear ha hb hkey hp0 hp1 hC
   go_wp2_with (at_mapUpdate; refine wpList_mapUpdate_own _ rfl _ _ _ 162 rfl 3 3 key3 Tryz.underlying162 _ B k _ rfl HMA.out (by unfold maxLen; omega) _ _ _ rfl rfl HKEY.out _ [] (plainElem_int Tryz.underlying3 HP1.out) ?_; intro w2 hown2 hgrow2)
   go_roundw
   case rel => exact ⟨k + 1, by omega, by go_num, ⟨HS.out.symm ▸ hown2⟩, ⟨HBA.out.grown hgrow2 HBA.out.size (fun j hj => by cases hj; exact hBw)⟩⟩
   case measure => simp [intOf]; omega
  ·obtain rfl : k = l.length := by omega
   rw [List.take_length] at HM
   go_wp2
   go_ret
   exact ⟨B, rfl, HM.out, hBw, HB.out⟩
attribute [local go_sem] z1c z1d z1e z1f
theorem z4f {w : World} {n : Nat} {a b x y : Value} {t t' : TypeId} (h0 : w.heap[n]? = some (.cells #[a] t (0, 0))) (h1 : w.heap[n + 1]? = some (.cells #[b] t' (0, 0))) :
  ((w.setCell ⟨n, 0, none⟩ x).setCell ⟨n + 1, 0, none⟩ y).cell? ⟨n, 0, none⟩ = some x ∧ ((w.setCell ⟨n, 0, none⟩ x).setCell ⟨n + 1, 0, none⟩ y).cell? ⟨n + 1, 0, none⟩ = some y :=
 ⟨z0a (z0v (z0k h0 0 x rfl) (p := ⟨n + 1, 0, none⟩) (by simp) y) 0, z0a (z0k (z0v h1 (p := ⟨n, 0, none⟩) (by simp) x) 0 y rfl) 0⟩
def oldestN (l : List S83) (v : Int) : Int := if 0 < l.length then (if (rd_T83 l 0).f0 < v then (rd_T83 l 0).f0 else v) else v
set_option maxRecDepth 100000 in
set_option maxHeartbeats 2000000 in
theorem zak (l : List S83) (v : Int) (K : Nat) (A : Option Addr) (c : Nat) (w : World) (hC : k83.C w A l.length l) (hc : l.length ≤ c) (hk : space_CheckPins.f K l = some 0) (hv : 1 ≤ v ∧ v ≤ 1099511627776) (hl : l.length ≤ 1000000)
  (hp : ∀ k, k < l.length → (Lit.int .i64 (rd_T83 l (k : Int)).f0).wf = true ∧ (Lit.int .i64 (rd_T83 l (k : Int)).f1).wf = true) :
  Calls Tryz.prog 41 #[.slice A l.length c, .int .i64 v] w fun e w' => e = .returned (.tuple #[.int .i64 (oldestN l v), .int .i64 0]) ∧ Below w.heap.size w w' := by
 have hmf : ∀ (fn : Fn) (first cap : Array Value) (w : World), (Instr.makeFunc fn first cap).run Tryz.prog w = .ok (.func fn first cap) w := fun _ _ _ _ => rfl
 have HP := Lib.hid (fun (w1 : World) (hb : Below w.heap.size w w1) => z7u l v K A c w1 (Kd.C_below hC hb) hc hk hv hl hp)
 have hb00 : Below w.heap.size w ((w.alloc (.cells #[.int .i64 0] 3)).alloc (.cells #[.int .i64 0] 30)) := ((Below.refl w.heap.size w).alloc (Nat.le_refl _) (.cells #[.int .i64 0] 3)).alloc (by simp) (.cells #[.int .i64 0] 30)
 have HB0 := Aside0.mk hb00
 have hC0 := Kd.C_below hC hb00
 have HE0 := Aside0.mk (z0j (o' := .cells #[.int .i64 0] 30) (z0l w (.cells #[.int .i64 0] 3)))
 have HE1 := Aside0.mk (z0l (w.alloc (.cells #[.int .i64 0] 3)) (.cells #[.int .i64 0] 30))
 clear hk hv hp hC hb00
 go_enter_defers Tryz.func41, Tryz.ntmps41
 cases l with
 | nil =>
  have hN : oldestN ([] : List S83) v = v := rfl
  rw [hN]
  clear hN hC0
  go_wp2_with (first | (go_at_call 92; (refine (HP.out _ HB0.out).mono ?_); rintro e w1 ⟨B, rfl, hm, hbw, hb1⟩; have hf0 := z0g HE0.out hb1; have hf1 := z0g HE1.out hb1; rw [World.size_alloc] at hf1; have hc0 := z0a hf0 0; have hc1 := z0a hf1 0; have hz0 := z0d hf0 0; have hz1 := z0d hf1 0))
  refine leaves_cons (f := 43) (args := #[.pointer (some ⟨w.heap.size + 1, 0, none⟩), .func (.func 91) #[] #[.pointer (some ⟨w.heap.size, 0, none⟩)]]) (by simp) (by simp [go_sem]) ?_
  refine (z35 _ _ _ _ _).mono ?_
  rintro e u' w2 ⟨rfl, rfl, rfl⟩
  have hq := z4f (x := (.int .i64 v)) (y := .int .i64 0) hf0 hf1
  have hbf := ((HB0.out.trans (hb1.mono HB0.out.size)).setCell (p := ⟨w.heap.size, 0, none⟩) (Nat.le_refl _) (.int .i64 v)).setCell (p := ⟨w.heap.size + 1, 0, none⟩) (Nat.le_succ _) (.int .i64 0)
  simp [Leaves, settle, results, Tryz.results41, go_sem, hq.1, hq.2, hbf]
 | cons x t =>
  have hpos : 0 < (x :: t).length := by simp
  obtain ⟨a, ha⟩ : ∃ a, (rd_T83 (x :: t) 0).f0 = a := ⟨_, rfl⟩
  have HCL := Aside0.mk (fun (w1 : World) (hb : Below ((w.alloc (.cells #[.int .i64 0] 3)).alloc (.cells #[.int .i64 0] 30)).heap.size _ w1) => z1m (Kd.C_below hC0 hb) 0 (Int.le_refl _) (by omega))
  rw [ha] at HCL
  have hN : oldestN (x :: t) v = if a < v then a else v := by rw [oldestN, if_pos hpos, ha]
  rw [hN]
  obtain ⟨n, hn⟩ : ∃ n, (x :: t).length = n := ⟨_, rfl⟩
  rw [hn] at HP hpos hc ⊢
  clear hN hC0 hl hn ha
  by_cases hav : a < v
  ·rw [if_pos hav]
   have hmin : min v a = a := by omega
   go_wp2_with (first | (go_at_call 92; (refine (HP.out _ HB0.out).mono ?_); rintro e w1 ⟨B, rfl, hm, hbw, hb1⟩; have hf0 := z0g HE0.out hb1; have hf1 := z0g HE1.out hb1; rw [World.size_alloc] at hf1; have hc0 := z0a hf0 0; have hc1 := z0a hf1 0; have hz0 := z0d hf0 0; have hz1 := z0d hf1 0; obtain ⟨ad, rfl, hx0, hx1⟩ := HCL.out w1 hb1; rw [show ad.add ((0 : Int).toNat * 2) = ad from z09 ad] at hx0))
   refine leaves_cons (f := 43) (args := #[.pointer (some ⟨w.heap.size + 1, 0, none⟩), .func (.func 91) #[] #[.pointer (some ⟨w.heap.size, 0, none⟩)]]) (by simp) (by simp [go_sem]) ?_
   refine (z35 _ _ _ _ _).mono ?_
   rintro e u' w2 ⟨rfl, rfl, rfl⟩
   have hq := z4f (x := (.int .i64 a)) (y := .int .i64 0) hf0 hf1
   have hbf := ((HB0.out.trans (hb1.mono HB0.out.size)).setCell (p := ⟨w.heap.size, 0, none⟩) (Nat.le_refl _) (.int .i64 a)).setCell (p := ⟨w.heap.size + 1, 0, none⟩) (Nat.le_succ _) (.int .i64 0)
   simp [Leaves, settle, results, Tryz.results41, go_sem, hq.1, hq.2, hbf]
  ·rw [if_neg hav]
   have hmin : min v a = v := by omega
   go_wp2_with (first | (go_at_call 92; (refine (HP.out _ HB0.out).mono ?_); rintro e w1 ⟨B, rfl, hm, hbw, hb1⟩; have hf0 := z0g HE0.out hb1; have hf1 := z0g HE1.out hb1; rw [World.size_alloc] at hf1; have hc0 := z0a hf0 0; have hc1 := z0a hf1 0; have hz0 := z0d hf0 0; have hz1 := z0d hf1 0; obtain ⟨ad, rfl, hx0, hx1⟩ := HCL.out w1 hb1; rw [show ad.add ((0 : Int).toNat * 2) = ad from z09 ad] at hx0))
   refine leaves_cons (f := 43) (args := #[.pointer (some ⟨w.heap.size + 1, 0, none⟩), .func (.func 91) #[] #[.pointer (some ⟨w.heap.size, 0, none⟩)]]) (by simp) (by simp [go_sem]) ?_
   refine (z35 _ _ _ _ _).mono ?_
   rintro e u' w2 ⟨rfl, rfl, rfl⟩
   have hq := z4f (x := (.int .i64 v)) (y := .int .i64 0) hf0 hf1
   have hbf := ((HB0.out.trans (hb1.mono HB0.out.size)).setCell (p := ⟨w.heap.size, 0, none⟩) (Nat.le_refl _) (.int .i64 v)).setCell (p := ⟨w.heap.size + 1, 0, none⟩) (Nat.le_succ _) (.int .i64 0)
   simp [Leaves, settle, results, Tryz.results41, go_sem, hq.1, hq.2, hbf]
theorem reset93 (q : Addr) (v : Value) (w : World) (hc : w.cell? q = some v) (hz : w.frozen? q = false) : Calls Tryz.prog 93 #[.pointer (some q)] w fun e w' => e = .returned (.tuple #[]) ∧ w' = w.setCell q (.slice none 0 0) := by
 go_enter Tryz.func93, Tryz.ntmps93
 go_wp2
 go_end0
 simp
set_option maxRecDepth 100000 in
set_option maxHeartbeats 2000000 in
theorem zal (l : List S83) (v : Int) (K : Nat) (A : Option Addr) (c : Nat) (w : World) (hC : k83.C w A l.length l) (hc : l.length ≤ c) (hk : space_CheckPins.f K l = some 0) (hv : 1 ≤ v ∧ v ≤ 1099511627776) (hl : l.length ≤ 1000000)
  (hp : ∀ k, k < l.length → (Lit.int .i64 (rd_T83 l (k : Int)).f0).wf = true ∧ (Lit.int .i64 (rd_T83 l (k : Int)).f1).wf = true) (hn : (pinD l).atKey (.int .i64 v) (.lit (.int .i64 0)) = .lit (.int .i64 0)) :
  Calls Tryz.prog 42 #[.slice A l.length c, .int .i64 v] w fun e w' => e = .returned (.tuple #[.slice none 0 0, .int .i64 4]) ∧ Below w.heap.size w w' := by
 have hmf : ∀ (fn : Fn) (first cap : Array Value) (w : World), (Instr.makeFunc fn first cap).run Tryz.prog w = .ok (.func fn first cap) w := fun _ _ _ _ => rfl
 have HP := Lib.hid (fun (w1 : World) (hb : Below w.heap.size w w1) => z7u l v K A c w1 (Kd.C_below hC hb) hc hk hv hl hp)
 have HB0 := Aside0.mk (((Below.refl w.heap.size w).alloc (Nat.le_refl _) (.cells #[.slice none 0 0] 84)).alloc (by simp) (.cells #[.int .i64 0] 30))
 have HE0 := Aside0.mk (z0j (o' := .cells #[.int .i64 0] 30) (z0l w (.cells #[.slice none 0 0] 84)))
 have HE1 := Aside0.mk (z0l (w.alloc (.cells #[.slice none 0 0] 84)) (.cells #[.int .i64 0] 30))
 have hkey : keyOf Tryz.prog 3 (.int .i64 v) = some (.int .i64 v) := keyOf_int_mk Tryz.underlying3 (WalkArith.wf_i64 (by omega))
 have HKEY := Aside0.mk hkey
 have HN := Lib.hid hn
 clear hk hv hp hC hkey hn
 go_enter_defers Tryz.func42, Tryz.ntmps42
 go_wp2_with (first | (go_at_call 92; (refine (HP.out _ HB0.out).mono ?_); rintro e w1 ⟨B, rfl, hm, hbw, hb1⟩; have HM := Aside0.mk hm; clear hm) | (at_lookup; refine wpList_lookup_own_int _ rfl _ _ 162 rfl 3 3 .i64 key3 Tryz.underlying162 Tryz.underlying3 (zero3 _) B l.length _ rfl HM.out _ _ rfl HKEY.out ?_; intro q hat hwq; rw [HN.out] at hat; obtain rfl : 0 = q := (by injection hat with h; injection h)) | (go_at_call 45; refine (z19 _ _).mono ?_; rintro e w' ⟨rfl, rfl⟩))
 have hf0 := z0g HE0.out hb1
 have hf1 := z0g HE1.out hb1
 rw [World.size_alloc] at hf1
 refine leaves_cons (f := 43) (args := #[.pointer (some ⟨w.heap.size + 1, 0, none⟩), .func (.func 93) #[] #[.pointer (some ⟨w.heap.size, 0, none⟩)]]) (by simp) (by simp [go_sem]) ?_
 have hb2 := (HB0.out.trans (hb1.mono HB0.out.size)).alloc (HB0.out.trans (hb1.mono HB0.out.size)).size (.cells #[.int .i64 4] 166)
 have hg0 := z0j hf0 (.cells #[.int .i64 4] 166)
 have hg1 := z0j hf1 (.cells #[.int .i64 4] 166)
 have hg2 := z0l w1 (.cells #[.int .i64 4] 166)
 have hn0 : w.heap.size ≠ w1.heap.size := Nat.ne_of_lt (z0w hf0)
 refine (caught_93 ⟨w.heap.size + 1, 0, none⟩ ⟨w.heap.size, 0, none⟩ 4 0 [] w1 (fun w2 => w2.cell? ⟨w.heap.size, 0, none⟩ = some (.slice none 0 0) ∧ w2.cell? ⟨w.heap.size + 1, 0, none⟩ = some (.int .i64 4) ∧ Below w.heap.size w w2) ?_).mono ?_
 ·refine (reset93 _ _ _ (z0a hg0 0) (z0d hg0 0)).mono ?_
  rintro e w2 ⟨rfl, rfl⟩
  have hq := z4f (x := .slice none 0 0) (y := .int .i64 4) hg0 hg1
  exact ⟨rfl, z0a (z0v hg2 (Ne.symm hn0) _) 0, z0a (z0v hg1 (by simp) _) 0, z0d (z0v hg1 (by simp) _) 0, hq.1, hq.2, (hb2.setCell (p := ⟨w.heap.size, 0, none⟩) (Nat.le_refl _) _).setCell (p := ⟨w.heap.size + 1, 0, none⟩) (Nat.le_succ _) _⟩
 ·rintro e u' w2 ⟨rfl, rfl, hq0, hq1, hbf⟩
  simp [Leaves, settle, results, Tryz.results42, go_sem, hq0, hq1, hbf, failE]
end Go.Proofs.YtpnhelcemodnmaaGreat
namespace Go.Proofs.YtpnhelcemodnmaaGreat
open Go.RowKit Go.Shelf Go.Proofs.YtpnhelcemodnmaaGreatW.PrintWords Go.Proofs.YtpnhelcemodnmaaGreatW.PrintLast Go.Proofs.YtpnhelcemodnmaaGreatW.PrintMore PA
set_option linter.unusedVariables false
set_option linter.unusedSimpArgs false
attribute [local go_sem] Oper.semAt_some
theorem zam {l : List Int} (h : l.Pairwise (· ≤ ·)) : sortI l = l :=
 List.Perm.eq_of_pairwise (le := (· ≤ ·)) (fun a b _ _ h1 h2 => by omega) (z33 l) h (z2u l)
theorem z11 : putL 0 [4, 5] (putL (2 - 1) [3] []) = [⟨0, [4, 5]⟩, ⟨1, [3]⟩] := by
 have h1 : putL (2 - 1) [3] [] = [⟨1, [3]⟩] := by unfold putL; rw [if_neg (by simp), z1v]; rfl
 rw [h1]
 unfold putL
 rw [if_neg (by simp), z1w (x := ⟨1, [3]⟩) (y := ⟨0, [4, 5]⟩) _ _ (by decide), z1q]
theorem z7v : validB ((6 : Nat) : Int) [⟨0, [4, 5]⟩, ⟨1, [3]⟩] = true := by decide
theorem z7w : validB ((6 : Nat) : Int) [] = true := by decide
theorem z7x : incB ((6 : Nat) : Int) [4, 5] = true := by decide
theorem z7y : incB ((6 : Nat) : Int) [3] = true := by decide
theorem sane_take : takeRun 2 [⟨0, [4, 5]⟩, ⟨1, [3]⟩] 6 [] = some ([⟨0, [5]⟩, ⟨1, [3]⟩], 6, [4]) := by rfl
theorem z4g : tailN [⟨0, [4, 5]⟩, ⟨1, [3]⟩] ((6 : Nat) : Int) = 4 := by rfl
theorem z5a : keepAll 4 [⟨0, [4, 5]⟩, ⟨1, [3]⟩] = [⟨1, [3]⟩] := by decide
theorem zan : takeRun 2 [⟨1, [3]⟩] 4 [] = some ([⟨1, [3]⟩], 5, [4]) := by rfl
theorem z7z : numB [4] 2 = true := by decide
def sanePage (l : List S64) : S89 := { z89 with kind := 4, no := 4, ver := 2, freed := l }
theorem z70 : listPg [⟨0, [5]⟩, ⟨1, [3]⟩] [4] 2 = [sanePage [⟨0, [5]⟩, ⟨1, [3]⟩]] := by rfl
theorem sane_pg2 : listPg [⟨1, [3]⟩] [4] 2 = [sanePage [⟨1, [3]⟩]] := by rfl
theorem sane_use : useE 4 [⟨0, [5]⟩, ⟨3, [7, 8]⟩, ⟨4, [9]⟩] = 0 := by decide
theorem sane_low : pagesOf (lowL 4 [⟨0, [5]⟩, ⟨3, [7, 8]⟩, ⟨4, [9]⟩]) = [5, 7, 8] := by decide
theorem sane_hi : hiL 4 [⟨0, [5]⟩, ⟨3, [7, 8]⟩, ⟨4, [9]⟩] = [⟨4, [9]⟩] := by decide
theorem zao : checkE ((6 : Nat) : Int) [⟨0, [5]⟩, ⟨1, [3]⟩] = 0 := by decide
theorem sane_inc3 : incB ((6 : Nat) : Int) [2, 4] = true := by decide
theorem sane_acc {e n : Int} (h : AccOut 6 ([2, 4] ++ pagesOf [⟨0, [5]⟩, ⟨1, [3]⟩]) e n) : e = 0 ∧ n = 0 := by
 rcases h with ⟨h1, h2, _⟩ | ⟨_, k, rfl, h2, h3, h4, _⟩
 ·exact ⟨h1, h2⟩
 ·exfalso
  have : k = 2 ∨ k = 3 ∨ k = 4 ∨ k = 5 := by omega
  rcases this with rfl | rfl | rfl | rfl <;> exact h4 (by decide)
theorem zap : checkE ((6 : Nat) : Int) [⟨0, [4, 5]⟩] = 0 := by decide
theorem zaq : tailN [⟨0, [4, 5]⟩] ((6 : Nat) : Int) = 4 := by rfl
theorem sane_pins : ∃ K, space_CheckPins.f K [⟨3, 1⟩, ⟨6, 1⟩] = some 0 := ⟨5, by simp [space_CheckPins.f, space_CheckPins.l0, rd_T83, wrap64]⟩
theorem zar : ∃ K, space_CheckPins.f K [⟨3, 2⟩] = some 0 := ⟨5, by simp [space_CheckPins.f, space_CheckPins.l0, rd_T83, wrap64]⟩
theorem sane_old : oldestN [⟨3, 1⟩, ⟨6, 1⟩] 7 = 3 := by decide
theorem zas : (pinD [⟨3, 2⟩]).atKey (.int .i64 5) (.lit (.int .i64 0)) = .lit (.int .i64 0) := by rfl
theorem z2b {l : List S64} (h : l.length ≤ 10 ∧ (pagesOf l).length ≤ 10) : smallL l := ⟨by omega, by omega⟩
theorem zat : formP 4096 [⟨0, [4, 5]⟩, ⟨1, [3]⟩] := by decide
theorem zau : formP 4096 [⟨1, [3]⟩] := by decide
theorem z1p {W : World} {n : Nat} {C : Array Value} {xs : List Int} (h : W.heap[n]? = some (.cells C 3 (0, 0))) (hC : C.toList = xs.map (fun x => Value.int .i64 x)) (hm : xs.length ≤ 1000) : (Kd.int .i64).C W (some ⟨n, 0, none⟩) xs.length xs := by
 refine z2e h ⟨by rw [hC, List.length_map]; show _ = xs.length * 1; omega, fun j q hj => ?_⟩ (by omega)
 rw [hC]
 show ((xs.map (fun x => Value.int .i64 x)).drop (j * 1)).take 1 = [Value.int .i64 q]
 have hl := (List.getElem?_eq_some_iff.1 hj)
 obtain ⟨h1, h2⟩ := hl
 rw [Nat.mul_one, ← List.map_drop, List.drop_eq_getElem_cons h1, h2]
 rfl
theorem row64 {W : World} {n : Nat} {C : Array Value} {xs : List S64} (h : W.heap[n]? = some (.cells C 64 (0, 0))) (hl : C.toList.length = xs.length * 2) (hm : xs.length ≤ 1000)
  (hr : ∀ j p, xs[j]? = some p → ∃ A c, (C.toList.drop (j * 2)).take 2 = [.int .i64 p.f0, .slice A p.f1.length c] ∧ p.f1.length ≤ c ∧ (Kd.int .i64).C W A p.f1.length p.f1) : k64.C W (some ⟨n, 0, none⟩) xs.length xs := by
 refine z2e h ⟨hl, fun j q hj => ?_⟩ (by omega)
 obtain ⟨A, c, e, h1, h2⟩ := hr j q hj
 show k64.K W q ((C.toList.drop (j * 2)).take 2)
 rw [e]
 exact k64_mk W q h1 h2
theorem row83 {W : World} {n : Nat} {C : Array Value} {xs : List S83} (h : W.heap[n]? = some (.cells C 83 (0, 0))) (hl : C.toList.length = xs.length * 2) (hm : xs.length ≤ 1000)
  (hr : ∀ j p, xs[j]? = some p → (C.toList.drop (j * 2)).take 2 = [.int .i64 p.f0, .int .i64 p.f1]) : k83.C W (some ⟨n, 0, none⟩) xs.length xs := by
 refine z2e h ⟨hl, fun j q hj => ?_⟩ (by omega)
 show k83.K W q ((C.toList.drop (j * 2)).take 2)
 rw [hr j q hj]
 exact k83_mk W q
theorem one64 {W : World} {n m : Nat} {v : Int} {xs : List Int} {C1 : Array Value} (h1 : W.heap[m]? = some (.cells C1 3 (0, 0))) (hC : C1.toList = xs.map (fun x => Value.int .i64 x)) (hm : xs.length ≤ 1000) (h : W.heap[n]? = some (.cells #[.int .i64 v, .slice (some ⟨m, 0, none⟩) xs.length xs.length] 64 (0, 0))) : k64.C W (some ⟨n, 0, none⟩) 1 [⟨v, xs⟩] := by
 refine row64 (xs := [⟨v, xs⟩]) h rfl (by simp) (fun j p hj => ?_)
 match j with
 | 0 =>
     obtain rfl : (⟨v, xs⟩ : S64) = p := by simpa using hj
     exact ⟨_, _, rfl, Nat.le_refl _, z1p h1 hC hm⟩
 | j + 1 => simp at hj
theorem two64 {W : World} {n m1 m2 : Nat} {v1 v2 : Int} {x1 x2 : List Int} {C1 C2 : Array Value} (h1 : W.heap[m1]? = some (.cells C1 3 (0, 0))) (hC1 : C1.toList = x1.map (fun x => Value.int .i64 x)) (hm1 : x1.length ≤ 1000) (h2 : W.heap[m2]? = some (.cells C2 3 (0, 0))) (hC2 : C2.toList = x2.map (fun x => Value.int .i64 x)) (hm2 : x2.length ≤ 1000)
  (h : W.heap[n]? = some (.cells #[.int .i64 v1, .slice (some ⟨m1, 0, none⟩) x1.length x1.length, .int .i64 v2, .slice (some ⟨m2, 0, none⟩) x2.length x2.length] 64 (0, 0))) : k64.C W (some ⟨n, 0, none⟩) 2 [⟨v1, x1⟩, ⟨v2, x2⟩] := by
 refine row64 (xs := [⟨v1, x1⟩, ⟨v2, x2⟩]) h rfl (by simp) (fun j p hj => ?_)
 match j with
 | 0 =>
     obtain rfl : (⟨v1, x1⟩ : S64) = p := by simpa using hj
     exact ⟨_, _, rfl, Nat.le_refl _, z1p h1 hC1 hm1⟩
 | 1 =>
     obtain rfl : (⟨v2, x2⟩ : S64) = p := by simpa using hj
     exact ⟨_, _, rfl, Nat.le_refl _, z1p h2 hC2 hm2⟩
 | j + 2 => simp at hj
theorem three64 {W : World} {n m1 m2 m3 : Nat} {v1 v2 v3 : Int} {x1 x2 x3 : List Int} {C1 C2 C3 : Array Value} (h1 : W.heap[m1]? = some (.cells C1 3 (0, 0))) (hC1 : C1.toList = x1.map (fun x => Value.int .i64 x)) (hm1 : x1.length ≤ 1000) (h2 : W.heap[m2]? = some (.cells C2 3 (0, 0))) (hC2 : C2.toList = x2.map (fun x => Value.int .i64 x)) (hm2 : x2.length ≤ 1000) (h3 : W.heap[m3]? = some (.cells C3 3 (0, 0))) (hC3 : C3.toList = x3.map (fun x => Value.int .i64 x)) (hm3 : x3.length ≤ 1000)
  (h : W.heap[n]? = some (.cells #[.int .i64 v1, .slice (some ⟨m1, 0, none⟩) x1.length x1.length, .int .i64 v2, .slice (some ⟨m2, 0, none⟩) x2.length x2.length, .int .i64 v3, .slice (some ⟨m3, 0, none⟩) x3.length x3.length] 64 (0, 0))) : k64.C W (some ⟨n, 0, none⟩) 3 [⟨v1, x1⟩, ⟨v2, x2⟩, ⟨v3, x3⟩] := by
 refine row64 (xs := [⟨v1, x1⟩, ⟨v2, x2⟩, ⟨v3, x3⟩]) h rfl (by simp) (fun j p hj => ?_)
 match j with
 | 0 =>
     obtain rfl : (⟨v1, x1⟩ : S64) = p := by simpa using hj
     exact ⟨_, _, rfl, Nat.le_refl _, z1p h1 hC1 hm1⟩
 | 1 =>
     obtain rfl : (⟨v2, x2⟩ : S64) = p := by simpa using hj
     exact ⟨_, _, rfl, Nat.le_refl _, z1p h2 hC2 hm2⟩
 | 2 =>
     obtain rfl : (⟨v3, x3⟩ : S64) = p := by simpa using hj
     exact ⟨_, _, rfl, Nat.le_refl _, z1p h3 hC3 hm3⟩
 | j + 3 => simp at hj
theorem new1 (w : World) (a : Obj) : (w.alloc a).heap[w.heap.size]? = some a := World.alloc_heap_new _ _
theorem new2 (w : World) (a b : Obj) : ((w.alloc a).alloc b).heap[w.heap.size]? = some a ∧ ((w.alloc a).alloc b).heap[w.heap.size + 1]? = some b := by
 have h := World.alloc_heap_new (w.alloc a) b
 rw [World.size_alloc] at h
 exact ⟨(Below.heap_alloc _ _ _ (by simp <;> omega)).trans (new1 w a), h⟩
theorem new3 (w : World) (a b c : Obj) : (((w.alloc a).alloc b).alloc c).heap[w.heap.size]? = some a ∧ (((w.alloc a).alloc b).alloc c).heap[w.heap.size + 1]? = some b ∧ (((w.alloc a).alloc b).alloc c).heap[w.heap.size + 1 + 1]? = some c := by
 have h := World.alloc_heap_new ((w.alloc a).alloc b) c
 rw [World.size_alloc, World.size_alloc] at h
 exact ⟨(Below.heap_alloc _ _ _ (by simp <;> omega)).trans (new2 w a b).1, (Below.heap_alloc _ _ _ (by simp <;> omega)).trans (new2 w a b).2, h⟩
theorem new4 (w : World) (a b c d : Obj) : ((((w.alloc a).alloc b).alloc c).alloc d).heap[w.heap.size]? = some a ∧ ((((w.alloc a).alloc b).alloc c).alloc d).heap[w.heap.size + 1]? = some b ∧ ((((w.alloc a).alloc b).alloc c).alloc d).heap[w.heap.size + 1 + 1]? = some c ∧ ((((w.alloc a).alloc b).alloc c).alloc d).heap[w.heap.size + 1 + 1 + 1]? = some d := by
 have h := World.alloc_heap_new (((w.alloc a).alloc b).alloc c) d
 rw [World.size_alloc, World.size_alloc, World.size_alloc] at h
 exact ⟨(Below.heap_alloc _ _ _ (by simp <;> omega)).trans (new3 w a b c).1, (Below.heap_alloc _ _ _ (by simp <;> omega)).trans (new3 w a b c).2.1, (Below.heap_alloc _ _ _ (by simp <;> omega)).trans (new3 w a b c).2.2, h⟩
theorem below1 (w : World) (a : Obj) : Below w.heap.size w (w.alloc a) := z0i w a
theorem below2 (w : World) (a b : Obj) : Below w.heap.size w ((w.alloc a).alloc b) := (z0i w a).alloc (by simp) b
theorem below3 (w : World) (a b c : Obj) : Below w.heap.size w (((w.alloc a).alloc b).alloc c) := (below2 w a b).alloc (by simp <;> omega) c
theorem below4 (w : World) (a b c d : Obj) : Below w.heap.size w ((((w.alloc a).alloc b).alloc c).alloc d) := (below3 w a b c).alloc (by simp <;> omega) d
theorem sane_end1 (PA FA GA : Option Addr) (pc : Nat) (W : World) (hPG : k89.C W PA 6 (List.replicate 6 z89)) (hpc : 6 ≤ pc) (hFR : (Kd.int .i64).C W FA 2 [4, 5]) (hGO : (Kd.int .i64).C W GA 1 [3]) :
  Calls Tryz.prog 15 #[.agg #[.slice PA 6 pc, .slice FA 2 2, .slice none 0 0, .slice GA 1 1, .int .i64 2, .int .i64 0], .slice none 0 0, .bool false] W fun e w' => ∃ q qc LA lc, e = .returned (.tuple #[.agg #[.slice (some ⟨q, 0, none⟩) 6 qc, .slice none 0 0, .slice none 0 0, .slice none 0 0, .int .i64 2, .int .i64 0], .int .i64 4, .slice LA 2 lc, .int .i64 0]) ∧ w'.cell? ⟨q, 40, none⟩ = some (.int .i64 4) ∧ 2 ≤ lc ∧ k64.C w' LA 2 [⟨0, [5]⟩, ⟨1, [3]⟩] ∧ Below W.heap.size W w' := by
 have h := end_ok3 (List.replicate 6 z89) [4, 5] [3] [] 2 0 false PA FA none GA none pc 2 0 0 1 0 W hPG hpc hFR (by simp) hGO (by simp) (Kd.C_nil k64 W) (Nat.le_refl _) ⟨z2b ⟨by simp, by decide⟩, by simp, by simp, by decide, by simp⟩ (by omega) (by simp) z7w z7x z7y (by rw [z11]; exact z7v)
  2 [⟨0, [5]⟩, ⟨1, [3]⟩] 6 [4] (by omega) (by rw [if_neg (by simp), z11]; exact zat) (by rw [if_neg (by simp), z11]; exact z2b ⟨by simp, by decide⟩) (by rw [if_neg (by simp), if_neg (by simp), z11]; exact sane_take) z7z (by rw [z70]; intro p hp; rw [List.mem_singleton.1 hp]; exact ⟨by decide, by decide⟩)
 refine h.mono ?_
 rintro e w' ⟨PV, LA, lc, rfl, hN, hL, hB⟩
 rw [z70, if_neg (by simp), if_neg (by simp)] at hN
 obtain ⟨pgs, hpg⟩ : ∃ pgs, layAll [sanePage [⟨0, [5]⟩, ⟨1, [3]⟩]] (zeroAll [4, 5] (List.replicate 6 z89) ++ List.replicate (6 - (List.replicate 6 z89).length) z89) = pgs := ⟨_, rfl⟩
 have hlen : pgs.length = 6 := by rw [← hpg]; rfl
 have hat : pgs.getD 4 z89 = sanePage [⟨0, [5]⟩, ⟨1, [3]⟩] := by rw [← hpg]; rfl
 rw [hpg] at hN
 obtain ⟨q, qc, rfl, _, _, _⟩ := Kd.N_form hN (by omega)
 rw [hlen] at hN ⊢
 obtain ⟨cs, _, hFK, hcc, _⟩ := Kd.N_elem hN z89 4 (by omega) (by omega)
 rw [show ((4 : Int).toNat) = 4 from rfl, hat] at hFK
 obtain ⟨A8, c8, rfl, _, _⟩ := z1s hFK
 exact ⟨q, qc, LA, lc, rfl, hcc 0 _ rfl, (Kd.N_reads' hL).2.1, (Kd.N_reads' hL).2.2, hB⟩
theorem sane_end2 (PA FA GA : Option Addr) (pc : Nat) (W : World) (hPG : k89.C W PA 6 (List.replicate 6 z89)) (hpc : 6 ≤ pc) (hFR : (Kd.int .i64).C W FA 2 [4, 5]) (hGO : (Kd.int .i64).C W GA 1 [3]) :
  Calls Tryz.prog 15 #[.agg #[.slice PA 6 pc, .slice FA 2 2, .slice none 0 0, .slice GA 1 1, .int .i64 2, .int .i64 0], .slice none 0 0, .bool true] W fun e w' => ∃ QA qc LA lc, e = .returned (.tuple #[.agg #[.slice QA 5 qc, .slice none 0 0, .slice none 0 0, .slice none 0 0, .int .i64 2, .int .i64 0], .int .i64 4, .slice LA 1 lc, .int .i64 0]) ∧ 1 ≤ lc ∧ k64.C w' LA 1 [⟨1, [3]⟩] ∧ Below W.heap.size W w' := by
 have h := end_ok3 (List.replicate 6 z89) [4, 5] [3] [] 2 0 true PA FA none GA none pc 2 0 0 1 0 W hPG hpc hFR (by simp) hGO (by simp) (Kd.C_nil k64 W) (Nat.le_refl _) ⟨z2b ⟨by simp, by decide⟩, by simp, by simp, by decide, by simp⟩ (by omega) (by simp) z7w z7x z7y (by rw [z11]; exact z7v)
  2 [⟨1, [3]⟩] 5 [4] (by omega) (by rw [if_pos rfl, z11]; show formP 4096 (keepAll (tailN _ ((6 : Nat) : Int)) _); rw [z4g, z5a]; exact zau) (by rw [if_pos rfl, z11]; show smallL (keepAll (tailN _ ((6 : Nat) : Int)) _); rw [z4g, z5a]; exact z2b ⟨by simp, by decide⟩)
  (by rw [if_pos rfl, if_pos rfl, z11]; show takeRun 2 (keepAll (tailN _ ((6 : Nat) : Int)) _) (tailN _ ((6 : Nat) : Int)).toNat [] = _; rw [z4g, z5a]; exact zan) z7z (by rw [sane_pg2]; intro p hp; rw [List.mem_singleton.1 hp]; exact ⟨by decide, by decide⟩)
 refine h.mono ?_
 rintro e w' ⟨PV, LA, lc, rfl, hN, hL, hB⟩
 rw [if_pos rfl, if_pos rfl, z11] at hN
 have ht : tailN [⟨0, [4, 5]⟩, ⟨1, [3]⟩] (((List.replicate 6 z89).length : Nat) : Int) = 4 := z4g
 rw [ht] at hN
 obtain ⟨pgs, hpg⟩ : ∃ pgs, layAll (listPg [⟨1, [3]⟩] [4] 2) ((zeroAll [4, 5] (List.replicate 6 z89)).take (4 : Int).toNat ++ List.replicate (5 - (4 : Int).toNat) z89) = pgs := ⟨_, rfl⟩
 have hlen : pgs.length = 5 := by rw [← hpg, z36]; rfl
 rw [hpg] at hN
 obtain ⟨QA, qc, rfl⟩ := Kd.N_slice hN
 rw [hlen]
 exact ⟨QA, qc, LA, lc, rfl, (Kd.N_reads' hL).2.1, (Kd.N_reads' hL).2.2, hB⟩
set_option maxRecDepth 100000 in
set_option maxHeartbeats 1000000 in
theorem sane_any (w : World) : Calls Tryz.prog 12 #[] w fun e w' => e = .returned (.bool true) ∧ Below w.heap.size w w' := by
 go_enter Tryz.func12, Tryz.ntmps12
 go_upto_region 2 with (fail)
 have hl1 : k64.C ((((w.alloc (.cells #[.int .i64 5] 3)).alloc (.cells #[.int .i64 7, .int .i64 8] 3)).alloc (.cells #[.int .i64 9] 3)).alloc (.cells #[.int .i64 0, .slice (some ⟨w.heap.size, 0, none⟩) 1 1, .int .i64 3, .slice (some ⟨w.heap.size + 1, 0, none⟩) 2 2, .int .i64 4, .slice (some ⟨w.heap.size + 1 + 1, 0, none⟩) 1 1] 64)) (some ⟨w.heap.size + 1 + 1 + 1, 0, none⟩) 3 [⟨0, [5]⟩, ⟨3, [7, 8]⟩, ⟨4, [9]⟩] := by
  obtain ⟨n1, n2, n3, n4⟩ := new4 w (.cells #[.int .i64 5] 3) (.cells #[.int .i64 7, .int .i64 8] 3) (.cells #[.int .i64 9] 3) (.cells #[.int .i64 0, .slice (some ⟨w.heap.size, 0, none⟩) 1 1, .int .i64 3, .slice (some ⟨w.heap.size + 1, 0, none⟩) 2 2, .int .i64 4, .slice (some ⟨w.heap.size + 1 + 1, 0, none⟩) 1 1] 64)
  exact three64 (x1 := [5]) (x2 := [7, 8]) (x3 := [9]) n1 rfl (by simp) n2 rfl (by simp) n3 rfl (by simp) n4
 have hB1 : Below w.heap.size w ((((w.alloc (.cells #[.int .i64 5] 3)).alloc (.cells #[.int .i64 7, .int .i64 8] 3)).alloc (.cells #[.int .i64 9] 3)).alloc (.cells #[.int .i64 0, .slice (some ⟨w.heap.size, 0, none⟩) 1 1, .int .i64 3, .slice (some ⟨w.heap.size + 1, 0, none⟩) 2 2, .int .i64 4, .slice (some ⟨w.heap.size + 1 + 1, 0, none⟩) 1 1] 64)) := below4 w _ _ _ _
 obtain ⟨g1, hg1⟩ : ∃ g, w.heap.size + 1 + 1 + 1 = g := ⟨_, rfl⟩
 obtain ⟨w1, hw1⟩ : ∃ w1, (((w.alloc (.cells #[.int .i64 5] 3)).alloc (.cells #[.int .i64 7, .int .i64 8] 3)).alloc (.cells #[.int .i64 9] 3)).alloc (.cells #[.int .i64 0, .slice (some ⟨w.heap.size, 0, none⟩) 1 1, .int .i64 3, .slice (some ⟨w.heap.size + 1, 0, none⟩) 2 2, .int .i64 4, .slice (some ⟨w.heap.size + 1 + 1, 0, none⟩) 1 1] 64) = w1 := ⟨_, rfl⟩
 rw [hw1] at hl1 hB1 ⊢
 rw [hg1] at hl1 ⊢
 have HUS := Aside0.mk (z8p [⟨0, [5]⟩, ⟨3, [7, 8]⟩, ⟨4, [9]⟩] 4 (some ⟨g1, 0, none⟩) 3 w1 hl1 (by simp) (z2b ⟨by simp, by decide⟩) sane_use)
 rw [sane_low, zam (by decide), sane_hi] at HUS
 have HB1 := Aside0.mk hB1
 clear hl1 hB1 hw1 hg1
 go_upto_region 3 with (go_at_call 26; (refine HUS.out.mono ?_); rintro e w2 ⟨u, r, rfl, hu, hr, hb2⟩; obtain ⟨UA, uc, rfl⟩ := Kd.R_slice hu; obtain ⟨RA, rc, rfl⟩ := Kd.R_slice hr)
 have HU2 := Aside0.mk (Kd.R_reads' hu).2
 have HB2 := Aside0.mk (HB1.out.trans (hb2.mono HB1.out.size))
 clear hu hr hb2 HUS HB1
 -- Oldest
 have hl3 : k83.C (w2.alloc (.cells #[.int .i64 3, .int .i64 1, .int .i64 6, .int .i64 1] 83)) (some ⟨w2.heap.size, 0, none⟩) 2 [⟨3, 1⟩, ⟨6, 1⟩] := row83 (xs := [⟨3, 1⟩, ⟨6, 1⟩]) (new1 w2 _) rfl (by simp) (fun j p hj => by
  match j with
  | 0 =>
      obtain rfl : (⟨3, 1⟩ : S83) = p := by simpa using hj
      rfl
  | 1 =>
      obtain rfl : (⟨6, 1⟩ : S83) = p := by simpa using hj
      rfl
  | j + 2 => simp at hj)
 obtain ⟨K1, hK1⟩ := sane_pins
 have HO3 := Aside0.mk (zak [⟨3, 1⟩, ⟨6, 1⟩] 7 K1 (some ⟨w2.heap.size, 0, none⟩) 2 _ hl3 (by simp) hK1 (by omega) (by simp) (fun k hk => by
  match k with
  | 0 => exact ⟨rfl, rfl⟩
  | 1 => exact ⟨rfl, rfl⟩
  | k + 2 => simp at hk; omega))
 rw [sane_old] at HO3
 clear hl3 hK1
 go_upto_region 4 with (go_at_call 41; (refine HO3.out.mono ?_); rintro e w3 ⟨rfl, hb3⟩)
 have HB23 := Aside0.mk (show Below w2.heap.size w2 w3 from (below1 w2 _).trans (hb3.mono (by simp)))
 have HB3 := Aside0.mk (HB2.out.trans (HB23.out.mono HB2.out.size))
 have HU3 := Aside0.mk (show 3 ≤ uc ∧ (Kd.int .i64).C w3 UA 3 [5, 7, 8] from ⟨HU2.out.1, Kd.C_below HU2.out.2 HB23.out⟩)
 clear hb3 HO3 HB23 HU2 HB2
 -- Unpin
 have hl4 : k83.C (w3.alloc (.cells #[.int .i64 3, .int .i64 2] 83)) (some ⟨w3.heap.size, 0, none⟩) 1 [⟨3, 2⟩] := row83 (xs := [⟨3, 2⟩]) (new1 w3 _) rfl (by simp) (fun j p hj => by
  match j with
  | 0 =>
      obtain rfl : (⟨3, 2⟩ : S83) = p := by simpa using hj
      rfl
  | j + 1 => simp at hj)
 obtain ⟨K2, hK2⟩ := zar
 have HO4 := Aside0.mk (zal [⟨3, 2⟩] 5 K2 (some ⟨w3.heap.size, 0, none⟩) 1 _ hl4 (by simp) hK2 (by omega) (by simp) (fun k hk => by
  match k with
  | 0 => exact ⟨rfl, rfl⟩
  | k + 1 => simp at hk) zas)
 clear hl4 hK2
 go_upto_region 5 with (go_at_call 42; (refine HO4.out.mono ?_); rintro e w4 ⟨rfl, hb4⟩)
 have HB34 := Aside0.mk (show Below w3.heap.size w3 w4 from (below1 w3 _).trans (hb4.mono (by simp)))
 have HB4 := Aside0.mk (HB3.out.trans (HB34.out.mono HB3.out.size))
 have HU4 := Aside0.mk (show 3 ≤ uc ∧ (Kd.int .i64).C w4 UA 3 [5, 7, 8] from ⟨HU3.out.1, Kd.C_below HU3.out.2 HB34.out⟩)
 clear hb4 HO4 HB34 HU3 HB3
 go_upto_region 6 with ((with_reducible refine z01 (N := 48) rfl ?_); refine Kd.N_make k89 (w0 := w4) w4.heap.size 89 rfl (N' := 48) rfl 22 _ _ rfl 6 rfl rfl Tryz.underlying22 (.agg (cells89 z89 none 0).toArray) 120 info89 rfl (by decide) (by decide) z89 (ok := fun _ => True) (okp := fun _ => False) zero89F (fun _ h => h.elim) trivial (by omega) (by decide) (Below.refl _ _) (Nat.le_refl _) ?_; intro pv w5 hp5 hb5 hg5 hat5; obtain ⟨PA, pc, rfl⟩ := Kd.N_slice hp5)
 obtain ⟨_, hpc, hPG⟩ := Kd.N_reads' hp5
 obtain ⟨m1, m2, m3⟩ := new3 w5 (.cells #[.int .i64 4, .int .i64 5] 3) (.cells #[.int .i64 3] 3) (.cells #[.slice PA 6 pc, .slice (some ⟨w5.heap.size, 0, none⟩) 2 2, .slice none 0 0, .slice (some ⟨w5.heap.size + 1, 0, none⟩) 1 1, .int .i64 2, .int .i64 0] 25)
 have hb6 := below3 w5 (.cells #[.int .i64 4, .int .i64 5] 3) (.cells #[.int .i64 3] 3) (.cells #[.slice PA 6 pc, .slice (some ⟨w5.heap.size, 0, none⟩) 2 2, .slice none 0 0, .slice (some ⟨w5.heap.size + 1, 0, none⟩) 1 1, .int .i64 2, .int .i64 0] 25)
 obtain ⟨w6, hw6⟩ : ∃ W, ((w5.alloc (.cells #[.int .i64 4, .int .i64 5] 3)).alloc (.cells #[.int .i64 3] 3)).alloc (.cells #[.slice PA 6 pc, .slice (some ⟨w5.heap.size, 0, none⟩) 2 2, .slice none 0 0, .slice (some ⟨w5.heap.size + 1, 0, none⟩) 1 1, .int .i64 2, .int .i64 0] 25) = W := ⟨_, rfl⟩
 obtain ⟨n5, hn5⟩ : ∃ n, w5.heap.size = n := ⟨_, rfl⟩
 rw [hw6] at m1 m2 m3 hb6 ⊢
 have hb46 : Below w4.heap.size w4 w6 := hb5.trans (hb6.mono hb5.size)
 rw [hn5] at m1 m2 m3 ⊢
 have HE1 := Aside0.mk (sane_end1 PA (some ⟨n5, 0, none⟩) (some ⟨n5 + 1, 0, none⟩) pc w6 (Kd.C_below hPG hb6) hpc (z1p (xs := [4, 5]) m1 rfl (by simp)) (z1p (xs := [3]) m2 rfl (by simp)))
 have HPG6 := Aside0.mk (show 6 ≤ pc ∧ k89.C w6 PA 6 (List.replicate 6 z89) from ⟨hpc, Kd.C_below hPG hb6⟩)
 have HM1 := Aside0.mk m1
 have HM2 := Aside0.mk m2
 have HM3 := Aside0.mk m3
 have HB6 := Aside0.mk (HB4.out.trans (hb46.mono HB4.out.size))
 have HU6 := Aside0.mk (show 3 ≤ uc ∧ (Kd.int .i64).C w6 UA 3 [5, 7, 8] from ⟨HU4.out.1, Kd.C_below HU4.out.2 hb46⟩)
 have x0 := (z0a m3 0).trans rfl
 have x1 := (z0a m3 1).trans rfl
 have x2 := (z0a m3 2).trans rfl
 have x3 := (z0a m3 3).trans rfl
 have x4 := (z0a m3 4).trans rfl
 have x5 := (z0a m3 5).trans rfl
 clear m1 m2 m3 hb6 hw6 hn5 hb46 hpc hPG hp5 hb5 hg5 hat5 HB4 HU4
 go_upto_region 7 with (go_at_call 15; (refine HE1.out.mono ?_); rintro e w7 ⟨q, qc, LA, lc, rfl, hq, hlc, hL, hb7⟩)
 clear x0 x1 x2 x3 x4 x5
 have hb7a := below1 w7 (.cells #[.slice (some ⟨q, 0, none⟩) 6 qc, .slice none 0 0, .slice none 0 0, .slice none 0 0, .int .i64 2, .int .i64 0] 25)
 have hk7 := new1 w7 (.cells #[.slice (some ⟨q, 0, none⟩) 6 qc, .slice none 0 0, .slice none 0 0, .slice none 0 0, .int .i64 2, .int .i64 0] 25)
 obtain ⟨W7, hW7⟩ : ∃ W, w7.alloc (.cells #[.slice (some ⟨q, 0, none⟩) 6 qc, .slice none 0 0, .slice none 0 0, .slice none 0 0, .int .i64 2, .int .i64 0] 25) = W := ⟨_, rfl⟩
 obtain ⟨n7, hn7⟩ : ∃ n, w7.heap.size = n := ⟨_, rfl⟩
 rw [hW7] at hb7a hk7 ⊢
 rw [hn7] at hk7 ⊢
 have hb67 : Below w6.heap.size w6 W7 := hb7.trans (hb7a.mono hb7.size)
 have HE2 := Aside0.mk (sane_end2 PA (some ⟨n5, 0, none⟩) (some ⟨n5 + 1, 0, none⟩) pc W7 (Kd.C_below HPG6.out.2 hb67) HPG6.out.1 (z1p (xs := [4, 5]) (z0g HM1.out hb67) rfl (by simp)) (z1p (xs := [3]) (z0g HM2.out hb67) rfl (by simp)))
 have m3 := z0g HM3.out hb67
 have x0 := (z0a m3 0).trans rfl
 have x1 := (z0a m3 1).trans rfl
 have x2 := (z0a m3 2).trans rfl
 have x3 := (z0a m3 3).trans rfl
 have x4 := (z0a m3 4).trans rfl
 have x5 := (z0a m3 5).trans rfl
 have HB7 := Aside0.mk (HB6.out.trans (hb67.mono HB6.out.size))
 have HU7 := Aside0.mk (show 3 ≤ uc ∧ (Kd.int .i64).C W7 UA 3 [5, 7, 8] from ⟨HU6.out.1, Kd.C_below HU6.out.2 hb67⟩)
 have HQ7 := Aside0.mk (cellB hb7a (Nat.le_refl _) hq)
 have HL7 := Aside0.mk (show 2 ≤ lc ∧ k64.C W7 LA 2 [⟨0, [5]⟩, ⟨1, [3]⟩] from ⟨hlc, Kd.C_below hL hb7a⟩)
 have HK7 := Aside0.mk hk7
 clear m3 hb67 hW7 hn7 hb7a hk7 hb7 hq hlc hL HE1 HPG6 HM1 HM2 HM3 HB6 HU6
 go_upto_region 8 with (go_at_call 15; (refine HE2.out.mono ?_); rintro e w8 ⟨QA, qd, LB, ld, rfl, hlc, hL, hb8⟩)
 have hb8a := below1 w8 (.cells #[.slice QA 5 qd, .slice none 0 0, .slice none 0 0, .slice none 0 0, .int .i64 2, .int .i64 0] 25)
 have hk8 := new1 w8 (.cells #[.slice QA 5 qd, .slice none 0 0, .slice none 0 0, .slice none 0 0, .int .i64 2, .int .i64 0] 25)
 obtain ⟨W8, hW8⟩ : ∃ W, w8.alloc (.cells #[.slice QA 5 qd, .slice none 0 0, .slice none 0 0, .slice none 0 0, .int .i64 2, .int .i64 0] 25) = W := ⟨_, rfl⟩
 obtain ⟨n8, hn8⟩ : ∃ n, w8.heap.size = n := ⟨_, rfl⟩
 rw [hW8] at hb8a hk8 ⊢
 rw [hn8] at hk8 ⊢
 have hb78 : Below W7.heap.size W7 W8 := hb8.trans (hb8a.mono hb8.size)
 have HB8 := Aside0.mk (HB7.out.trans (hb78.mono HB7.out.size))
 have HQ8 := Aside0.mk (cellB hb78 (Nat.le_refl _) HQ7.out)
 have HL8 := Aside0.mk (show 2 ≤ lc ∧ k64.C W8 LA 2 [⟨0, [5]⟩, ⟨1, [3]⟩] from ⟨HL7.out.1, Kd.C_below HL7.out.2 hb78⟩)
 have HK7' := Aside0.mk (z0g HK7.out hb78)
 have HK8 := Aside0.mk hk8
 have HLB := Aside0.mk (show 1 ≤ ld ∧ k64.C W8 LB 1 [⟨1, [3]⟩] from ⟨hlc, Kd.C_below hL hb8a⟩)
 have HSI := Aside0.mk (z67 [5, 7, 8] [5, 7, 8] UA (some ⟨W8.heap.size, 0, none⟩) uc 3 (W8.alloc (.cells #[.int .i64 5, .int .i64 7, .int .i64 8] 3)) (Kd.C_below HU7.out.2 (hb78.trans ((below1 W8 _).mono hb78.size))) HU7.out.1 (z1p (xs := [5, 7, 8]) (new1 W8 _) rfl (by simp)) (by simp) (by simp))
 rw [decide_eq_true rfl] at HSI
 clear x0 x1 x2 x3 x4 x5 hb8 hb8a hk8 hW8 hn8 hb78 hL hlc HB7 HQ7 HL7 HK7 HU7 HE2
 go_upto_region 10 with (go_at_call 31; (refine HSI.out.mono ?_); rintro e w9 ⟨rfl, hd9⟩)
 have hb89 : Below W8.heap.size W8 w9 := (below1 W8 _).trans (hd9.below.mono (by simp))
 have HB9 := Aside0.mk (HB8.out.trans (hb89.mono HB8.out.size))
 have HL9 := Aside0.mk (show 2 ≤ lc ∧ k64.C w9 LA 2 [⟨0, [5]⟩, ⟨1, [3]⟩] from ⟨HL8.out.1, Kd.C_below HL8.out.2 hb89⟩)
 have HK9 := Aside0.mk (z0g HK8.out hb89)
 have HLB9 := Aside0.mk (show 1 ≤ ld ∧ k64.C w9 LB 1 [⟨1, [3]⟩] from ⟨HLB.out.1, Kd.C_below HLB.out.2 hb89⟩)
 have y0 : w9.cell? ⟨n7, 0, none⟩ = some (.slice (some ⟨q, 0, none⟩) 6 qc) := (z0a (z0g HK7'.out hb89) 0).trans rfl
 have y1 : w9.cell? ⟨q, 40, none⟩ = some (.int .i64 4) := cellB hb89 (Nat.le_refl _) HQ8.out
 have HSF : Aside0 (Calls Tryz.prog 18 #[.slice LA 2 lc, .slice (some ⟨w9.heap.size + 1 + 1, 0, none⟩) 2 2] (((w9.alloc (.cells #[.int .i64 5] 3)).alloc (.cells #[.int .i64 3] 3)).alloc (.cells #[.int .i64 0, .slice (some ⟨w9.heap.size, 0, none⟩) 1 1, .int .i64 1, .slice (some ⟨w9.heap.size + 1, 0, none⟩) 1 1] 64)) fun e w' => e = .returned (.bool true) ∧ Drawn0 (((w9.alloc (.cells #[.int .i64 5] 3)).alloc (.cells #[.int .i64 3] 3)).alloc (.cells #[.int .i64 0, .slice (some ⟨w9.heap.size, 0, none⟩) 1 1, .int .i64 1, .slice (some ⟨w9.heap.size + 1, 0, none⟩) 1 1] 64)) w') := by
  obtain ⟨m1, m2, m3⟩ := new3 w9 (.cells #[.int .i64 5] 3) (.cells #[.int .i64 3] 3) (.cells #[.int .i64 0, .slice (some ⟨w9.heap.size, 0, none⟩) 1 1, .int .i64 1, .slice (some ⟨w9.heap.size + 1, 0, none⟩) 1 1] 64)
  have := z4d [⟨0, [5]⟩, ⟨1, [3]⟩] [⟨0, [5]⟩, ⟨1, [3]⟩] LA (some ⟨w9.heap.size + 1 + 1, 0, none⟩) lc 2 (((w9.alloc (.cells #[.int .i64 5] 3)).alloc (.cells #[.int .i64 3] 3)).alloc (.cells #[.int .i64 0, .slice (some ⟨w9.heap.size, 0, none⟩) 1 1, .int .i64 1, .slice (some ⟨w9.heap.size + 1, 0, none⟩) 1 1] 64)) (Kd.C_below HL9.out.2 (below3 w9 _ _ _)) HL9.out.1 (two64 (x1 := [5]) (x2 := [3]) m1 rfl (by simp) m2 rfl (by simp) m3) (by simp) (z2b ⟨by simp, by decide⟩)
  rw [decide_eq_true rfl] at this
  exact ⟨this⟩
 clear hd9 hb89 HB8 HQ8 HL8 HK7' HK8 HLB HSI
 go_upto_region 12 with (go_at_call 18; (refine HSF.out.mono ?_); rintro e w10 ⟨rfl, hd10⟩)
 have hb910 : Below w9.heap.size w9 w10 := (below3 w9 (.cells #[.int .i64 5] 3) (.cells #[.int .i64 3] 3) (.cells #[.int .i64 0, .slice (some ⟨w9.heap.size, 0, none⟩) 1 1, .int .i64 1, .slice (some ⟨w9.heap.size + 1, 0, none⟩) 1 1] 64)).trans (hd10.below.mono (by simp <;> omega))
 have HB10 := Aside0.mk (HB9.out.trans (hb910.mono HB9.out.size))
 have HL10 := Aside0.mk (show 2 ≤ lc ∧ k64.C w10 LA 2 [⟨0, [5]⟩, ⟨1, [3]⟩] from ⟨HL9.out.1, Kd.C_below HL9.out.2 hb910⟩)
 have HK10 := Aside0.mk (z0g HK9.out hb910)
 have HLB10 := Aside0.mk (show 1 ≤ ld ∧ k64.C w10 LB 1 [⟨1, [3]⟩] from ⟨HLB9.out.1, Kd.C_below HLB9.out.2 hb910⟩)
 have HAC := Aside0.mk (z7s 6 [2, 4] [⟨0, [5]⟩, ⟨1, [3]⟩] (some ⟨w10.heap.size, 0, none⟩) 2 LA lc (w10.alloc (.cells #[.int .i64 2, .int .i64 4] 3)) (z1p (xs := [2, 4]) (new1 w10 _) rfl (by simp)) (by simp) (Kd.C_below HL10.out.2 (below1 w10 _)) HL10.out.1 zao sane_inc3 (by simp) (by decide))
 clear y0 y1 hd10 hb910 HB9 HL9 HK9 HLB9 HSF
 go_upto_region 13 with (go_at_call 22; (refine HAC.out.mono ?_); rintro e w11 ⟨a, n, rfl, hao, hb11⟩; obtain ⟨rfl, rfl⟩ := sane_acc hao)
 have hb1011 : Below w10.heap.size w10 w11 := (below1 w10 _).trans (hb11.mono (by simp))
 have HB11 := Aside0.mk (HB10.out.trans (hb1011.mono HB10.out.size))
 have HK11 := Aside0.mk (z0g HK10.out hb1011)
 have HLB11 := Aside0.mk (show 1 ≤ ld ∧ k64.C w11 LB 1 [⟨1, [3]⟩] from ⟨HLB10.out.1, Kd.C_below HLB10.out.2 hb1011⟩)
 have HTA : Aside0 (Calls Tryz.prog 19 #[.slice (some ⟨w11.heap.size + 1, 0, none⟩) 1 1, .int .i64 6] ((w11.alloc (.cells #[.int .i64 4, .int .i64 5] 3)).alloc (.cells #[.int .i64 0, .slice (some ⟨w11.heap.size, 0, none⟩) 2 2] 64)) fun e w' => e = .returned (.tuple #[.int .i64 4, .int .i64 0]) ∧ Below ((w11.alloc (.cells #[.int .i64 4, .int .i64 5] 3)).alloc (.cells #[.int .i64 0, .slice (some ⟨w11.heap.size, 0, none⟩) 2 2] 64)).heap.size ((w11.alloc (.cells #[.int .i64 4, .int .i64 5] 3)).alloc (.cells #[.int .i64 0, .slice (some ⟨w11.heap.size, 0, none⟩) 2 2] 64)) w') := by
  obtain ⟨m1, m2⟩ := new2 w11 (.cells #[.int .i64 4, .int .i64 5] 3) (.cells #[.int .i64 0, .slice (some ⟨w11.heap.size, 0, none⟩) 2 2] 64)
  have := z57 [⟨0, [4, 5]⟩] 6 (some ⟨w11.heap.size + 1, 0, none⟩) 1 ((w11.alloc (.cells #[.int .i64 4, .int .i64 5] 3)).alloc (.cells #[.int .i64 0, .slice (some ⟨w11.heap.size, 0, none⟩) 2 2] 64)) (one64 (xs := [4, 5]) m1 rfl (by simp) m2) (by simp) (z2b ⟨by simp, by decide⟩)
  rw [show checkE 6 [⟨0, [4, 5]⟩] = 0 from zap, if_pos rfl, show tailN [⟨0, [4, 5]⟩] 6 = 4 from zaq] at this
  exact ⟨this⟩
 clear hao hb11 hb1011 HB10 HL10 HK10 HLB10 HAC
 go_upto_region 14 with (go_at_call 19; (refine HTA.out.mono ?_); rintro e w12 ⟨rfl, hb12⟩)
 have hb1112 : Below w11.heap.size w11 w12 := (below2 w11 (.cells #[.int .i64 4, .int .i64 5] 3) (.cells #[.int .i64 0, .slice (some ⟨w11.heap.size, 0, none⟩) 2 2] 64)).trans (hb12.mono (by simp <;> omega))
 have HB12 := Aside0.mk (HB11.out.trans (hb1112.mono HB11.out.size))
 have y0 : w12.cell? ⟨n8, 0, none⟩ = some (.slice QA 5 qd) := (z0a (z0g HK11.out hb1112) 0).trans rfl
 have HSG : Aside0 (Calls Tryz.prog 18 #[.slice LB 1 ld, .slice (some ⟨w12.heap.size + 1, 0, none⟩) 1 1] ((w12.alloc (.cells #[.int .i64 3] 3)).alloc (.cells #[.int .i64 1, .slice (some ⟨w12.heap.size, 0, none⟩) 1 1] 64)) fun e w' => e = .returned (.bool true) ∧ Drawn0 ((w12.alloc (.cells #[.int .i64 3] 3)).alloc (.cells #[.int .i64 1, .slice (some ⟨w12.heap.size, 0, none⟩) 1 1] 64)) w') := by
  obtain ⟨m1, m2⟩ := new2 w12 (.cells #[.int .i64 3] 3) (.cells #[.int .i64 1, .slice (some ⟨w12.heap.size, 0, none⟩) 1 1] 64)
  have := z4d [⟨1, [3]⟩] [⟨1, [3]⟩] LB (some ⟨w12.heap.size + 1, 0, none⟩) ld 1 ((w12.alloc (.cells #[.int .i64 3] 3)).alloc (.cells #[.int .i64 1, .slice (some ⟨w12.heap.size, 0, none⟩) 1 1] 64)) (Kd.C_below (Kd.C_below HLB11.out.2 hb1112) (below2 w12 _ _)) HLB11.out.1 (one64 (xs := [3]) m1 rfl (by simp) m2) (by simp) (z2b ⟨by simp, by decide⟩)
  rw [decide_eq_true rfl] at this
  exact ⟨this⟩
 clear hb12 hb1112 HB11 HK11 HLB11 HTA
 go_wp2_with (go_at_call 18; (refine HSG.out.mono ?_); rintro e w13 ⟨rfl, hd13⟩)
 go_ret
 exact ⟨rfl, HB12.out.trans (((below2 w12 (.cells #[.int .i64 3] 3) (.cells #[.int .i64 1, .slice (some ⟨w12.heap.size, 0, none⟩) 1 1] 64)).trans (hd13.below.mono (by simp <;> omega))).mono HB12.out.size)⟩
theorem pages_ok {w : World} {pg : List S89} {free gone : List Int} {rest : List S64} {ver : Int} {shrink : Bool} {rn : Nat} (hPI : ∀ y ∈ pg, PageIn w y) (hok : SmallOk pg free.length rn gone.length) (hs : smallL rest ∧ free.length ≤ 1000 ∧ gone.length ≤ 1000 ∧ (pagesOf rest).length ≤ 10000 ∧ rest.length ≤ 10000) : PgOk w (outPg (endX pg free gone rest ver shrink)) := by
 intro x hx
 rcases (out_ok hs).1 x hx with h | ⟨h1, h2⟩
 ·have hp := (hok.2 x h).1
  exact ⟨⟨by have := hp.1; omega, (hPI x h).1⟩, z7b (z7n hp.2.2)⟩
 ·refine ⟨?_, h2⟩
  rw [h1]
  exact ⟨by show (0 : Nat) ≤ _; omega, fun i hi => absurd hi (by show ¬ i < 0; omega)⟩
set_option maxRecDepth 100000 in
set_option maxHeartbeats 2000000 in
theorem ends_any (pg : List S89) (free gone : List Int) (l : List S64) (used : List Int) (ver tree p : Int) (shrink : Bool) (PA FA RA GA A U : Option Addr) (pc fc rn rc gc cl cu : Nat) (w : World)
  (hPG : k89.C w PA pg.length pg) (hpc : pg.length ≤ pc) (hpm : pg.length ≤ 9223372036854775807) (hPI : ∀ y ∈ pg, PageIn w y) (hFR : (Kd.int .i64).C w FA free.length free) (hfc : free.length ≤ fc) (hGO : (Kd.int .i64).C w GA gone.length gone) (hgc : gone.length ≤ gc)
  (hL : k64.C w A l.length l) (hcl : l.length ≤ cl) (hbl : ∀ f ∈ l, f.f1.length ≤ 17592186044416) (hU : (Kd.int .i64).C w U used.length used) (hcu : used.length ≤ cu) :
  Calls Tryz.prog 3 #[.agg #[.slice PA pg.length pc, .slice FA free.length fc, .slice RA rn rc, .slice GA gone.length gc, .int .i64 ver, .int .i64 tree], .slice A l.length cl, .bool shrink, .slice U used.length cu, .int .i64 p] w fun e w' => e = .returned (.bool true) ∧ Below w.heap.size w w' := by
 have HSA := Aside0.mk (fun w1 => sane_any w1)
 have HSM := Aside0.mk (fun (w1 : World) (hb : Below w.heap.size w w1) => small_any pg free.length gone.length rn ver tree PA FA RA GA pc fc rc gc w1 (Kd.C_below hPG hb) (fun x hx => (hPI x hx).2) hpm)
 have HSH := Aside0.mk (fun (w1 : World) (hb : Below w.heap.size w w1) => z7q l A cl w1 (Kd.C_below hL hb) hcl hbl)
 have hb0 := z0i w (.cells #[.slice PA pg.length pc, .slice FA free.length fc, .slice RA rn rc, .slice GA gone.length gc, .int .i64 ver, .int .i64 tree] 25)
 have hk0 := z0l w (.cells #[.slice PA pg.length pc, .slice FA free.length fc, .slice RA rn rc, .slice GA gone.length gc, .int .i64 ver, .int .i64 tree] 25)
 obtain ⟨W0, hW0⟩ : ∃ V, w.alloc (.cells #[.slice PA pg.length pc, .slice FA free.length fc, .slice RA rn rc, .slice GA gone.length gc, .int .i64 ver, .int .i64 tree] 25) = V := ⟨_, rfl⟩
 obtain ⟨b, hb⟩ : ∃ b, w.heap.size = b := ⟨_, rfl⟩
 rw [hW0] at hb0 hk0
 rw [hb] at hk0
 have HW0 := Lib.hid hW0
 have HB0 := Aside0.mk hb0
 have HK0 : Aside0 (W0.heap[b]? = some (.cells #[.slice PA pg.length pc, .slice FA free.length fc, .slice RA rn rc, .slice GA gone.length gc, .int .i64 ver, .int .i64 tree] 25 (0, 0))) := ⟨hk0⟩
 clear hb0 hk0 hW0
 go_enter Tryz.func3, Tryz.ntmps3
 go_upto_region 1 with (fail)
 rw [HW0.out]
 go_upto_region 2 with (go_at_call 12; (refine (HSA.out W0).mono ?_); rintro e w1 ⟨rfl, hb1⟩; have HBA := Aside0.mk hb1; clear hb1)
 have HB1 := Aside0.mk (HB0.out.trans (HBA.out.mono HB0.out.size))
 have HK1 : Aside0 (w1.heap[b]? = some (.cells #[.slice PA pg.length pc, .slice FA free.length fc, .slice RA rn rc, .slice GA gone.length gc, .int .i64 ver, .int .i64 tree] 25 (0, 0))) := ⟨z0g HK0.out HBA.out⟩
 have p0 : w1.cell? ⟨b, 0, none⟩ = some (.slice PA pg.length pc) := (z0a (HK1.out) 0).trans rfl
 have p1 : w1.cell? ⟨b, 1, none⟩ = some (.slice FA free.length fc) := (z0a (HK1.out) 1).trans rfl
 have p2 : w1.cell? ⟨b, 2, none⟩ = some (.slice RA rn rc) := (z0a (HK1.out) 2).trans rfl
 have p3 : w1.cell? ⟨b, 3, none⟩ = some (.slice GA gone.length gc) := (z0a (HK1.out) 3).trans rfl
 have p4 : w1.cell? ⟨b, 4, none⟩ = some (.int .i64 ver) := (z0a (HK1.out) 4).trans rfl
 have p5 : w1.cell? ⟨b, 5, none⟩ = some (.int .i64 tree) := (z0a (HK1.out) 5).trans rfl
 rcases Classical.em (SmallOk pg free.length rn gone.length) with hok | hok
 rotate_left
 ·have HN : Aside0 (∀ (w1 : World), Below w.heap.size w w1 → Calls Tryz.prog 13 #[.agg #[.slice PA pg.length pc, .slice FA free.length fc, .slice RA rn rc, .slice GA gone.length gc, .int .i64 ver, .int .i64 tree]] w1 fun e w' => e = .returned (.bool false) ∧ Below w1.heap.size w1 w') := ⟨fun w1 hb => (HSM.out w1 hb).mono fun e w' h => ⟨h.1.elim (fun h => absurd h.2 hok) (fun h => h.1), h.2⟩⟩
  clear hPG hFR hGO hL hU
  go_wp2_with ((go_at_call 13; (refine (HN.out _ HB1.out).mono ?_); rintro e w2 ⟨rfl, hb2⟩; have HB2 := Aside0.mk (HB1.out.trans (hb2.mono HB1.out.size)); have HA2 := Aside0.mk (HBA.out.trans (hb2.mono HBA.out.size)); clear hb2))
  go_ret
  exact ⟨rfl, HB2.out⟩
 have HY : Aside0 (∀ (w1 : World), Below w.heap.size w w1 → Calls Tryz.prog 13 #[.agg #[.slice PA pg.length pc, .slice FA free.length fc, .slice RA rn rc, .slice GA gone.length gc, .int .i64 ver, .int .i64 tree]] w1 fun e w' => e = .returned (.bool true) ∧ Below w1.heap.size w1 w') := ⟨fun w1 hb => (HSM.out w1 hb).mono fun e w' h => ⟨h.1.elim (fun h => h.1) (fun h => absurd hok h.2), h.2⟩⟩
 by_cases hs : shortP l
 rotate_left
 ·rw [decide_eq_false hs] at HSH
  clear hPG hFR hGO hL hU hs
  go_wp2_with (first | (go_at_call 14; (refine (HSH.out _ HB2.out).mono ?_); rintro e w3 ⟨rfl, hb3⟩; have HB3 := Aside0.mk (HB2.out.trans (hb3.mono HB2.out.size)); have HA3 := Aside0.mk (HA2.out.trans (hb3.mono HA2.out.size)); clear hb3) | (go_at_call 13; (refine (HY.out _ HB1.out).mono ?_); rintro e w2 ⟨rfl, hb2⟩; have HB2 := Aside0.mk (HB1.out.trans (hb2.mono HB1.out.size)); have HA2 := Aside0.mk (HBA.out.trans (hb2.mono HBA.out.size)); clear hb2))
  go_ret
  exact ⟨rfl, HB3.out⟩
 rw [decide_eq_true hs] at HSH
 by_cases hu : used.length > 400
 ·have d0a : decide ((used.length : Int) > 400) = true := decide_eq_true (by omega)
  have d0b : decide (400 < used.length) = true := decide_eq_true (by omega)
  clear hPG hFR hGO hL hU hs
  go_wp2_with (first | (go_at_call 14; (refine (HSH.out _ HB2.out).mono ?_); rintro e w3 ⟨rfl, hb3⟩; have HB3 := Aside0.mk (HB2.out.trans (hb3.mono HB2.out.size)); have HA3 := Aside0.mk (HA2.out.trans (hb3.mono HA2.out.size)); clear hb3) | (go_at_call 13; (refine (HY.out _ HB1.out).mono ?_); rintro e w2 ⟨rfl, hb2⟩; have HB2 := Aside0.mk (HB1.out.trans (hb2.mono HB1.out.size)); have HA2 := Aside0.mk (HBA.out.trans (hb2.mono HBA.out.size)); clear hb2))
  go_ret
  exact ⟨rfl, HB3.out⟩
 have d0a : decide ((used.length : Int) > 400) = false := decide_eq_false (by omega)
 have d0b : decide (400 < used.length) = false := decide_eq_false (by omega)
 go_upto_region 4 with (first | (go_at_call 14; (refine (HSH.out _ HB2.out).mono ?_); rintro e w3 ⟨rfl, hb3⟩; have HB3 := Aside0.mk (HB2.out.trans (hb3.mono HB2.out.size)); have HA3 := Aside0.mk (HA2.out.trans (hb3.mono HA2.out.size)); clear hb3) | (go_at_call 13; (refine (HY.out _ HB1.out).mono ?_); rintro e w2 ⟨rfl, hb2⟩; have HB2 := Aside0.mk (HB1.out.trans (hb2.mono HB1.out.size)); have HA2 := Aside0.mk (HBA.out.trans (hb2.mono HBA.out.size)); clear hb2))
 have hul : used.length ≤ 400 := by omega
 have htl := z7n hs
 have hsml := z7b htl
 have hsm5 : smallL l ∧ free.length ≤ 1000 ∧ gone.length ≤ 1000 ∧ (pagesOf l).length ≤ 10000 ∧ l.length ≤ 10000 := ⟨hsml, by have := hok.1; omega, by have := hok.1; omega, by have := htl.2; omega, by have := htl.1; omega⟩
 have hpl : pg.length ≤ 1000000 := by have := hok.1; omega
 have HEN := Aside0.mk (fun (w1 : World) (hb : Below w.heap.size w w1) => end_all pg free gone l ver tree shrink PA FA RA GA A pc fc rn rc gc cl w1 (Kd.C_below hPG hb) hpc (Kd.C_below hFR hb) hfc (Kd.C_below hGO hb) hgc (Kd.C_below hL hb) hcl hsm5 hpl)
 have HRE := Aside0.mk (fun (w1 : World) (hb : Below w.heap.size w w1) => rend_all pg free gone l ver tree shrink PA FA RA GA A pc fc rn rc gc cl w1 (Kd.C_below hPG hb) hpc (Kd.C_below hFR hb) hfc (Kd.C_below hGO hb) hgc (Kd.C_below hL hb) hcl hsm5 hpl)
 have HOO := Aside0.mk (out_ok (pg := pg) (free := free) (gone := gone) (rest := l) (ver := ver) (shrink := shrink) hsm5).2
 have HPO := Aside0.mk (pages_ok (w := w) (pg := pg) (free := free) (gone := gone) (rest := l) (ver := ver) (shrink := shrink) hPI hok hsm5)
 obtain ⟨R, hR⟩ : ∃ R, endX pg free gone l ver shrink = R := ⟨_, rfl⟩
 rw [hR] at HEN HRE HOO HPO
 have HEU := Aside0.mk (fun (w1 : World) (hb : Below w.heap.size w w1) => (HEN.out w1 hb).mono (fun _ _ h => endU h))
 have HRU := Aside0.mk (fun (w1 : World) (hb : Below w.heap.size w w1) => (HRE.out w1 hb).mono (fun _ _ h => rendU h))
 obtain ⟨PG, g1⟩ : ∃ x, outPg R = x := ⟨_, rfl⟩
 obtain ⟨LL, g2⟩ : ∃ x, outL R = x := ⟨_, rfl⟩
 obtain ⟨FF, g3⟩ : ∃ x, outF R = x := ⟨_, rfl⟩
 obtain ⟨EE, g4⟩ : ∃ x, outE R = x := ⟨_, rfl⟩
 obtain ⟨VV, g5⟩ : ∃ x, outI ver R = x := ⟨_, rfl⟩
 obtain ⟨TT, g6⟩ : ∃ x, outI tree R = x := ⟨_, rfl⟩
 simp only [g1, g2, g3, g4, g5, g6] at HEU HRU HOO HPO
 clear g1 g2 g3 g4 g5 g6 HEN HRE
 have HTL := Aside0.mk (fun (w1 : World) (hb : Below w.heap.size w w1) => z57 l p A cl w1 (Kd.C_below hL hb) hcl hsml)
 have HRC := Aside0.mk (fun (w1 : World) (hb : Below w.heap.size w w1) => z9k l p A cl w1 (Kd.C_below hL hb) hcl hsml)
 have HRT := Aside0.mk (fun (hv : validP p l) (w1 : World) (hb : Below w.heap.size w w1) => z6y l p A cl w1 (Kd.C_below hL hb) hcl hsml hv)
 have HAC := Aside0.mk (fun (w1 : World) (hb : Below w.heap.size w w1) => zah p used l U cu A cl w1 (Kd.C_below hU hb) hcu (Kd.C_below hL hb) hcl (by omega) hsml.2)
 have HRA := Aside0.mk (fun (w1 : World) (hb : Below w.heap.size w w1) => zai p used l U cu A cl w1 (Kd.C_below hU hb) hcu (Kd.C_below hL hb) hcl (by omega) hsml)
 have HCV : Aside0 (checkE p l = 0 → validP p l) := ⟨fun h => by
  unfold checkE at h
  split at h
  ·split at h
   ·next hv => exact of_decide_eq_true hv
   ·omega
  ·omega⟩
 have HK3 : Aside0 (w3.heap[b]? = some (.cells #[.slice PA pg.length pc, .slice FA free.length fc, .slice RA rn rc, .slice GA gone.length gc, .int .i64 ver, .int .i64 tree] 25 (0, 0))) := ⟨z0g HK0.out HA3.out⟩
 clear d0a d0b hu HSA HSM HSH HY hok hs htl hsml hsm5 hpl hPG hFR hGO hL hU hPI hbl hR p0 p1 p2 p3 p4 p5
 have p0 : w3.cell? ⟨b, 0, none⟩ = some (.slice PA pg.length pc) := (z0a (HK3.out) 0).trans rfl
 have p1 : w3.cell? ⟨b, 1, none⟩ = some (.slice FA free.length fc) := (z0a (HK3.out) 1).trans rfl
 have p2 : w3.cell? ⟨b, 2, none⟩ = some (.slice RA rn rc) := (z0a (HK3.out) 2).trans rfl
 have p3 : w3.cell? ⟨b, 3, none⟩ = some (.slice GA gone.length gc) := (z0a (HK3.out) 3).trans rfl
 have p4 : w3.cell? ⟨b, 4, none⟩ = some (.int .i64 ver) := (z0a (HK3.out) 4).trans rfl
 have p5 : w3.cell? ⟨b, 5, none⟩ = some (.int .i64 tree) := (z0a (HK3.out) 5).trans rfl
 go_upto_region 5 with (go_at_call 15; (refine (HEU.out _ HB3.out).mono ?_); rintro e w4 ⟨EA, ec, LA, lc, rfl, hE4, hL4, hb4⟩)
 have hbx := z0i w4 (.cells #[.slice EA PG.length ec, .slice none 0 0, .slice none 0 0, .slice none 0 0, .int .i64 VV, .int .i64 TT] 25)
 have hkx := z0l w4 (.cells #[.slice EA PG.length ec, .slice none 0 0, .slice none 0 0, .slice none 0 0, .int .i64 VV, .int .i64 TT] 25)
 obtain ⟨X, hX⟩ : ∃ x, w4.heap.size = x := ⟨_, rfl⟩
 obtain ⟨W4, hW4⟩ : ∃ V, w4.alloc (.cells #[.slice EA PG.length ec, .slice none 0 0, .slice none 0 0, .slice none 0 0, .int .i64 VV, .int .i64 TT] 25) = V := ⟨_, rfl⟩
 rw [hW4] at hbx hkx ⊢
 rw [hX] at hkx ⊢
 have hb34 : Below w3.heap.size w3 W4 := hb4.trans (hbx.mono hb4.size)
 have HB4 := Aside0.mk (HB3.out.trans (hb34.mono HB3.out.size))
 have HA4 := Aside0.mk (HA3.out.trans (hb34.mono HA3.out.size))
 have HX4 : Aside0 (W4.heap[X]? = some (.cells #[.slice EA PG.length ec, .slice none 0 0, .slice none 0 0, .slice none 0 0, .int .i64 VV, .int .i64 TT] 25 (0, 0))) := ⟨hkx⟩
 have HE4 := Aside0.mk (Kd.C_below hE4 hbx)
 have HL4 := Aside0.mk (show LL.length ≤ lc ∧ k64.C W4 LA LL.length LL from ⟨hL4.1, Kd.C_below hL4.2 hbx⟩)
 clear hE4 hL4 hb4 hbx hkx hX hW4 hb34 p0 p1 p2 p3 p4 p5
 have p0 : W4.cell? ⟨b, 0, none⟩ = some (.slice PA pg.length pc) := (z0a (z0g HK0.out HA4.out) 0).trans rfl
 have p1 : W4.cell? ⟨b, 1, none⟩ = some (.slice FA free.length fc) := (z0a (z0g HK0.out HA4.out) 1).trans rfl
 have p2 : W4.cell? ⟨b, 2, none⟩ = some (.slice RA rn rc) := (z0a (z0g HK0.out HA4.out) 2).trans rfl
 have p3 : W4.cell? ⟨b, 3, none⟩ = some (.slice GA gone.length gc) := (z0a (z0g HK0.out HA4.out) 3).trans rfl
 have p4 : W4.cell? ⟨b, 4, none⟩ = some (.int .i64 ver) := (z0a (z0g HK0.out HA4.out) 4).trans rfl
 have p5 : W4.cell? ⟨b, 5, none⟩ = some (.int .i64 tree) := (z0a (z0g HK0.out HA4.out) 5).trans rfl
 go_upto_region 6 with (go_at_call 16; (refine (HRU.out _ HB4.out).mono ?_); rintro e w5 ⟨FA2, fc2, LB, lb, rfl, hE5, hL5, hb5⟩)
 have hby := z0i w5 (.cells #[.slice FA2 PG.length fc2, .slice none 0 0, .slice none 0 0, .slice none 0 0, .int .i64 VV, .int .i64 TT, .slice LB LL.length lb, .int .i64 FF, .int .i64 EE] 34)
 have hky := z0l w5 (.cells #[.slice FA2 PG.length fc2, .slice none 0 0, .slice none 0 0, .slice none 0 0, .int .i64 VV, .int .i64 TT, .slice LB LL.length lb, .int .i64 FF, .int .i64 EE] 34)
 obtain ⟨Y, hY⟩ : ∃ x, w5.heap.size = x := ⟨_, rfl⟩
 obtain ⟨W5, hW5⟩ : ∃ V, w5.alloc (.cells #[.slice FA2 PG.length fc2, .slice none 0 0, .slice none 0 0, .slice none 0 0, .int .i64 VV, .int .i64 TT, .slice LB LL.length lb, .int .i64 FF, .int .i64 EE] 34) = V := ⟨_, rfl⟩
 rw [hW5] at hby hky ⊢
 rw [hY] at hky ⊢
 have hb45 : Below W4.heap.size W4 W5 := hb5.trans (hby.mono hb5.size)
 have HB5 := Aside0.mk (HB4.out.trans (hb45.mono HB4.out.size))
 have HX5 : Aside0 (W5.heap[X]? = some (.cells #[.slice EA PG.length ec, .slice none 0 0, .slice none 0 0, .slice none 0 0, .int .i64 VV, .int .i64 TT] 25 (0, 0))) := ⟨z0g HX4.out hb45⟩
 have HY5 : Aside0 (W5.heap[Y]? = some (.cells #[.slice FA2 PG.length fc2, .slice none 0 0, .slice none 0 0, .slice none 0 0, .int .i64 VV, .int .i64 TT, .slice LB LL.length lb, .int .i64 FF, .int .i64 EE] 34 (0, 0))) := ⟨hky⟩
 have HSS := Aside0.mk (z94 PG VV TT EA FA2 ec fc2 W5 (Kd.C_below HE4.out hb45) (Kd.C_below hE5 hby) (PgOk.below HPO.out HB5.out) HOO.out.1)
 have HSF : Aside0 (∀ W, Below W5.heap.size W5 W → Calls Tryz.prog 18 #[.slice LA LL.length lc, .slice LB LL.length lb] W fun e w' => e = .returned (.bool true) ∧ Drawn0 W w') := ⟨fun W hb => by
  have := z4d LL LL LA LB lc lb W (Kd.C_below (Kd.C_below HL4.out.2 hb45) hb) HL4.out.1 (Kd.C_below (Kd.C_below hL5.2 hby) hb) hL5.1 HOO.out.2
  rw [decide_eq_true rfl] at this
  exact this⟩
 obtain ⟨pn, hpn⟩ : ∃ x, PG.length = x := ⟨_, rfl⟩
 obtain ⟨ln, hln⟩ : ∃ x, LL.length = x := ⟨_, rfl⟩
 rw [hpn] at HSS HX5
 rw [hpn, hln] at HY5
 rw [hln] at HSF
 rw [hpn, hln]
 clear hE5 hL5 hb5 hby hky hY hW5 hb45 p0 p1 p2 p3 p4 p5 HE4 HL4 HX4 HEU HRU hpn hln
 have x0 : W5.cell? ⟨X, 0, none⟩ = some (.slice EA pn ec) := (z0a (HX5.out) 0).trans rfl
 have x1 : W5.cell? ⟨X, 1, none⟩ = some (.slice none 0 0) := (z0a (HX5.out) 1).trans rfl
 have x2 : W5.cell? ⟨X, 2, none⟩ = some (.slice none 0 0) := (z0a (HX5.out) 2).trans rfl
 have x3 : W5.cell? ⟨X, 3, none⟩ = some (.slice none 0 0) := (z0a (HX5.out) 3).trans rfl
 have x4 : W5.cell? ⟨X, 4, none⟩ = some (.int .i64 VV) := (z0a (HX5.out) 4).trans rfl
 have x5 : W5.cell? ⟨X, 5, none⟩ = some (.int .i64 TT) := (z0a (HX5.out) 5).trans rfl
 have y0 : W5.cell? ⟨Y, 0, none⟩ = some (.slice FA2 pn fc2) := (z0a (HY5.out) 0).trans rfl
 have y1 : W5.cell? ⟨Y, 1, none⟩ = some (.slice none 0 0) := (z0a (HY5.out) 1).trans rfl
 have y2 : W5.cell? ⟨Y, 2, none⟩ = some (.slice none 0 0) := (z0a (HY5.out) 2).trans rfl
 have y3 : W5.cell? ⟨Y, 3, none⟩ = some (.slice none 0 0) := (z0a (HY5.out) 3).trans rfl
 have y4 : W5.cell? ⟨Y, 4, none⟩ = some (.int .i64 VV) := (z0a (HY5.out) 4).trans rfl
 have y5 : W5.cell? ⟨Y, 5, none⟩ = some (.int .i64 TT) := (z0a (HY5.out) 5).trans rfl
 have y6 : W5.cell? ⟨Y, 6, none⟩ = some (.slice LB ln lb) := (z0a (HY5.out) 6).trans rfl
 have y7 : W5.cell? ⟨Y, 7, none⟩ = some (.int .i64 FF) := (z0a (HY5.out) 7).trans rfl
 have y8 : W5.cell? ⟨Y, 8, none⟩ = some (.int .i64 EE) := (z0a (HY5.out) 8).trans rfl
 go_upto_region 8 with (first
  | (go_at_call 18; (refine (HSF.out _ HB6.out).mono ?_); rintro e w7 ⟨rfl, hd7⟩; have HB7 := Aside0.mk (HB6.out.trans (hd7.below.mono HB6.out.size)); clear hd7 y6 y7 y8; have y8 : w7.cell? ⟨Y, 8, none⟩ = some (.int .i64 EE) := (z0a (z0g HY5.out HB7.out) 8).trans rfl)
  | (go_at_call 17; (refine HSS.out.mono ?_); rintro e w6 ⟨rfl, hb6⟩; have HB6 := Aside0.mk hb6; clear hb6 x0 x1 x2 x3 x4 x5 y0 y1 y2 y3 y4 y5 y6 y7 y8; have y6 : w6.cell? ⟨Y, 6, none⟩ = some (.slice LB ln lb) := (z0a (z0g HY5.out HB6.out) 6).trans rfl; have y7 : w6.cell? ⟨Y, 7, none⟩ = some (.int .i64 FF) := (z0a (z0g HY5.out HB6.out) 7).trans rfl; have y8 : w6.cell? ⟨Y, 8, none⟩ = some (.int .i64 EE) := (z0a (z0g HY5.out HB6.out) 8).trans rfl))
 have HB7w := Aside0.mk (HB5.out.trans (HB7.out.mono HB5.out.size))
 obtain ⟨ce, hce⟩ : ∃ x, checkE p l = x := ⟨_, rfl⟩
 obtain ⟨tn, htn⟩ : ∃ x, (if ce = 0 then tailN l p else 0) = x := ⟨_, rfl⟩
 simp only [hce, htn] at HTL HRC
 rw [hce] at HCV
 clear y8 HSS HSF hce
 go_upto_region 10 with (first
  | (go_at_call 20; (refine (HRC.out _ HB8.out).mono ?_); rintro e w9 ⟨rfl, hb9⟩; have HB9 := Aside0.mk (HB8.out.trans (hb9.mono HB8.out.size)); clear hb9)
  | (go_at_call 19; (refine (HTL.out _ HB7w.out).mono ?_); rintro e w8 ⟨rfl, hb8⟩; have HB8 := Aside0.mk (HB7w.out.trans (hb8.mono HB7w.out.size)); clear hb8))
 by_cases hc0 : ce = 0
 ·have hv := HCV.out hc0
  have ht0 : tailN l p = tn := by rw [← htn, if_pos hc0]
  have HRT' := Aside0.mk (HRT.out hv)
  rw [ht0] at HRT'
  subst hc0
  clear hv ht0 htn
  go_upto_region 12 with (go_at_call 21; (refine (HRT'.out _ HB9.out).mono ?_); rintro e w10 ⟨rfl, hd10⟩; have HB10 := Aside0.mk (HB9.out.trans (hd10.below.mono HB9.out.size)); clear hd10)
  go_upto_region 13 with (go_at_call 22; (refine (HAC.out _ HB10.out).mono ?_); rintro e w11 ⟨an, nn, rfl, hae, hb11⟩; have HAE := Aside0.mk hae; have HB11 := Aside0.mk (HB10.out.trans (hb11.mono HB10.out.size)); clear hae hb11)
  go_upto_region 14 with (go_at_call 23; (refine (HRA.out _ HB11.out).mono ?_); rintro e w12 ⟨bn, mm, rfl, hbe, hb12⟩; obtain ⟨rfl, rfl⟩ := z7t HAE.out hbe; have HB12 := Aside0.mk (HB11.out.trans (hb12.mono HB11.out.size)); clear hbe hb12)
  have hkz := z0l w12 (.cells #[.int .i64 nn, .int .i64 an] 45)
  have hbz := z0i w12 (.cells #[.int .i64 nn, .int .i64 an] 45)
  have HB13 := Aside0.mk (HB12.out.trans (hbz.mono HB12.out.size))
  obtain ⟨Z, hZ⟩ : ∃ x, w12.heap.size = x := ⟨_, rfl⟩
  obtain ⟨W12, hW12⟩ : ∃ V, w12.alloc (.cells #[.int .i64 nn, .int .i64 an] 45) = V := ⟨_, rfl⟩
  rw [hW12] at hkz HB13 ⊢
  rw [hZ] at hkz ⊢
  have z0 : W12.cell? ⟨Z, 0, none⟩ = some (.int .i64 nn) := (z0a hkz 0).trans rfl
  have z1 : W12.cell? ⟨Z, 1, none⟩ = some (.int .i64 an) := (z0a hkz 1).trans rfl
  clear hkz hbz hW12 hZ
  go_wp2
  go_ret
  exact ⟨rfl, HB13.out⟩
 ·have ht0 : tn = 0 := by rw [← htn, if_neg hc0]
  subst ht0
  have c1 : (ce == 0) = false := by simpa using hc0
  have c2 : (ce != 0) = true := by simpa using hc0
  have HB10 := HB9
  clear htn hc0
  go_upto_region 12 with (fail)
  go_upto_region 13 with (go_at_call 22; (refine (HAC.out _ HB10.out).mono ?_); rintro e w11 ⟨an, nn, rfl, hae, hb11⟩; have HAE := Aside0.mk hae; have HB11 := Aside0.mk (HB10.out.trans (hb11.mono HB10.out.size)); clear hae hb11)
  go_upto_region 14 with (go_at_call 23; (refine (HRA.out _ HB11.out).mono ?_); rintro e w12 ⟨bn, mm, rfl, hbe, hb12⟩; obtain ⟨rfl, rfl⟩ := z7t HAE.out hbe; have HB12 := Aside0.mk (HB11.out.trans (hb12.mono HB11.out.size)); clear hbe hb12)
  have hkz := z0l w12 (.cells #[.int .i64 nn, .int .i64 an] 45)
  have hbz := z0i w12 (.cells #[.int .i64 nn, .int .i64 an] 45)
  have HB13 := Aside0.mk (HB12.out.trans (hbz.mono HB12.out.size))
  obtain ⟨Z, hZ⟩ : ∃ x, w12.heap.size = x := ⟨_, rfl⟩
  obtain ⟨W12, hW12⟩ : ∃ V, w12.alloc (.cells #[.int .i64 nn, .int .i64 an] 45) = V := ⟨_, rfl⟩
  rw [hW12] at hkz HB13 ⊢
  rw [hZ] at hkz ⊢
  have z0 : W12.cell? ⟨Z, 0, none⟩ = some (.int .i64 nn) := (z0a hkz 0).trans rfl
  have z1 : W12.cell? ⟨Z, 1, none⟩ = some (.int .i64 an) := (z0a hkz 1).trans rfl
  clear hkz hbz hW12 hZ
  go_wp2
  go_ret
  exact ⟨rfl, HB13.out⟩
end Go.Proofs.YtpnhelcemodnmaaGreat
