/- Texts put together for one claim: part 5. -/
import Derived.Shelf.SlicesE.DeleteFunc
import Derived.Shelf.SlSortFunc.HeapSort
import Derived.StillTailTactics
import Derived.Test.YtpnhelcemodnmaaGreatZ4
/- DeleteFunc at the numbers that are no less than one. -/
namespace Go.Proofs
open Go.Shelf
def Tryz.laysN10_ren : Go.Shelf.Ren := ⟨fun | 10 => 95 | 6 => 140 | n => n, fun | 22 => 23 | 23 => 3 | 25 => 110 | n => n, fun | n => n⟩
theorem Tryz.laysN10 : Go.Proofs.SlLaysH.n10 Tryz.prog Tryz.laysN10_ren := {
  mixed := by kernel_rfl
  f6 := ⟨Tryz.f140.name, by decide, Tryz.func140.trans (congrArg some (by kernel_rfl))⟩
  f10 := ⟨Tryz.f95.name, by decide, Tryz.func95.trans (congrArg some (by kernel_rfl))⟩
  t0 := Tryz.underlying0
  a0 := Tryz.isAgg0
  z0 := Tryz.sizeOf0
  v0 := Tryz.zeroValue0
  t3 := Tryz.underlying3
  a3 := Tryz.isAgg3
  z3 := Tryz.sizeOf3
  v3 := Tryz.zeroValue3
  t4 := Tryz.underlying4
  a4 := Tryz.isAgg4
  z4 := Tryz.sizeOf4
  v4 := Tryz.zeroValue4
  t22 := Tryz.underlying23
  a22 := Tryz.isAgg23
  z22 := Tryz.sizeOf23
  v22 := Tryz.zeroValue23
  a23 := Tryz.isAgg3
  z23 := Tryz.sizeOf3
  t25 := Tryz.underlying110
  a25 := Tryz.isAgg110
  z25 := Tryz.sizeOf110
  v25 := Tryz.zeroValue110 }
end Go.Proofs

/- DeleteFunc at a row of the call's own. -/
namespace Go.Proofs.YtpnhelcemodnmaaGreat
open Go.RowKit Go.Shelf Go.Proofs.YtpnhelcemodnmaaGreatW.PrintWords Go.Proofs.YtpnhelcemodnmaaGreatW.PrintLast Go.Proofs.YtpnhelcemodnmaaGreatW.PrintMore PA
set_option linter.unusedVariables false
set_option linter.unusedSimpArgs false
attribute [local go_sem] Oper.semAt_some
theorem ge97 (q : Addr) (n x : Int) (w : World) (hq : w.cell? q = some (.int .i64 n)) : FnGives Tryz.prog 97 #[.pointer (some q)] #[.int .i64 x] (.bool (decide (x ≥ n))) w := by
  show Calls Tryz.prog 97 #[.int .i64 x, .pointer (some q)] w _
  go_enter Tryz.func97, Tryz.ntmps97
  go_wp2
  go_ret
  exact ⟨rfl, 0, rfl⟩
theorem delete_R {w : World} {base : Nat} {ok : Nat → Prop} {v : Value} {l : List Int} (q : Addr) (n : Int) (h : (Kd.int .i64).R 3 w base ok v l) (hl : 0 < l.length) (hl2 : l.length ≤ 1000000) (hq : w.cell? q = some (.int .i64 n)) (hqv : some q.block ≠ v.ownBlock) :
    Calls Tryz.prog 95 #[v, .func (.func 97) #[] #[.pointer (some q)]] w fun e w' => ∃ v', e = .returned v' ∧ v'.ownBlock = v.ownBlock ∧ (Kd.int .i64).R 3 w' base ok v' (l.filter fun x => decide (x < n)) ∧ Kept w w' (fun k => some k = v.ownBlock) ∧ Below base w w' := by
  have ho := Kd.own_of_R h
  have hok := h.1
  have hv : v ≠ .slice none 0 0 := by
    rintro rfl
    rcases ho.2 with ⟨_, e⟩ | ⟨g, cap, cur, e, _⟩
    · cases l with
      | nil => simp at hl
      | cons a t => simp [encs] at e
    · cases e
  obtain ⟨g, cap, rfl, hbg, hlt, hn, hm, hzl, hH⟩ := Lib.holds_of_ownsRow ho hv
  have hqg : q.block ≠ g := fun e => hqv (by rw [e]; simp [Value.ownBlock])
  have hqs : q.block < w.heap.size := World.block_lt_of_cell? w q hq
  have eg : ∀ args w, (callFunc 97 args).run Tryz.prog w = .ok (.enter 97 args) w := by
    intro args w
    kernel_rfl
  have hflt : (l.toArray.toList.filter fun x => !decide (x ≥ n)) = l.filter fun x => decide (x < n) := by
    refine List.filter_congr fun x _ => ?_
    by_cases hx : x < n <;> simp [hx] <;> omega
  refine (AnyE.slices_DeleteFunc Tryz.laysN10 (Value.int .i64) (fun _ => rfl) (fun x => decide (x ≥ n)) 97 #[.pointer (some q)] eg (0 : Int) (fun w => Tryz.zeroValue3 w) g 0 cap l.toArray w (fun W x hb => ge97 q n x W (hb.cell hqs |>.trans hq)) (fun m os dk x hs => ge97 q n x _ ((cell?_sortWorld_other _ _ _ _ _ _ _ q hqg hqs).trans hq)) hH (by simp; omega) (by simpa using hn)).mono ?_
  rw [hflt]
  rintro e w' ⟨rfl, m, rfl⟩
  obtain ⟨f, hf⟩ : ∃ f, (l.filter fun x => decide (x < n)) = f := ⟨_, rfl⟩
  have hfl : f.length ≤ l.length := by rw [← hf]; exact List.length_filter_le _ _
  rw [hf, show l.toArray.size = l.length from rfl]
  have hup := Lib.ownsRow_putRow (q := m) (k := f.length) (ys := f ++ List.replicate (l.length - f.length) (0 : Int)) ho (by rw [List.length_append, List.length_replicate]; omega) hfl
  rw [List.take_left] at hup
  refine ⟨_, rfl, rfl, Kd.R_of_own hup hok, ⟨?_, fun k hk hne => ?_⟩, Lib.below_putRow (Below.refl base w) hbg⟩
  · simp [Sort.putRow, Sort.mapBlock, Sort.ahead]
  · have : g ≠ k := fun e => hne (by subst e; rfl)
    simp [Sort.putRow, Sort.mapBlock, Sort.ahead, Array.getElem?_modify, this]
end Go.Proofs.YtpnhelcemodnmaaGreat

/- The account's list: keep. -/
namespace Go.Proofs.YtpnhelcemodnmaaGreat
open Go.RowKit Go.Shelf Go.Proofs.YtpnhelcemodnmaaGreatW.PrintWords Go.Proofs.YtpnhelcemodnmaaGreatW.PrintLast Go.Proofs.YtpnhelcemodnmaaGreatW.PrintMore PA
set_option linter.unusedVariables false
set_option linter.unusedSimpArgs false
attribute [local go_sem] Oper.semAt_some
/-- The list without the unused pages from one on. -/
def keepL (k : Int) (ps : List Int) (t : List S64) : List S64 := restL (ps.filter fun x => decide (x < k)) t
end Go.Proofs.YtpnhelcemodnmaaGreat

/- The account, off some blocks: put and keep. -/
namespace Go.Proofs.YtpnhelcemodnmaaGreat
open Go.RowKit Go.Shelf Go.Proofs.YtpnhelcemodnmaaGreatW.PrintWords Go.Proofs.YtpnhelcemodnmaaGreatW.PrintLast Go.Proofs.YtpnhelcemodnmaaGreatW.PrintMore PA
set_option linter.unusedVariables false
set_option linter.unusedSimpArgs false
attribute [local go_sem] Oper.semAt_some
set_option maxRecDepth 100000 in
set_option maxHeartbeats 1000000 in
theorem putX_any (l : List S64) (g : Nat) (P : Value) (ver : Int) (ps : List Int) (B : Option Addr) (cb : Nat) (w : World) (X : Nat → Prop) (hX : ∀ k, w.heap.size ≤ k → X k) (hA : AccX X w g P l) (hP : ∀ k, P.ownBlock = some k → k < w.heap.size) (hB : (Kd.int .i64).C w B ps.length ps) (hcb : ps.length ≤ cb) (hs : smallL l) (hp : ps.length ≤ 1000000) :
    Calls Tryz.prog 50 #[.pointer (some ⟨g, 1, none⟩), .int .i64 ver, .slice B ps.length cb] w fun e w' => e = .returned (.tuple #[]) ∧ AccX X w' g P (if ps = [] then l else mergeL l [⟨ver, ps⟩]) ∧ Turned g w w' := by
  by_cases h0 : ps = []
  · subst h0
    rw [if_pos rfl]
    go_enter Tryz.func50, Tryz.ntmps50
    go_wp2
    go_end0
    exact ⟨rfl, hA, Turned.refl _ _⟩
  · rw [if_neg h0]
    have hpos : 0 < ps.length := List.length_pos_iff.2 h0
    have hpg : smallL [(⟨ver, ps⟩ : S64)] := ⟨by simp, by rw [pages_one]; exact hp⟩
    have hglt := hA.lt
    have HAC := Aside0.mk hA
    obtain ⟨A, c, hb, hc, hF⟩ := hA
    have hx0 : w.cell? ⟨g, 1, none⟩ = some (.slice A l.length c) := (blk_cell hb 1).trans rfl
    have hz0 := blk_frozen hb 1
    obtain ⟨W0, hW0⟩ : ∃ W0, w.alloc (.cells #[.int .i64 ver, .slice B ps.length cb] 64) = W0 := ⟨_, rfl⟩
    have hbl0 : Below w.heap.size w W0 := by rw [← hW0]; exact below_alloc1 w _
    have hnb : W0.heap[w.heap.size]? = some (.cells #[.int .i64 ver, .slice B ps.length cb] 64 (0, 0)) := by rw [← hW0]; exact blk_new w _
    have hC2 : k64.C W0 (some ⟨w.heap.size, 0, none⟩) [(⟨ver, ps⟩ : S64)].length [⟨ver, ps⟩] := one_row hnb rfl (k64_mk W0 (⟨ver, ps⟩ : S64) hcb (Kd.C_below hB hbl0))
    have HT := Lib.hid (together_new l [⟨ver, ps⟩] A c (some ⟨w.heap.size, 0, none⟩) 1 W0 (Kd.F_now (Kd.F_below hF hbl0)) hc hC2 (by simp) hs hpg)
    have HAW := Aside0.mk (AccX.below HAC.out hbl0)
    have HBL := Aside0.mk hbl0
    have HG := Aside0.mk hglt
    have hl1 : [(⟨ver, ps⟩ : S64)].length = 1 := rfl
    rw [hl1, ← hW0] at HT
    rw [← hW0] at HAW HBL
    clear hW0 hbl0 hnb hC2 hb hF hB hs hpg hglt hl1 h0
    go_enter Tryz.func50, Tryz.ntmps50
    go_wp2_with (go_at_call 56; (refine HT.out.mono ?_); rintro e w1 ⟨v, rfl, hv, hb1⟩; obtain ⟨vA, vc, rfl⟩ := Kd.N_slice hv; have hx1 := cellB (HBL.out.trans (hb1.mono HBL.out.size)) (Nat.le_refl _) hx0; have hz1 : w1.frozen? ⟨g, 1, none⟩ = false := by (obtain ⟨A9, c9, hb9, _⟩ := AccX.below HAW.out hb1; exact blk_frozen hb9 1))
    go_end0
    have hw1 := HBL.out.trans (hb1.mono HBL.out.size)
    exact ⟨rfl, AccX.put (AccX.below HAW.out hb1) hv (fun k hk => ⟨⟨fun e => by have h1 := HG.out; have h2 := HBL.out.size; have h3 : _ ≤ k := hk; omega, fun e => by have h1 := hP k e.symm; have h2 := HBL.out.size; have h3 : _ ≤ k := hk; omega⟩, hX k (by have h2 := HBL.out.size; have h3 : _ ≤ k := hk; omega)⟩), (Turned.of_below hw1 HG.out).set 1 _⟩
set_option maxRecDepth 100000 in
set_option maxHeartbeats 1000000 in
theorem keepX_no (l : List S64) (g : Nat) (P : Value) (k : Int) (w : World) (X : Nat → Prop) (hX : ∀ k, w.heap.size ≤ k → X k) (hA : AccX X w g P l) (h0 : l = [] ∨ (rd_T64 l 0).f0 ≠ 0) :
    Calls Tryz.prog 52 #[.pointer (some ⟨g, 1, none⟩), .int .i64 k] w fun e w' => e = .returned (.tuple #[]) ∧ AccX X w' g P l ∧ Turned g w w' := by
  have hglt := hA.lt
  have hb0 := below_alloc1 w (.cells #[.int .i64 k] 3)
  have HA := Aside0.mk (hA.below hb0)
  have HT := Aside0.mk (Turned.of_below hb0 hglt)
  obtain ⟨A, c, hb, hc, hF⟩ := hA
  have hx0 : w.cell? ⟨g, 1, none⟩ = some (.slice A l.length c) := (blk_cell hb 1).trans rfl
  replace hx0 := cellB hb0 (Nat.le_refl _) hx0
  cases l with
  | nil =>
    clear hF hb0 hb h0
    go_enter Tryz.func52, Tryz.ntmps52
    go_wp2
    refine bodyPost_ret (results_none rfl _ _ _) rfl ?_
    exact ⟨rfl, HA.out, HT.out⟩
  | cons x t =>
    have hne : (rd_T64 (x :: t) 0).f0 ≠ 0 := h0.resolve_left (by simp)
    obtain ⟨ad, A1, c1, rfl, hx1, hx2, hl1, hC1⟩ := at_T64 (Kd.C_below (Kd.F_now hF) hb0) 0 (by omega) (by simp)
    rw [show ad.add ((0 : Int).toNat * 2) = ad from addr_add0 ad] at hx1
    obtain ⟨v, hv⟩ : ∃ v, (rd_T64 (x :: t) 0).f0 = v := ⟨_, rfl⟩
    rw [hv] at hx1 hne
    have hn2 : (v != 0) = true := bne_iff_ne.2 hne
    have hp : 0 < (x :: t).length := by simp
    obtain ⟨n, hn⟩ : ∃ n, (x :: t).length = n := ⟨_, rfl⟩
    rw [hn] at hx0 hp hc
    have hp2 : ((n : Int) == 0) = false := by simp; omega
    clear hF hC1 h0 hne hx2 hn hv hb hb0
    go_enter Tryz.func52, Tryz.ntmps52
    go_wp2
    refine bodyPost_ret (results_none rfl _ _ _) rfl ?_
    exact ⟨rfl, HA.out, HT.out⟩
set_option maxRecDepth 100000 in
set_option maxHeartbeats 1000000 in
theorem keepX_yes (ps : List Int) (t : List S64) (g : Nat) (P : Value) (k : Int) (w : World) (X : Nat → Prop) (hX : ∀ k, w.heap.size ≤ k → X k) (hA : AccX X w g P (⟨0, ps⟩ :: t)) (hps : ps ≠ []) (hP : ∀ q, P.ownBlock = some q → q < w.heap.size) (hs : smallL (⟨0, ps⟩ :: t)) :
    Calls Tryz.prog 52 #[.pointer (some ⟨g, 1, none⟩), .int .i64 k] w fun e w' => e = .returned (.tuple #[]) ∧ AccX X w' g P (keepL k ps t) ∧ Turned g w w' := by
  have hglt := hA.lt
  have hb0 := below_alloc1 w (.cells #[.int .i64 k] 3)
  have HK := Aside0.mk (show (w.alloc (.cells #[.int .i64 k] 3)).cell? ⟨w.heap.size, 0, none⟩ = some (.int .i64 k) from blk_cell (blk_new w _) 0)
  obtain ⟨W, hW⟩ : ∃ W, w.alloc (.cells #[.int .i64 k] 3) = W := ⟨_, rfl⟩
  rw [hW] at hb0 HK
  have hsW : W.heap.size = w.heap.size + 1 := by rw [← hW]; simp
  have HB0 := Aside0.mk hb0
  have HAC := Aside0.mk (hA.below hb0)
  obtain ⟨A, c, hb, hc, hF⟩ := hA.below hb0
  obtain ⟨l, hl⟩ : ∃ l, (⟨0, ps⟩ :: t : List S64) = l := ⟨_, rfl⟩
  have hr0 : rd_T64 l 0 = ⟨0, ps⟩ := by rw [← hl]; rfl
  have hpos : 0 < l.length := by rw [← hl]; simp
  have hpl : ps.length ≤ 1000000 := by have := hs.2; rw [pages_cons] at this; have e : (⟨0, ps⟩ : S64).f1 = ps := rfl; rw [e] at this; omega
  rw [hl] at hb hc hF hs HAC
  have hx0 : W.cell? ⟨g, 1, none⟩ = some (.slice A l.length c) := (blk_cell hb 1).trans rfl
  have hz0 := blk_frozen hb 1
  obtain ⟨ad, A1, c1, rfl, hx1, hx2, hl1, hC1⟩ := at_T64 (Kd.F_now hF) 0 (by omega) (by omega)
  rw [show ad.add ((0 : Int).toNat * 2) = ad from addr_add0 ad] at hx1 hx2
  rw [hr0] at hx1 hx2 hl1 hC1
  replace hx1 : W.cell? ad = some (.int .i64 0) := hx1
  replace hC1 : (Kd.int .i64).C W A1 ps.length ps := hC1
  replace hx2 : W.cell? ⟨ad.block, ad.off + 1, none⟩ = some (.slice A1 ps.length c1) := hx2
  have hlps : 0 < ps.length := List.length_pos_iff.2 hps
  have HCI := Lib.hid (fun (w1 : World) (hb1 : Below W.heap.size W w1) => cloneInt ps A1 c1 w1 (Kd.C_below hC1 hb1) (by omega))
  have HCL := Lib.hid (fun (w1 : World) (hb1 : Below W.heap.size W w1) => cloneFreedF l (some ad) c w1 (okX X g P) (Kd.F_below hF hb1) (fun q hq => ⟨⟨fun e => by have := hb1.size; omega, fun e => by have := hP q e.symm; have := hb1.size; omega⟩, hX q (by have := hb1.size; omega)⟩) (by have := hs.1; omega))
  have hn0 : ((l.length : Int) == 0) = false := beq_eq_false_iff_ne.2 (by omega)
  have HG := Aside0.mk hglt
  have HLL := Lib.hid hl
  have HR0 := Lib.hid hr0
  have HSW := Lib.hid hsW
  have HLP := Aside0.mk hlps
  have HPL := Aside0.mk hpl
  have HP := Aside0.mk hP
  have hmf : ∀ (fn : Fn) (first cap : Array Value) (w : World), (Instr.makeFunc fn first cap).run Tryz.prog w = .ok (.func fn first cap) w := fun _ _ _ _ => rfl
  clear hC1 hl1 hr0 hF hs hb hl hA hps hP hb0 hpl hlps hsW
  obtain ⟨n, hn⟩ : ∃ n, l.length = n := ⟨_, rfl⟩
  have HNN := Lib.hid hn
  rw [hn] at hc hpos hx0 HCL hn0
  clear hn
  obtain ⟨f, hf⟩ : ∃ f, (ps.filter fun x => decide (x < k)) = f := ⟨_, rfl⟩
  have HFF := Lib.hid hf
  clear hf
  go_enter Tryz.func52, Tryz.ntmps52
  go_upto_region 1 with (fail)
  clear hW
  go_upto_region 3 with (first
    | (go_at_call 96; (refine (HCI.out _ (Below.refl _ _)).mono ?_); rintro e w1 ⟨v, rfl, hv, hb1⟩; obtain ⟨vA, vc, rfl⟩ := Kd.R_slice hv; have HV := Aside0.mk hv; have HB1 := Aside0.mk hb1; have hKc := cellB hb1 (Nat.le_refl _) HK.out; clear hv hb1))
  have hh : some (⟨w.heap.size, 0, none⟩ : Addr).block ≠ (Value.slice vA ps.length vc).ownBlock := fun e => by
    have := Kd.R_base HV.out _ e.symm
    have h2 := HSW.out
    simp at this
    omega
  refine (delete_R ⟨w.heap.size, 0, none⟩ k HV.out HLP.out HPL.out hKc hh).mono ?_
  rintro e w2 ⟨v2, rfl, hv2o, hv2, hk2, hb2⟩
  rw [HFF.out] at hv2
  obtain ⟨fA, fc, rfl⟩ := Kd.R_slice hv2
  have HV2 := Aside0.mk hv2
  have HB2 := Aside0.mk (HB1.out.trans hb2)
  clear hv2 hb2 hk2 hv2o
  have hx6 := cellB HB2.out (Nat.le_refl _) hx0
  go_upto_region 4 with (go_at_call 98; (refine (HCL.out _ HB2.out).mono ?_); rintro e w3 ⟨v, rfl, hv, hb3⟩; obtain ⟨xA, xc, rfl⟩ := Kd.N_slice hv; have HV3 := Aside0.mk hv; have HB3 := Aside0.mk hb3; have HA3 := Aside0.mk ((HAC.out.below HB2.out).below hb3); have hx4 := cellB hb3 (Nat.le_refl _) hx6; have hz4 : w3.frozen? ⟨g, 1, none⟩ = false := (by obtain ⟨A9, c9, hb9, _⟩ := (HAC.out.below HB2.out).below hb3; exact blk_frozen hb9 1); clear hv hb3)
  have hb03 : Below w.heap.size w w3 := (HB0.out.trans (HB2.out.mono HB0.out.size)).trans (HB3.out.mono (HB0.out.trans (HB2.out.mono HB0.out.size)).size)
  have hF3 := Kd.F_below (Kd.F_bound (Kd.R_F (Kd.R_mono (Kd.R_bound HV2.out) (fun q hq => hq.2.1)))) HB3.out
  rw [HNN.out] at HV3
  obtain ⟨h, vc', hve, hbh, hhs, _⟩ := Kd.N_form HV3.out (by rw [HNN.out]; exact hpos)
  rw [HNN.out] at hve ⊢
  injection hve with e1 _ e2
  subst e1 e2
  have hw2 := HB0.out.trans (HB2.out.mono HB0.out.size)
  have hwh : w.heap.size ≤ h := Nat.le_trans hw2.size hbh
  have hhg : h ≠ g := by have := HG.out; omega
  have hb2 : (w3.setCell ⟨g, 1, none⟩ (.slice (some ⟨h, 0, none⟩) n xc)).heap[g]? = some (.cells #[P, .slice (some ⟨h, 0, none⟩) n xc] 102 (0, 0)) := by
    obtain ⟨A9, c9, hb9, _⟩ := HA3.out
    exact blk_put hb9 1 _ rfl
  have HN2 := Aside0.mk (Kd.N_far HV3.out (p := ⟨g, 1, none⟩) (fun q hq => hq.1.1) (.slice (some ⟨h, 0, none⟩) n xc))
  have HT2 := Aside0.mk ((Turned.of_below hb03 HG.out).set 1 (.slice (some ⟨h, 0, none⟩) n xc))
  have hy0 : (w3.setCell ⟨g, 1, none⟩ (.slice (some ⟨h, 0, none⟩) n xc)).cell? ⟨g, 1, none⟩ = some (.slice (some ⟨h, 0, none⟩) n xc) := World.cell?_setCell_same _ _ _ hx4
  have hgw := HG.out
  have hsw := HSW.out
  have HF2 := Aside0.mk (Kd.F_mono (ok' := fun q => okX X g P q ∧ q ≠ h) (Kd.F_far hF3 (p := ⟨g, 1, none⟩) (fun q hq e => by have h1 : W.heap.size ≤ q := hq.1; have e2 : q = g := e; omega) (.slice (some ⟨h, 0, none⟩) n xc)) (fun q hq => ⟨⟨⟨fun e => by have h1 : W.heap.size ≤ q := hq.1; omega, fun e => by have h1 : W.heap.size ≤ q := hq.1; have := HP.out q e.symm; omega⟩, hX q (by have h1 : W.heap.size ≤ q := hq.1; omega)⟩, fun e => by have h2 : q < w2.heap.size := hq.2; omega⟩))
  obtain ⟨W2, hW2⟩ : ∃ W2, w3.setCell ⟨g, 1, none⟩ (.slice (some ⟨h, 0, none⟩) n xc) = W2 := ⟨_, rfl⟩
  rw [hW2] at HN2 HT2 hy0 hb2 HF2 ⊢
  obtain ⟨cs, hcl, hFK, hcc, hfr⟩ := Kd.N_elem HN2.out z64 (0 : Int) (by omega) (by omega)
  rw [show l.getD (0 : Int).toNat z64 = rd_T64 l 0 from rfl, HR0.out] at hFK
  obtain ⟨A5, c5, rfl, hl5, hF5⟩ := k64_openF hFK
  have hy1 : W2.cell? ⟨h, 1, none⟩ = some (.slice A5 ps.length c5) := hcc 1 _ rfl
  have hz5 : W2.frozen? ⟨h, 1, none⟩ = false := hfr 1
  have h0n : (0 : Int) < (n : Int) := by omega
  have HCC := Aside0.mk hcc
  have HWH := Aside0.mk hwh
  clear hcl hFK hcc hfr hl5 hF5 hx0 hx1 hx2 hx4 hx6 hz4 hz0 hW2 hF3 hb03 hw2 hgw hsw hKc hh
  go_upto_region 5 with (fail)
  have hfc : f.length ≤ fc := (Kd.R_reads' HV2.out).2.1
  obtain ⟨hN3, hG3⟩ := Kd.N_seg HN2.out (0 : Int) (by omega) h0n (c := [.int .i64 0, .slice A5 ps.length c5]) (seg := [.slice fA f.length fc]) (j := 1) rfl HCC.out (Nat.le_refl 2) (x' := (⟨0, f⟩ : S64)) (k64_mkF W2 _ (⟨0, f⟩ : S64) hfc HF2.out) (fun q hq => hq)
  have hls : l.set (0 : Int).toNat (⟨0, f⟩ : S64) = ⟨0, f⟩ :: t := by rw [← HLL.out]; rfl
  rw [hls] at hN3
  have hN4 : Kd.N k64 64 (W2.setCell ⟨h, 1, none⟩ (.slice fA f.length fc)) w2.heap.size (okX X g P) (.slice (some ⟨h, 0, none⟩) n xc) (⟨0, f⟩ :: t) := hN3
  have hy0' : (W2.setCell ⟨h, 1, none⟩ (.slice fA f.length fc)).cell? ⟨g, 1, none⟩ = some (.slice (some ⟨h, 0, none⟩) n xc) := by
    have := World.cell?_setCell_other W2 ⟨h, 1, none⟩ ⟨g, 1, none⟩ (.slice fA f.length fc) (by simp [hhg])
    exact this.trans hy0
  have hb4 := blk_far hb2 (p := ⟨h, 1, none⟩) (Ne.symm hhg) (.slice fA f.length fc)
  have hz6 : (W2.setCell ⟨h, 1, none⟩ (.slice fA f.length fc)).frozen? ⟨g, 1, none⟩ = false := blk_frozen hb4 1
  have hT3 := HT2.out.far HWH.out HG.out 1 (.slice fA f.length fc)
  obtain ⟨W3, hW3⟩ : ∃ W3, W2.setCell ⟨h, 1, none⟩ (.slice fA f.length fc) = W3 := ⟨_, rfl⟩
  rw [hW3] at hN4 hy0' hz6 hb4 hT3 ⊢
  have hnl : n = (⟨0, f⟩ :: t : List S64).length := (Kd.N_reads' hN4).1
  have hnv := (Kd.N_reads' hN4).2.1
  have HN4 := Aside0.mk hN4
  have HB4 := Aside0.mk hb4
  have HT3 := Aside0.mk hT3
  have HNL := Lib.hid hnl
  clear hN3 hG3 hls hW3 hN4 hb4 hT3 hnl hy0 hy1 hb2 hz5
  by_cases h0 : f = []
  · have hr : keepL k ps t = t := by rw [keepL, HFF.out]; exact if_pos h0
    have HR := Lib.hid hr
    have hp0 : ((f.length : Int) == 0) = true := by rw [h0]; rfl
    have h1n : 1 ≤ n := hpos
    have h1v : 1 ≤ xc := by omega
    clear hr h0
    have htl : n - 1 = t.length := by rw [HNL.out]; simp
    have HTL := Lib.hid htl
    by_cases hv1 : xc = 1
    · have hnn : n = 1 := by omega
      have htn : t = [] := List.length_eq_zero_iff.1 (by omega)
      have HTN := Lib.hid htn
      subst hv1 hnn
      clear htl htn
      go_wp2
      go_end0
      rw [HR.out]
      have hb5 := blk_put HB4.out 1 (.slice (some ⟨h, 0, none⟩) 0 0) rfl
      refine ⟨rfl, ⟨some ⟨h, 0, none⟩, 0, ?_, ?_, ?_⟩, HT3.out.set 1 _⟩
      · rw [HTN.out]; exact hb5
      · rw [HTN.out]; simp
      · rw [HTN.out]; exact fun W2 hW2 => ⟨rfl, Nat.zero_le _, fun h => absurd h (Nat.lt_irrefl 0)⟩
    · clear htl
      go_wp2
      go_end0
      rw [HR.out, HTL.out]
      have hb5 := blk_put HB4.out 1 (.slice (some ⟨h, 2, none⟩) t.length (xc - 1)) rfl
      have hF4 := Kd.N_F HN4.out
      rw [HNL.out] at hF4
      have hF6 := F_drop (m := 1) hF4 (by simp) (by rw [← HNL.out]; exact hnv) (by omega)
      refine ⟨rfl, ⟨_, _, hb5, by rw [← HTL.out]; omega, ?_⟩, HT3.out.set 1 _⟩
      exact Kd.F_far (show Kd.F k64 W3 (okX X g P) (some ⟨h, 2, none⟩) t.length t from hF6) (fun q hq => hq.1.1) _
  · have hr : keepL k ps t = ⟨0, f⟩ :: t := by rw [keepL, HFF.out]; exact if_neg h0
    have HR := Lib.hid hr
    have hlp : 0 < f.length := List.length_pos_iff.2 h0
    have hp0 : ((f.length : Int) == 0) = false := beq_eq_false_iff_ne.2 (by omega)
    clear hr h0
    go_wp2
    go_end0
    rw [HR.out]
    exact ⟨rfl, ⟨_, _, HNL.out ▸ HB4.out, by rw [← HNL.out]; exact hnv, by have := Kd.N_F HN4.out; rw [HNL.out] at this; exact this⟩, HT3.out⟩
end Go.Proofs.YtpnhelcemodnmaaGreat

/- Clone at pages. -/
namespace Go.Proofs.YtpnhelcemodnmaaGreat
open Go.RowKit Go.Shelf Go.Proofs.YtpnhelcemodnmaaGreatW.PrintWords Go.Proofs.YtpnhelcemodnmaaGreatW.PrintLast Go.Proofs.YtpnhelcemodnmaaGreatW.PrintMore PA
set_option linter.unusedVariables false
set_option linter.unusedSimpArgs false
attribute [local go_sem] Oper.semAt_some
set_option maxRecDepth 100000 in
set_option maxHeartbeats 1000000 in
theorem clonePages (l : List S89) (A : Option Addr) (c : Nat) (w : World) (ok : Nat → Prop) (hF : Kd.F k89 w ok A l.length l) (hg : ∀ k, w.heap.size ≤ k → ok k) (hn : l.length * 120 ≤ 140737488355328) :
    Calls Tryz.prog 49 #[.slice A l.length c] w fun e w' => ∃ v, e = .returned v ∧ Kd.N k89 89 w' w.heap.size ok v l ∧ Below w.heap.size w w' := by
  cases A with
  | none =>
    obtain rfl := none_nil (Kd.F_now hF)
    refine (Tryz.slices_Clone49_nil _ _ w).mono ?_
    rintro e w' ⟨rfl, rfl⟩
    exact ⟨_, rfl, Kd.N_nil _ _ _ _ _, Below.refl _ _⟩
  | some ad =>
    have hF2 := Kd.F_below (Kd.F_bound hF) (below_alloc1 w (.cells #[] 89))
    have hz := Kd.R_N (Kd.R_mono (ok' := ok) (Kd.R_bound (R_z k89 89 w)) (fun k hk => hg k hk.2.1))
    have hne : ∀ k, (ok k ∧ k < w.heap.size) → ok k ∧ some k ≠ (Value.slice (some ⟨w.heap.size, 0, none⟩) 0 0).ownBlock := fun k hk => ⟨hk.1, fun e => by have := hk.2; simp [Value.ownBlock] at e; omega⟩
    have hsz : w.heap.size ≤ (w.alloc (.cells #[] 89)).heap.size := by simp
    have hfr : ∀ k, (w.alloc (.cells #[] 89)).heap.size ≤ k → ok k := fun k hk => hg k (by simp at hk; omega)
    have hn2 : (([] : List S89).length + l.length) * 120 ≤ 140737488355328 := by simpa using hn
    have q : ∀ (w : World) (n c : Nat), (binOp .eql 22 (.slice (some ad) n c) (.slice none 0 0)).run Tryz.prog w = .ok (.bool false) w := fun w n c => Lib.run_eql_slice_nil w 22 89 (some ad) n c 0 0 Tryz.underlying22
    go_enter Tryz.func49, Tryz.ntmps49
    go_wp2_with (at_builtin; go_loud (refine Kd.N_append_rows k89 (w0 := w) w.heap.size rfl _ _ 22 89 (.agg (cells89 z89 none 0).toArray) 120 rfl Tryz.underlying22 info89 rfl (by decide) (by decide) _ _ l (some ad) l.length c ok (fun k => ok k ∧ k < w.heap.size) rfl rfl hz hF2 hne hfr (below_alloc1 w _) hsz hn2 ?_))
    intro v1 w1 hN hb hg hat
    go_wp2
    go_ret
    exact ⟨_, rfl, hN, hb⟩
end Go.Proofs.YtpnhelcemodnmaaGreat

/- End: what lies between its parts; keep; the taking of pages in plain. -/
namespace Go.Proofs.YtpnhelcemodnmaaGreat
open Go.RowKit Go.Shelf Go.Proofs.YtpnhelcemodnmaaGreatW.PrintWords Go.Proofs.YtpnhelcemodnmaaGreatW.PrintLast Go.Proofs.YtpnhelcemodnmaaGreatW.PrintMore PA
set_option linter.unusedVariables false
set_option linter.unusedSimpArgs false
attribute [local go_sem] Oper.semAt_some
def putL (ver : Int) (ps : List Int) (l : List S64) : List S64 := if ps = [] then l else mergeL l [⟨ver, ps⟩]
theorem putL_len (ver : Int) (ps : List Int) (l : List S64) : (putL ver ps l).length ≤ l.length + 1 ∧ (pagesOf (putL ver ps l)).length = (pagesOf l).length + ps.length := by
  unfold putL
  by_cases h : ps = []
  · rw [if_pos h, h]; simp
  · rw [if_neg h, merge_pages, pages_one]
    have := merge_length l [(⟨ver, ps⟩ : S64)]
    simp at this ⊢
    omega
theorem small_put {ver : Int} {ps : List Int} {l : List S64} (h1 : l.length ≤ 10000) (h2 : (pagesOf l).length ≤ 10000) (h3 : ps.length ≤ 1000) : smallL (putL ver ps l) := by
  have := putL_len ver ps l
  exact ⟨by omega, by omega⟩
/-- Free pages are laid empty. -/
def zeroAll (free : List Int) (pg : List S89) : List S89 := free.foldl (fun p n => p.set n.toNat z89) pg
def zeroTo (k : Nat) (free : List Int) (pg : List S89) : List S89 := zeroAll (free.take k) pg
theorem zeroAll_length (free : List Int) (pg : List S89) : (zeroAll free pg).length = pg.length := by
  induction free generalizing pg with
  | nil => rfl
  | cons n t ih => show (zeroAll t (pg.set n.toNat z89)).length = _; rw [ih, List.length_set]
theorem zeroTo_succ (k : Nat) (free : List Int) (pg : List S89) (h : k < free.length) : zeroTo (k + 1) free pg = (zeroTo k free pg).set (free[k]).toNat z89 := by
  unfold zeroTo zeroAll
  rw [List.take_succ_eq_append_getElem h, List.foldl_append]
  rfl
/-- The five blocks of End's own variables: the space that came in, the four answers. -/
def EndC (W : World) (b : Nat) (sp : Array Value) : Prop :=
  W.heap[b]? = some (.cells sp 25 (0, 0)) ∧ W.heap[b + 1]? = some (.cells #[.slice none 0 0, .slice none 0 0, .slice none 0 0, .slice none 0 0, .int .i64 0, .int .i64 0] 25 (0, 0)) ∧ W.heap[b + 2]? = some (.cells #[.int .i64 0] 3 (0, 0)) ∧ W.heap[b + 3]? = some (.cells #[.slice none 0 0] 26 (0, 0)) ∧ W.heap[b + 4]? = some (.cells #[.int .i64 0] 30 (0, 0))
theorem EndC.keep {W W' : World} {b : Nat} {sp : Array Value} (h : EndC W b sp) (hk : ∀ k, b ≤ k → k < b + 5 → k < W.heap.size → W'.heap[k]? = W.heap[k]?) : EndC W' b sp := by
  obtain ⟨h0, h1, h2, h3, h4⟩ := h
  exact ⟨(hk _ (by omega) (by omega) (blk_lt h0)).trans h0, (hk _ (by omega) (by omega) (blk_lt h1)).trans h1, (hk _ (by omega) (by omega) (blk_lt h2)).trans h2, (hk _ (by omega) (by omega) (blk_lt h3)).trans h3, (hk _ (by omega) (by omega) (blk_lt h4)).trans h4⟩
theorem EndC.below {W W' : World} {b : Nat} {sp : Array Value} (h : EndC W b sp) (hb : Below W.heap.size W W') : EndC W' b sp := h.keep fun k _ _ hk => hb.block k hk
theorem EndC.turned {W W' : World} {b g : Nat} {sp : Array Value} (h : EndC W b sp) (ht : Turned g W W') (hg : b + 5 ≤ g) : EndC W' b sp := h.keep fun k _ h5 hk => ht.keep.2 k hk (by omega) (by simp)
theorem EndC.cells {W : World} {b : Nat} {a0 a1 a2 a3 a4 a5 : Value} (h : EndC W b #[a0, a1, a2, a3, a4, a5]) : W.cell? ⟨b, 0, none⟩ = some a0 ∧ W.cell? ⟨b, 1, none⟩ = some a1 ∧ W.cell? ⟨b, 3, none⟩ = some a3 ∧ W.cell? ⟨b, 4, none⟩ = some a4 ∧ W.cell? ⟨b, 5, none⟩ = some a5 :=
  ⟨blk_cell h.1 0, blk_cell h.1 1, blk_cell h.1 3, blk_cell h.1 4, blk_cell h.1 5⟩
theorem Drawn0.below {w w' : World} (h : Drawn0 w w') : Below w.heap.size w w' := by
  obtain ⟨n, rfl⟩ := h.out
  exact pw_below_drewN (Below.refl _ _) n
/-- A page is taken for the list: its number, the list, the number of pages. -/
def takeStep : List S64 → Nat → Option (Int × List S64 × Nat)
  | [], n => if n < 4096 then some ((n : Int), [], n + 1) else none
  | ⟨v, []⟩ :: t, n => if v = 0 then none else if n < 4096 then some ((n : Int), ⟨v, []⟩ :: t, n + 1) else none
  | ⟨v, p :: ps⟩ :: t, n => if v = 0 then some (p, restL ps t, n) else if n < 4096 then some ((n : Int), ⟨v, p :: ps⟩ :: t, n + 1) else none
/-- Pages are taken till the list has its pages. -/
def takeRun : Nat → List S64 → Nat → List Int → Option (List S64 × Nat × List Int)
  | 0, _, _, _ => none
  | k + 1, l, n, own => if (partsOf l).length ≤ own.length then some (l, n, own) else
    match takeStep l n with
    | some (p, l', n') => takeRun k l' n' (own ++ [p])
    | none => none
theorem takeRun_stop {k : Nat} {l : List S64} {n : Nat} {own : List Int} {R : List S64 × Nat × List Int} (h : takeRun k l n own = some R) (hd : (partsOf l).length ≤ own.length) : R = (l, n, own) := by
  cases k with
  | zero => simp [takeRun] at h
  | succ k => rw [takeRun, if_pos hd] at h; injection h with h; exact h.symm
theorem takeRun_go {k : Nat} {l : List S64} {n : Nat} {own : List Int} {R : List S64 × Nat × List Int} (h : takeRun k l n own = some R) (hd : ¬ (partsOf l).length ≤ own.length) : ∃ j p l' n', k = j + 1 ∧ takeStep l n = some (p, l', n') ∧ takeRun j l' n' (own ++ [p]) = some R := by
  cases k with
  | zero => simp [takeRun] at h
  | succ k =>
    rw [takeRun, if_neg hd] at h
    split at h
    · next p l' n' he => exact ⟨k, p, l', n', rfl, he, h⟩
    · simp at h
theorem rest_form {p v : Int} {q : Int} {qs : List Int} {t : List S64} (h : formP p (⟨v, q :: qs⟩ :: t)) (hv : v = 0) : formP p (restL qs t) := by
  obtain ⟨h1, h2⟩ := h
  rw [List.map_cons, List.pairwise_cons] at h2
  have hx := h1 _ (List.mem_cons_self)
  unfold restL
  split
  · exact ⟨fun f hf => h1 f (List.mem_cons_of_mem _ hf), h2.2⟩
  · next hne =>
    refine ⟨fun f hf => ?_, ?_⟩
    · rcases List.mem_cons.1 hf with rfl | hf
      · refine ⟨by show (0 : Int) ≤ 0; omega, by show (0 : Int) ≤ _; omega, hne, fun n hn => hx.2.2.2.1 n (List.mem_cons_of_mem _ hn), (List.pairwise_cons.1 hx.2.2.2.2).2⟩
      · exact h1 f (List.mem_cons_of_mem _ hf)
    · rw [List.map_cons, List.pairwise_cons]
      exact ⟨fun a ha => by have := h2.1 a ha; subst hv; exact this, h2.2⟩
theorem rest_small {q v : Int} {qs : List Int} {t : List S64} (h : smallL (⟨v, q :: qs⟩ :: t)) : smallL (restL qs t) := by
  unfold smallL at *
  unfold restL
  have e1 : ∀ (z : S64) (l : List S64), pagesOf (z :: l) = z.f1 ++ pagesOf l := fun z l => by rw [← List.singleton_append, pages_append, pages_one]
  rw [e1] at h
  simp at h
  split
  · omega
  · rw [e1]; simp; omega
/-- Pages are laid where they belong. -/
def layAll (ps pg : List S89) : List S89 := ps.foldl (fun q p => q.set p.no.toNat p) pg
def layTo (k : Nat) (ps pg : List S89) : List S89 := layAll (ps.take k) pg
theorem layAll_length (ps pg : List S89) : (layAll ps pg).length = pg.length := by
  induction ps generalizing pg with
  | nil => rfl
  | cons n t ih => show (layAll t (pg.set n.no.toNat n)).length = _; rw [ih, List.length_set]
theorem layTo_succ (k : Nat) (ps pg : List S89) (h : k < ps.length) : layTo (k + 1) ps pg = (layTo k ps pg).set (ps[k]).no.toNat ps[k] := by
  unfold layTo layAll
  rw [List.take_succ_eq_append_getElem h, List.foldl_append]
  rfl
/-- The list without the unused pages from one on, whatever it begins with. -/
def keepAll (k : Int) : List S64 → List S64
  | [] => []
  | f :: t => if f.f0 = 0 then keepL k f.f1 t else f :: t
theorem keep_any (l : List S64) (g : Nat) (P : Value) (k : Int) (w : World) (X : Nat → Prop) (hX : ∀ k, w.heap.size ≤ k → X k) (hA : AccX X w g P l) (hf : fullL l) (hP : ∀ q, P.ownBlock = some q → q < w.heap.size) (hs : smallL l) :
    Calls Tryz.prog 52 #[.pointer (some ⟨g, 1, none⟩), .int .i64 k] w fun e w' => e = .returned (.tuple #[]) ∧ AccX X w' g P (keepAll k l) ∧ Turned g w w' := by
  cases l with
  | nil => exact keepX_no [] g P k w X hX hA (.inl rfl)
  | cons f t =>
    obtain ⟨v, ps⟩ := f
    by_cases h : v = 0
    · subst h
      have e : keepAll k (⟨0, ps⟩ :: t) = keepL k ps t := by rw [keepAll]; exact if_pos rfl
      rw [e]
      exact keepX_yes ps t g P k w X hX hA (hf ⟨0, ps⟩ (by simp)) hP hs
    · have e : keepAll k (⟨v, ps⟩ :: t) = ⟨v, ps⟩ :: t := by rw [keepAll]; exact if_neg h
      rw [e]
      exact keepX_no _ g P k w X hX hA (.inr h)
theorem tailL_le (l : List Int) : ∀ p : Int, (∀ x ∈ l, 2 ≤ x) → 2 ≤ p → 2 ≤ tailL l p ∧ tailL l p ≤ p := by
  induction l with
  | nil => intro p _ h; exact ⟨h, Int.le_refl p⟩
  | cons x t ih =>
    intro p hx h
    rw [tailL]
    split
    · next e => have := ih (p - 1) (fun y hy => hx y (by simp [hy])) (by have := hx x (by simp); omega); omega
    · omega
theorem tailN_le (l : List S64) (p : Int) (h : formP p l) (h2 : 2 ≤ p) : 2 ≤ tailN l p ∧ tailN l p ≤ p := by
  cases l with
  | nil => exact ⟨h2, Int.le_refl p⟩
  | cons f t =>
    unfold tailN
    dsimp only
    split
    · exact tailL_le _ p (fun x hx => ((h.1 f (by simp)).2.2.2.1 x (by simpa using hx)).1) h2
    · omega
theorem AccX.pages {X : Nat → Prop} {w : World} {g : Nat} {P P' : Value} {l : List S64} (h : AccX X w g P l) (hP : P'.ownBlock = P.ownBlock) : AccX X (w.setCell ⟨g, 0, none⟩ P') g P' l := by
  obtain ⟨A, c, h1, h2, h3⟩ := h
  exact ⟨A, c, blk_put h1 0 _ rfl, h2, Kd.F_mono (Kd.F_far (p := ⟨g, 0, none⟩) h3 (fun k hk => hk.1.1) _) (fun k hk => ⟨⟨hk.1.1, by rw [hP]; exact hk.1.2⟩, hk.2⟩)⟩
/-- None of End's own five blocks. -/
def off5 (b q : Nat) : Prop := q < b ∨ b + 5 ≤ q
/-- End's memory behind the shrinking: the pages, the list, End's own variables. -/
def EndM (w0 : World) (b g : Nat) (sp : Array Value) (pg : List S89) (l : List S64) (X : Nat → Prop) (wr : World) : Prop :=
  ∃ P, Kd.N k89 89 wr b (fun q => q ≠ g ∧ X q) P pg ∧ AccX X wr g P l ∧ EndC wr b sp ∧ Below b w0 wr ∧ g + 1 ≤ wr.heap.size ∧ ∀ q, P.ownBlock = some q → b + 5 ≤ q
end Go.Proofs.YtpnhelcemodnmaaGreat

/- The reference's Put. -/
namespace Go.Proofs.YtpnhelcemodnmaaGreat
open Go.RowKit Go.Shelf Go.Proofs.YtpnhelcemodnmaaGreatW.PrintWords Go.Proofs.YtpnhelcemodnmaaGreatW.PrintLast Go.Proofs.YtpnhelcemodnmaaGreatW.PrintMore PA
set_option linter.unusedVariables false
set_option linter.unusedSimpArgs false
attribute [local go_sem] Oper.semAt_some
def putR (ver : Int) (ps : List Int) (l : List S64) : List S64 := if ps = [] then l else putGo ver ps false l
/-- A list is handed back, to be read. -/
def PutR (okp : Nat → Prop) (w : World) (r : List S64) (e : Ending) (w' : World) : Prop := ∃ O oc, e = .returned (.slice O r.length oc) ∧ r.length ≤ oc ∧ Kd.F k64 w' (fun y => okp y ∨ w.heap.size ≤ y) O r.length r ∧ Below w.heap.size w w'
theorem putGo_eq {ver : Int} {ps : List Int} {d : Bool} {x : S64} {t : List S64} (h : x.f0 = ver) : putGo ver ps d (x :: t) = ⟨ver, insAll x.f1 ps⟩ :: putGo ver ps true t := by rw [putGo, if_pos h]
theorem putGo_gt {ver : Int} {ps : List Int} {x : S64} {t : List S64} (h : ver < x.f0) : putGo ver ps false (x :: t) = ⟨ver, ps⟩ :: x :: putGo ver ps true t := by rw [putGo, if_neg (by omega), if_pos ⟨h, rfl⟩]
theorem putGo_else {ver : Int} {ps : List Int} {d : Bool} {x : S64} {t : List S64} (h : x.f0 ≠ ver) (h2 : ver < x.f0 → d = true) : putGo ver ps d (x :: t) = x :: putGo ver ps d t := by
  rw [putGo, if_neg h, if_neg (fun e => by have := h2 e.1; rw [e.2] at this; cases this)]
theorem insAll_snoc (l ps : List Int) (n : Int) : insAll l (ps ++ [n]) = insI (insAll l ps) n := by unfold insAll; rw [List.foldl_append]; rfl
set_option maxRecDepth 100000 in
set_option maxHeartbeats 1000000 in
theorem put61 (l : List S64) (ver : Int) (ps : List Int) (A : Option Addr) (c : Nat) (B : Option Addr) (cb : Nat) (w : World) (okp : Nat → Prop) (hC : Kd.F k64 w okp A l.length l) (hc : l.length ≤ c) (hB : Kd.F (Kd.int .i64) w okp B ps.length ps) (hcb : ps.length ≤ cb) (hs : smallL l) (hp : ps.length ≤ 1000000) :
    Calls Tryz.prog 61 #[.slice A l.length c, .int .i64 ver, .slice B ps.length cb] w (PutR okp w (putR ver ps l)) := by
  by_cases h0 : ps = []
  · have hr : putR ver ps l = l := if_pos h0
    rw [hr]
    have hz : ((ps.length : Int) == 0) = true := by rw [h0]; rfl
    have HC := Aside0.mk hC
    have HCC := Aside0.mk hc
    clear hr h0 hC hB
    go_enter Tryz.func61, Tryz.ntmps61
    go_wp2
    go_ret
    exact ⟨A, c, rfl, HCC.out, Kd.F_mono HC.out (fun y hy => .inl hy), Below.refl _ _⟩
  · have hr : putR ver ps l = putGo ver ps false l := if_neg h0
    rw [hr]
    have hpos : 0 < ps.length := List.length_pos_iff.2 h0
    have hz : ((ps.length : Int) == 0) = false := beq_eq_false_iff_ne.2 (by omega)
    have HF0 := Aside0.mk (Kd.F_bound hC)
    have HBF := Aside0.mk (Kd.F_bound hB)
    have HCB := Aside0.mk hcb
    have hll := hs.1
    have HSE := Aside0.mk (small_each hs)
    obtain ⟨R, hR⟩ : ∃ R, putGo ver ps false l = R := ⟨_, rfl⟩
    rw [hR]
    have HR := Lib.hid hR
    clear hr h0 hC hB hs hR
    go_enter Tryz.func61, Tryz.ntmps61
    go_upto_region 6 with (fail)
    go_loopw [7, 8, 9] (fun o d i wr => ∃ (k : Nat) (dn : List S64) (db : Bool), k ≤ l.length ∧ i = .int .i64 k ∧ d = .bool db ∧ Hid (R = dn ++ putGo ver ps db (l.drop k)) ∧ dn.length ≤ 2 * k ∧ Aside0 (Kd.N k64 64 wr w.heap.size (fun y => okp y ∨ w.heap.size ≤ y) o dn) ∧ Aside0 (Below w.heap.size w wr))
      (fun _ _ i _ => l.length - (intOf i).toNat)
    case atStart => exact ⟨0, [], false, Nat.zero_le _, rfl, rfl, Lib.hid (by rw [← HR.out]; rfl), by simp, ⟨Kd.N_nil _ _ _ _ _⟩, ⟨Below.refl _ _⟩⟩
    case round =>
      obtain ⟨k, dn, db, hk, rfl, rfl, HP, hdn, HN, HB⟩ := hrel
      by_cases hlt : k < l.length
      · obtain ⟨ad, A1, c1, rfl, hx0, hx1, hl1, hF1⟩ := elem_F (Kd.F_below HF0.out HB.out) k hlt
        have HD := Lib.hid (List.drop_eq_getElem_cons hlt)
        have hge := rd_nat l k hlt
        rw [← hge] at HD
        have hgl := HSE.out _ (List.getElem_mem hlt)
        rw [← hge] at hgl
        obtain ⟨x, hx⟩ : ∃ x, rd_T64 l (k : Int) = x := ⟨_, rfl⟩
        rw [hx] at hx0 hx1 hl1 hF1 HD hgl
        obtain ⟨v, g⟩ := x
        dsimp only at hx0 hx1 hl1 hF1 hgl
        have HL1 := Aside0.mk hl1
        have HFX := Aside0.mk hF1
        obtain ⟨O, co, hO⟩ := Kd.N_slice HN.out
        subst hO
        clear hge hx hl1 hF1
        go_upto_region 9 with (fail)
        have hbk := blk_new wr (.cells #[.int .i64 v, .slice A1 g.length c1] 64)
        have hb1 := below_alloc1 wr (.cells #[.int .i64 v, .slice A1 g.length c1] 64)
        obtain ⟨Bx, hBx⟩ : ∃ Bx, wr.heap.size = Bx := ⟨_, rfl⟩
        obtain ⟨W0, hW0⟩ : ∃ W0, wr.alloc (.cells #[.int .i64 v, .slice A1 g.length c1] 64) = W0 := ⟨_, rfl⟩
        have hs0 : W0.heap.size = Bx + 1 := by rw [← hW0, ← hBx]; simp
        rw [hW0] at hbk hb1 ⊢
        rw [hBx] at hbk ⊢
        have hBk : W0.heap[Bx]? = some (.cells #[.int .i64 v, .slice A1 g.length c1] 64 (0, 0)) := hbk
        have b0 : W0.cell? ⟨Bx, 0, none⟩ = some (.int .i64 v) := (blk_cell hBk 0).trans rfl
        have b1 : W0.cell? ⟨Bx, 1, none⟩ = some (.slice A1 g.length c1) := (blk_cell hBk 1).trans rfl
        have hwb : w.heap.size ≤ Bx := hBx ▸ HB.out.size
        have hbl : Below Bx wr W0 := hBx ▸ hb1
        have HBL := Aside0.mk (HB.out.trans (hbl.mono hwb))
        have HN0 := Aside0.mk (Kd.N_mono (ok' := fun y => (okp y ∨ w.heap.size ≤ y) ∧ y < Bx) (Kd.N_below (Kd.N_bound HN.out) hb1) (fun y hy => ⟨hy.1, by have := hy.2; omega⟩))
        have HFX0 := Aside0.mk (Kd.F_below HFX.out hb1)
        have hown : ∀ y, (Value.slice O dn.length co).ownBlock = some y → w.heap.size ≤ y ∧ y < Bx := fun y hy => ⟨Kd.N_base HN.out y hy, hBx ▸ Kd.N_lt HN.out y hy⟩
        have HOW := Aside0.mk hown
        have HBK := Aside0.mk hBk
        have HS0 := Lib.hid hs0
        have HLD := Aside0.mk (show (dn.length + 3) * 32 ≤ 140737488355328 by omega)
        clear hbk hb1 hW0 hBx hBk hbl hown hs0 hx0 hx1 HN
        by_cases he : v = ver
        · subst he
          have hev : (v == v) = true := by simp
          have HPE := Lib.hid (show R = (dn ++ [(⟨v, insAll g ps⟩ : S64)]) ++ putGo v ps true (l.drop (k + 1)) by rw [HP.out, HD.out, putGo_eq (x := ⟨v, g⟩) rfl, List.append_assoc]; rfl)
          clear HP HD
          go_upto_region 12 with (fail)
          go_loopw [11, 12] (fun al j wi => ∃ (q : Nat) (xs : List Int) (A' : Option Addr) (c' : Nat), q ≤ ps.length ∧ j = .int .i64 q ∧ al = .slice A' xs.length c' ∧ xs.length ≤ c' ∧ xs.length ≤ 1000000 + q ∧ Hid (xs = insAll g (ps.take q)) ∧ Aside0 (Kd.F (Kd.int .i64) wi (fun y => (okp y ∧ y < w.heap.size) ∨ Bx + 1 ≤ y) A' xs.length xs) ∧ Aside0 (Below (Bx + 1) W0 wi))
            (fun _ j _ => ps.length - (intOf j).toNat)
          case atStart => exact ⟨0, g, A1, c1, Nat.zero_le _, rfl, rfl, HL1.out, by omega, Lib.hid rfl, ⟨Kd.F_mono HFX0.out (fun y hy => .inl hy)⟩, ⟨Below.refl _ _⟩⟩
          case round =>
            obtain ⟨q, xs, A', c', hq, rfl, rfl, hxc, hxl, HX, HF, HW⟩ := hrel
            have HS1 := Aside0.mk (show Bx + 1 ≤ wr.heap.size by have := HW.out.size; have := HS0.out; omega)
            by_cases hql : q < ps.length
            · obtain ⟨pd, rfl, hpx⟩ := Kd.at_int (Kd.F_now (Kd.F_below HBF.out (HBL.out.trans (HW.out.mono (by omega))))) (q : Int) (by omega) (by omega)
              rw [Int.toNat_natCast, rd_at ps q hql] at hpx
              have HWI := Aside0.mk (with_any xs ps[q] A' c' wr (Kd.F_now HF.out) hxc (by omega))
              have HTS := Lib.hid (List.take_succ_eq_append_getElem hql)
              obtain ⟨n, hn⟩ : ∃ n, ps[q] = n := ⟨_, rfl⟩
              rw [hn] at hpx HWI HTS
              clear hn
              have hqc : q ≤ cb := by have := HCB.out; omega
              go_wp2_with (go_at_call 70; (refine HWI.out.mono ?_); rintro e w4 ⟨u4, rfl, hu4, hb4⟩; obtain ⟨UA, uc, rfl⟩ := Kd.R_slice hu4)
              go_roundw
              case rel =>
                refine ⟨q + 1, insI xs n, UA, uc, by omega, by go_num, rfl, (Kd.R_reads' hu4).2.1, by rw [insI_length]; omega, Lib.hid (by rw [HTS.out, insAll_snoc, ← HX.out]), ⟨?_⟩, ⟨HW.out.trans (hb4.mono HS1.out)⟩⟩
                exact Kd.F_mono (Kd.R_F (Kd.R_mono (Kd.R_bound hu4) (fun y hy => hy.2.1))) (fun y hy => .inr (Nat.le_trans HS1.out hy))
              case measure => simp [intOf]; omega
            · obtain rfl : q = ps.length := by omega
              have HXE := Lib.hid (show xs = insAll g ps by have := HX.out; rw [List.take_length] at this; exact this)
              have hBk := HBK.out
              have hBk2 : wr.heap[Bx]? = some (.cells #[.int .i64 v, .slice A1 g.length c1] 64 (0, 0)) := (HW.out.block Bx (by omega)).trans hBk
              have d0 : wr.cell? ⟨Bx, 0, none⟩ = some (.int .i64 v) := (blk_cell hBk2 0).trans rfl
              have d1 : wr.cell? ⟨Bx, 1, none⟩ = some (.slice A1 g.length c1) := (blk_cell hBk2 1).trans rfl
              have e0 := blk_frozen hBk2 0
              have e1 := blk_frozen hBk2 1
              clear hBk b0 b1
              go_upto_region 16 with (fail)
              have hn5 := Kd.N_far (p := ⟨Bx, 1, none⟩) (Kd.N_far (p := ⟨Bx, 0, none⟩) (Kd.N_below HN0.out (HS0.out ▸ HW.out)) (fun y hy e => by have h1 : y < Bx := hy.2; have h2 : y = Bx := e; omega) (.int .i64 v)) (fun y hy e => by have h1 : y < Bx := hy.2; have h2 : y = Bx := e; omega) (.slice A' xs.length c')
              have hf5 := Kd.F_far (p := ⟨Bx, 1, none⟩) (Kd.F_far (p := ⟨Bx, 0, none⟩) HF.out (fun y hy e => by have h2 : y = Bx := e; exact hy.elim (fun h1 => by have := h1.2; omega) (fun h1 => by omega)) (.int .i64 v)) (fun y hy e => by have h2 : y = Bx := e; exact hy.elim (fun h1 => by have := h1.2; omega) (fun h1 => by omega)) (.slice A' xs.length c')
              have hb5 := ((HBL.out.trans (HW.out.mono (by omega))).setCell (p := ⟨Bx, 0, none⟩) hwb (.int .i64 v)).setCell (p := ⟨Bx, 1, none⟩) hwb (.slice A' xs.length c')
              have hk5 : ((wr.setCell ⟨Bx, 0, none⟩ (.int .i64 v)).setCell ⟨Bx, 1, none⟩ (.slice A' xs.length c')).heap[Bx]? = some (.cells #[.int .i64 v, .slice A' xs.length c'] 64 (0, 0)) := blk_put (blk_put hBk2 0 _ rfl) 1 _ rfl
              obtain ⟨W5, hW5⟩ : ∃ W5, (wr.setCell ⟨Bx, 0, none⟩ (.int .i64 v)).setCell ⟨Bx, 1, none⟩ (.slice A' xs.length c') = W5 := ⟨_, rfl⟩
              rw [hW5] at hn5 hf5 hb5 hk5 ⊢
              have f0 : W5.cell? ⟨Bx, 0, none⟩ = some (.int .i64 v) := (blk_cell hk5 0).trans rfl
              have f1 : W5.cell? ⟨Bx, 1, none⟩ = some (.slice A' xs.length c') := (blk_cell hk5 1).trans rfl
              have HN5 := Aside0.mk (Kd.N_mono (ok' := fun y => okp y ∨ w.heap.size ≤ y) hn5 (fun y hy => hy.1))
              have HB5 := Aside0.mk hb5
              have HFK := Aside0.mk (k64_mkF W5 _ (⟨v, xs⟩ : S64) hxc hf5)
              have HOK := Aside0.mk (show ∀ y, ((okp y ∧ y < w.heap.size) ∨ Bx + 1 ≤ y) → (okp y ∨ w.heap.size ≤ y) ∧ some y ≠ (Value.slice O dn.length co).ownBlock from fun y hy => ⟨hy.elim (fun h => .inl h.1) (fun h => .inr (by omega)), fun e => by have := HOW.out y e.symm; exact hy.elim (fun h => by have := h.2; omega) (fun h => by omega)⟩)
              clear hn5 hf5 hb5 hk5 hW5 hBk2 d0 d1 e0 e1
              go_wp2_with (at_builtin; refine Kd.N_append k64 (w0 := w) w.heap.size rfl (.tmp 62) (.tmp 64) 26 64 (.agg #[.int .i64 0, .slice none 0 0]) 32 rfl Tryz.underlying26 info64 rfl (by decide) (by decide) (.slice O dn.length co) dn (⟨v, xs⟩ : S64) [.int .i64 v, .slice A' xs.length c'] (fun y => okp y ∨ w.heap.size ≤ y) (fun y => (okp y ∧ y < w.heap.size) ∨ Bx + 1 ≤ y) rfl rfl HFK.out HOK.out (fun y hy => .inr (Nat.le_trans HB5.out.size hy)) HN5.out HB5.out HB5.out.size (by have := HLD.out; omega) ?_; intro v6 w6 hn6 hb6 hg6 hat6)
              go_roundw
              case rel => exact ⟨k + 1, dn ++ [⟨v, xs⟩], true, by omega, by go_num, rfl, Lib.hid (by rw [HXE.out]; exact HPE.out), by simp; omega, ⟨hn6⟩, ⟨hb6⟩⟩
              case measure => simp [intOf]; omega
        · have hev : (v == ver) = false := beq_eq_false_iff_ne.2 he
          have hpo : w.heap.size ≤ W0.heap.size := by have := HS0.out; omega
          have HPO := Aside0.mk hpo
          have HOKL : ∀ (u : Value) (base : Nat), (∀ y, u.ownBlock = some y → w.heap.size ≤ y) → ∀ y, (okp y ∧ y < w.heap.size) → (okp y ∨ w.heap.size ≤ y) ∧ some y ≠ u.ownBlock := fun u _ h y hy => ⟨.inl hy.1, fun e => by have := h y e.symm; have := hy.2; omega⟩
          have HOK0 := Aside0.mk (HOKL (.slice O dn.length co) 0 (fun y hy => (HOW.out y hy).1))
          have HN1 := Aside0.mk (Kd.N_mono (ok' := fun y => okp y ∨ w.heap.size ≤ y) HN0.out (fun y hy => hy.1))
          have HFKX := Aside0.mk (k64_mkF W0 _ (⟨v, g⟩ : S64) HL1.out HFX0.out)
          clear hpo
          by_cases hg : ver < v ∧ db = false
          · obtain ⟨hvv, rfl⟩ := hg
            have hdv : decide (ver < v) = true := decide_eq_true hvv
            have HPE := Lib.hid (show R = (dn ++ [(⟨ver, ps⟩ : S64)] ++ [⟨v, g⟩]) ++ putGo ver ps true (l.drop (k + 1)) by rw [HP.out, HD.out, putGo_gt (x := ⟨v, g⟩) hvv, List.append_assoc, List.append_assoc]; rfl)
            have HFKP := Aside0.mk (k64_mkF W0 _ (⟨ver, ps⟩ : S64) HCB.out (Kd.F_below HBF.out HBL.out))
            clear HP HD
            go_upto_region 20 with (at_builtin; refine Kd.N_append k64 (w0 := w) w.heap.size rfl (.tmp 56) (.tmp 60) 26 64 (.agg #[.int .i64 0, .slice none 0 0]) 32 rfl Tryz.underlying26 info64 rfl (by decide) (by decide) (.slice O dn.length co) dn (⟨ver, ps⟩ : S64) [.int .i64 ver, .slice B ps.length cb] (fun y => okp y ∨ w.heap.size ≤ y) (fun y => okp y ∧ y < w.heap.size) rfl rfl HFKP.out HOK0.out (fun y hy => .inr (Nat.le_trans HPO.out hy)) HN1.out HBL.out HPO.out (by have := HLD.out; omega) ?_; intro v6 w6 hn6 hb6 hg6 hat6)
            have hbk6 := blk_grown HBK.out hg6 (fun e => by have := HOW.out Bx e.symm; omega)
            have f0 : w6.cell? ⟨Bx, 0, none⟩ = some (.int .i64 v) := (blk_cell hbk6 0).trans rfl
            have f1 : w6.cell? ⟨Bx, 1, none⟩ = some (.slice A1 g.length c1) := (blk_cell hbk6 1).trans rfl
            obtain ⟨d2, hd2⟩ : ∃ d, dn ++ [(⟨ver, ps⟩ : S64)] = d := ⟨_, rfl⟩
            rw [hd2] at hn6 HPE
            have hdl : d2.length = dn.length + 1 := by rw [← hd2]; simp
            have HDL := Lib.hid hdl
            obtain ⟨O6, c6, rfl⟩ := Kd.N_slice hn6
            clear hd2 hdl
            have HN6 := Aside0.mk hn6
            have HB6 := Aside0.mk hb6
            have HOK6 := Aside0.mk (HOKL (.slice O6 d2.length c6) 0 (fun y hy => Kd.N_base hn6 y hy))
            have HFK6 := Aside0.mk (k64_mkF w6 (fun y => okp y ∧ y < w.heap.size) (⟨v, g⟩ : S64) HL1.out (Kd.F_step HFX.out (fun y hy _ => (hb6.block y hy.2).trans (HB.out.block y hy.2).symm)))
            clear hn6 hb6 hg6 hat6 hbk6 b0 b1
            go_wp2_with (at_builtin; refine Kd.N_append k64 (w0 := w) w.heap.size rfl (.tmp 62) (.tmp 64) 26 64 (.agg #[.int .i64 0, .slice none 0 0]) 32 rfl Tryz.underlying26 info64 rfl (by decide) (by decide) (.slice O6 d2.length c6) d2 (⟨v, g⟩ : S64) [.int .i64 v, .slice A1 g.length c1] (fun y => okp y ∨ w.heap.size ≤ y) (fun y => okp y ∧ y < w.heap.size) rfl rfl HFK6.out HOK6.out (fun y hy => .inr (Nat.le_trans HB6.out.size hy)) HN6.out HB6.out HB6.out.size (by have := HLD.out; have := HDL.out; omega) ?_; intro v7 w7 hn7 hb7 hg7 hat7)
            go_roundw
            case rel => exact ⟨k + 1, d2 ++ [⟨v, g⟩], true, by omega, by go_num, rfl, Lib.hid HPE.out, by rw [List.length_append, HDL.out]; simp; omega, ⟨hn7⟩, ⟨hb7⟩⟩
            case measure => simp [intOf]; omega
          · have HPE := Lib.hid (show R = (dn ++ [(⟨v, g⟩ : S64)]) ++ putGo ver ps db (l.drop (k + 1)) by
              rw [HP.out, HD.out, putGo_else (x := ⟨v, g⟩) he (fun h => by cases db with | true => rfl | false => exact absurd ⟨h, rfl⟩ hg), List.append_assoc]
              rfl)
            clear HP HD
            by_cases hvv : ver < v
            · have hdv : decide (ver < v) = true := decide_eq_true hvv
              obtain rfl : db = true := by cases db with | true => rfl | false => exact absurd ⟨hvv, rfl⟩ hg
              clear hg
              go_wp2_with (at_builtin; refine Kd.N_append k64 (w0 := w) w.heap.size rfl (.tmp 62) (.tmp 64) 26 64 (.agg #[.int .i64 0, .slice none 0 0]) 32 rfl Tryz.underlying26 info64 rfl (by decide) (by decide) (.slice O dn.length co) dn (⟨v, g⟩ : S64) [.int .i64 v, .slice A1 g.length c1] (fun y => okp y ∨ w.heap.size ≤ y) (fun y => okp y ∧ y < w.heap.size) rfl rfl HFKX.out HOK0.out (fun y hy => .inr (Nat.le_trans HPO.out hy)) HN1.out HBL.out HPO.out (by have := HLD.out; omega) ?_; intro v6 w6 hn6 hb6 hg6 hat6)
              go_roundw
              case rel => exact ⟨k + 1, dn ++ [⟨v, g⟩], true, by omega, by go_num, rfl, Lib.hid HPE.out, by simp; omega, ⟨hn6⟩, ⟨hb6⟩⟩
              case measure => simp [intOf]; omega
            · have hdv : decide (ver < v) = false := decide_eq_false hvv
              clear hg
              go_wp2_with (at_builtin; refine Kd.N_append k64 (w0 := w) w.heap.size rfl (.tmp 62) (.tmp 64) 26 64 (.agg #[.int .i64 0, .slice none 0 0]) 32 rfl Tryz.underlying26 info64 rfl (by decide) (by decide) (.slice O dn.length co) dn (⟨v, g⟩ : S64) [.int .i64 v, .slice A1 g.length c1] (fun y => okp y ∨ w.heap.size ≤ y) (fun y => okp y ∧ y < w.heap.size) rfl rfl HFKX.out HOK0.out (fun y hy => .inr (Nat.le_trans HPO.out hy)) HN1.out HBL.out HPO.out (by have := HLD.out; omega) ?_; intro v6 w6 hn6 hb6 hg6 hat6)
              go_roundw
              case rel => exact ⟨k + 1, dn ++ [⟨v, g⟩], db, by omega, by go_num, rfl, Lib.hid HPE.out, by simp; omega, ⟨hn6⟩, ⟨hb6⟩⟩
              case measure => simp [intOf]; omega
      · obtain rfl : k = l.length := by omega
        have hdr : l.drop l.length = [] := List.drop_length
        obtain ⟨O, co, hO⟩ := Kd.N_slice HN.out
        subst hO
        cases db with
        | true =>
          have HE := Lib.hid (show R = dn by rw [HP.out, hdr, putGo, if_pos rfl, List.append_nil])
          clear hdr HP
          go_wp2
          go_ret
          have h2 := (Kd.N_reads' HN.out).2.1
          have h3 := Kd.N_F HN.out
          rw [HE.out]
          exact ⟨O, co, rfl, h2, h3, HB.out⟩
        | false =>
          have HE := Lib.hid (show R = dn ++ [⟨ver, ps⟩] by rw [HP.out, hdr, putGo, if_neg (by simp)])
          have HFKP := Aside0.mk (k64_mkF wr _ (⟨ver, ps⟩ : S64) HCB.out (Kd.F_below HBF.out HB.out))
          have HOK0 := Aside0.mk (show ∀ y, (okp y ∧ y < w.heap.size) → (okp y ∨ w.heap.size ≤ y) ∧ some y ≠ (Value.slice O dn.length co).ownBlock from fun y hy => ⟨.inl hy.1, fun e => by have := Kd.N_base HN.out y e.symm; have := hy.2; omega⟩)
          have HLD := Aside0.mk (show (dn.length + 1) * 32 ≤ 140737488355328 by omega)
          have HPO := Aside0.mk HB.out.size
          clear hdr HP
          go_wp2_with (at_builtin; refine Kd.N_append k64 (w0 := w) w.heap.size rfl (.tmp 68) (.tmp 72) 26 64 (.agg #[.int .i64 0, .slice none 0 0]) 32 rfl Tryz.underlying26 info64 rfl (by decide) (by decide) (.slice O dn.length co) dn (⟨ver, ps⟩ : S64) [.int .i64 ver, .slice B ps.length cb] (fun y => okp y ∨ w.heap.size ≤ y) (fun y => okp y ∧ y < w.heap.size) rfl rfl HFKP.out HOK0.out (fun y hy => .inr (Nat.le_trans HPO.out hy)) HN.out HB.out HPO.out HLD.out ?_; intro v6 w6 hn6 hb6 hg6 hat6)
          obtain ⟨O6, c6, rfl⟩ := Kd.N_slice hn6
          go_ret
          have h2 := (Kd.N_reads' hn6).2.1
          have h3 := Kd.N_F hn6
          rw [HE.out]
          exact ⟨O6, c6, rfl, h2, h3, hb6⟩
end Go.Proofs.YtpnhelcemodnmaaGreat

/- The reference's Merge. -/
namespace Go.Proofs.YtpnhelcemodnmaaGreat
open Go.RowKit Go.Shelf Go.Proofs.YtpnhelcemodnmaaGreatW.PrintWords Go.Proofs.YtpnhelcemodnmaaGreatW.PrintLast Go.Proofs.YtpnhelcemodnmaaGreatW.PrintMore PA
set_option linter.unusedVariables false
set_option linter.unusedSimpArgs false
attribute [local go_sem] Oper.semAt_some
def tinyL (l : List S64) : Prop := l.length ≤ 1000 ∧ (pagesOf l).length ≤ 1000
theorem tiny_small {l : List S64} (h : tinyL l) : smallL l := ⟨by have := h.1; omega, by have := h.2; omega⟩
theorem isv_any (l : List S64) (A : Option Addr) (c : Nat) (w : World) (hC : k64.C w A l.length l) (hc : l.length ≤ c) (hs : smallL l) :
    Calls Tryz.prog 58 #[.slice A l.length c, .int .i64 4096] w fun e w' => e = .returned (.bool (validB 4096 l)) ∧ Below w.heap.size w w' := by
  have := is_any l 4096 A c w hC hc (by omega) (by omega) hs
  rw [is_valid l 4096 ⟨by omega, by omega⟩] at this
  exact this
theorem load51 {w : World} {g : Nat} {x y : Value} (h : w.heap[g]? = some (.cells #[x, y] 51 (0, 0))) : (loadVar 51 ⟨g, 0, none⟩).run Tryz.prog w = .ok (.agg #[x, y]) w := by
  have h0 : w.cell? ⟨g, 0, none⟩ = some x := (blk_cell h 0).trans rfl
  have h1 : w.cell? ⟨g, 1, none⟩ = some y := (blk_cell h 1).trans rfl
  go_simp
/-- What the reference's Merge answers. -/
def MergeR (w : World) (la lb : List S64) (e : Ending) (w' : World) : Prop := (mergeOk la lb = false ∧ e = .returned (.agg #[.slice none 0 0, .int .i64 2]) ∨ mergeOk la lb = true ∧ ∃ O oc, e = .returned (.agg #[.slice O (mergeL la lb).length oc, .int .i64 0]) ∧ (mergeL la lb).length ≤ oc ∧ k64.C w' O (mergeL la lb).length (mergeL la lb)) ∧ Below w.heap.size w w'
theorem valid_ord {l : List S64} (h : validB 4096 l = true) : ordL l ∧ (∀ f ∈ l, f.f1.Pairwise (· ≤ ·)) ∧ (∀ f ∈ l, f.f1 ≠ []) ∧ ∀ x ∈ pagesOf l, 2 ≤ x ∧ x ≤ 4095 := by
  have h2 := of_decide_eq_true h
  refine ⟨h2.2.1.2, fun f hf => (h2.2.1.1 f hf).2.2.2.2.imp (fun h => by omega), fun f hf => (h2.2.1.1 f hf).2.2.1, fun x hx => ?_⟩
  unfold pagesOf at hx
  obtain ⟨y, hy, rfl⟩ := List.mem_map.1 hx
  exact form_page h2.2.1 y hy
theorem puts_snoc {la lb : List S64} (k : Nat) (h : k < lb.length) (hne : ∀ f ∈ lb, f.f1 ≠ []) : putsL la (lb.take (k + 1)) = putR (rd_T64 lb (k : Int)).f0 (rd_T64 lb (k : Int)).f1 (putsL la (lb.take k)) := by
  have hx := hne _ (List.getElem_mem h)
  rw [rd_nat lb k h, putR, if_neg hx]
  unfold putsL
  rw [List.take_succ_eq_append_getElem h, List.foldl_append]
  rfl
theorem puts_len {la lb : List S64} (k : Nat) (ha : validB 4096 la = true) (hb : validB 4096 lb = true) (ta : tinyL la) (tb : tinyL lb) : smallL (putsL la (lb.take k)) := by
  obtain ⟨oa, sa, _, _⟩ := valid_ord ha
  obtain ⟨ob, sb, _, _⟩ := valid_ord hb
  have ob' : ordL (lb.take k) := by
    have e : lb.take k ++ lb.drop k = lb := List.take_append_drop k lb
    rw [← e] at ob
    exact ordL_front ob
  rw [(puts_merge oa sa (lb.take k) ob' (fun f hf => sb f (List.mem_of_mem_take hf))).1]
  have h1 := merge_length la (lb.take k)
  have h2 := merge_pages la (lb.take k)
  have h3 := pages_take_le lb k
  have := ta.1; have := ta.2; have := tb.1; have := tb.2
  refine ⟨?_, ?_⟩
  · have : (lb.take k).length ≤ lb.length := by rw [List.length_take]; omega
    omega
  · omega
theorem pages_take_succ (l : List S64) (k : Nat) (h : k < l.length) : pagesOf (l.take (k + 1)) = pagesOf (l.take k) ++ (rd_T64 l (k : Int)).f1 := by
  rw [take_rd l k h, pages_append, pages_one]
set_option maxRecDepth 100000 in
set_option maxHeartbeats 1000000 in
theorem rmerge25 (la lb : List S64) (A : Option Addr) (ca : Nat) (B : Option Addr) (cb : Nat) (w : World) (hA : k64.C w A la.length la) (hca : la.length ≤ ca) (hB : k64.C w B lb.length lb) (hcb : lb.length ≤ cb) (ha : tinyL la) (hb : tinyL lb) :
    Calls Tryz.prog 25 #[.slice A la.length ca, .slice B lb.length cb] w (MergeR w la lb) := by
  have HIA := Lib.hid (fun (w1 : World) (h1 : Below w.heap.size w w1) => isv_any la A ca w1 (Kd.C_below hA h1) hca (tiny_small ha))
  have HIB := Lib.hid (fun (w1 : World) (h1 : Below w.heap.size w w1) => isv_any lb B cb w1 (Kd.C_below hB h1) hcb (tiny_small hb))
  have hb0 := below_alloc1 w (.cells #[.slice none 0 0, .int .i64 0] 51)
  have hk0 := blk_new w (.cells #[.slice none 0 0, .int .i64 0] 51)
  have HB0 := Aside0.mk hb0
  have HK0 := Aside0.mk hk0
  clear hb0 hk0
  by_cases va : validB 4096 la = true
  · rw [va] at HIA
    by_cases vb : validB 4096 lb = true
    · rw [vb] at HIB
      have HVA := Lib.hid va
      have HVB := Lib.hid vb
      have HA := Aside0.mk hA
      have HB := Aside0.mk hB
      have HTA := Aside0.mk ha
      have HTB := Aside0.mk hb
      have hla := ha.1
      have hlb := hb.1
      have HSA := Aside0.mk (small_each (tiny_small ha))
      have HSB := Aside0.mk (small_each (tiny_small hb))
      clear va vb hA hB ha hb
      go_enter Tryz.func25, Tryz.ntmps25
      go_upto_region 3 with (first
        | (go_at_call 58; (with_reducible refine (HIA.out _ HB0.out).mono ?_); rintro e w1 ⟨rfl, hb1⟩)
        | (go_at_call 58; (with_reducible refine (HIB.out _ (HB0.out.trans (hb1.mono HB0.out.size))).mono ?_); rintro e w2 ⟨rfl, hb2⟩))
      have hB2 : Below w.heap.size w w2 := (HB0.out.trans (hb1.mono HB0.out.size)).trans (hb2.mono (HB0.out.trans (hb1.mono HB0.out.size)).size)
      have hK2 := blk_below (blk_below HK0.out hb1) hb2
      have hs2 : w.heap.size + 1 ≤ w2.heap.size := by have := blk_lt hK2; omega
      have HB2 := Aside0.mk hB2
      have HK2 := Aside0.mk hK2
      have HS2 := Aside0.mk hs2
      clear hb1 hb2 hB2 hK2 hs2 HIA HIB
      go_upto_region 6 with ((with_reducible refine gate_dst (N := 20) rfl ?_); refine Kd.R_make Kd.bool (w0 := w2) (w.heap.size + 1) 4 rfl (N := 20) rfl 123 _ _ rfl 4096 rfl rfl Tryz.underlying123 (.bool false) 1 info4 rfl (by decide) (by omega) false (ok := fun _ => True) (okp := fun _ => True) rfl (fun _ hk => hk) trivial (by omega) (by decide) (Below.refl _ _) HS2.out ?_; intro v5 w5 ho5 hb5 hg5 hn5)
      rw [show List.replicate (4096 : Int).toNat false = metOf 4096 [] from (metOf_nil 4096).symm] at ho5
      have hml : (metOf 4096 []).length = 4096 := by rw [metOf_length]; rfl
      obtain ⟨g, mc, hv5, hbg, hgs, _⟩ := Kd.R_form ho5 (by rw [hml]; decide)
      rw [hml] at hv5
      clear hml
      subst hv5
      have HO5 := Aside0.mk ho5
      have HB5 := Aside0.mk (HB2.out.trans (hb5.mono (by omega)))
      have HK5 := Aside0.mk (blk_grown HK2.out hg5 (by simp))
      clear ho5 hb5 hg5 hn5
      go_loopw [7] (fun i wr => ∃ k : Nat, k ≤ la.length ∧ i = .int .i64 k ∧ Aside0 (Kd.bool.R 4 wr (w.heap.size + 1) (fun _ => True) (.slice (some ⟨g, 0, none⟩) 4096 mc) (metOf 4096 (pagesOf (la.take k)))) ∧ Aside0 (Below w.heap.size w wr) ∧ Aside0 (wr.heap[w.heap.size]? = some (.cells #[.slice none 0 0, .int .i64 0] 51 (0, 0))))
        (fun i _ => la.length - (intOf i).toNat)
      case atStart => exact ⟨0, Nat.zero_le _, rfl, HO5, HB5, HK5⟩
      case round =>
        clear HO5 HB5 HK5
        obtain ⟨k, hk, rfl, HO, HBW, HK⟩ := hrel
        by_cases hlt : k < la.length
        · have HPT := Lib.hid (pages_take_succ la k hlt)
          have HLT := Aside0.mk hlt
          have hgl := HSA.out _ (List.getElem_mem hlt)
          rw [← rd_nat la k hlt] at hgl
          have hpx : ∀ x ∈ (rd_T64 la (k : Int)).f1, 2 ≤ x ∧ x ≤ 4095 := fun x hx => (valid_ord HVA.out).2.2.2 x (by
            have e : pagesOf la = pagesOf (la.take (k + 1)) ++ pagesOf (la.drop (k + 1)) := by rw [← pages_append, List.take_append_drop]
            rw [e, HPT.out]
            simp [hx])
          have HPX := Lib.hid hpx
          clear hpx
          go_upto_region 9 with (fail)
          go_loopw [8] (fun j wi => ∃ q : Nat, q ≤ (rd_T64 la (k : Int)).f1.length ∧ j = .int .i64 q ∧ Aside0 (Kd.bool.R 4 wi (w.heap.size + 1) (fun _ => True) (.slice (some ⟨g, 0, none⟩) 4096 mc) (metOf 4096 (pagesOf (la.take k) ++ (rd_T64 la (k : Int)).f1.take q))) ∧ Aside0 (Below w.heap.size w wi) ∧ Aside0 (wi.heap[w.heap.size]? = some (.cells #[.slice none 0 0, .int .i64 0] 51 (0, 0))))
            (fun j _ => (rd_T64 la (k : Int)).f1.length - (intOf j).toNat)
          case atStart => exact ⟨0, Nat.zero_le _, rfl, ⟨by rw [List.take_zero, List.append_nil]; exact HO.out⟩, HBW, HK⟩
          case round =>
            clear HO HBW HK
            obtain ⟨q, hq, rfl, HO, HBW, HK⟩ := hrel
            have hlt := HLT.out
            obtain ⟨ad, A1, c1, rfl, hx0, hx1, hl1, hC1⟩ := at_T64 (Kd.C_below HA.out HBW.out) (k : Int) (by omega) (by omega)
            rw [Int.toNat_natCast] at hx0 hx1
            have hkk : (k : Int) < (la.length : Int) := by omega
            by_cases hql : q < (rd_T64 la (k : Int)).f1.length
            · obtain ⟨pd, rfl, hp⟩ := Kd.at_int hC1 (q : Int) (by omega) (by omega)
              rw [Int.toNat_natCast, rd_at _ q hql] at hp
              have hn := HPX.out _ (List.getElem_mem hql)
              have HTS := Lib.hid (List.take_succ_eq_append_getElem hql)
              obtain ⟨n, hnn⟩ : ∃ n, (rd_T64 la (k : Int)).f1[q] = n := ⟨_, rfl⟩
              rw [hnn] at hp hn HTS
              obtain ⟨y0, z0⟩ := Kd.R_celln false HO.out n (by omega) (by omega)
              have HPG := Aside0.mk (Kd.R_putg HO.out n true)
              have hq2 : (q : Int) < ((rd_T64 la (k : Int)).f1.length : Int) := by omega
              have hn0 : 0 ≤ n := by omega
              have hn4 : n < 4096 := by omega
              clear hnn hC1 hx0
              go_wp2
              go_roundw
              case rel =>
                refine ⟨q + 1, by omega, by go_num, ⟨?_⟩, ⟨HBW.out.setCell (p := ⟨g, n.toNat, none⟩) (by show w.heap.size ≤ g; omega) _⟩, ⟨blk_far HK.out (p := ⟨g, n.toNat, none⟩) (by show w.heap.size ≠ g; omega) _⟩⟩
                rw [HTS.out, ← List.append_assoc, ← metOf_set 4096 _ n hn0 hn4]
                exact HPG.out.1
              case measure => simp [intOf]; omega
            · obtain rfl : q = (rd_T64 la (k : Int)).f1.length := by omega
              have HO2 := Aside0.mk (show Kd.bool.R 4 wr (w.heap.size + 1) (fun _ => True) (.slice (some ⟨g, 0, none⟩) 4096 mc) (metOf 4096 (pagesOf (la.take (k + 1)))) by have := HO.out; rw [List.take_length, ← HPT.out] at this; exact this)
              clear HO hC1 hx0
              go_wp2
              go_roundw
              case rel => exact ⟨k + 1, by have := HLT.out; omega, by go_num, HO2, HBW, HK⟩
              case measure => have := HLT.out; simp [intOf]; omega
        · obtain rfl : k = la.length := by omega
          have HO1 := Aside0.mk (show Kd.bool.R 4 wr (w.heap.size + 1) (fun _ => True) (.slice (some ⟨g, 0, none⟩) 4096 mc) (metOf 4096 (pagesOf la)) by have := HO.out; rw [List.take_length] at this; exact this)
          clear HO
          go_upto_region 13 with (fail)
          go_loopw [6, 9] (fun o i wr => ∃ (k : Nat) (O : Option Addr) (oc : Nat) (r : List S64), k ≤ lb.length ∧ i = .int .i64 k ∧ o = .slice O r.length oc ∧ r.length ≤ oc ∧ Hid (r = putsL la (lb.take k)) ∧ Hid (∀ x ∈ pagesOf (lb.take k), ¬ x ∈ pagesOf la) ∧ Aside0 (Kd.F k64 wr (fun y => y ≠ w.heap.size) O r.length r) ∧ Aside0 (Kd.bool.R 4 wr (w.heap.size + 1) (fun _ => True) (.slice (some ⟨g, 0, none⟩) 4096 mc) (metOf 4096 (pagesOf la))) ∧ Aside0 (Below w.heap.size w wr) ∧ Aside0 (wr.heap[w.heap.size]? = some (.cells #[.slice none 0 0, .int .i64 0] 51 (0, 0))))
            (fun _ i _ => lb.length - (intOf i).toNat)
          case atStart => exact ⟨0, A, ca, la, Nat.zero_le _, rfl, rfl, hca, Lib.hid rfl, Lib.hid (by simp [pagesOf, flat]), ⟨Kd.F_mono (Kd.F_below (Kd.C_F k64_heap HA.out) HBW.out) (fun y hy => by omega)⟩, HO1, HBW, HK⟩
          case round =>
            clear HO1 HBW HK
            obtain ⟨k, O, oc, r, hk, rfl, rfl, hrc, HR, HNO, HF, HO, HBW, HK⟩ := hrel
            have hlk := blk_lt HK.out
            by_cases hlt : k < lb.length
            · have HLT := Aside0.mk hlt
              have hgl := HSB.out _ (List.getElem_mem hlt)
              rw [← rd_nat lb k hlt] at hgl
              go_upto_region 16 with (fail)
              go_loop [10] (fun j => ∃ q : Nat, q ≤ (rd_T64 lb (k : Int)).f1.length ∧ j = .int .i64 q ∧ Hid (∀ x ∈ (rd_T64 lb (k : Int)).f1.take q, ¬ x ∈ pagesOf la))
                (fun j => (rd_T64 lb (k : Int)).f1.length - (intOf j).toNat)
              case atStart => exact ⟨0, Nat.zero_le _, rfl, Lib.hid (by simp)⟩
              case round =>
                obtain ⟨q, hq, rfl, HQ⟩ := hrel
                have hlt := HLT.out
                have HFE := elem_F (Kd.F_below (Kd.C_F k64_heap HB.out) HBW.out) k hlt
                obtain ⟨ad, A1, c1, rfl, hx0, hx1, hl1, hF1⟩ := HFE
                have hC1 := Kd.F_now hF1
                have hkk : (k : Int) < (lb.length : Int) := by omega
                by_cases hql : q < (rd_T64 lb (k : Int)).f1.length
                · obtain ⟨pd, rfl, hp⟩ := Kd.at_int hC1 (q : Int) (by omega) (by omega)
                  rw [Int.toNat_natCast, rd_at _ q hql] at hp
                  have hmem : (rd_T64 lb (k : Int)).f1[q] ∈ pagesOf lb := by
                    have e : pagesOf lb = pagesOf (lb.take (k + 1)) ++ pagesOf (lb.drop (k + 1)) := by rw [← pages_append, List.take_append_drop]
                    rw [e, pages_take_succ lb k hlt]
                    simp
                  have hn := (valid_ord HVB.out).2.2.2 _ hmem
                  have HTS := Lib.hid (List.take_succ_eq_append_getElem hql)
                  obtain ⟨n, hnn⟩ : ∃ n, (rd_T64 lb (k : Int)).f1[q] = n := ⟨_, rfl⟩
                  rw [hnn] at hp hn HTS hmem
                  have HMEM := Aside0.mk hmem
                  obtain ⟨y0, z0⟩ := Kd.R_celln false HO.out n (by omega) (by omega)
                  rw [metOf_at 4096 _ n (by omega) (by omega)] at y0
                  have hq2 : (q : Int) < ((rd_T64 lb (k : Int)).f1.length : Int) := by omega
                  have hn0 : 0 ≤ n := by omega
                  have hn4 : n < 4096 := by omega
                  clear hnn hC1 hF1 hx0 hmem
                  by_cases hin : n ∈ pagesOf la
                  · have HIN := Aside0.mk hin
                    replace y0 : wr.cell? ⟨g, n.toNat, none⟩ = some (.bool true) := by rw [y0]; simp [hin]
                    clear hin
                    have hc0 := (blk_cell HK.out 0).trans rfl
                    have hc1 := (blk_cell HK.out 1).trans rfl
                    have hz0 := blk_frozen HK.out 0
                    have hz1 := blk_frozen HK.out 1
                    go_wp2
                    refine bodyPost_ret (results_one rfl _ _ _ _ rfl (load51 (blk_put (blk_put HK.out 0 (.slice none 0 0) rfl) 1 (.int .i64 2) rfl))) rfl ?_
                    refine ⟨.inl ⟨?_, rfl⟩, (HBW.out.setCell (p := ⟨w.heap.size, 0, none⟩) (Nat.le_refl _) _).setCell (p := ⟨w.heap.size, 1, none⟩) (Nat.le_refl _) _⟩
                    unfold mergeOk
                    rw [HVA.out, HVB.out, Bool.true_and, Bool.true_and]
                    exact decide_eq_false (fun h => (merge_valid (of_decide_eq_true HVA.out) (of_decide_eq_true HVB.out)).1 h n HMEM.out HIN.out)
                  · have HIN := Aside0.mk hin
                    replace y0 : wr.cell? ⟨g, n.toNat, none⟩ = some (.bool false) := by rw [y0]; simp [hin]
                    clear hin
                    have HQL := Aside0.mk hql
                    go_wp2
                    go_round
                    case rel =>
                      refine ⟨q + 1, by have := HQL.out; omega, by go_num, Lib.hid (fun x hx => ?_)⟩
                      rw [HTS.out] at hx
                      rcases List.mem_append.1 hx with hx | hx
                      · exact HQ.out x hx
                      · rw [List.mem_singleton.1 hx]; exact HIN.out
                    case measure => have := HQL.out; simp [intOf]; omega
                · obtain rfl : q = (rd_T64 lb (k : Int)).f1.length := by omega
                  have HNX := Lib.hid (show ∀ x ∈ pagesOf (lb.take (k + 1)), ¬ x ∈ pagesOf la by
                    intro x hx
                    rw [pages_take_succ lb k hlt] at hx
                    rcases List.mem_append.1 hx with hx | hx
                    · exact HNO.out x hx
                    · have := HQ.out; rw [List.take_length] at this; exact this x hx)
                  have HRX := Lib.hid (show putR (rd_T64 lb (k : Int)).f0 (rd_T64 lb (k : Int)).f1 r = putsL la (lb.take (k + 1)) by rw [puts_snoc k hlt (valid_ord HVB.out).2.2.1, ← HR.out])
                  have HPUT := Aside0.mk (put61 r (rd_T64 lb (k : Int)).f0 (rd_T64 lb (k : Int)).f1 O oc A1 c1 wr.drew (fun y => y ≠ w.heap.size) (Kd.F_drew HF.out) hrc (Kd.F_drew (Kd.F_mono hF1 (fun y hy => by have h1 : y < w.heap.size := hy; omega))) hl1 (by rw [HR.out]; exact puts_len k HVA.out HVB.out HTA.out HTB.out) (by omega))
                  clear hF1 hC1 hgl
                  go_upto_region 20 with (fail)
                  go_still_tail 11, (by kernel_rfl)
                  change wpList _ _ _ _ _ wr.drew
                  have HNN := Aside0.mk hlk
                  clear hx0 hx1 hlk
                  go_wp2_with (go_at_call 61; (refine HPUT.out.mono ?_); rintro e w6 ⟨O6, oc6, rfl, h61, h62, h63⟩; have H61 := Aside0.mk h61; have H62 := Aside0.mk h62; have H63 := Aside0.mk (show Below wr.heap.size wr w6 from (below_drew1 (Below.refl _ wr)).trans h63); clear h61 h62 h63)
                  go_roundw
                  case rel =>
                    refine ⟨k + 1, O6, oc6, _, by have := HLT.out; omega, by go_num, rfl, H61.out, Lib.hid HRX.out, Lib.hid HNX.out, ⟨?_⟩, ⟨Kd.R_below HO.out H63.out⟩, ⟨HBW.out.trans (H63.out.mono HBW.out.size)⟩, ⟨blk_below HK.out H63.out⟩⟩
                    exact Kd.F_mono H62.out (fun y hy => hy.elim (fun h => h) (fun h e => by have h1 : wr.heap.size ≤ y := h; have := HNN.out; omega))
                  case measure => have := HLT.out; simp [intOf]; omega
            · obtain rfl : k = lb.length := by omega
              have hr := HR.out
              have hno := HNO.out
              rw [List.take_length] at hr hno
              have hmg := (puts_merge (valid_ord HVA.out).1 (valid_ord HVA.out).2.1 lb (valid_ord HVB.out).1 (valid_ord HVB.out).2.1).1
              rw [hmg] at hr
              subst hr
              have HOKM := Lib.hid (show mergeOk la lb = true by
                unfold mergeOk
                rw [HVA.out, HVB.out, Bool.true_and, Bool.true_and]
                exact decide_eq_true ((merge_valid (of_decide_eq_true HVA.out) (of_decide_eq_true HVB.out)).2 hno))
              have hc0 := (blk_cell HK.out 0).trans rfl
              have hc1 := (blk_cell HK.out 1).trans rfl
              have hz0 := blk_frozen HK.out 0
              have hz1 := blk_frozen HK.out 1
              have HRC := Aside0.mk hrc
              obtain ⟨mm, hmm⟩ : ∃ mm, mergeL la lb = mm := ⟨_, rfl⟩
              rw [hmm] at HF HRC ⊢
              have HMM := Lib.hid hmm
              clear hno hmg hmm hrc HR HNO
              go_wp2
              refine bodyPost_ret (results_one rfl _ _ _ _ rfl (load51 (blk_put (blk_put HK.out 0 (.slice O mm.length oc) rfl) 1 (.int .i64 0) rfl))) rfl ?_
              refine ⟨.inr ⟨HOKM.out, O, oc, by rw [HMM.out], by rw [HMM.out]; exact HRC.out, ?_⟩, (HBW.out.setCell (p := ⟨w.heap.size, 0, none⟩) (Nat.le_refl _) _).setCell (p := ⟨w.heap.size, 1, none⟩) (Nat.le_refl _) _⟩
              rw [HMM.out]
              exact Kd.F_now (Kd.F_far (Kd.F_far HF.out (p := ⟨w.heap.size, 0, none⟩) (fun y hy => hy) _) (p := ⟨w.heap.size, 1, none⟩) (fun y hy => hy) _)
    · have vb2 : validB 4096 lb = false := Bool.eq_false_iff.2 vb
      rw [vb2] at HIB
      have HM := Lib.hid (show mergeOk la lb = false by unfold mergeOk; rw [va, vb2]; rfl)
      clear va vb vb2 hA hB
      go_enter Tryz.func25, Tryz.ntmps25
      go_upto_region 2 with (first
        | (go_at_call 58; (with_reducible refine (HIA.out _ HB0.out).mono ?_); rintro e w1 ⟨rfl, hb1⟩)
        | (go_at_call 58; (with_reducible refine (HIB.out _ (HB0.out.trans (hb1.mono HB0.out.size))).mono ?_); rintro e w2 ⟨rfl, hb2⟩))
      have hB2 : Below w.heap.size w w2 := (HB0.out.trans (hb1.mono HB0.out.size)).trans (hb2.mono (HB0.out.trans (hb1.mono HB0.out.size)).size)
      have hK2 := blk_below (blk_below HK0.out hb1) hb2
      have HB2 := Aside0.mk hB2
      have HK2 := Aside0.mk hK2
      have hc0 := (blk_cell hK2 0).trans rfl
      have hc1 := (blk_cell hK2 1).trans rfl
      have hz0 := blk_frozen hK2 0
      have hz1 := blk_frozen hK2 1
      clear hB2 hK2
      go_wp2
      refine bodyPost_ret (results_one rfl _ _ _ _ rfl (load51 (blk_put (blk_put HK2.out 0 (.slice none 0 0) rfl) 1 (.int .i64 2) rfl))) rfl ?_
      exact ⟨.inl ⟨HM.out, rfl⟩, (HB2.out.setCell (p := ⟨w.heap.size, 0, none⟩) (Nat.le_refl _) _).setCell (p := ⟨w.heap.size, 1, none⟩) (Nat.le_refl _) _⟩
  · have va2 : validB 4096 la = false := Bool.eq_false_iff.2 va
    rw [va2] at HIA
    have HM := Lib.hid (show mergeOk la lb = false by unfold mergeOk; rw [va2]; rfl)
    clear va va2 hA hB HIB
    go_enter Tryz.func25, Tryz.ntmps25
    go_upto_region 2 with (first
      | (go_at_call 58; (with_reducible refine (HIA.out _ HB0.out).mono ?_); rintro e w2 ⟨rfl, hb2⟩))
    have hB2 : Below w.heap.size w w2 := HB0.out.trans (hb2.mono HB0.out.size)
    have hK2 := blk_below HK0.out hb2
    have HB2 := Aside0.mk hB2
    have HK2 := Aside0.mk hK2
    have hc0 := (blk_cell hK2 0).trans rfl
    have hc1 := (blk_cell hK2 1).trans rfl
    have hz0 := blk_frozen hK2 0
    have hz1 := blk_frozen hK2 1
    clear hB2 hK2
    go_wp2
    refine bodyPost_ret (results_one rfl _ _ _ _ rfl (load51 (blk_put (blk_put HK2.out 0 (.slice none 0 0) rfl) 1 (.int .i64 2) rfl))) rfl ?_
    exact ⟨.inl ⟨HM.out, rfl⟩, (HB2.out.setCell (p := ⟨w.heap.size, 0, none⟩) (Nat.le_refl _) _).setCell (p := ⟨w.heap.size, 1, none⟩) (Nat.le_refl _) _⟩
end Go.Proofs.YtpnhelcemodnmaaGreat

/- A region that draws its order, and in which a store turns what its loads read. -/
namespace Go.Proofs.YtpnhelcemodnmaaGreat
open Go.RowKit Go.Shelf Go.Proofs.YtpnhelcemodnmaaGreatW.PrintWords Go.Proofs.YtpnhelcemodnmaaGreatW.PrintLast Go.Proofs.YtpnhelcemodnmaaGreatW.PrintMore PA
set_option linter.unusedVariables false
set_option linter.unusedSimpArgs false
section
variable {P : Program} {ops : Array Oper} {Q : Exit → Act → World → Prop} {md : Region.Mode} {S : World → Prop} {k : Nat}

/-- Whatever order is picked; S holds behind every operation that comes ahead of number k. -/
def wpAnyK (P : Program) (md : Region.Mode) (ops : Array Oper) (Q : Exit → Act → World → Prop) (S : World → Prop) (k : Nat) : Nat → Array Bool → Act → World → Prop
  | 0, l, a, w => Region.ready md ops l = [] ∧ Q .normal a w
  | f + 1, l, a, w => (Region.ready md ops l = [] → Q .normal a w) ∧
    ∀ i ∈ Region.ready md ops l, wpOp P ops Q i (fun a' w' => ((l.setIfInBounds i true).getD k true = true ∨ S w') ∧ wpAnyK P md ops Q S k f (l.setIfInBounds i true) a' w') a w
theorem wpAny_of_K : ∀ (f : Nat) (l : Array Bool) (a : Act) (w : World), wpAnyK P md ops Q S k f l a w → wpAny P md ops Q f l a w
  | 0, _, _, _, h => h
  | f + 1, _, _, _, h => ⟨h.1, fun i hi => wpOp_mono (fun a' w' h' => wpAny_of_K f _ a' w' h'.2) (h.2 i hi)⟩
theorem getD_two {l : Array Bool} (h : l.getD k true = false) : l.getD k false = false := by
  rcases Nat.lt_or_ge k l.size with h' | h'
  · simp [h'] at h ⊢; exact h
  · simp [Array.getElem?_eq_none h'] at h
/-- Number k waits for number i. -/
def waitsFor (md : Region.Mode) (ops : Array Oper) (k i : Nat) : Bool := match ops[k]? with
  | some o => o.after.any fun e => Region.binds md e && e.on == i
  | none => false
theorem waitsFor_spec {m i : Nat} (h : waitsFor md ops m i = true) : ∃ om, ops[m]? = some om ∧ ∃ e ∈ om.after, Region.binds md e = true ∧ e.on = i := by
  unfold waitsFor at h
  cases ho : ops[m]? with
  | none => rw [ho] at h; cases h
  | some o =>
    rw [ho] at h
    obtain ⟨e, he, h2⟩ := Array.any_eq_true'.1 h
    rw [Bool.and_eq_true] at h2
    exact ⟨o, rfl, e, he, h2.1, eq_of_beq h2.2⟩
/-- Each of the chain waits for the one ahead of it. -/
def waitsChain (md : Region.Mode) (ops : Array Oper) : Nat → List Nat → Bool
  | _, [] => true
  | i, y :: ys => waitsFor md ops y i && waitsChain md ops y ys
theorem not_ready_chain {l : Array Bool} {j : Nat} (hj : j ∈ Region.ready md ops l) : ∀ (ps : List Nat) (i : Nat), waitsChain md ops i ps = true → l.getD i true = false → (∀ x ∈ ps, l.getD x true = false) → j ∉ ps
  | [], _, _, _, _ => by simp
  | y :: ys, i, h, hi, hun => by
    rw [waitsChain, Bool.and_eq_true] at h
    rw [List.mem_cons]
    rintro (rfl | hm)
    · obtain ⟨om, h2, e, he, hb, heq⟩ := waitsFor_spec h.1
      obtain ⟨_, oj, h3, h4⟩ := mem_ready.1 hj
      rw [h3] at h2
      cases h2
      have h5 := h4 e he hb
      rw [heq, getD_two hi] at h5
      cases h5
    · exact not_ready_chain hj ys y h.2 (hun y (List.mem_cons_self ..)) (fun x hx => hun x (List.mem_cons_of_mem _ hx)) hm
theorem wpAnyK_first {i : Nat} {oi : Oper} {v : Value} (hi : ops[i]? = some oi) (hsel : ∀ (j : Nat) (o : Oper) cs b, ops[j]? = some o → o.op ≠ .select cs b)
    (hQ : ∀ c a w, Q (.panic c) (a.put oi.dst v) w → Q (.panic c) a w) (ps : List Nat) (hki : waitsChain md ops i ps = true) (hkp : k ∈ ps) (hip : i ∉ ps) :
    ∀ (f : Nat) (l : Array Bool) (a : Act) (w : World), (∀ x ∈ ps, l.getD x true = false) →
      (∀ j oj, ops[j]? = some oj → j ≠ i → l.getD j true = false → (∀ e ∈ oj.after, Region.binds md e = true → e.on ≠ i) → oi.apart ops oj = true) →
      i ∈ Region.ready md ops l → YieldsIf P ops S oi v a → S w → wpAnyK P md ops Q S k f (l.setIfInBounds i true) (a.put oi.dst v) w → wpAnyK P md ops Q S k (f + 1) l a w := by
  intro f
  induction f with
  | zero =>
    intro l a w hlk _ hr hy hS H
    refine ⟨fun h => (by rw [h] at hr; cases hr), fun j hj => ?_⟩
    by_cases hji : j = i
    · subst hji; exact hy.wpOp hi hS ⟨.inr hS, H⟩
    · have := ready_mono hj hji
      rw [H.1] at this
      cases this
  | succ f ih =>
    intro l a w hlk hfree hr hy hS H
    refine ⟨fun h => (by rw [h] at hr; cases hr), fun j hj => ?_⟩
    by_cases hji : j = i
    · subst hji; exact hy.wpOp hi hS ⟨.inr hS, H⟩
    · have h1 := H.2 j (ready_mono hj hji)
      obtain ⟨hjun, oj, hoj, hall⟩ := mem_ready.1 hj
      have hun := (mem_ready.1 hr).1
      have hnot : ∀ e ∈ oj.after, Region.binds md e = true → e.on ≠ i := fun e he hb heq => by
        have h2 := hall e he hb
        rw [heq, getD_two hun] at h2
        cases h2
      have hjp : j ∉ ps := not_ready_chain hj ps i hki hun hlk
      have hjk : j ≠ k := fun e => hjp (e ▸ hkp)
      have hik : i ≠ k := fun e => hip (e ▸ hkp)
      have h2 := wpOp_putIf hoj (hfree j oj hoj hji hjun hnot) (fun cs b => hsel i oi cs b hi) (fun cs b => hsel j oj cs b hoj) hQ hy h1
      refine wpOp_mono (fun a' w' h3 => ?_) h2
      have hSk : S w' := h3.2.1.resolve_left (by rw [getD_set_ne true hjk, getD_set_ne true hik, hlk k hkp]; simp)
      refine ⟨.inr hSk, ih (l.setIfInBounds j true) a' w' (fun x hx => by
        have hxj : j ≠ x := by rintro rfl; exact hjp hx
        rw [getD_set_ne true hxj]; exact hlk x hx) (fun m om hm hmi hmun hno => hfree m om hm hmi ?_ hno) (ready_mono hr (Ne.symm hji)) h3.1 hSk ?_⟩
      · by_cases hjm : j = m
        · subst hjm; exact hjun
        · rw [getD_set_ne true hjm] at hmun; exact hmun
      · rw [Array.setIfInBounds_comm _ _ hji]
        exact h3.2.2
/-- An operation ahead of number k is taken first. -/
theorem take_atK {i : Nat} {oi : Oper} {f : Nat} {l : Array Bool} {t : Array Value} {df : List Deferred} {w : World} (d : Nat) (v : Value) (ps : List Nat) (hi : ops[i]? = some oi) (hd : oi.dst = some d) (hw : waitsChain md ops i ps = true) (hkp : k ∈ ps) (hip : i ∉ ps) (hlk : ps.all (fun x => !l.getD x true) = true)
    (hs : Region.noSelect ops = true) (hf : Region.free md ops l i = true) (hr : (Region.ready md ops l).contains i = true)
    (hQ : ∀ c a w, Q (.panic c) (a.put oi.dst v) w → Q (.panic c) a w) (hy : YieldsIf P ops S oi v { tmps := t, defers := df }) (hS : S w)
    (h : wpAnyK P md ops Q S k f (l.setIfInBounds i true) { tmps := t.setIfInBounds d v, defers := df } w) : wpAnyK P md ops Q S k (f + 1) l { tmps := t, defers := df } w := by
  refine wpAnyK_first hi (Region.noSelect_spec hs) hQ ps hw hkp hip f l _ w (fun x hx => ?_) (Region.free_spec hi hf) (by simpa using hr) hy hS ?_
  · have := List.all_eq_true.1 hlk x hx
    simpa using this
  · rw [hd]
    exact h
/-- Each of those that may come up. -/
def AllReadyK (P : Program) (md : Region.Mode) (ops : Array Oper) (Q : Exit → Act → World → Prop) (S : World → Prop) (k f : Nat) (l : Array Bool) (a : Act) (w : World) (rs : List Nat) : Prop :=
  ∀ i ∈ rs, wpOp P ops Q i (fun a' w' => ((l.setIfInBounds i true).getD k true = true ∨ S w') ∧ wpAnyK P md ops Q S k f (l.setIfInBounds i true) a' w') a w
theorem AllReadyK.nil {f : Nat} {l : Array Bool} {a : Act} {w : World} : AllReadyK P md ops Q S k f l a w [] := fun _ h => by cases h
theorem AllReadyK.cons {f : Nat} {l : Array Bool} {a : Act} {w : World} {i : Nat} {o : Oper} {rs : List Nat} (ho : ops[i]? = some o)
    (h : ∀ K' : Act → World → Prop, Shut (∀ a w, S w → (S w → wpAnyK P md ops Q S k f (l.setIfInBounds i true) a w) → K' a w) → if Region.wanted o (yielded ops a.tmps) = true then Oper.wp P o a w K' Q else K' (a.put o.dst undef) w)
    (hs : AllReadyK P md ops Q S k f l a w rs) : AllReadyK P md ops Q S k f l a w (i :: rs) := fun j hj => by
  rcases List.mem_cons.1 hj with rfl | hj
  · exact wpOp_step ho (fun K' hK => h K' (fun a w hS hW => hK a w ⟨.inr hS, hW hS⟩))
  · exact hs j hj
theorem wpAnyK_ready {rs : List Nat} {f : Nat} {l : Array Bool} {a : Act} {w : World} (hr : Region.ready md ops l = rs) (hne : rs ≠ [])
    (h : AllReadyK P md ops Q S k f l a w rs) : wpAnyK P md ops Q S k (f + 1) l a w :=
  ⟨fun h0 => absurd (hr ▸ h0) hne, hr ▸ h⟩
/-- Behind number k nothing is to be kept. -/
theorem wpAnyK_of_H : ∀ (f : Nat) (l : Array Bool) (a : Act) (w : World), l.getD k true = true → wpAnyH P md ops Q (fun _ => True) f l a w → wpAnyK P md ops Q S k f l a w
  | 0, _, _, _, _, h => h
  | f + 1, l, a, w, hl, h => ⟨h.1, fun i hi => by
      have hl' : (l.setIfInBounds i true).getD k true = true := by
        by_cases e : i = k
        · subst e
          rcases Nat.lt_or_ge i l.size with h' | h'
          · simp [h']
          · simp [h']
        · rw [getD_set_ne true e]; exact hl
      exact wpOp_mono (fun a' w' h' => ⟨.inl hl', wpAnyK_of_H f _ a' w' hl' h'.2⟩) (h.2 i hi)⟩
/-- The store that is number k. -/
theorem storeK {f : Nat} {l : Array Bool} {a : Act} {w : World} {o : Oper} (hr : Region.ready md ops l = [k]) (hk : k < l.size) (ho : ops[k]? = some o) (hgd : o.guard = none)
    (h : ∀ K' : Act → World → Prop, Shut (∀ a w, wpAnyH P md ops Q (fun _ => True) f (l.setIfInBounds k true) a w → K' a w) → Oper.wp P o a w K' Q) : wpAnyK P md ops Q S k (f + 1) l a w := by
  refine ⟨fun h0 => absurd (hr ▸ h0) (by simp), fun i hi => ?_⟩
  rw [hr, List.mem_singleton] at hi
  subst hi
  have hl : (l.setIfInBounds i true).getD i true = true := by simp [hk]
  refine wpOp_step ho fun K' hK => ?_
  have hw : Region.wanted o (yielded ops a.tmps) = true := by simp [Region.wanted, hgd]
  rw [if_pos hw]
  exact h K' (fun a w hW => hK a w ⟨.inl hl, wpAnyK_of_H f _ a w hl hW⟩)
/-- The beginning. -/
theorem wp_region_keptK {id : Nat} {a : Act} {w : World} (k : Nat) (hm : P.follows .mixedOrders = true) (hS : S w.drew)
    (h : S w.drew → wpAnyK P .any ops Q S k ops.size (Array.replicate ops.size false) a w.drew) : (Code.region id ops true).wp P Q a w :=
  wp_region_any hm (wpAny_of_K _ _ _ _ (h hS))
end
end Go.Proofs.YtpnhelcemodnmaaGreat

/- The reference's Usable. -/
namespace Go.Proofs.YtpnhelcemodnmaaGreat
open Go.RowKit Go.Shelf Go.Proofs.YtpnhelcemodnmaaGreatW.PrintWords Go.Proofs.YtpnhelcemodnmaaGreatW.PrintLast Go.Proofs.YtpnhelcemodnmaaGreatW.PrintMore PA
set_option linter.unusedVariables false
set_option linter.unusedSimpArgs false
attribute [local go_sem] Oper.semAt_some
theorem addr_plain {w : World} {a : Addr} {v : Value} (h : w.cell? a = some v) : a = ⟨a.block, a.off, none⟩ := by
  obtain ⟨b, o, t⟩ := a
  cases t with
  | none => rfl
  | some q =>
    have : w.cell? ⟨b, o, some q⟩ = none := by unfold World.cell?; split <;> simp
    rw [this] at h
    cases h
theorem elem_P {w : World} {ok : Nat → Prop} {A : Option Addr} {l : List S64} (h : Kd.F k64 w ok A l.length l) (k : Nat) (hk : k < l.length) : ∃ b o A1 c1, A = some ⟨b, o, none⟩ ∧ w.cell? ⟨b, o + k * 2, none⟩ = some (.int .i64 (rd_T64 l (k : Int)).f0) ∧ w.cell? ⟨b, o + k * 2 + 1, none⟩ = some (.slice A1 (rd_T64 l (k : Int)).f1.length c1) ∧ (rd_T64 l (k : Int)).f1.length ≤ c1 ∧ Kd.F (Kd.int .i64) w ok A1 (rd_T64 l (k : Int)).f1.length (rd_T64 l (k : Int)).f1 := by
  obtain ⟨ad, A1, c1, rfl, h0, h1, h2, h3⟩ := elem_F h k hk
  obtain ⟨ad', A1', c1', e, g0, _⟩ := elem_F h 0 (by omega)
  injection e with e
  subst e
  rw [Nat.zero_mul, addr_add0] at g0
  have e := addr_plain g0
  obtain ⟨b, o, t⟩ := ad
  have ht : t = none := congrArg Addr.spot e
  subst ht
  rw [Addr.add_lit] at h0 h1
  exact ⟨b, o, A1, c1, rfl, h0, h1, h2, h3⟩
theorem int_P {w : World} {A : Option Addr} {l : List Int} (h : (Kd.int .i64).C w A l.length l) (k : Nat) (hk : k < l.length) : ∃ b o, A = some ⟨b, o, none⟩ ∧ w.cell? ⟨b, o + k, none⟩ = some (.int .i64 l[k]) := by
  obtain ⟨ad, rfl, h0⟩ := Kd.at_int h (k : Int) (by omega) (by omega)
  rw [Int.toNat_natCast, rd_at l k hk] at h0
  obtain ⟨ad', e, g0⟩ := Kd.at_int h 0 (by omega) (by omega)
  injection e with e
  subst e
  rw [show ad.add (0 : Int).toNat = ad from addr_add0 ad] at g0
  have e := addr_plain g0
  obtain ⟨b, o, t⟩ := ad
  have ht : t = none := congrArg Addr.spot e
  subst ht
  rw [Addr.add_lit] at h0
  exact ⟨b, o, rfl, h0⟩
theorem load56 {w : World} {g : Nat} {x y z : Value} (h : w.heap[g]? = some (.cells #[x, y, z] 56 (0, 0))) : (loadVar 56 ⟨g, 0, none⟩).run Tryz.prog w = .ok (.agg #[x, y, z]) w := by
  have h0 : w.cell? ⟨g, 0, none⟩ = some x := (blk_cell h 0).trans rfl
  have h1 : w.cell? ⟨g, 1, none⟩ = some y := (blk_cell h 1).trans rfl
  have h2 : w.cell? ⟨g, 2, none⟩ = some z := (blk_cell h 2).trans rfl
  go_simp
/-- What the reference's Usable answers. -/
def UseR (w : World) (l : List S64) (o : Int) (e : Ending) (w' : World) : Prop := (useE o l ≠ 0 ∧ e = .returned (.agg #[.slice none 0 0, .slice none 0 0, .int .i64 (useE o l)]) ∨ useE o l = 0 ∧ ∃ U uc R rc, e = .returned (.agg #[.slice U (sortI (pagesOf (lowL o l))).length uc, .slice R (hiL o l).length rc, .int .i64 0]) ∧ (sortI (pagesOf (lowL o l))).length ≤ uc ∧ (hiL o l).length ≤ rc ∧ (Kd.int .i64).C w' U (sortI (pagesOf (lowL o l))).length (sortI (pagesOf (lowL o l))) ∧ k64.C w' R (hiL o l).length (hiL o l)) ∧ Below w.heap.size w w'
theorem low_take (o : Int) (l : List S64) (k : Nat) (h : k < l.length) : lowL o (l.take (k + 1)) = lowL o (l.take k) ++ (if (rd_T64 l (k : Int)).f0 < o then [rd_T64 l (k : Int)] else []) ∧ hiL o (l.take (k + 1)) = hiL o (l.take k) ++ (if (rd_T64 l (k : Int)).f0 < o then [] else [rd_T64 l (k : Int)]) := by
  rw [take_rd l k h]; exact ⟨low_snoc _ _ _, hi_snoc _ _ _⟩
set_option maxRecDepth 100000 in
set_option maxHeartbeats 1000000 in
theorem rusable27 (l : List S64) (o : Int) (A : Option Addr) (c : Nat) (w : World) (hC : k64.C w A l.length l) (hc : l.length ≤ c) (ht : tinyL l) :
    Calls Tryz.prog 27 #[.slice A l.length c, .int .i64 o] w (UseR w l o) := by
  have HIA := Lib.hid (fun (w1 : World) (h1 : Below w.heap.size w w1) => isv_any l A c w1 (Kd.C_below hC h1) hc (tiny_small ht))
  have HB0 := Aside0.mk (below_alloc1 w (.cells #[.slice none 0 0, .slice none 0 0, .int .i64 0] 56))
  have HK0 := Aside0.mk (blk_new w (.cells #[.slice none 0 0, .slice none 0 0, .int .i64 0] 56))
  by_cases va : validB 4096 l = true
  · rw [va] at HIA
    by_cases ho : 1 ≤ o ∧ o ≤ 1099511627776
    · have HU := Lib.hid (show useE o l = 0 by unfold useE; rw [if_pos va, if_pos ho])
      have hd1 : decide (o < 1) = false := decide_eq_false (by omega)
      have hd2 : decide (1099511627776 < o) = false := decide_eq_false (by omega)
      have HF := Aside0.mk (Kd.C_F k64_heap hC)
      have hll := ht.1
      have HTP := Aside0.mk ht.2
      have HSE := Aside0.mk (small_each (tiny_small ht))
      have HC := Aside0.mk hC
      clear va hC ht
      go_enter Tryz.func27, Tryz.ntmps27
      go_upto_region 5 with (first
        | (go_at_call 58; (with_reducible refine (HIA.out _ HB0.out).mono ?_); rintro e w1 ⟨rfl, hb1⟩))
      have hB1 : Below w.heap.size w w1 := HB0.out.trans (hb1.mono HB0.out.size)
      have hK1 := blk_below HK0.out hb1
      have hs1 := blk_lt hK1
      clear hb1 HIA
      go_upto_region 7 with (fail)
      have hbk := blk_new w1 (.cells #[.slice none 0 0, .slice none 0 0, .int .i64 0] 56)
      have hba := below_alloc1 w1 (.cells #[.slice none 0 0, .slice none 0 0, .int .i64 0] 56)
      obtain ⟨n1, hn1⟩ : ∃ n1, w1.heap.size = n1 := ⟨_, rfl⟩
      obtain ⟨W1, hW1⟩ : ∃ W1, w1.alloc (.cells #[.slice none 0 0, .slice none 0 0, .int .i64 0] 56) = W1 := ⟨_, rfl⟩
      rw [hW1] at hbk hba ⊢
      rw [hn1] at hbk hs1 ⊢
      have HB1 := Aside0.mk (hB1.trans (hba.mono hB1.size))
      have HK1 := Aside0.mk (blk_below hK1 hba)
      have HX1 := Aside0.mk hbk
      clear hbk hba hW1 hn1 hB1 hK1
      go_loopw [6] (fun i wr => ∃ (k : Nat) (U R : Option Addr) (uc rc : Nat) (us : List Int) (rs : List S64), k ≤ l.length ∧ i = .int .i64 k ∧ us.length ≤ uc ∧ us.length ≤ 1000 ∧ rs.length ≤ k ∧ Hid (us = insAll [] (pagesOf (lowL o (l.take k)))) ∧ Hid (rs = hiL o (l.take k)) ∧ Aside0 (wr.heap[n1]? = some (.cells #[.slice U us.length uc, .slice R rs.length rc, .int .i64 0] 56 (0, 0))) ∧ Aside0 (Kd.F (Kd.int .i64) wr (fun y => (y ≠ w.heap.size ∧ y ≠ n1) ∧ some y ≠ (Value.slice R rs.length rc).ownBlock) U us.length us) ∧ Aside0 (Kd.N k64 64 wr (n1 + 1) (fun y => y ≠ w.heap.size ∧ y ≠ n1) (.slice R rs.length rc) rs) ∧ Aside0 (Below w.heap.size w wr) ∧ Aside0 (wr.heap[w.heap.size]? = some (.cells #[.slice none 0 0, .slice none 0 0, .int .i64 0] 56 (0, 0))))
        (fun i _ => l.length - (intOf i).toNat)
      case atStart => exact ⟨0, none, none, 0, 0, [], [], Nat.zero_le _, rfl, Nat.le_refl _, by simp, by simp, Lib.hid rfl, Lib.hid rfl, HX1, ⟨Kd.F_nil _ _ _⟩, ⟨Kd.N_nil _ _ _ _ _⟩, HB1, HK1⟩
      case round =>
        clear HX1 HB1 HK1
        obtain ⟨k, U, R, uc, rc, us, rs, hk, rfl, huc, hul, hrk, HUS, HRS, HXB, HFU, HN, HB, HK⟩ := hrel
        by_cases hlt : k < l.length
        · obtain ⟨ab, ao, A1, c1, rfl, hx0, hx1, hl1, hF1⟩ := elem_P (Kd.F_below HF.out HB.out) k hlt
          have HLT := Aside0.mk hlt
          have hkk : (k : Int) < (l.length : Int) := by omega
          have hlo := low_take o l k hlt
          have hpt : (pagesOf (l.take (k + 1))).length ≤ 1000 := Nat.le_trans (pages_take_le l (k + 1)) HTP.out
          have hgl := HSE.out _ (List.getElem_mem hlt)
          rw [← rd_nat l k hlt] at hgl
          have hlp : (pagesOf (lowL o (l.take (k + 1)))).length ≤ 1000 := Nat.le_trans (pages_low_le o _) hpt
          have HLP := Aside0.mk hlp
          obtain ⟨x, hx⟩ : ∃ x, rd_T64 l (k : Int) = x := ⟨_, rfl⟩
          rw [hx] at hx0 hx1 hl1 hF1 hgl hlo
          obtain ⟨v, g⟩ := x
          have HXD := Lib.hid hx
          dsimp only at hx0 hx1 hl1 hF1 hgl hlo
          have HL1 := Aside0.mk hl1
          have HF1 := Aside0.mk hF1
          have HE0 := Aside0.mk hx0
          have HE1 := Aside0.mk hx1
          have HLO := Lib.hid hlo
          have HGL := Aside0.mk hgl
          clear hx hl1 hF1 hlo hgl hpt hlp
          by_cases hvo : v < o
          · have hdv : decide (o ≤ v) = false := decide_eq_false (by omega)
            have HEQ := Lib.hid (show pagesOf (lowL o (l.take (k + 1))) = pagesOf (lowL o (l.take k)) ++ g by rw [HLO.out.1, if_pos hvo, pages_append, pages_one])
            have HHI := Lib.hid (show hiL o (l.take (k + 1)) = hiL o (l.take k) by rw [HLO.out.2, if_pos hvo, List.append_nil])
            have hpl : (pagesOf (lowL o (l.take k))).length + g.length ≤ 1000 := by have := HLP.out; rw [HEQ.out, List.length_append] at this; exact this
            have hus : us.length ≤ (pagesOf (lowL o (l.take k))).length := by rw [HUS.out, insAll_length]; simp
            go_upto_region 12 with (fail)
            clear hx0 hx1
            go_loopw [7] (fun j wr => ∃ (q : Nat) (U : Option Addr) (uc : Nat) (us : List Int), q ≤ g.length ∧ j = .int .i64 q ∧ us.length ≤ uc ∧ us.length ≤ (pagesOf (lowL o (l.take k))).length + q ∧ Hid (us = insAll [] (pagesOf (lowL o (l.take k)) ++ g.take q)) ∧ Aside0 (wr.heap[n1]? = some (.cells #[.slice U us.length uc, .slice R rs.length rc, .int .i64 0] 56 (0, 0))) ∧ Aside0 (Kd.F (Kd.int .i64) wr (fun y => (y ≠ w.heap.size ∧ y ≠ n1) ∧ some y ≠ (Value.slice R rs.length rc).ownBlock) U us.length us) ∧ Aside0 (Kd.N k64 64 wr (n1 + 1) (fun y => y ≠ w.heap.size ∧ y ≠ n1) (.slice R rs.length rc) rs) ∧ Aside0 (Below w.heap.size w wr) ∧ Aside0 (wr.heap[w.heap.size]? = some (.cells #[.slice none 0 0, .slice none 0 0, .int .i64 0] 56 (0, 0))))
              (fun j _ => g.length - (intOf j).toNat)
            case atStart => exact ⟨0, U, uc, us, Nat.zero_le _, rfl, huc, hus, Lib.hid (by rw [List.take_zero, List.append_nil]; exact HUS.out), HXB, HFU, HN, HB, HK⟩
            case round =>
              clear HXB HFU HN HB HK HUS
              obtain ⟨q, U, uc, us, hq, rfl, huc, hul, HUS, HXB, HFU, HN, HB, HK⟩ := hrel
              have hlt := HLT.out
              obtain ⟨ab', ao', A2, c2, he, hx0, hx1, hl1, hF1⟩ := elem_P (Kd.F_below HF.out HB.out) k HLT.out
              injection he with he
              injection he with he1 he2
              subst he1 he2
              rw [HXD.out] at hx0 hx1 hl1 hF1
              dsimp only at hx0 hx1 hl1 hF1
              by_cases hql : q < g.length
              · have HQL := Aside0.mk hql
                obtain ⟨pb, po, rfl, hpn⟩ := int_P (Kd.F_now hF1) q hql
                have HTS := Lib.hid (List.take_succ_eq_append_getElem hql)
                obtain ⟨n, hnn⟩ : ∃ n, g[q] = n := ⟨_, rfl⟩
                rw [hnn] at hpn HTS
                have hqq : (q : Int) < (g.length : Int) := by omega
                have HWI := Aside0.mk (with_any us n U uc wr.drew (Kd.C_below (Kd.F_now HFU.out) (below_drew1 (Below.refl _ wr))) huc (by omega))
                have HXC0 := Aside0.mk ((blk_cell HXB.out 0).trans rfl : wr.cell? ⟨n1, 0, none⟩ = some (.slice U us.length uc))
                have HE1 := Aside0.mk hx1
                have HPN := Aside0.mk hpn
                clear hnn hl1 hF1
                go_upto_region 14 with (fail)
                refine wp_region_noPanic ?_
                refine wp_region_keptK (S := fun W => W.cell? ⟨n1, 0, none⟩ = some (.slice U us.length uc) ∧ W.cell? ⟨ab, ao + k * 2 + 1, none⟩ = some (.slice (some ⟨pb, po, none⟩) g.length c2) ∧ W.cell? ⟨pb, po + q, none⟩ = some (.int .i64 n)) 12 (by kernel_rfl) (⟨HXC0.out, HE1.out, HPN.out⟩) (fun hS => ?_)
                simp only [List.size_toArray, List.length_cons, List.length_nil, Nat.reduceAdd, Array.replicate_succ, Array.replicate_zero, List.push_toArray, List.nil_append, List.cons_append]
                refine take_atK (i := 0) 51 (.pointer (some ⟨n1, 0, none⟩)) [12] rfl rfl (by kernel_rfl) (by decide) (by decide) (by kernel_rfl) (by kernel_rfl) (by kernel_rfl) (by kernel_rfl) (fun _ _ _ h => h) (Or.inl ⟨by rfl, fun W hW => by go_simp⟩) hS ?_
                try simp only [List.setIfInBounds_toArray, List.set_cons_zero, List.set_cons_succ]
                refine take_atK (i := 1) 52 (.slice U us.length uc) [12] rfl rfl (by kernel_rfl) (by decide) (by decide) (by kernel_rfl) (by kernel_rfl) (by kernel_rfl) (by kernel_rfl) (fun _ _ _ h => h) (Or.inl ⟨by rfl, fun W hW => by have h0 := hW.1; go_simp⟩) hS ?_
                try simp only [List.setIfInBounds_toArray, List.set_cons_zero, List.set_cons_succ]
                refine take_atK (i := 2) 53 (.slice (some ⟨ab, ao, none⟩) l.length c) [12] rfl rfl (by kernel_rfl) (by decide) (by decide) (by kernel_rfl) (by kernel_rfl) (by kernel_rfl) (by kernel_rfl) (fun _ _ _ h => h) (Or.inl ⟨by rfl, fun W hW => by go_simp⟩) hS ?_
                try simp only [List.setIfInBounds_toArray, List.set_cons_zero, List.set_cons_succ]
                refine take_atK (i := 3) 54 (.int .i64 (k : Int)) [12] rfl rfl (by kernel_rfl) (by decide) (by decide) (by kernel_rfl) (by kernel_rfl) (by kernel_rfl) (by kernel_rfl) (fun _ _ _ h => h) (Or.inl ⟨by rfl, fun W hW => by go_simp⟩) hS ?_
                try simp only [List.setIfInBounds_toArray, List.set_cons_zero, List.set_cons_succ]
                refine take_atK (i := 4) 55 (.pointer (some ⟨ab, ao + k * 2, none⟩)) [12] rfl rfl (by kernel_rfl) (by decide) (by decide) (by kernel_rfl) (by kernel_rfl) (by kernel_rfl) (by kernel_rfl) (fun _ _ _ h => h) (Or.inl ⟨by rfl, fun W hW => by go_simp⟩) hS ?_
                try simp only [List.setIfInBounds_toArray, List.set_cons_zero, List.set_cons_succ]
                refine take_atK (i := 5) 56 (.pointer (some ⟨ab, ao + k * 2 + 1, none⟩)) [12] rfl rfl (by kernel_rfl) (by decide) (by decide) (by kernel_rfl) (by kernel_rfl) (by kernel_rfl) (by kernel_rfl) (fun _ _ _ h => h) (Or.inl ⟨by rfl, fun W hW => by go_simp⟩) hS ?_
                try simp only [List.setIfInBounds_toArray, List.set_cons_zero, List.set_cons_succ]
                refine take_atK (i := 6) 57 (.slice (some ⟨pb, po, none⟩) g.length c2) [12] rfl rfl (by kernel_rfl) (by decide) (by decide) (by kernel_rfl) (by kernel_rfl) (by kernel_rfl) (by kernel_rfl) (fun _ _ _ h => h) (Or.inl ⟨by rfl, fun W hW => by have h0 := hW.2.1; go_simp⟩) hS ?_
                try simp only [List.setIfInBounds_toArray, List.set_cons_zero, List.set_cons_succ]
                refine take_atK (i := 7) 58 (.int .i64 (q : Int)) [12] rfl rfl (by kernel_rfl) (by decide) (by decide) (by kernel_rfl) (by kernel_rfl) (by kernel_rfl) (by kernel_rfl) (fun _ _ _ h => h) (Or.inl ⟨by rfl, fun W hW => by go_simp⟩) hS ?_
                try simp only [List.setIfInBounds_toArray, List.set_cons_zero, List.set_cons_succ]
                refine take_atK (i := 8) 59 (.pointer (some ⟨pb, po + q, none⟩)) [12] rfl rfl (by kernel_rfl) (by decide) (by decide) (by kernel_rfl) (by kernel_rfl) (by kernel_rfl) (by kernel_rfl) (fun _ _ _ h => h) (Or.inl ⟨by rfl, fun W hW => by go_simp⟩) hS ?_
                try simp only [List.setIfInBounds_toArray, List.set_cons_zero, List.set_cons_succ]
                refine take_atK (i := 9) 60 (.int .i64 n) [12] rfl rfl (by kernel_rfl) (by decide) (by decide) (by kernel_rfl) (by kernel_rfl) (by kernel_rfl) (by kernel_rfl) (fun _ _ _ h => h) (Or.inl ⟨by rfl, fun W hW => by have h0 := hW.2.2; go_simp⟩) hS ?_
                try simp only [List.setIfInBounds_toArray, List.set_cons_zero, List.set_cons_succ]
                refine wpAnyK_ready (rs := [10]) (by kernel_rfl) (by simp) ?_
                refine AllReadyK.cons rfl (fun K hK => ?_) AllReadyK.nil
                go_simp
                refine HWI.out.mono ?_
                rintro e w4 ⟨u4, rfl, hu4, hb4⟩
                obtain ⟨V, vc, rfl⟩ := Kd.R_slice hu4
                refine hK.out _ _ (⟨cellB hb4 (Nat.le_refl _) hS.1, cellB hb4 (Nat.le_refl _) hS.2.1, cellB hb4 (Nat.le_refl _) hS.2.2⟩) (fun hS => ?_)
                clear hK K
                try simp only [Act.put, List.getElem_toArray, List.getElem_cons_succ, List.getElem_cons_zero, List.setIfInBounds_toArray, List.set_cons_zero, List.set_cons_succ]
                refine take_atK (i := 11) 62 (.pointer (some ⟨n1, 0, none⟩)) [12] rfl rfl (by kernel_rfl) (by decide) (by decide) (by kernel_rfl) (by kernel_rfl) (by kernel_rfl) (by kernel_rfl) (fun _ _ _ h => h) (Or.inl ⟨by rfl, fun W hW => by go_simp⟩) hS ?_
                try simp only [List.setIfInBounds_toArray, List.set_cons_zero, List.set_cons_succ]
                refine storeK (by kernel_rfl) (by decide) rfl rfl (fun K hK => ?_)
                have y0 := hS.1
                have z0 : w4.frozen? ⟨n1, 0, none⟩ = false := blk_frozen (blk_below (blk_drew HXB.out) hb4) 0
                go_simp
                refine hK.out _ _ ?_
                clear hK K
                have hS : True := trivial
                try simp only [Act.put, List.getElem_toArray, List.getElem_cons_succ, List.getElem_cons_zero, List.setIfInBounds_toArray, List.set_cons_zero, List.set_cons_succ]
                refine wpAnyH_done (by kernel_rfl) ?_ _
                refine NoPanic.normal ?_
                have hw9 : w.heap.size ≤ n1 := by omega
                have hbw : Below wr.heap.size wr w4 := (below_drew1 (Below.refl _ wr)).trans hb4
                have hk9 := blk_put (blk_below HXB.out hbw) 0 (.slice V (insI us n).length vc) rfl
                have HK9 := Aside0.mk hk9
                have HB9 := Aside0.mk ((HB.out.trans (hbw.mono HB.out.size)).setCell (p := ⟨n1, 0, none⟩) hw9 (.slice V (insI us n).length vc))
                have HN9 := Aside0.mk (Kd.N_far (Kd.N_below HN.out hbw) (p := ⟨n1, 0, none⟩) (fun y hy => hy.2) (.slice V (insI us n).length vc))
                have HU9 := Aside0.mk (Kd.F_far (Kd.F_mono (ok' := fun y => (y ≠ w.heap.size ∧ y ≠ n1) ∧ some y ≠ (Value.slice R rs.length rc).ownBlock) (Kd.R_F (Kd.R_mono (Kd.R_bound hu4) (fun y hy => hy.2.1))) (fun y hy => by have h1 : wr.heap.size ≤ y := hy; have h2 := blk_lt HXB.out; have h3 := blk_lt HK.out; exact ⟨⟨by omega, by omega⟩, fun e => by have := Kd.N_lt HN.out y e.symm; omega⟩)) (p := ⟨n1, 0, none⟩) (fun y hy => hy.1.2) (.slice V (insI us n).length vc))
                have HKK9 := Aside0.mk (blk_far (blk_below HK.out hbw) (p := ⟨n1, 0, none⟩) (by show w.heap.size ≠ n1; omega) (.slice V (insI us n).length vc))
                have HVC := Aside0.mk (Kd.R_reads' hu4).2.1
                clear hk9 hu4 hb4 hbw
                go_wp2
                go_roundw
                case rel => exact ⟨q + 1, V, vc, insI us n, by have := HQL.out; omega, by go_num, HVC.out, by rw [insI_length]; omega, Lib.hid (by rw [HTS.out, ← List.append_assoc, insAll_snoc, ← HUS.out]), HK9, HU9, HN9, HB9, HKK9⟩
                case measure => have := HQL.out; simp [intOf]; omega
              · obtain rfl : q = g.length := by omega
                have HUSX := Lib.hid (show us = insAll [] (pagesOf (lowL o (l.take (k + 1)))) by rw [HEQ.out]; have := HUS.out; rw [List.take_length] at this; exact this)
                have HRSX := Lib.hid (show rs = hiL o (l.take (k + 1)) by rw [HHI.out]; exact HRS.out)
                clear hl1 hF1
                go_wp2
                go_roundw
                case rel => exact ⟨k + 1, U, R, uc, rc, us, rs, by have := HLT.out; omega, by go_num, huc, by omega, by omega, HUSX, HRSX, HXB, HFU, HN, HB, HK⟩
                case measure => have := HLT.out; simp [intOf]; omega
          · have hdv : decide (o ≤ v) = true := decide_eq_true (by omega)
            have hvo2 : o ≤ v := by omega
            have HXC := Aside0.mk ((blk_cell HXB.out 1).trans rfl : wr.cell? ⟨n1, 1, none⟩ = some (.slice R rs.length rc))
            have hlr := Kd.N_lt HN.out
            have hbr := Kd.N_base HN.out
            have HX1 := Aside0.mk (show some n1 ≠ (Value.slice R rs.length rc).ownBlock from fun e => by have := hbr n1 e.symm; omega)
            have hab := World.block_lt_of_cell? wr _ hx0
            have HFK := Aside0.mk (k64_mkF wr _ (⟨v, g⟩ : S64) HL1.out HF1.out)
            have HOK := Aside0.mk (show ∀ y, y < w.heap.size → (y ≠ w.heap.size ∧ y ≠ n1) ∧ some y ≠ (Value.slice R rs.length rc).ownBlock from fun y hy => ⟨⟨by omega, by omega⟩, fun e => by have := hbr y e.symm; omega⟩)
            have HFR := Aside0.mk (show ∀ y, wr.drew.heap.size ≤ y → y ≠ w.heap.size ∧ y ≠ n1 from fun y hy => by have h1 : wr.heap.size ≤ y := hy; have h2 := blk_lt HXB.out; have h3 := blk_lt HK.out; exact ⟨by omega, by omega⟩)
            have HSZ := Aside0.mk (show n1 + 1 ≤ wr.drew.heap.size from blk_lt HXB.out)
            have HLD := Aside0.mk (show (rs.length + 1) * 32 ≤ 140737488355328 by omega)
            have HXA : Aside0 (some ab ≠ (Value.slice R rs.length rc).ownBlock) := ⟨fun e => by
              have h1 := hbr ab e.symm
              obtain ⟨b2, o2, A2, c2, he2, hy0, _⟩ := elem_P HF.out k HLT.out
              injection he2 with he2
              injection he2 with he3
              have := World.block_lt_of_cell? w _ hy0
              simp at this
              omega⟩
            obtain ⟨rs2, hrs2⟩ : ∃ d, rs ++ [(⟨v, g⟩ : S64)] = d := ⟨_, rfl⟩
            have HRS2 := Lib.hid hrs2
            clear hab hbr hlr hrs2
            go_upto_region 10 with (fail)
            refine wp_region_noPanic ?_
            refine wp_region_keptK (S := fun W => W.cell? ⟨n1, 1, none⟩ = some (.slice R rs.length rc) ∧ W.cell? ⟨ab, ao + k * 2, none⟩ = some (.int .i64 v) ∧ W.cell? ⟨ab, ao + k * 2 + 1, none⟩ = some (.slice A1 g.length c1)) 9 (by kernel_rfl) (⟨HXC.out, HE0.out, HE1.out⟩) (fun hS => ?_)
            simp only [List.size_toArray, List.length_cons, List.length_nil, Nat.reduceAdd, Array.replicate_succ, Array.replicate_zero, List.push_toArray, List.nil_append, List.cons_append]
            refine take_atK (i := 0) 32 (.pointer (some ⟨n1, 1, none⟩)) [9] rfl rfl (by kernel_rfl) (by decide) (by decide) (by kernel_rfl) (by kernel_rfl) (by kernel_rfl) (by kernel_rfl) (fun _ _ _ h => h) (Or.inl ⟨by rfl, fun W hW => by go_simp⟩) hS ?_
            try simp only [List.setIfInBounds_toArray, List.set_cons_zero, List.set_cons_succ]
            refine take_atK (i := 1) 33 (.slice R rs.length rc) [9] rfl rfl (by kernel_rfl) (by decide) (by decide) (by kernel_rfl) (by kernel_rfl) (by kernel_rfl) (by kernel_rfl) (fun _ _ _ h => h) (Or.inl ⟨by rfl, fun W hW => by have h0 := hW.1; go_simp⟩) hS ?_
            try simp only [List.setIfInBounds_toArray, List.set_cons_zero, List.set_cons_succ]
            refine take_atK (i := 2) 34 (.slice (some ⟨ab, ao, none⟩) l.length c) [9] rfl rfl (by kernel_rfl) (by decide) (by decide) (by kernel_rfl) (by kernel_rfl) (by kernel_rfl) (by kernel_rfl) (fun _ _ _ h => h) (Or.inl ⟨by rfl, fun W hW => by go_simp⟩) hS ?_
            try simp only [List.setIfInBounds_toArray, List.set_cons_zero, List.set_cons_succ]
            refine take_atK (i := 3) 35 (.int .i64 (k : Int)) [9] rfl rfl (by kernel_rfl) (by decide) (by decide) (by kernel_rfl) (by kernel_rfl) (by kernel_rfl) (by kernel_rfl) (fun _ _ _ h => h) (Or.inl ⟨by rfl, fun W hW => by go_simp⟩) hS ?_
            try simp only [List.setIfInBounds_toArray, List.set_cons_zero, List.set_cons_succ]
            refine take_atK (i := 4) 36 (.pointer (some ⟨ab, ao + k * 2, none⟩)) [9] rfl rfl (by kernel_rfl) (by decide) (by decide) (by kernel_rfl) (by kernel_rfl) (by kernel_rfl) (by kernel_rfl) (fun _ _ _ h => h) (Or.inl ⟨by rfl, fun W hW => by go_simp⟩) hS ?_
            try simp only [List.setIfInBounds_toArray, List.set_cons_zero, List.set_cons_succ]
            refine take_atK (i := 5) 37 (.agg #[.int .i64 v, .slice A1 g.length c1]) [9] rfl rfl (by kernel_rfl) (by decide) (by decide) (by kernel_rfl) (by kernel_rfl) (by kernel_rfl) (by kernel_rfl) (fun _ _ _ h => h) (Or.inl ⟨by rfl, fun W hW => by obtain ⟨_, h1, h2⟩ := hW; go_simp⟩) hS ?_
            try simp only [List.setIfInBounds_toArray, List.set_cons_zero, List.set_cons_succ]
            refine wpAnyK_ready (rs := [6]) (by kernel_rfl) (by simp) ?_
            refine AllReadyK.cons rfl (fun K hK => ?_) AllReadyK.nil
            rw [if_pos (by rfl)]
            refine oper_build1 (.tmp 37) rfl rfl (build26 _ _ _ _ _) ?_
            refine hK.out _ _ (⟨cellB (below_alloc1 _ _) (Nat.le_refl _) hS.1, cellB (below_alloc1 _ _) (Nat.le_refl _) hS.2.1, cellB (below_alloc1 _ _) (Nat.le_refl _) hS.2.2⟩) (fun hS => ?_)
            clear hK K
            try simp only [Act.put, List.getElem_toArray, List.getElem_cons_succ, List.getElem_cons_zero, List.setIfInBounds_toArray, List.set_cons_zero, List.set_cons_succ]
            refine wpAnyK_ready (rs := [7]) (by kernel_rfl) (by simp) ?_
            refine AllReadyK.cons rfl (fun K hK => ?_) AllReadyK.nil
            refine Kd.N_append_step k64 (w0 := wr.drew) (n1 + 1) (by rfl) (.tmp 33) (.tmp 38) 26 64 (.agg #[.int .i64 0, .slice none 0 0]) 32 rfl Tryz.underlying26 info64 rfl (by decide) (by decide) (.slice R rs.length rc) rs (⟨v, g⟩ : S64) [.int .i64 v, .slice A1 g.length c1] (fun y => y ≠ w.heap.size ∧ y ≠ n1) (fun y => y < w.heap.size) rfl rfl (Kd.FK_below HFK.out (Below.refl _ _).drew) HOK.out HFR.out (Kd.N_drew HN.out) (Below.refl _ _) HSZ.out HLD.out ?_
            intro v1 w9 hv1 hb1 hg1 hat1
            rw [HRS2.out] at hv1
            obtain ⟨R9, rc9, rfl⟩ := Kd.N_slice hv1
            refine hK.out _ _ (⟨cell_grown (W := wr.drew) hg1 HXC.out HX1.out, cell_grown (W := wr.drew) hg1 HE0.out HXA.out, cell_grown (W := wr.drew) hg1 HE1.out HXA.out⟩) (fun hS => ?_)
            clear hK K
            try simp only [Act.put, List.getElem_toArray, List.getElem_cons_succ, List.getElem_cons_zero, List.setIfInBounds_toArray, List.set_cons_zero, List.set_cons_succ]
            refine take_atK (i := 8) 40 (.pointer (some ⟨n1, 1, none⟩)) [9] rfl rfl (by kernel_rfl) (by decide) (by decide) (by kernel_rfl) (by kernel_rfl) (by kernel_rfl) (by kernel_rfl) (fun _ _ _ h => h) (Or.inl ⟨by rfl, fun W hW => by go_simp⟩) hS ?_
            try simp only [List.setIfInBounds_toArray, List.set_cons_zero, List.set_cons_succ]
            refine storeK (by kernel_rfl) (by decide) rfl rfl (fun K hK => ?_)
            have y0 := hS.1
            have z0 : w9.frozen? ⟨n1, 1, none⟩ = false := blk_frozen (blk_grown (w := wr.drew) HXB.out hg1 HX1.out) 1
            go_simp
            refine hK.out _ _ ?_
            clear hK K
            have hS : True := trivial
            try simp only [Act.put, List.getElem_toArray, List.getElem_cons_succ, List.getElem_cons_zero, List.setIfInBounds_toArray, List.set_cons_zero, List.set_cons_succ]
            refine wpAnyH_done (by kernel_rfl) ?_ _
            refine NoPanic.normal ?_
            have hk9 := blk_put (blk_grown (w := wr.drew) HXB.out hg1 HX1.out) 1 (.slice R9 rs2.length rc9) rfl
            have HK9 := Aside0.mk hk9
            have hw9 : w.heap.size ≤ n1 := by omega
            have HB9 := Aside0.mk (((HB.out.drew).trans (hb1.mono (by omega))).setCell (p := ⟨n1, 1, none⟩) hw9 (.slice R9 rs2.length rc9))
            have HN9 := Aside0.mk (Kd.N_far hv1 (p := ⟨n1, 1, none⟩) (fun y hy => hy.2) (.slice R9 rs2.length rc9))
            have HU9 := Aside0.mk (Kd.F_far (Kd.F_after (Kd.F_drew HFU.out) hg1 hat1) (p := ⟨n1, 1, none⟩) (fun y hy => hy.1.2) (.slice R9 rs2.length rc9))
            have HKK9 := Aside0.mk (blk_far (blk_grown (w := wr.drew) HK.out hg1 (fun e => by have := Kd.N_base HN.out _ e.symm; omega)) (p := ⟨n1, 1, none⟩) (by show w.heap.size ≠ n1; omega) (.slice R9 rs2.length rc9))
            have hl2 : rs2.length = rs.length + 1 := by rw [← HRS2.out]; simp
            have HL2 := Lib.hid hl2
            have HRSX := Lib.hid (show rs2 = hiL o (l.take (k + 1)) by rw [HLO.out.2, if_neg hvo, ← HRS.out]; exact HRS2.out.symm)
            have HUSX := Lib.hid (show us = insAll [] (pagesOf (lowL o (l.take (k + 1)))) by rw [HLO.out.1, if_neg hvo, List.append_nil]; exact HUS.out)
            clear hk9 hv1 hb1 hg1 hat1 hl2
            go_wp2
            go_roundw
            case rel => exact ⟨k + 1, U, R9, uc, rc9, us, rs2, by have := HLT.out; omega, by go_num, huc, hul, by rw [HL2.out]; omega, HUSX, HRSX, HK9, HU9, HN9, HB9, HKK9⟩
            case measure => have := HLT.out; simp [intOf]; omega
        · obtain rfl : k = l.length := by omega
          have hus := HUS.out
          have hrs := HRS.out
          rw [List.take_length] at hus hrs
          rw [insAll_nil] at hus
          have HUX := Lib.hid hus
          have HRX := Lib.hid hrs
          have x0 := (blk_cell HXB.out 0).trans rfl
          have x1 := (blk_cell HXB.out 1).trans rfl
          have x2 := (blk_cell HXB.out 2).trans rfl
          have k0 := (blk_cell HK.out 0).trans rfl
          have k1 := (blk_cell HK.out 1).trans rfl
          have k2 := (blk_cell HK.out 2).trans rfl
          have z0 := blk_frozen HK.out 0
          have z1 := blk_frozen HK.out 1
          have z2 := blk_frozen HK.out 2
          have HUC := Aside0.mk huc
          clear hus hrs HUS HRS
          go_wp2
          refine bodyPost_ret (results_one rfl _ _ _ _ rfl (load56 (blk_put (blk_put (blk_put HK.out 0 (.slice U us.length uc) rfl) 1 (.slice R rs.length rc) rfl) 2 (.int .i64 0) rfl))) rfl ?_
          have hrr := Kd.N_reads' HN.out
          refine ⟨.inr ⟨HU.out, U, uc, R, rc, ?_⟩, ((HB.out.setCell (p := ⟨w.heap.size, 0, none⟩) (Nat.le_refl _) _).setCell (p := ⟨w.heap.size, 1, none⟩) (Nat.le_refl _) _).setCell (p := ⟨w.heap.size, 2, none⟩) (Nat.le_refl _) _⟩
          rw [← HUX.out, ← HRX.out]
          refine ⟨rfl, HUC.out, hrr.2.1, Kd.F_now (Kd.F_far (Kd.F_far (Kd.F_far HFU.out (p := ⟨w.heap.size, 0, none⟩) (fun y hy => hy.1.1) _) (p := ⟨w.heap.size, 1, none⟩) (fun y hy => hy.1.1) _) (p := ⟨w.heap.size, 2, none⟩) (fun y hy => hy.1.1) _), ?_⟩
          exact (Kd.N_reads' (Kd.N_far (Kd.N_far (Kd.N_far HN.out (p := ⟨w.heap.size, 0, none⟩) (fun y hy => hy.1) _) (p := ⟨w.heap.size, 1, none⟩) (fun y hy => hy.1) _) (p := ⟨w.heap.size, 2, none⟩) (fun y hy => hy.1) _)).2.2
    · have HU := Lib.hid (show useE o l = 1 by unfold useE; rw [if_pos va, if_neg ho])
      clear hC
      by_cases h1 : o < 1
      · have hd1 : decide (o < 1) = true := decide_eq_true h1
        clear va ho
        go_enter Tryz.func27, Tryz.ntmps27
        go_upto_region 4 with (first
          | (go_at_call 58; (with_reducible refine (HIA.out _ HB0.out).mono ?_); rintro e w2 ⟨rfl, hb2⟩))
        have hB2 : Below w.heap.size w w2 := HB0.out.trans (hb2.mono HB0.out.size)
        have hK2 := blk_below HK0.out hb2
        have HB2 := Aside0.mk hB2
        have HK2 := Aside0.mk hK2
        have hc0 := (blk_cell hK2 0).trans rfl
        have hc1 := (blk_cell hK2 1).trans rfl
        have hc2 := (blk_cell hK2 2).trans rfl
        have hz0 := blk_frozen hK2 0
        have hz1 := blk_frozen hK2 1
        have hz2 := blk_frozen hK2 2
        clear hB2 hK2
        go_wp2
        refine bodyPost_ret (results_one rfl _ _ _ _ rfl (load56 (blk_put (blk_put (blk_put HK2.out 0 (.slice none 0 0) rfl) 1 (.slice none 0 0) rfl) 2 (.int .i64 1) rfl))) rfl ?_
        exact ⟨.inl ⟨by rw [HU.out]; decide, by rw [HU.out]⟩, ((HB2.out.setCell (p := ⟨w.heap.size, 0, none⟩) (Nat.le_refl _) _).setCell (p := ⟨w.heap.size, 1, none⟩) (Nat.le_refl _) _).setCell (p := ⟨w.heap.size, 2, none⟩) (Nat.le_refl _) _⟩
      · have hd1 : decide (o < 1) = false := decide_eq_false h1
        have hd2 : decide (1099511627776 < o) = true := decide_eq_true (by omega)
        clear va ho
        go_enter Tryz.func27, Tryz.ntmps27
        go_upto_region 4 with (first
          | (go_at_call 58; (with_reducible refine (HIA.out _ HB0.out).mono ?_); rintro e w2 ⟨rfl, hb2⟩))
        have hB2 : Below w.heap.size w w2 := HB0.out.trans (hb2.mono HB0.out.size)
        have hK2 := blk_below HK0.out hb2
        have HB2 := Aside0.mk hB2
        have HK2 := Aside0.mk hK2
        have hc0 := (blk_cell hK2 0).trans rfl
        have hc1 := (blk_cell hK2 1).trans rfl
        have hc2 := (blk_cell hK2 2).trans rfl
        have hz0 := blk_frozen hK2 0
        have hz1 := blk_frozen hK2 1
        have hz2 := blk_frozen hK2 2
        clear hB2 hK2
        go_wp2
        refine bodyPost_ret (results_one rfl _ _ _ _ rfl (load56 (blk_put (blk_put (blk_put HK2.out 0 (.slice none 0 0) rfl) 1 (.slice none 0 0) rfl) 2 (.int .i64 1) rfl))) rfl ?_
        exact ⟨.inl ⟨by rw [HU.out]; decide, by rw [HU.out]⟩, ((HB2.out.setCell (p := ⟨w.heap.size, 0, none⟩) (Nat.le_refl _) _).setCell (p := ⟨w.heap.size, 1, none⟩) (Nat.le_refl _) _).setCell (p := ⟨w.heap.size, 2, none⟩) (Nat.le_refl _) _⟩
  · have va2 : validB 4096 l = false := Bool.eq_false_iff.2 va
    rw [va2] at HIA
    have HU := Lib.hid (show useE o l = 2 by unfold useE; rw [if_neg va])
    clear va va2 hC
    go_enter Tryz.func27, Tryz.ntmps27
    go_upto_region 2 with (first
      | (go_at_call 58; (with_reducible refine (HIA.out _ HB0.out).mono ?_); rintro e w2 ⟨rfl, hb2⟩))
    have hB2 : Below w.heap.size w w2 := HB0.out.trans (hb2.mono HB0.out.size)
    have hK2 := blk_below HK0.out hb2
    have HB2 := Aside0.mk hB2
    have HK2 := Aside0.mk hK2
    have hc0 := (blk_cell hK2 0).trans rfl
    have hc1 := (blk_cell hK2 1).trans rfl
    have hc2 := (blk_cell hK2 2).trans rfl
    have hz0 := blk_frozen hK2 0
    have hz1 := blk_frozen hK2 1
    have hz2 := blk_frozen hK2 2
    clear hB2 hK2
    go_wp2
    refine bodyPost_ret (results_one rfl _ _ _ _ rfl (load56 (blk_put (blk_put (blk_put HK2.out 0 (.slice none 0 0) rfl) 1 (.slice none 0 0) rfl) 2 (.int .i64 2) rfl))) rfl ?_
    exact ⟨.inl ⟨by rw [HU.out]; decide, by rw [HU.out]⟩, ((HB2.out.setCell (p := ⟨w.heap.size, 0, none⟩) (Nat.le_refl _) _).setCell (p := ⟨w.heap.size, 1, none⟩) (Nat.le_refl _) _).setCell (p := ⟨w.heap.size, 2, none⟩) (Nat.le_refl _) _⟩
end Go.Proofs.YtpnhelcemodnmaaGreat

/- The statements: short. -/
namespace Go.Proofs.YtpnhelcemodnmaaGreat
open Go.RowKit Go.Shelf Go.Proofs.YtpnhelcemodnmaaGreatW.PrintWords Go.Proofs.YtpnhelcemodnmaaGreatW.PrintLast Go.Proofs.YtpnhelcemodnmaaGreatW.PrintMore PA
set_option linter.unusedVariables false
set_option linter.unusedSimpArgs false
attribute [local go_sem] Oper.semAt_some
/-- A list is short. -/
def shortP (l : List S64) : Prop := (pagesOf (l.take 201)).length ≤ 900 ∧ l.length ≤ 200
instance (l : List S64) : Decidable (shortP l) := by unfold shortP; infer_instance
theorem short_tiny {l : List S64} (h : shortP l) : tinyL l := by
  obtain ⟨h1, h2⟩ := h
  rw [List.take_of_length_le (by omega)] at h1
  exact ⟨by omega, by omega⟩
theorem pages_take_bound (l : List S64) (hb : ∀ f ∈ l, f.f1.length ≤ 17592186044416) (m : Nat) (hm : m ≤ l.length) : (pagesOf (l.take m)).length ≤ m * 17592186044416 := by
  induction m with
  | zero => simp [pagesOf, flat]
  | succ m ih =>
    rw [pages_take_succ l m (by omega), List.length_append, rd_nat l m (by omega)]
    have := hb _ (List.getElem_mem (show m < l.length by omega))
    have := ih (by omega)
    omega
theorem short_l1 (ls : List (List S64)) (i : Nat) (hi : i < ls.length) (l : List S64) (hl : rd_L3 ls (i : Int) = l) (hb : ∀ f ∈ l, f.f1.length ≤ 17592186044416) (K : Nat) (d : Nat) : ∀ m : Nat, m ≤ l.length → m ≤ 201 → min l.length 201 - m = d →
    understorylaw12_short.l1 (d + 1 + K) ls (i : Int) ((pagesOf (l.take m)).length : Int) (m : Int) = if shortP l then understorylaw12_short.l0 K ls (wrap64 ((i : Int) + 1)) else some false := by
  have fin : ∀ m : Nat, (m = l.length ∨ m = 201 ∧ 201 < l.length) → m ≤ l.length → ∀ X : Option Bool, (if ((pagesOf (l.take m)).length : Int) > 900 then some false else (if (l.length : Int) > 200 then some false else X)) = if shortP l then X else some false := by
    intro m hm hml X
    have heq : l.length ≤ 200 → l.take m = l.take 201 := fun h => by
      rcases hm with rfl | ⟨rfl, h2⟩
      · rw [List.take_length, List.take_of_length_le (by omega)]
      · rfl
    by_cases hs : shortP l
    · have hs' := hs
      obtain ⟨h9, h200⟩ := hs'
      rw [if_pos hs, heq h200, if_neg (by omega), if_neg (by omega)]
    · rw [if_neg hs]
      split
      · rfl
      · split
        · rfl
        · next h9 h200 => exact absurd ⟨by rw [← heq (by omega)]; omega, by omega⟩ hs
  induction d with
  | zero =>
    intro m h1 h2 h3
    rw [show 0 + 1 + K = K + 1 by omega]
    simp only [understorylaw12_short.l1, hl]
    rw [if_pos (by omega), if_pos (by omega)]
    by_cases hm : m < l.length
    · have hm2 : m = 201 := by omega
      subst hm2
      rw [if_pos (by omega), if_neg (by omega)]
      exact fin 201 (.inr ⟨rfl, hm⟩) (by omega) _
    · rw [if_neg (by omega)]
      exact fin m (.inl (by omega)) h1 _
  | succ d ih =>
    intro m h1 h2 h3
    have hm : m < l.length := by omega
    have hm2 : m ≤ 200 := by omega
    rw [show d + 1 + 1 + K = (d + 1 + K) + 1 by omega]
    simp only [understorylaw12_short.l1, hl]
    rw [if_pos (by omega), if_pos (by omega), if_pos (by omega), if_pos (by omega), if_pos (by omega), wrapp m (by omega)]
    have hpb := pages_take_bound l hb (m + 1) (by omega)
    have e : wrap64 (((pagesOf (l.take m)).length : Int) + ((rd_T64 l (m : Int)).f1.length : Int)) = ((pagesOf (l.take (m + 1))).length : Int) := by
      rw [pages_take_succ l m hm, List.length_append] at hpb ⊢
      unfold wrap64
      omega
    rw [e, ih (m + 1) (by omega) (by omega) (by omega)]
theorem short_two (a b : List S64) (ha : ∀ f ∈ a, f.f1.length ≤ 17592186044416) (hb : ∀ f ∈ b, f.f1.length ≤ 17592186044416) : ∃ K, understorylaw12_short.f K [a, b] = some (decide (shortP a ∧ shortP b)) := by
  have e0 : (pagesOf (([] : List S64))).length = 0 := by simp [pagesOf, flat]
  let da := min a.length 201
  let db := min b.length 201
  refine ⟨1 + (da + 1 + (1 + (db + 1 + 1))) , ?_⟩
  unfold understorylaw12_short.f
  rw [show 1 + (da + 1 + (1 + (db + 1 + 1))) = (da + 1 + (1 + (db + 1 + 1))) + 1 by omega]
  simp only [understorylaw12_short.l0]
  rw [if_pos (by simp)]
  have h1 := short_l1 [a, b] 0 (by simp) a rfl ha (1 + (db + 1 + 1)) da 0 (by omega) (by omega) rfl
  rw [List.take_zero, e0] at h1
  rw [show ((0 : Nat) : Int) = 0 from rfl] at h1
  rw [h1]
  by_cases hsa : shortP a
  · rw [if_pos hsa, show wrap64 ((0 : Int) + 1) = ((1 : Nat) : Int) from by unfold wrap64; omega, show 1 + (db + 1 + 1) = (db + 1 + 1) + 1 by omega]
    simp only [understorylaw12_short.l0]
    rw [if_pos (by simp)]
    have h2 := short_l1 [a, b] 1 (by simp) b rfl hb 1 db 0 (by omega) (by omega) rfl
    rw [List.take_zero, e0] at h2
    rw [show ((0 : Nat) : Int) = 0 from rfl] at h2
    rw [h2]
    by_cases hsb : shortP b
    · rw [if_pos hsb]
      simp [understorylaw12_short.l0, hsa, hsb, show wrap64 2 = 2 from by unfold wrap64; omega, show wrap64 (1 + 1) = 2 from by unfold wrap64; omega]
    · rw [if_neg hsb]; simp [hsb]
  · rw [if_neg hsa]; simp [hsa]
theorem short_any (a b : List S64) (A : Option Addr) (c : Nat) (w : World) (hC : Kd.C (Kd.slice 64 k64) w A 2 [a, b]) (hc : 2 ≤ c) (ha : ∀ f ∈ a, f.f1.length ≤ 17592186044416) (hb : ∀ f ∈ b, f.f1.length ≤ 17592186044416) :
    Calls Tryz.prog 14 #[.slice A 2 c] w fun e w' => e = .returned (.bool (decide (shortP a ∧ shortP b))) ∧ Drawn0 w w' := by
  obtain ⟨K, hK⟩ := short_two a b ha hb
  exact understorylaw12_short.calls K A c [a, b] _ w hC hc hK
end Go.Proofs.YtpnhelcemodnmaaGreat

/- Account. -/
namespace Go.Proofs.YtpnhelcemodnmaaGreat
open Go.RowKit Go.Shelf Go.Proofs.YtpnhelcemodnmaaGreatW.PrintWords Go.Proofs.YtpnhelcemodnmaaGreatW.PrintLast Go.Proofs.YtpnhelcemodnmaaGreatW.PrintMore PA
set_option linter.unusedVariables false
set_option linter.unusedSimpArgs false
attribute [local go_sem] Oper.semAt_some
/-- Block g holds how many times each page below p has been met. -/
def Cnt (w : World) (g p : Nat) (S : List Int) : Prop := ∃ cs, w.heap[g]? = some (.cells cs 3 (0, 0)) ∧ ∀ j, j < p → cs[j]? = some (.int .i64 (S.count (j : Int) : Int))
theorem Cnt.cell {w : World} {g p : Nat} {S : List Int} (h : Cnt w g p S) (n : Nat) (hn : n < p) : w.cell? ⟨g, n, none⟩ = some (.int .i64 (S.count (n : Int) : Int)) := by
  obtain ⟨cs, h1, h3⟩ := h
  exact (blk_cell h1 n).trans (h3 n hn)
theorem Cnt.free {w : World} {g p : Nat} {S : List Int} (h : Cnt w g p S) (n : Nat) : w.frozen? ⟨g, n, none⟩ = false := by
  obtain ⟨cs, h1, h3⟩ := h
  exact blk_frozen h1 n
theorem Cnt.lt {w : World} {g p : Nat} {S : List Int} (h : Cnt w g p S) : g < w.heap.size := by
  obtain ⟨cs, h1, h3⟩ := h
  exact blk_lt h1
theorem Cnt.kept {w w1 : World} {g p : Nat} {S : List Int} (h : Cnt w g p S) (e : w1.heap[g]? = w.heap[g]?) : Cnt w1 g p S := by
  obtain ⟨cs, h1, h2⟩ := h
  exact ⟨cs, e.trans h1, h2⟩
theorem Cnt.add {w : World} {g p : Nat} {S : List Int} (h : Cnt w g p S) (n : Nat) (hn : n < p) : Cnt (w.setCell ⟨g, n, none⟩ (.int .i64 ((S.count (n : Int) : Int) + 1))) g p (S ++ [(n : Int)]) := by
  obtain ⟨cs, h1, h3⟩ := h
  refine ⟨cs.setIfInBounds n (.int .i64 ((S.count (n : Int) : Int) + 1)), blk_set h1 n _, fun j hj => ?_⟩
  have hs : n < cs.size := (Array.getElem?_eq_some_iff.1 (h3 n hn)).1
  by_cases e : j = n
  · subst e
    simp [hs, List.count_append]
  · rw [Array.getElem?_setIfInBounds_ne (Ne.symm e), h3 j hj, List.count_append]
    have : List.count (j : Int) [(n : Int)] = 0 := List.count_eq_zero_of_not_mem (by rw [List.mem_singleton]; omega)
    rw [this, Nat.add_zero]
/-- What Account answers of counted pages. -/
def AccOut (p : Nat) (S : List Int) (e n : Int) : Prop := (e = 0 ∧ n = 0 ∧ ∀ m : Nat, 2 ≤ m → m < p → S.count (m : Int) = 1) ∨ (e = 9 ∧ ∃ k : Nat, n = (k : Int) ∧ 2 ≤ k ∧ k < p ∧ S.count (k : Int) ≠ 1 ∧ ∀ m : Nat, 2 ≤ m → m < k → S.count (m : Int) = 1)
def AccR (p : Nat) (S : List Int) (w : World) (e : Ending) (w' : World) : Prop := ∃ a n : Int, e = .returned (.tuple #[.int .i64 a, .int .i64 n]) ∧ AccOut p S a n ∧ Below w.heap.size w w'
/-- What lies behind the rounds of Account's walk over the list. -/
def AI (l : List S64) (w : World) (g nb p mc : Nat) (used : List Int) (pre : List (Pg l)) (W : World) : Prop :=
  (Cnt W g p (used ++ pre.map (·.1.2)) ∧ W.heap[nb]? = some (.cells #[.slice (some ⟨g, 0, none⟩) p mc] 23 (0, 0))) ∧ Below w.heap.size w W
theorem AI.own (l : List S64) (w : World) (g nb p mc : Nat) (used : List Int) (B : Nat) (h1 : w.heap.size ≤ B) : OwnFrom B (AI l w g nb p mc used) := by
  rintro pre A C row ⟨⟨hb, h3⟩, h5⟩ hg hr
  have hr' := fun r e => (hr r e).2
  refine ⟨⟨?_, (own_blk h3 hg hr').trans h3⟩, h5.grown hg h5.size fun k e => Nat.le_trans h1 (hr k e).1⟩
  obtain ⟨cs, hb1, hb2⟩ := hb
  exact ⟨cs, (own_blk hb1 hg hr').trans hb1, hb2⟩
def AX (l : List S64) (c : Code) (pre : List (Pg l)) (W : World) : Prop := False
theorem AX.own (l : List S64) (B : Nat) (c : Code) : OwnFrom B (AX l c) := by
  rintro pre A C row h
  exact h.elim
set_option maxRecDepth 100000 in
set_option maxHeartbeats 4000000 in
theorem account_walk (p : Nat) (used : List Int) (l : List S64) (U : Option Addr) (uc : Nat) (A : Option Addr) (c : Nat) (w : World) (hU : (Kd.int .i64).C w U used.length used) (huc : used.length ≤ uc) (hC : k64.C w A l.length l) (hc : l.length ≤ c) (h0 : checkE p l = 0) (h1 : incB p used = true) (hul : used.length ≤ 1000000) (hpl : (pagesOf l).length ≤ 1000000) :
    Calls Tryz.prog 22 #[.int .i64 (p : Int), .slice U used.length uc, .slice A l.length c] w (AccR p (used ++ pagesOf l) w) := by
  have hp : 2 ≤ p ∧ p ≤ 4096 := by
    unfold checkE at h0
    by_cases hp : (2 : Int) ≤ p ∧ (p : Int) ≤ 4096
    · omega
    · rw [if_neg hp] at h0; cases h0
  have hv : validB p l = true := by
    unfold checkE at h0
    rw [if_pos ⟨by omega, by omega⟩] at h0
    by_cases hv : validB p l = true
    · exact hv
    · rw [if_neg hv] at h0; cases h0
  have HCK := Lib.hid (check_any l p A c w hC hc)
  rw [h0] at HCK
  have HIN := Lib.hid (fun (w1 : World) (hb : Below w.heap.size w w1) => inc_any p (by omega) (by omega) used U uc w1 (Kd.C_below hU hb) huc)
  rw [h1] at HIN
  have hinc := of_decide_eq_true h1
  have HINC := Lib.hid hinc
  have HV := Lib.hid (of_decide_eq_true hv).2.1
  have HU := Aside0.mk hU
  have HC := Aside0.mk hC
  have HP := Aside0.mk hp
  have hp2 : 2 ≤ p := hp.1
  have hp4 : p ≤ 4096 := hp.2
  clear h0 h1 hinc hv hU hp
  refine (callsIn_wide (n := 3)).1 ?_
  refine callsIn_of_wp_marks Tryz.func22 rfl trivial ?_ rfl
  simp only [Tryz.ntmps22, List.size_toArray, List.length_cons, List.length_nil, Nat.reduceAdd, Nat.reduceSub, Array.replicate_succ, Array.replicate_zero, List.push_toArray, List.append_toArray, List.nil_append, List.cons_append]
  refine (wpIn_wide (n := 3)).2 ?_
  go_upto_region 6 with (first
    | (go_at_call 28; (with_reducible refine HCK.out.mono ?_); rintro e w1 ⟨rfl, hb1⟩)
    | (go_at_call 48; (with_reducible refine (HIN.out _ hb1).mono ?_); rintro e w2 ⟨rfl, hd2⟩))
  have hB2 : Below w.heap.size w w2 := hb1.trans (hd2.below.mono hb1.size)
  have HB2 := Aside0.mk hB2
  have HS2 := Aside0.mk hB2.size
  clear hb1 hd2 hB2 HCK HIN
  go_upto_region 8 with ((with_reducible refine gate_dst (N := 26) rfl ?_); refine Kd.R_make (Kd.int .i64) (w0 := w) w.heap.size 3 rfl (N := 26) rfl 23 _ _ rfl (p : Int) rfl rfl Tryz.underlying23 (.int .i64 0) 8 info3 rfl (by decide) (by omega) (0 : Int) (ok := fun _ => True) (okp := fun _ => True) rfl (fun _ hk => hk) trivial (by omega) (by omega) HB2.out HS2.out ?_; intro v5 w5 ho5 hb5 hg5 hn5; have hrl : (List.replicate (p : Int).toNat (0 : Int)).length = p := (by simp); obtain ⟨g, mc, hv5, hbg, hgs, cells, hcells⟩ := Kd.R_form ho5 (by rw [hrl]; omega); rw [hrl] at hv5; subst hv5)
  have hcn : Cnt w5 g p [] := ⟨cells, hcells, fun j hj => by
    have h2 := (Kd.R_celln (0 : Int) ho5 (j : Int) (by omega) (by omega)).1
    rw [Int.toNat_natCast, blk_cell hcells j] at h2
    rw [h2]
    simp [rdOf, hj]⟩
  have hbk := blk_new w5 (.cells #[.slice (some ⟨g, 0, none⟩) p mc] 23)
  have hb1 := below_alloc1 w5 (.cells #[.slice (some ⟨g, 0, none⟩) p mc] 23)
  obtain ⟨nb, hnb⟩ : ∃ nb, w5.heap.size = nb := ⟨_, rfl⟩
  obtain ⟨W6, hW6⟩ : ∃ W6, w5.alloc (.cells #[.slice (some ⟨g, 0, none⟩) p mc] 23) = W6 := ⟨_, rfl⟩
  rw [hW6] at hbk hb1 ⊢
  rw [hnb] at hbk hgs ⊢
  have HB6 := Aside0.mk (hb5.trans (hb1.mono hb5.size))
  have HC6 := Aside0.mk (hcn.kept (hb1.block g (by omega)))
  have HN6 := Aside0.mk hbk
  clear hcn hbk hb1 hW6 ho5 hb5 hg5 hn5 hcells hrl hnb
  go_loopw [29] (fun i wr => ∃ k : Nat, k ≤ used.length ∧ i = .int .i64 k ∧ Aside0 (Cnt wr g p (used.take k)) ∧ Aside0 (wr.heap[nb]? = some (.cells #[.slice (some ⟨g, 0, none⟩) p mc] 23 (0, 0))) ∧ Aside0 (Below w.heap.size w wr))
    (fun i _ => used.length - (intOf i).toNat)
  case atStart => exact ⟨0, Nat.zero_le _, rfl, HC6, HN6, HB6⟩
  case round =>
    clear HC6 HN6 HB6
    obtain ⟨k, hk, rfl, HCN, HNB, HB⟩ := hrel
    have y0 : wr.cell? ⟨nb, 0, none⟩ = some (.slice (some ⟨g, 0, none⟩) p mc) := (blk_cell HNB.out 0).trans rfl
    by_cases hlt : k < used.length
    · obtain ⟨ad, rfl, hx⟩ := Kd.at_int (Kd.C_below HU.out HB.out) (k : Int) (by omega) (by omega)
      rw [Int.toNat_natCast, rd_at used k hlt] at hx
      have hxb := HINC.out.1 _ (List.getElem_mem hlt)
      have HTS := Lib.hid (List.take_succ_eq_append_getElem hlt)
      obtain ⟨x, hxx⟩ : ∃ x, used[k] = x := ⟨_, rfl⟩
      rw [hxx] at hx hxb HTS
      obtain ⟨n, rfl⟩ : ∃ n : Nat, x = (n : Int) := ⟨x.toNat, by omega⟩
      have hc1 := HCN.out.cell n (by omega)
      have hz1 := HCN.out.free n
      have hadd := HCN.out.add n (by omega)
      have hcl : (used.take k).count (n : Int) ≤ 1000000 := Nat.le_trans List.count_le_length (by rw [List.length_take]; omega)
      obtain ⟨q, hq⟩ : ∃ q, (used.take k).count (n : Int) = q := ⟨_, rfl⟩
      rw [hq] at hc1 hadd hcl
      have HADD := Aside0.mk hadd
      have hn4 : (n : Int) < (p : Int) := by omega
      have hn0 : (0 : Int) ≤ (n : Int) := by omega
      clear hxx hadd hq
      go_wp2
      go_roundw
      case rel => exact ⟨k + 1, by omega, by go_num, ⟨by rw [HTS.out]; exact HADD.out⟩, ⟨blk_far HNB.out (p := ⟨g, n, none⟩) (by show nb ≠ g; omega) _⟩, ⟨HB.out.setCell (p := ⟨g, n, none⟩) hbg _⟩⟩
      case measure => simp [intOf]; omega
    · obtain rfl : k = used.length := by omega
      have HCU := Aside0.mk (show Cnt wr g p used by have := HCN.out; rw [List.take_length] at this; exact this)
      clear HCN
      go_wp2_with (go_at_call 68; (with_reducible refine (each_any A l.length c _).mono ?_); rintro e w' ⟨rfl, rfl⟩)
      have hC := HC.out
      have hlb := blk_lt HNB.out
      have hl0 := blk_new wr (.cells #[.slice A l.length c] 26)
      have hb1 := below_alloc1 wr (.cells #[.slice A l.length c] 26)
      obtain ⟨Bl, hBl⟩ : ∃ Bl, wr.heap.size = Bl := ⟨_, rfl⟩
      obtain ⟨W0, hW0⟩ : ∃ W0, wr.alloc (.cells #[.slice A l.length c] 26) = W0 := ⟨_, rfl⟩
      have hs0 : W0.heap.size = Bl + 1 := by rw [← hW0, ← hBl]; simp
      rw [hW0] at hl0 hb1 ⊢
      have hB0 : Below w.heap.size w W0 := HB.out.trans (hb1.mono HB.out.size)
      have hcu0 : Cnt W0 g p used := HCU.out.kept (hb1.block g (HCU.out.lt))
      have hnb0 := blk_below HNB.out hb1
      rw [hBl] at hl0 hlb ⊢
      clear hW0 hBl hb1 y0
      have hseq := fun (F : Fence) (n : Nat) (h7 : F.fn 112) (hro : F.round = none) (hn : 1 ≤ n) => each_stops F n h7 hro hn l Bl g (by omega) A c hc w W0 hB0 hC (by omega) (by omega) hl0
      clear hl0
      refine (wpIn_wide (n := 3)).1 ?_
      refine wpIn_rangeFunc_ownG (gf := 112) (lb := #[.pointer (some ⟨Bl, 0, none⟩)]) rfl (by decide) rfl trivial (enters_of Tryz.func112 (by kernel_rfl) rfl)
        (hseq Fence.wide 2 trivial rfl (by decide)) KpE.trans (fun W lo o o' h1 h2 h3 _ => KpE.putObj W lo o o' (Nat.le_trans hB0.size h1) h2 h3) (Below.refl _ _) (fun _ => rfl)
        (AI l w g nb p mc used) (AX l) (AI.own l w g nb p mc used _ (by omega)) (AX.own l _) ⟨⟨by simpa using hcu0, hnb0⟩, hB0⟩ ?a₁ ?assign ?body ?done ?stop
      case assign =>
        intro lo x W K hK
        gi_wp2
        exact hK
      case body =>
        rintro lo pre x W ⟨⟨hb, hnbx⟩, hB⟩ hlen
        have hx := form_page HV.out x.1 x.2
        obtain ⟨n, hxn⟩ : ∃ n : Nat, x.1.2 = (n : Int) := ⟨x.1.2.toNat, by omega⟩
        have y0 : W.cell? ⟨nb, 0, none⟩ = some (.slice (some ⟨g, 0, none⟩) p mc) := (blk_cell hnbx 0).trans rfl
        have hc1 := hb.cell n (by omega)
        have hz1 := hb.free n
        have hadd := hb.add n (by omega)
        have hpe : used ++ (pre ++ [x]).map (·.1.2) = used ++ pre.map (·.1.2) ++ [(n : Int)] := by simp [hxn]
        rw [← hpe] at hadd
        have hcl : (used ++ pre.map (·.1.2)).count (n : Int) ≤ 2000000 := Nat.le_trans List.count_le_length (by
          have e : (pagesOf l).length = (flat l).length := by simp [pagesOf]
          rw [List.length_append, List.length_map]
          omega)
        obtain ⟨q, hq⟩ : ∃ q, (used ++ pre.map (·.1.2)).count (n : Int) = q := ⟨_, rfl⟩
        rw [hq] at hc1 hadd hcl
        have HADD := Aside0.mk hadd
        have HNBX := Aside0.mk hnbx
        have hn4 : (n : Int) < (p : Int) := by omega
        have hn0 : (0 : Int) ≤ (n : Int) := by omega
        clear hadd hq hpe hb hnbx
        rw [hxn]
        gi_wp2
        exact ⟨(KeepsOthers.setCell _ _ _).from _, (KpE.refl W).setCell (by omega) n _, ⟨HADD.out, blk_far HNBX.out (p := ⟨g, n, none⟩) (by show nb ≠ g; omega) _⟩, hB.setCell (p := ⟨g, n, none⟩) hbg _⟩
      case done =>
        rintro D xs W hD hS ⟨⟨hb, hnbx⟩, hB⟩ hK
        have hS' : used ++ xs.map (·.1.2) = used ++ pagesOf l := by
          have e := congrArg (List.map (·.2)) hS
          rw [List.map_map] at e
          exact congrArg (used ++ ·) e
        rw [hS'] at hb
        clear hS' hS
        obtain ⟨T, hT⟩ : ∃ T, used ++ pagesOf l = T := ⟨_, rfl⟩
        rw [hT] at hb
        have HTE := Lib.hid hT
        have HB := Aside0.mk hb
        have HK := Aside0.mk hK
        have hD2 : w.heap.size ≤ D := by have := hB0.size; omega
        have HBF := Aside0.mk (show Below w.heap.size w (W.putObj D (.deferred none)) from hB.trans ⟨rfl, rfl, rfl, by simp, fun k hk => World.putObj_heap_other (by omega)⟩)
        have y0 : W.cell? ⟨nb, 0, none⟩ = some (.slice (some ⟨g, 0, none⟩) p mc) := (blk_cell hnbx 0).trans rfl
        have HTL := Lib.hid (show T.length ≤ 2000000 by rw [← hT, List.length_append]; omega)
        clear hT hb hK hB hnbx hD
        go_upto_region 16 with (fail)
        go_loop [14] (fun i => ∃ n : Nat, 2 ≤ n ∧ n ≤ p ∧ i = .int .i64 n ∧ Hid (∀ m : Nat, 2 ≤ m → m < n → T.count (m : Int) = 1))
          (fun i => p - (intOf i).toNat)
        case atStart => exact ⟨2, Nat.le_refl _, hp2, rfl, Lib.hid (fun m _ _ => by omega)⟩
        case round =>
          obtain ⟨n, hn2, hnp, rfl, HM⟩ := hrel
          by_cases hlt : n < p
          · have hc1 := HB.out.cell n hlt
            obtain ⟨q, hq⟩ : ∃ q, T.count (n : Int) = q := ⟨_, rfl⟩
            have hql : q ≤ 2000000 := by rw [← hq]; exact Nat.le_trans List.count_le_length HTL.out
            rw [hq] at hc1
            have HQ := Lib.hid hq
            have hn4 : (n : Int) < (p : Int) := by omega
            have hn0 : (0 : Int) ≤ (n : Int) := by omega
            clear hq
            by_cases h1 : q = 1
            · subst h1
              have HNX := Lib.hid (show ∀ m : Nat, 2 ≤ m → m < n + 1 → T.count (m : Int) = 1 from fun m h2 h3 => by
                by_cases e : m = n
                · subst e; exact HQ.out
                · exact HM.out m h2 (by omega))
              go_wp2
              go_round
              case rel => exact ⟨n + 1, by omega, by omega, by go_num, HNX⟩
              case measure => simp [intOf]; omega
            · have hq1 : ((q : Int) != 1) = true := by simp; omega
              have HOUT := Lib.hid (show AccOut p T 9 n from .inr ⟨rfl, n, rfl, hn2, hlt, by rw [HQ.out]; exact h1, HM.out⟩)
              clear h1 hlt
              go_wp2
              refine ⟨by simp, .inl ⟨_, _, rfl, run_takeDeferred HK.out, ?_⟩⟩
              exact ⟨.tuple #[.int .i64 9, .int .i64 n], by simp [results, Tryz.results22, go_sem], 9, n, rfl, by rw [HTE.out]; exact HOUT.out, HBF.out⟩
          · obtain rfl : n = p := by omega
            have HOUT := Lib.hid (show AccOut n T 0 0 from .inl ⟨rfl, rfl, HM.out⟩)
            clear hlt
            go_wp2
            refine ⟨by simp, .inl ⟨_, _, rfl, run_takeDeferred HK.out, ?_⟩⟩
            exact ⟨.tuple #[.int .i64 0, .int .i64 0], by simp [results, Tryz.results22, go_sem], 0, 0, rfl, by rw [HTE.out]; exact HOUT.out, HBF.out⟩
      case stop =>
        rintro D c pre W hD hS h hK
        exact h.elim
end Go.Proofs.YtpnhelcemodnmaaGreat

/- End's memory between its parts; take there. -/
namespace Go.Proofs.YtpnhelcemodnmaaGreat
open Go.RowKit Go.Shelf Go.Proofs.YtpnhelcemodnmaaGreatW.PrintWords Go.Proofs.YtpnhelcemodnmaaGreatW.PrintLast Go.Proofs.YtpnhelcemodnmaaGreatW.PrintMore PA
set_option linter.unusedVariables false
set_option linter.unusedSimpArgs false
attribute [local go_sem] Oper.semAt_some
/-- Off a value's own block. -/
def offV (t : Value) (q : Nat) : Prop := some q ≠ t.ownBlock
/-- Off a value's own block and off End's five. -/
def offT (b : Nat) (t : Value) (q : Nat) : Prop := offV t q ∧ off5 b q
theorem EndM.below {w0 w w' : World} {b g : Nat} {sp : Array Value} {pg : List S89} {l : List S64} {X : Nat → Prop} (h : EndM w0 b g sp pg l X w) (hg : b ≤ g) (hb : Below w.heap.size w w') : EndM w0 b g sp pg l X w' := by
  obtain ⟨P, hN, hA, hE, hB, hS, hq⟩ := h
  exact ⟨P, Kd.N_below hN hb, hA.below hb, hE.below hb, hB.trans (hb.mono (by omega)), Nat.le_trans hS hb.size, hq⟩
theorem EndM.x {w0 w : World} {b g : Nat} {sp : Array Value} {pg : List S89} {l : List S64} {X X' : Nat → Prop} (h : EndM w0 b g sp pg l X w) (hX : ∀ k, X k → k < w.heap.size → X' k) : EndM w0 b g sp pg l X' w := by
  obtain ⟨P, hN, hA, hE, hB, hS, hq⟩ := h
  obtain ⟨A, c, h1, h2, h3⟩ := hA
  exact ⟨P, Kd.N_mono (Kd.N_bound hN) (fun k hk => ⟨hk.1.1, hX k hk.1.2 hk.2⟩), ⟨A, c, h1, h2, Kd.F_mono (Kd.F_bound h3) (fun k hk => ⟨hk.1.1, hX k hk.1.2 hk.2⟩)⟩, hE, hB, hS, hq⟩
/-- A row that lies off the rest has grown. -/
theorem EndM.grown {w0 w w' : World} {b g : Nat} {sp : Array Value} {pg : List S89} {l : List S64} {t t' : Value} (h : EndM w0 b g sp pg l (offT b t) w) (hbg : b + 5 ≤ g) (ht : ∀ k, t.ownBlock = some k → b + 5 ≤ k ∧ k ≠ g) (hg : w.grownBy w' t.ownBlock) (hat : t'.ownBlock = t.ownBlock ∨ ∃ b, t'.ownBlock = some b ∧ w.heap.size ≤ b) (hbw : Below (b + 5) w w') : EndM w0 b g sp pg l (offT b t') w' := by
  obtain ⟨P, hN, hA, hE, hB, hS, hq⟩ := h
  obtain ⟨A, c, h1, h2, h3⟩ := hA
  refine ⟨P, Kd.N_mono (Kd.N_after (ok := fun k => k ≠ g ∧ off5 b k) (Kd.N_mono hN (fun k hk => ⟨⟨hk.1, hk.2.2⟩, hk.2.1⟩)) hg hat) (fun k hk => ⟨hk.1.1, hk.2, hk.1.2⟩), ⟨A, c, (hg.block g (by omega) (fun e => (ht g e.symm).2 rfl)).trans h1, h2, Kd.F_mono (Kd.F_after (ok := fun k => okA g P k ∧ off5 b k) (Kd.F_mono h3 (fun k hk => ⟨⟨hk.1, hk.2.2⟩, hk.2.1⟩)) hg hat) (fun k hk => ⟨hk.1.1, hk.2, hk.1.2⟩)⟩, hE.keep (fun k _ hk hlt => hg.block k hlt (fun e => by have := (ht k e.symm).1; omega)), hB.trans (hbw.mono (by omega)), Nat.le_trans hS hg.size, hq⟩
theorem takeStep_cases {l l' : List S64} {n n' : Nat} {p : Int} (h : takeStep l n = some (p, l', n')) : (∃ q qs t, l = ⟨0, q :: qs⟩ :: t ∧ p = q ∧ l' = restL qs t ∧ n' = n) ∨ ((l = [] ∨ (rd_T64 l 0).f0 ≠ 0) ∧ n < 4096 ∧ p = n ∧ l' = l ∧ n' = n + 1) := by
  rcases l with _ | ⟨⟨v, _ | ⟨q, qs⟩⟩, t⟩
  · rw [takeStep] at h
    split at h
    · next hm =>
      obtain ⟨rfl, rfl, rfl⟩ : (n : Int) = p ∧ [] = l' ∧ n + 1 = n' := by simpa using h
      exact .inr ⟨.inl rfl, hm, rfl, rfl, rfl⟩
    · simp at h
  · rw [takeStep] at h
    split at h
    · simp at h
    · next hv =>
      split at h
      · next hm =>
        obtain ⟨rfl, rfl, rfl⟩ : (n : Int) = p ∧ ⟨v, []⟩ :: t = l' ∧ n + 1 = n' := by simpa using h
        exact .inr ⟨.inr hv, hm, rfl, rfl, rfl⟩
      · simp at h
  · rw [takeStep] at h
    split at h
    · next hv =>
      obtain ⟨rfl, rfl, rfl⟩ : q = p ∧ restL qs t = l' ∧ n = n' := by simpa using h
      exact .inl ⟨q, qs, t, by rw [hv], rfl, rfl, rfl⟩
    · next hv =>
      split at h
      · next hm =>
        obtain ⟨rfl, rfl, rfl⟩ : (n : Int) = p ∧ ⟨v, q :: qs⟩ :: t = l' ∧ n + 1 = n' := by simpa using h
        exact .inr ⟨.inr hv, hm, rfl, rfl, rfl⟩
      · simp at h
theorem takeStep_keeps {l l' : List S64} {n n' : Nat} {p : Int} (h : takeStep l n = some (p, l', n')) (hf : formP 4096 l) (hs : smallL l) : formP 4096 l' ∧ smallL l' ∧ n ≤ n' ∧ (n ≤ 4096 → n' ≤ 4096) := by
  rcases takeStep_cases h with ⟨q, qs, t, rfl, rfl, rfl, rfl⟩ | ⟨_, hm, rfl, rfl, rfl⟩
  · exact ⟨rest_form hf rfl, rest_small hs, Nat.le_refl _, id⟩
  · exact ⟨hf, hs, by omega, fun _ => by omega⟩
theorem pages_grow {pg : List S89} {n n' : Nat} (h : pg.length ≤ n) (h2 : n ≤ n') : (pg ++ List.replicate (n - pg.length) z89).length = n ∧ (pg ++ List.replicate (n - pg.length) z89) ++ List.replicate (n' - n) z89 = pg ++ List.replicate (n' - pg.length) z89 := by
  refine ⟨by simp; omega, ?_⟩
  rw [List.append_assoc, List.replicate_append_replicate]
  congr 2
  omega
theorem R_off {w w' : World} {base g : Nat} {v : Value} {l : List Int} (h : (Kd.int .i64).R 3 w base (fun q => q ≠ g) v l) (hk : ∀ k, k < w.heap.size → k ≠ g → ¬ offV v k → w'.heap[k]? = w.heap[k]?) : (Kd.int .i64).R 3 w' base (fun q => q ≠ g) v l := by
  have h0 := h.1
  refine Kd.R_mono (Kd.R_step (Kd.R_tight rfl h) (fun k ho hlt => hk k hlt (h0 k ho.symm) (fun hx => hx ho))) (fun k ho => h0 k ho.symm)
theorem take_any {w0 : World} {b g : Nat} {sp : Array Value} {pg : List S89} {l l' : List S64} {X : Nat → Prop} {p : Int} {n' : Nat} (w : World) (h : EndM w0 b g sp pg l X w) (hbg : b + 5 ≤ g) (hX : ∀ k, w.heap.size ≤ k → X k) (hst : takeStep l pg.length = some (p, l', n')) (hf : fullL l) (hs : smallL l) :
    Calls Tryz.prog 54 #[.pointer (some ⟨g, 0, none⟩)] w fun e w' => e = .returned (.int .i64 p) ∧ EndM w0 b g sp (pg ++ List.replicate (n' - pg.length) z89) l' X w' ∧ (∀ k, k < w.heap.size → k ≠ g → ¬ X k → w'.heap[k]? = w.heap[k]?) ∧ w.heap.size ≤ w'.heap.size := by
  obtain ⟨P, hN, hA, hE, hB, hS, hq⟩ := h
  have hP : ∀ k, P.ownBlock = some k → k < w.heap.size := Kd.N_lt hN
  have hPX : ∀ k, P.ownBlock = some k → X k := fun k hk => (hN.1 k hk).2
  have new : ∀ (h0 : l = [] ∨ (rd_T64 l 0).f0 ≠ 0) (hm : pg.length < 4096), Calls Tryz.prog 54 #[.pointer (some ⟨g, 0, none⟩)] w fun e w' => e = .returned (.int .i64 pg.length) ∧ EndM w0 b g sp (pg ++ [z89]) l X w' ∧ (∀ k, k < w.heap.size → k ≠ g → ¬ X k → w'.heap[k]? = w.heap[k]?) ∧ w.heap.size ≤ w'.heap.size := by
    intro h0 hm
    refine (takeX_new l g P pg b w X hX hA h0 hN hm (by omega)).mono ?_
    rintro e w' ⟨rfl, P', ha, hn, ht⟩
    refine ⟨rfl, ⟨P', hn, ha, hE.keep (fun k hb5 hk hlt => ht.keep.2 k hlt ⟨by omega, fun e => by have := hq k e.symm; omega⟩), hB.trans ht.below, Nat.le_trans hS ht.keep.1, fun q e => ?_⟩, fun k hk hkg hkX => ht.keep.2 k hk ⟨hkg, fun e => hkX (hPX k e.symm)⟩, ht.keep.1⟩
    rcases ht.own with ho | ⟨c, ho, hle⟩
    · exact hq q (ho ▸ e)
    · rw [ho] at e; injection e with e; subst e; omega
  have hnew : pg.length < 4096 → pg ++ List.replicate (pg.length + 1 - pg.length) z89 = pg ++ [z89] := fun _ => by rw [show pg.length + 1 - pg.length = 1 by omega]; rfl
  rcases takeStep_cases hst with ⟨q, qs, t, rfl, rfl, rfl, rfl⟩ | ⟨h0, hm, rfl, rfl, rfl⟩
  · refine (takeX_yes p qs t g P w X hX hA hP hs).mono ?_
    rintro e w' ⟨rfl, ha, ht⟩
    refine ⟨rfl, ⟨P, ?_, ha, hE.turned ht hbg, hB.trans (ht.below.mono (by omega)), Nat.le_trans hS ht.size, hq⟩, fun k hk hkg _ => ht.keep.2 k hk hkg (by simp), ht.size⟩
    rw [Nat.sub_self, List.replicate_zero, List.append_nil]
    exact ht.N (fun k hk => hk.1) hN
  · rw [hnew hm]
    exact new h0 hm
/-- What End answers where nothing is wrong. -/
def EndR (w : World) (ver tree first : Int) (pg : List S89) (l : List S64) (e : Ending) (w' : World) : Prop := ∃ PV LA lc, e = .returned (.tuple #[.agg #[PV, .slice none 0 0, .slice none 0 0, .slice none 0 0, .int .i64 ver, .int .i64 tree], .int .i64 first, .slice LA l.length lc, .int .i64 0]) ∧ Kd.N k89 89 w' w.heap.size (fun _ => True) PV pg ∧ Kd.N k64 64 w' w.heap.size (fun _ => True) (.slice LA l.length lc) l ∧ Below w.heap.size w w'
end Go.Proofs.YtpnhelcemodnmaaGreat

/- A store of an element where the order is drawn; a cell written with what it holds. -/
namespace Go.Proofs.YtpnhelcemodnmaaGreat
open Go.RowKit Go.Shelf Go.Proofs.YtpnhelcemodnmaaGreatW.PrintWords Go.Proofs.YtpnhelcemodnmaaGreatW.PrintLast Go.Proofs.YtpnhelcemodnmaaGreatW.PrintMore PA
set_option linter.unusedVariables false
set_option linter.unusedSimpArgs false
attribute [local go_sem] Oper.semAt_some
/-- A cell is written with what it holds. -/
theorem below_same {w : World} {b : Nat} {v : Value} {t : TypeId} (h : w.heap[b]? = some (.cells #[v] t (0, 0))) : Below w.heap.size w (w.setCell ⟨b, 0, none⟩ v) := by
  refine ⟨rfl, rfl, rfl, by simp, fun k hk => ?_⟩
  by_cases e : k = b
  · subst e
    exact (blk_put h 0 v rfl).trans h.symm
  · exact Below.heap_setCell w ⟨b, 0, none⟩ v k e
/-- A store of cells of an element, in a region that draws. -/
theorem N_store_o {P : Program} {o : Oper} {a : Act} {Q : Exit → Act → World → Prop} {Kc : Act → World → Prop} {α : Type} (d : Kd α) {w0 W : World} (base : Nat) (hN : o.dst = none) (t : TypeId) (p x : Operand) (ho : o.op = .store t p x) (e : TypeId) {g n cap o' : Nat} (i : Int) (j : Nat) (xs : List α) (x' : α) (u : Value) (seg c : List Value) (ok okp : Nat → Prop)
    (haddr : a.eval p = .pointer (some ⟨g, o', none⟩)) (hoff : o' = i.toNat * d.sz + j) (hx : a.eval x = u) (hu : u.cells.toList = seg) (ht : (P.info? t).map (·.size) = some seg.length) (h1 : ∀ q ∈ seg, q.oneCell' = true)
    (HO : Kd.N d e W base ok (.slice (some ⟨g, 0, none⟩) n cap) xs) (h0 : 0 ≤ i) (hi : i < n) (hcl : c.length = d.sz) (hcc : ∀ j u, c[j]? = some u → W.cell? ⟨g, i.toNat * d.sz + j, none⟩ = some u)
    (hj : j + seg.length ≤ d.sz) (hM : Kd.FK d W okp x' (c.take j ++ seg ++ c.drop (j + seg.length))) (hokp : ∀ k, okp k → ok k ∧ k ≠ g) (HB : Below base w0 W)
    (h : ∀ w1, Kd.N d e w1 base ok (.slice (some ⟨g, 0, none⟩) n cap) (xs.set i.toNat x') → Below base w0 w1 → W.grownBy w1 (some g) → Kc a w1) : Oper.wp P o a W Kc Q := by
  subst hoff
  obtain ⟨hrow, hg⟩ := Kd.N_seg HO i h0 hi hcl hcc hj hM hokp
  have hbg : base ≤ g := Kd.N_base HO g (by simp [Value.ownBlock])
  have hnx : n = xs.length := (Kd.N_reads' HO).1
  obtain ⟨_, rows, hl, hR, _⟩ := HO
  obtain ⟨_, inner, hown, hr⟩ := hR
  have hil : i.toNat < n := by omega
  have hB : Below base w0 (W.setCells g (i.toNat * d.sz + j) seg) := HB.trans ⟨hg.os, hg.tape, hg.output, hg.size, fun k hk => by
    have hlt : k < W.heap.size ∨ W.heap.size ≤ k := Nat.lt_or_ge _ _
    rcases hlt with hlt | hge
    · exact hg.block k hlt (fun he => by injection he with he; omega)
    · exact setCells_far seg _ k (by omega)⟩
  have hrun : (Instr.storeAt t (.pointer (some ⟨g, i.toNat * d.sz + j, none⟩)) u).run P W = .ok () (W.setCells g (i.toNat * d.sz + j) seg) := by
    rcases hown.2 with ⟨hv, _⟩ | ⟨g', cap', cur, hv, hb, hh, hnc, hcm, hcs, _⟩
    · cases hv
    injection hv with ha _ hc
    injection ha with ha
    injection ha with hg'
    subst hg'; subst hc
    refine run_store_run t u seg hh hu ht ?_ h1
    have h2 : i.toNat * d.sz + d.sz ≤ n * d.sz := by rw [← Nat.succ_mul]; exact Nat.mul_le_mul_right _ hil
    have h3 : n * d.sz ≤ cap * d.sz := Nat.mul_le_mul_right _ (by omega)
    have hcs2 : cur.size = cap * d.sz := hcs
    omega
  unfold Oper.wp execOp
  simp only [ho, haddr, hx, Sem.run_bind, Sem.run_pure, Result.andThen_ok, hrun]
  show Kc (a.put o.dst undef) _
  rw [hN]
  exact h _ hrow hB hg
end Go.Proofs.YtpnhelcemodnmaaGreat

/- End's last part: what lies in memory. -/
namespace Go.Proofs.YtpnhelcemodnmaaGreat
open Go.RowKit Go.Shelf Go.Proofs.YtpnhelcemodnmaaGreatW.PrintWords Go.Proofs.YtpnhelcemodnmaaGreatW.PrintLast Go.Proofs.YtpnhelcemodnmaaGreatW.PrintMore PA
set_option linter.unusedVariables false
set_option linter.unusedSimpArgs false
attribute [local go_sem] Oper.semAt_some
/-- End's five blocks, whatever the answers hold. -/
def EndS (W : World) (b : Nat) (sp C1 : Array Value) (x2 x3 : Value) : Prop :=
  W.heap[b]? = some (.cells sp 25 (0, 0)) ∧ W.heap[b + 1]? = some (.cells C1 25 (0, 0)) ∧ W.heap[b + 1 + 1]? = some (.cells #[x2] 3 (0, 0)) ∧ W.heap[b + 1 + 1 + 1]? = some (.cells #[x3] 26 (0, 0)) ∧ W.heap[b + 1 + 1 + 1 + 1]? = some (.cells #[.int .i64 0] 30 (0, 0))
/-- Nothing but the pages' row, the list and the five blocks. -/
def EndT (w0 : World) (b g : Nat) (sp C1 : Array Value) (x2 x3 P : Value) (pg : List S89) (l : List S64) (W : World) : Prop :=
  Kd.N k89 89 W b (fun q => q ≠ g ∧ off5 b q) P pg ∧ AccX (off5 b) W g P l ∧ EndS W b sp C1 x2 x3 ∧ Below b w0 W ∧ g + 1 ≤ W.heap.size ∧ b + 5 ≤ g ∧ ∀ q, P.ownBlock = some q → b + 5 ≤ q
theorem EndS.below {W W' : World} {b : Nat} {sp C1 : Array Value} {x2 x3 : Value} (h : EndS W b sp C1 x2 x3) (hb : Below W.heap.size W W') : EndS W' b sp C1 x2 x3 :=
  ⟨blk_below h.1 hb, blk_below h.2.1 hb, blk_below h.2.2.1 hb, blk_below h.2.2.2.1 hb, blk_below h.2.2.2.2 hb⟩
theorem EndT.below {w0 W W' : World} {b g : Nat} {sp C1 : Array Value} {x2 x3 P : Value} {pg : List S89} {l : List S64} (h : EndT w0 b g sp C1 x2 x3 P pg l W) (hb : Below W.heap.size W W') : EndT w0 b g sp C1 x2 x3 P pg l W' := by
  obtain ⟨hN, hA, hE, hB, hS, hg, hq⟩ := h
  exact ⟨Kd.N_below hN hb, hA.below hb, hE.below hb, hB.trans (hb.mono (by omega)), Nat.le_trans hS hb.size, hg, hq⟩
/-- A cell of one of End's own blocks is written. -/
theorem EndT.far {w0 W : World} {b g : Nat} {sp C1 C1' : Array Value} {x2 x3 x2' x3' P : Value} {pg : List S89} {l : List S64} (h : EndT w0 b g sp C1 x2 x3 P pg l W) (p : Addr) (v : Value) (hp : b ≤ p.block ∧ p.block < b + 5) (hs : EndS (W.setCell p v) b sp C1' x2' x3') : EndT w0 b g sp C1' x2' x3' P pg l (W.setCell p v) := by
  obtain ⟨hN, hA, hE, hB, hS, hg, hq⟩ := h
  have hoff : ∀ k, off5 b k → k ≠ p.block := fun k hk e => by rcases hk with hk | hk <;> omega
  obtain ⟨A, c, h1, h2, h3⟩ := hA
  exact ⟨Kd.N_far hN (fun k hk => hoff k hk.2) v, ⟨A, c, (Below.heap_setCell W p v g (by omega)).trans h1, h2, Kd.F_far h3 (fun k hk => hoff k hk.2) v⟩, hs, hB.setCell (p := p) hp.1 v, by rw [World.size_setCell]; exact hS, hg, hq⟩
theorem EndS.set1 {W : World} {b : Nat} {sp C1 C1' : Array Value} {x2 x3 : Value} (h : EndS W b sp C1 x2 x3) (j : Nat) (v : Value) (hc : C1.setIfInBounds j v = C1') : EndS (W.setCell ⟨b + 1, j, none⟩ v) b sp C1' x2 x3 :=
  ⟨blk_far h.1 (p := ⟨b + 1, j, none⟩) (by show b ≠ b + 1; omega) v, blk_put h.2.1 j v hc, blk_far h.2.2.1 (p := ⟨b + 1, j, none⟩) (by show b + 1 + 1 ≠ b + 1; omega) v, blk_far h.2.2.2.1 (p := ⟨b + 1, j, none⟩) (by show b + 1 + 1 + 1 ≠ b + 1; omega) v, blk_far h.2.2.2.2 (p := ⟨b + 1, j, none⟩) (by show b + 1 + 1 + 1 + 1 ≠ b + 1; omega) v⟩
theorem EndS.set2 {W : World} {b : Nat} {sp C1 : Array Value} {x2 x3 : Value} (h : EndS W b sp C1 x2 x3) (v : Value) : EndS (W.setCell ⟨b + 1 + 1, 0, none⟩ v) b sp C1 v x3 :=
  ⟨blk_far h.1 (p := ⟨b + 1 + 1, 0, none⟩) (by show b ≠ b + 1 + 1; omega) v, blk_far h.2.1 (p := ⟨b + 1 + 1, 0, none⟩) (by show b + 1 ≠ b + 1 + 1; omega) v, blk_put h.2.2.1 0 v rfl, blk_far h.2.2.2.1 (p := ⟨b + 1 + 1, 0, none⟩) (by show b + 1 + 1 + 1 ≠ b + 1 + 1; omega) v, blk_far h.2.2.2.2 (p := ⟨b + 1 + 1, 0, none⟩) (by show b + 1 + 1 + 1 + 1 ≠ b + 1 + 1; omega) v⟩
theorem EndS.set3 {W : World} {b : Nat} {sp C1 : Array Value} {x2 x3 : Value} (h : EndS W b sp C1 x2 x3) (v : Value) : EndS (W.setCell ⟨b + 1 + 1 + 1, 0, none⟩ v) b sp C1 x2 v :=
  ⟨blk_far h.1 (p := ⟨b + 1 + 1 + 1, 0, none⟩) (by show b ≠ b + 1 + 1 + 1; omega) v, blk_far h.2.1 (p := ⟨b + 1 + 1 + 1, 0, none⟩) (by show b + 1 ≠ b + 1 + 1 + 1; omega) v, blk_far h.2.2.1 (p := ⟨b + 1 + 1 + 1, 0, none⟩) (by show b + 1 + 1 ≠ b + 1 + 1 + 1; omega) v, blk_put h.2.2.2.1 0 v rfl, blk_far h.2.2.2.2 (p := ⟨b + 1 + 1 + 1, 0, none⟩) (by show b + 1 + 1 + 1 + 1 ≠ b + 1 + 1 + 1; omega) v⟩
theorem EndT.set1 {w0 W : World} {b g : Nat} {sp C1 : Array Value} {x2 x3 P : Value} {pg : List S89} {l : List S64} (h : EndT w0 b g sp C1 x2 x3 P pg l W) (j : Nat) (v : Value) (C1' : Array Value) (hc : C1.setIfInBounds j v = C1') : EndT w0 b g sp C1' x2 x3 P pg l (W.setCell ⟨b + 1, j, none⟩ v) :=
  h.far _ v ⟨by show b ≤ b + 1; omega, by show b + 1 < b + 5; omega⟩ (h.2.2.1.set1 j v hc)
theorem EndT.set2 {w0 W : World} {b g : Nat} {sp C1 : Array Value} {x2 x3 P : Value} {pg : List S89} {l : List S64} (h : EndT w0 b g sp C1 x2 x3 P pg l W) (v : Value) : EndT w0 b g sp C1 v x3 P pg l (W.setCell ⟨b + 1 + 1, 0, none⟩ v) :=
  h.far _ v ⟨by show b ≤ b + 1 + 1; omega, by show b + 1 + 1 < b + 5; omega⟩ (h.2.2.1.set2 v)
theorem EndT.set3 {w0 W : World} {b g : Nat} {sp C1 : Array Value} {x2 x3 P : Value} {pg : List S89} {l : List S64} (h : EndT w0 b g sp C1 x2 x3 P pg l W) (v : Value) : EndT w0 b g sp C1 x2 v P pg l (W.setCell ⟨b + 1 + 1 + 1, 0, none⟩ v) :=
  h.far _ v ⟨by show b ≤ b + 1 + 1 + 1; omega, by show b + 1 + 1 + 1 < b + 5; omega⟩ (h.2.2.1.set3 v)
theorem set_same_heap {w : World} {b j : Nat} {C : Array Value} {t : TypeId} {v : Value} (h : w.heap[b]? = some (.cells C t (0, 0))) (hc : C.setIfInBounds j v = C) : Below w.heap.size w (w.setCell ⟨b, j, none⟩ v) := by
  refine ⟨rfl, rfl, rfl, by simp, fun k hk => ?_⟩
  by_cases e : k = b
  · subst e
    exact (blk_put h j v hc).trans h.symm
  · exact Below.heap_setCell w ⟨b, j, none⟩ v k e
/-- Six cells are written with what they hold. -/
theorem below_same6 {w : World} {b : Nat} {a0 a1 a2 a3 a4 a5 : Value} {t : TypeId} (h : w.heap[b]? = some (.cells #[a0, a1, a2, a3, a4, a5] t (0, 0))) : Below w.heap.size w (w.setCells b 0 [a0, a1, a2, a3, a4, a5]) := by
  have s : ∀ (W : World), Below w.heap.size w W → w.heap.size = W.heap.size → ∀ (j : Nat) (v : Value), (#[a0, a1, a2, a3, a4, a5] : Array Value).setIfInBounds j v = #[a0, a1, a2, a3, a4, a5] → Below w.heap.size w (W.setCell ⟨b, j, none⟩ v) ∧ w.heap.size = (W.setCell ⟨b, j, none⟩ v).heap.size := fun W hb hs j v hc => by
    have hW := blk_below h hb
    exact ⟨hb.trans ((set_same_heap hW hc).mono (by omega)), by rw [World.size_setCell]; exact hs⟩
  obtain ⟨b0, s0⟩ := s w (Below.refl _ _) rfl 0 a0 rfl
  obtain ⟨b1, s1⟩ := s _ b0 s0 1 a1 rfl
  obtain ⟨b2, s2⟩ := s _ b1 s1 2 a2 rfl
  obtain ⟨b3, s3⟩ := s _ b2 s2 3 a3 rfl
  obtain ⟨b4, s4⟩ := s _ b3 s3 4 a4 rfl
  exact (s _ b4 s4 5 a5 rfl).1
/-- What End reads at its end. -/
def EndL (b g : Nat) (PV LV vv tv x2 : Value) (W : World) : Prop := W.cell? ⟨g, 0, none⟩ = some PV ∧ W.cell? ⟨g, 1, none⟩ = some LV ∧ W.cell? ⟨b, 4, none⟩ = some vv ∧ W.cell? ⟨b, 5, none⟩ = some tv ∧ W.cell? ⟨b + 1 + 1, 0, none⟩ = some x2
theorem EndL.below {b g : Nat} {PV LV vv tv x2 : Value} {W W' : World} (h : EndL b g PV LV vv tv x2 W) (hb : Below W.heap.size W W') : EndL b g PV LV vv tv x2 W' :=
  ⟨cellB hb (Nat.le_refl _) h.1, cellB hb (Nat.le_refl _) h.2.1, cellB hb (Nat.le_refl _) h.2.2.1, cellB hb (Nat.le_refl _) h.2.2.2.1, cellB hb (Nat.le_refl _) h.2.2.2.2⟩
theorem EndL.far {b g : Nat} {PV LV vv tv x2 : Value} {W : World} (h : EndL b g PV LV vv tv x2 W) (p : Addr) (v : Value) (h1 : p.block ≠ g) (h2 : p.block ≠ b) (h3 : p.block ≠ b + 1 + 1) : EndL b g PV LV vv tv x2 (W.setCell p v) :=
  ⟨(World.cell?_setCell_other W p _ v (fun e => h1 (by rw [e]))).trans h.1, (World.cell?_setCell_other W p _ v (fun e => h1 (by rw [e]))).trans h.2.1, (World.cell?_setCell_other W p _ v (fun e => h2 (by rw [e]))).trans h.2.2.1, (World.cell?_setCell_other W p _ v (fun e => h2 (by rw [e]))).trans h.2.2.2.1, (World.cell?_setCell_other W p _ v (fun e => h3 (by rw [e]))).trans h.2.2.2.2⟩
theorem EndC.s {W : World} {b : Nat} {sp : Array Value} (h : EndC W b sp) : EndS W b sp #[.slice none 0 0, .slice none 0 0, .slice none 0 0, .slice none 0 0, .int .i64 0, .int .i64 0] (.int .i64 0) (.slice none 0 0) := h
theorem EndT.merge {w0 W : World} {b g : Nat} {sp C1 : Array Value} {x2 x3 P : Value} {pg : List S89} {l : List S64} {A7 : Option Addr} {c7 : Nat} (h : EndT w0 b g sp C1 x2 x3 P pg l W) (hc : W.cell? ⟨g, 1, none⟩ = some (.slice A7 l.length c7)) (hs : smallL l) :
    Calls Tryz.prog 56 #[.slice A7 l.length c7, .slice none 0 0] W fun e w' => ∃ v, e = .returned v ∧ Kd.N k64 64 w' b (fun k => b + 5 ≤ k) v l ∧ Below W.heap.size W w' := by
  obtain ⟨hN, ⟨A, c, h1, h2, h3⟩, hE, hB, hS, hg, hq⟩ := h
  have e : (.slice A l.length c : Value) = .slice A7 l.length c7 := by
    have := (blk_cell h1 1).symm.trans hc
    simpa using this
  injection e with e1 _ e2
  subst e1 e2
  refine (together_new l [] A c none 0 W (Kd.F_now h3) h2 (Kd.C_nil k64 W) (Nat.le_refl _) hs ⟨by simp, by simp [pagesOf, flat]⟩).mono ?_
  rintro e w' ⟨v, rfl, hv, hb⟩
  rw [merge_nil2] at hv
  exact ⟨v, rfl, Kd.N_mono (Kd.N_lower hv (by omega)) (fun k hk => Nat.le_trans (by omega) (hk : _ ≤ k)), hb⟩
theorem AccX.mono {X X' : Nat → Prop} {w : World} {g : Nat} {P : Value} {l : List S64} (h : AccX X w g P l) (hX : ∀ k, X k → X' k) : AccX X' w g P l := by
  obtain ⟨A, c, h1, h2, h3⟩ := h
  exact ⟨A, c, h1, h2, Kd.F_mono h3 (fun k hk => ⟨hk.1, hX k hk.2⟩)⟩
/-- The list that End hands back. -/
def EndV (b : Nat) (v : Value) (l : List S64) (W : World) : Prop := Kd.N k64 64 W b (fun k => b + 5 ≤ k) v l
theorem EndV.below {b : Nat} {v : Value} {l : List S64} {W W' : World} (h : EndV b v l W) (hb : Below W.heap.size W W') : EndV b v l W' := Kd.N_below h hb
theorem EndV.far {b : Nat} {v : Value} {l : List S64} {W : World} (h : EndV b v l W) (p : Addr) (u : Value) (hp : p.block < b + 5) : EndV b v l (W.setCell p u) := Kd.N_far h (fun k hk e => by have h1 : b + 5 ≤ k := hk; omega) u
theorem wp_two {P : Program} {md : Region.Mode} {ops : Array Oper} {Q : Exit → Act → World → Prop} {S T U : World → Prop} {fuel : Nat} {listed : Array Bool} {a : Act} {W : World} (h : T W) (hu : U W) (hS : S W) (k : ∀ W', T W' → U W' → S W' → wpAnyH P md ops Q S fuel listed a W') : wpAnyH P md ops Q S fuel listed a W := k W h hu hS
/-- End's answers are read. -/
theorem end_results (tmps : Array Value) (W : World) (b : Nat) (p0 p1 p2 p3 p4 p5 x2 x3 x4 : Value) (h6 : tmps[6]?.getD undef = .pointer (some ⟨b + 1, 0, none⟩)) (h7 : tmps[7]?.getD undef = .pointer (some ⟨b + 1 + 1, 0, none⟩)) (h8 : tmps[8]?.getD undef = .pointer (some ⟨b + 1 + 1 + 1, 0, none⟩)) (h9 : tmps[9]?.getD undef = .pointer (some ⟨b + 1 + 1 + 1 + 1, 0, none⟩))
    (c10 : W.cell? ⟨b + 1, 0, none⟩ = some p0) (c11 : W.cell? ⟨b + 1, 1, none⟩ = some p1) (c12 : W.cell? ⟨b + 1, 2, none⟩ = some p2) (c13 : W.cell? ⟨b + 1, 3, none⟩ = some p3) (c14 : W.cell? ⟨b + 1, 4, none⟩ = some p4) (c15 : W.cell? ⟨b + 1, 5, none⟩ = some p5)
    (c20 : W.cell? ⟨b + 1 + 1, 0, none⟩ = some x2) (c30 : W.cell? ⟨b + 1 + 1 + 1, 0, none⟩ = some x3) (c40 : W.cell? ⟨b + 1 + 1 + 1 + 1, 0, none⟩ = some x4) : (results Tryz.f15 tmps).run Tryz.prog W = .ok (.tuple #[.agg #[p0, p1, p2, p3, p4, p5], x2, x3, x4]) W := by
  unfold results
  rw [Tryz.results15]
  simp [h6, h7, h8, h9, c10, c11, c12, c13, c14, c15, c20, c30, c40, go_sem]
end Go.Proofs.YtpnhelcemodnmaaGreat

/- End's reset: what an error leaves of the answers. -/
namespace Go.Proofs.YtpnhelcemodnmaaGreat
open Go.RowKit Go.Shelf Go.Proofs.YtpnhelcemodnmaaGreatW.PrintWords Go.Proofs.YtpnhelcemodnmaaGreatW.PrintLast Go.Proofs.YtpnhelcemodnmaaGreatW.PrintMore PA
set_option linter.unusedVariables false
set_option linter.unusedSimpArgs false
attribute [local go_sem] Oper.semAt_some
end Go.Proofs.YtpnhelcemodnmaaGreat

