/- Proved: SpaceStores returns true whatever it is handed, and what it is handed reads as it did. -/
import Derived.Test.YtpnhelcemodnmaaGreatRows
import Derived.WalkKit
import Derived.ProofKit
import Derived.OpenShut
import Derived.ShutString
import Derived.ChangeOld
import Derived.Below
import Derived.SizedLaws
import Derived.Test.YtpnhelcemodnmaaGreatU7
namespace Go.Proofs.YtpnhelcemodnmaaGreat.spaceStores
open Go.ChangeShapes Go.WideShapes Go.ChangeAt Go.RowKit
set_option linter.unusedVariables false
theorem own : ownKnob Tryz.prog.godebug = none := by kernel_rfl
theorem laidOut : laidOutB Tryz.prog = true := by kernel_rfl
set_option maxRecDepth 100000 in
theorem lifted (os : Os) (started : os.Started) (H : Type) (enc : TypeId × Value → H) :
    ReturnsInHanded {} Tryz.checked os 5 .any (Rows.spaceStoresSpec.pre6 enc Tryz.prog Tryz.f5 Rows.spaceStoresRow.domain false) (Rows.spaceStoresSpec.post enc Tryz.prog Tryz.f5 false true false false) := by
  refine returnsInHanded_of_change_sized (C := Tryz.checked) own started (by kernel_rfl) Tryz.func5
    (ChangeSpec.witness6 (enc := enc) (C := Tryz.checked) false ⟨#[], #[.agg #[.slice none 0 0, .slice none 0 0, .slice none 0 0, .slice none 0 0, .int .i64 0, .int .i64 0], .slice none 0 0], []⟩ 8 (by kernel_rfl) (by kernel_rfl) (by kernel_rfl) (by kernel_rfl)) ?_
  intro W base args ds gs before hval0 hW hcnd hsz0 _
  have hsz : (DataW.weightsEach Tryz.prog (Tryz.f5.params.toList ++ Rows.spaceStoresSpec.plain.varTypes Tryz.prog) (ds ++ gs)).all (· ≤ reachBytes) = true := hsz0
  have hval : ∀ (j : Nat) t v, Tryz.f5.params[j]? = some t → args[j]? = some v → Value.okWide Tryz.prog W .any base t v := hval0
  have hW' := hW
  obtain ⟨p, q, hA0, hV, rfl, hfz, hnd⟩ := hW
  have hA : DataW.TrodAll enc Tryz.prog W 0 (fun _ => true) true Tryz.f5.params.toList args.toList ds p := hA0
  rw [Tryz.params5] at hA hval hsz
  obtain ⟨v0, vs0, d0, ds0, p0, q0, hargs, rfl, rfl, h0, r0⟩ := trodAll_cons hA
  obtain ⟨v1, vs1, d1, ds1, p1, q1, rfl, rfl, rfl, h1, r1⟩ := trodAll_cons r0
  obtain ⟨rfl, rfl, rfl⟩ := trodAll_nil r1
  obtain rfl : args = #[v0, v1] := by cases args; simp_all
  obtain ⟨rfl, rfl⟩ := trodVars_none hV
  have hs0 : ∀ n ∈ DataW.weights Tryz.prog 25 d0, n ≤ reachBytes := fun n hn => of_decide_eq_true (List.all_eq_true.1 hsz n (DataW.weights_mem_each (j := 0) rfl rfl n hn))
  have hs1 : ∀ n ∈ DataW.weights Tryz.prog 26 d1, n ≤ reachBytes := fun n hn => of_decide_eq_true (List.all_eq_true.1 hsz n (DataW.weights_mem_each (j := 1) rfl rfl n hn))
  have k0 := h0
  have lt0 : ∀ x ∈ p0, x.block < W.heap.size := by obtain ⟨m, hm⟩ := k0; exact DataW.trod_lt m _ _ _ hm
  have k1 := h1
  have lt1 : ∀ x ∈ p1, x.block < W.heap.size := by obtain ⟨m, hm⟩ := k1; exact DataW.trod_lt m _ _ _ hm
  obtain ⟨A, la, ca, rfl⟩ := okWide_slice Tryz.underlying26 (hval 1 26 v1 rfl rfl)
  obtain ⟨l, rfl, hcl, hCL, hbl⟩ : ∃ a : List PA.S64, la = a.length ∧ la ≤ ca ∧ PA.k64.C W A a.length a ∧ ∀ f ∈ a, f.f1.length ≤ 17592186044416 := by
    obtain ⟨fuel, hf⟩ := h1
    obtain ⟨x, l, c, zs, hcs, hl, hc, hC, hb⟩ := open_freed hf hs1
    simp [Value.cells] at hcs
    obtain ⟨rfl, rfl, rfl⟩ := hcs
    exact ⟨zs, hl, hc, hC, hb⟩
  obtain ⟨PA', FA, RA, GA, pc, fc, rn, rc, gc, pg, free, gone, ver, tree, rfl, hPG, hpc, hpm, hPI, hFR, hfc, hGO, hgc⟩ : ∃ (PA' FA RA GA : Option Addr) (pc fc rn rc gc : Nat) (pg : List S89) (free gone : List Int) (ver tree : Int), v0 = .agg #[.slice PA' pg.length pc, .slice FA free.length fc, .slice RA rn rc, .slice GA gone.length gc, .int .i64 ver, .int .i64 tree] ∧
      k89.C W PA' pg.length pg ∧ pg.length ≤ pc ∧ pg.length ≤ 9223372036854775807 ∧ (∀ y ∈ pg, PageIn W y) ∧ (Go.Proofs.YtpnhelcemodnmaaGreatW.PrintWords.Kd.int .i64).C W FA free.length free ∧ free.length ≤ fc ∧ (Go.Proofs.YtpnhelcemodnmaaGreatW.PrintWords.Kd.int .i64).C W GA gone.length gone ∧ gone.length ≤ gc := by
    obtain ⟨fuel, hf⟩ := h0
    obtain ⟨PA', FA, RA, GA, pc, fc, rn, rc, gc, pg, free, gone, ver, tree, hcs, hr⟩ := open_space hf hs0
    refine ⟨PA', FA, RA, GA, pc, fc, rn, rc, gc, pg, free, gone, ver, tree, ?_, hr⟩
    have hv0 := hval 0 25 v0 rfl rfl
    cases v0 <;> first | (simp [Value.cells] at hcs; done) | skip
    all_goals (simp [Value.cells] at hcs; exact congrArg Value.agg (Array.ext' hcs))
  clear hA0 hval0 hsz0 hsz
  refine (stores_any pg free gone l ver tree PA' FA RA GA A pc fc rn rc gc ca W hPG hpc hpm hPI hFR hfc hGO hgc hCL hcl hbl).mono fun e W' ⟨he, bel⟩ => ?_
  subst he
  exact ⟨_, rfl, _, _, _, [], _, [], hW', trodAll_mk1 (shut_bool Tryz.underlying4 _), (trodAll_cons_mk (Below.trod laidOut (by kernel_rfl) (of_decide_eq_true (by kernel_rfl)) k0 bel lt0) (trodAll_cons_mk (Below.trod laidOut (by kernel_rfl) (of_decide_eq_true (by kernel_rfl)) k1 bel lt1) trodAll_mk0)), rfl, bel.frame _, fun h => by cases h⟩
theorem over : Rows.spaceStoresRow.holds Tryz.pinned (OpenSpec.ofChange Rows.spaceStoresSpec) :=
  OpenClaim.holds_of_wide 5 Tryz.f5 rfl rfl rfl rfl rfl rfl rfl ⟨rfl, rfl, rfl, rfl, rfl⟩ rfl rfl rfl rfl rfl (by kernel_rfl) Tryz.func5 (by kernel_rfl)
    (of_decide_eq_true (by kernel_rfl)) (by unfold Func.isWrapper; first | (rw [if_pos (by decide +kernel)]; kernel_rfl) | (rw [if_neg (by decide +kernel)]; exact ⟨rfl, rfl⟩))
    (fun os started H enc _ => lifted os started H enc)
theorem proved : Rows.SpaceStoresSaid := over
#print axioms proved
end Go.Proofs.YtpnhelcemodnmaaGreat.spaceStores
namespace Go.Proofs.YtpnhelcemodnmaaGreat
theorem spaceStores_holds : Rows.SpaceStoresSaid := spaceStores.proved
end Go.Proofs.YtpnhelcemodnmaaGreat
