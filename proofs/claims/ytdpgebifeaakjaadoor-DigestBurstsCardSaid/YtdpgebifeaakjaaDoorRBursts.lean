/- DigestBursts: the row and the card. -/
import Derived.Test.YtdpgebifeaakjaaDoorLF
import Derived.Test.YtdpgebifeaakjaaDoorTie
import Derived.Test.YtdpgebifeaakjaaDoorCards
import Derived.Test.YtdpgebifeaakjaaDoorBU
import Derived.SevenTiedAt
namespace Go.Proofs.YtdpgebifeaakjaaDoor
set_option linter.unusedSimpArgs false
set_option linter.unusedVariables false
open Go.ChangeShapes Go.WideShapes Go.ChangeAt Go.RowKit

set_option maxRecDepth 100000 in
theorem digestBursts_lifted (os : Os) (started : os.Started) (H : Type) (enc : TypeId × Value → H) :
    ReturnsInHanded {} Tryd.checked os 5 .any (fun w args => (Rows.digestBurstsSpec.pre enc Tryd.prog Tryd.f5 [] false w args ∧ laidMetH Tryd.prog laid2 w) ∧ sizedMet enc Tryd.prog Tryd.f5 (OpenSpec.ofChange Rows.digestBurstsSpec) false w args)
      (Rows.digestBurstsSpec.post enc Tryd.prog Tryd.f5 false true false false) := by
  refine returnsInHanded_of_change_and (C := Tryd.checked) (X := fun w _ => laidMetH Tryd.prog laid2 w) (fun _ _ _ hh h => h.of_heap hh) own started (by kernel_rfl) Tryd.func5
    (ChangeSpec.witness_shaped (enc := enc) (C := Tryd.checked) (os := os) (X := fun w _ => laidMetH Tryd.prog laid2 w) false (World.doorLaid Tryd.prog 400 os) #[.string ⟨#[]⟩, .int .u16 0, .int .u32 0] 8 rfl (World.shaped_of_RefB (by kernel_rfl) (by kernel_rfl)) (by kernel_rfl) (by kernel_rfl) (by kernel_rfl) (door_met os _)) ?_
  intro W base args ds gs before hval0 hW _ _ hL _
  have hval : ∀ (j : Nat) t v, Tryd.f5.params[j]? = some t → args[j]? = some v → Value.okWide Tryd.prog W .any base t v := hval0
  have hW' := hW
  obtain ⟨p, q, hA0, hV, rfl, hfz, hnd⟩ := hW
  have hA : DataW.TrodAll enc Tryd.prog W 0 (fun _ => true) true Tryd.f5.params.toList args.toList ds p := hA0
  have hAk := hA
  obtain ⟨PL, hPL⟩ : ∃ PL, p = PL := ⟨_, rfl⟩
  rw [hPL] at hAk hW'
  have hlt : ∀ x ∈ PL, x.block < W.heap.size := fun x hx => hW'.lt x (List.mem_append_left _ hx)
  clear hPL
  rw [Tryd.params5] at hA hval
  obtain ⟨v0, vs0, d0, ds0, p0, q0, hargs, rfl, rfl, h0, r0⟩ := trodAll_cons hA
  obtain ⟨v1, vs1, d1, ds1, p1, q1, rfl, rfl, rfl, h1, r1⟩ := trodAll_cons r0
  obtain ⟨v2, vs2, d2, ds2, p2, q2, rfl, rfl, rfl, h2, r2⟩ := trodAll_cons r1
  obtain ⟨rfl, rfl, rfl⟩ := trodAll_nil r2
  obtain rfl : args = #[v0, v1, v2] := by cases args; simp_all
  obtain ⟨rfl, rfl⟩ := trodVars_none hV
  obtain ⟨s, rfl, rfl, rfl, ws⟩ := Go.ChangeMaps.open_string Tryd.underlying9 (hval 0 9 v0 rfl rfl) h0
  obtain ⟨a, rfl, rfl, rfl, wa⟩ := open_int Tryd.underlying41 (hval 1 41 v1 rfl rfl) h1
  obtain ⟨b, rfl, rfl, rfl, wb⟩ := open_int Tryd.underlying42 (hval 2 42 v2 rfl rfl) h2
  have hT := tab_of_laid hL
  have h3 : 3 < W.heap.size := World.block_lt_of_cell? W _ (hT 0 (by decide))
  obtain ⟨a0, a1⟩ := bounds_u16 wa
  obtain ⟨b0, b1⟩ := bounds_u32 wb
  obtain ⟨m, rfl⟩ := Int.eq_ofNat_of_zero_le a0
  have eb : Value.int .u32 b = U32 (BitVec.ofInt 32 b) := U32_lit b b0 (by omega)
  have core : Calls Tryd.prog 5 #[.string s, .int .u16 (m : Int), .int .u32 b] W fun e w' => e = .returned (.bool true) ∧ Below W.heap.size W w' := by rw [eb]; exact bursts_any s m (by omega) _ ws W hT h3
  refine core.mono fun e W' ⟨he, hB⟩ => ?_
  subst he
  refine ⟨_, rfl, _, _, _, [], PL, [], hW', ?_, ?_, ?_, hB.frame _, fun h => by cases h⟩
  · exact trodAll_mk1 (shut_bool Tryd.underlying4 true)
  · exact trodAll_stays hB _ _ _ _ (by kernel_rfl) hAk hlt
  · rfl

theorem digestBursts_holds : Rows.DigestBurstsSaid :=
  OpenClaim.holds_of_wide 5 Tryd.f5 rfl rfl rfl rfl rfl rfl rfl ⟨rfl, rfl, rfl, rfl, rfl⟩ rfl rfl rfl rfl rfl (by kernel_rfl) Tryd.func5 (by kernel_rfl)
    (of_decide_eq_true (by kernel_rfl)) (by unfold Func.isWrapper; first | (rw [if_pos (by decide +kernel)]; kernel_rfl) | (rw [if_neg (by decide +kernel)]; exact ⟨rfl, rfl⟩))
    (fun os started H enc _ => digestBursts_lifted os started H enc)

theorem digestBursts_card : Rows.DigestBurstsCardSaid :=
  Claim7.holds_tied_plain_at .later [] [.data, .data] true (true, "e6d10a4eaa8c710180af80b8b0c095909d856fa6f150ba09a50007db838f688c") true
    digestBursts_holds (fun _ h => by cases h) (by kernel_rfl) (fun _ h => by cases h) digestBursts_row_tie rfl ⟨rfl, rfl⟩ (by kernel_rfl) rfl
    (fun f fn hf hfn => by
      obtain rfl : f = 5 := Option.some.inj ((show Tryd.prog.funcNamed "understory/understorylaw02.DigestBursts" = some 5 by kernel_rfl).symm.trans hf) |>.symm
      obtain rfl : fn = Tryd.f5 := (Option.some.inj (Tryd.func5.symm.trans hfn)).symm
      exact ⟨by kernel_rfl, no_stand_ins _ (by kernel_rfl)⟩)
    (by kernel_rfl)
end Go.Proofs.YtdpgebifeaakjaaDoor
