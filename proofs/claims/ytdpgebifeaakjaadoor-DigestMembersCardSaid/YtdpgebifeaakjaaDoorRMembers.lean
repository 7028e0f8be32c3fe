/- DigestMembers: the row and the card. -/
import Derived.Test.YtdpgebifeaakjaaDoorTie
import Derived.Test.YtdpgebifeaakjaaDoorCards
import Derived.Test.YtdpgebifeaakjaaDoorX11
import Derived.Test.YtdpgebifeaakjaaDoorNK
import Derived.SevenTiedAt
namespace Go.Proofs.YtdpgebifeaakjaaDoor
set_option linter.unusedSimpArgs false
set_option linter.unusedVariables false
open Go.ChangeShapes Go.WideShapes Go.ChangeAt Go.RowKit

set_option maxRecDepth 100000 in
theorem digestMembers_lifted (os : Os) (started : os.Started) (H : Type) (enc : TypeId × Value → H) :
    ReturnsInHanded {} Tryd.checked os 15 .any (fun w args => (Rows.digestMembersSpec.pre enc Tryd.prog Tryd.f15 [] false w args ∧ laidMetH Tryd.prog laid3 w) ∧ sizedMet enc Tryd.prog Tryd.f15 (OpenSpec.ofChange Rows.digestMembersSpec) false w args)
      (Rows.digestMembersSpec.post enc Tryd.prog Tryd.f15 false true false false) := by
  refine returnsInHanded_of_change_and (C := Tryd.checked) (X := fun w _ => laidMetH Tryd.prog laid3 w) (fun _ _ _ hh h => h.of_heap hh) own started (by kernel_rfl) Tryd.func15
    (ChangeSpec.witness_shaped (enc := enc) (C := Tryd.checked) (os := os) (X := fun w _ => laidMetH Tryd.prog laid3 w) false (World.doorLaid Tryd.prog 400 os) #[.slice none 0 0, .int .u8 0, .int .u8 0, .slice none 0 0, .slice none 0 0, .int .u8 0, .agg (A8 16 fun _ => 0#8)] 8 rfl (World.shaped_of_RefB (by kernel_rfl) (by kernel_rfl)) (by kernel_rfl) (by kernel_rfl) (by kernel_rfl) (door_met3 os _)) ?_
  intro W base args ds gs before hval0 hW _ _ hL _
  have hval : ∀ (j : Nat) t v, Tryd.f15.params[j]? = some t → args[j]? = some v → Value.okWide Tryd.prog W .any base t v := hval0
  have hW' := hW
  obtain ⟨p, q, hA0, hV, rfl, hfz, hnd⟩ := hW
  have hA : DataW.TrodAll enc Tryd.prog W 0 (fun _ => true) true Tryd.f15.params.toList args.toList ds p := hA0
  have hAk := hA
  obtain ⟨PL, hPL⟩ : ∃ PL, p = PL := ⟨_, rfl⟩
  rw [hPL] at hAk hW'
  have hlt : ∀ x ∈ PL, x.block < W.heap.size := fun x hx => hW'.lt x (List.mem_append_left _ hx)
  clear hPL
  rw [Tryd.params15] at hA hval
  obtain ⟨v0, vs0, d0, ds0, p0, q0, hargs, rfl, rfl, h0, r0⟩ := trodAll_cons hA
  obtain ⟨v1, vs1, d1, ds1, p1, q1, rfl, rfl, rfl, h1, r1⟩ := trodAll_cons r0
  obtain ⟨v2, vs2, d2, ds2, p2, q2, rfl, rfl, rfl, h2, r2⟩ := trodAll_cons r1
  obtain ⟨v3, vs3, d3, ds3, p3, q3, rfl, rfl, rfl, h3, r3⟩ := trodAll_cons r2
  obtain ⟨v4, vs4, d4, ds4, p4, q4, rfl, rfl, rfl, h4, r4⟩ := trodAll_cons r3
  obtain ⟨v5, vs5, d5, ds5, p5, q5, rfl, rfl, rfl, h5, r5⟩ := trodAll_cons r4
  obtain ⟨v6, vs6, d6, ds6, p6, q6, rfl, rfl, rfl, h6, r6⟩ := trodAll_cons r5
  obtain ⟨rfl, rfl, rfl⟩ := trodAll_nil r6
  obtain rfl : args = #[v0, v1, v2, v3, v4, v5, v6] := by cases args; simp_all
  obtain ⟨rfl, rfl⟩ := trodVars_none hV
  obtain ⟨nl, Dl, sl, ml⟩ := open_digs (hval 0 80 v0 rfl rfl) h0
  obtain ⟨x, rfl, rfl, rfl, wx⟩ := open_int Tryd.underlying5 (hval 1 5 v1 rfl rfl) h1
  obtain ⟨y, rfl, rfl, rfl, wy⟩ := open_int Tryd.underlying5 (hval 2 5 v2 rfl rfl) h2
  obtain ⟨nk, Dk, sk, mk⟩ := open_digs (hval 3 80 v3 rfl rfl) h3
  obtain ⟨np, Dp, sp, mp⟩ := open_digs (hval 4 80 v4 rfl rfl) h4
  obtain ⟨z, rfl, rfl, rfl, wz⟩ := open_int Tryd.underlying5 (hval 5 5 v5 rfl rfl) h5
  obtain ⟨o, rfl⟩ := open_dig (hval 6 23 v6 rfl rfl) h6
  have hT := tab_of_laid3 hL
  have hK := k_of_laid3 hL
  have h3l : 3 < W.heap.size := World.block_lt_of_cell? W _ (hT 0 (by decide))
  obtain ⟨x0, x1⟩ := bounds_u8 wx
  obtain ⟨y0, y1⟩ := bounds_u8 wy
  obtain ⟨z0, z1⟩ := bounds_u8 wz
  obtain ⟨x, rfl⟩ := Int.eq_ofNat_of_zero_le x0
  obtain ⟨y, rfl⟩ := Int.eq_ofNat_of_zero_le y0
  obtain ⟨z, rfl⟩ := Int.eq_ofNat_of_zero_le z0
  obtain ⟨pl, cl, rfl, _⟩ := id sl
  obtain ⟨pk, ck, rfl, _⟩ := id sk
  obtain ⟨pp, cp, rfl, _⟩ := id sp
  have core : Calls Tryd.prog 15 #[.slice pl nl cl, .int .u8 (x : Int), .int .u8 (y : Int), .slice pk nk ck, .slice pp np cp, .int .u8 (z : Int), .agg (A8 16 o)] W fun e w' => e = .returned (.bool true) ∧ Below W.heap.size W w' := members_any nl nk np x y z cl ck cp pl pk pp Dl Dk Dp o W (by omega) (by omega) (by omega) sl sk sp hT hK h3l
  refine core.mono fun e W' ⟨he, hB⟩ => ?_
  subst he
  refine ⟨_, rfl, _, _, _, [], PL, [], hW', ?_, ?_, ?_, hB.frame _, fun h => by cases h⟩
  · exact trodAll_mk1 (shut_bool Tryd.underlying4 true)
  · exact trodAll_stays hB _ _ _ _ (by kernel_rfl) hAk hlt
  · rfl

theorem digestMembers_holds : Rows.DigestMembersSaid :=
  OpenClaim.holds_of_wide 15 Tryd.f15 rfl rfl rfl rfl rfl rfl rfl ⟨rfl, rfl, rfl, rfl, rfl⟩ rfl rfl rfl rfl rfl (by kernel_rfl) Tryd.func15 (by kernel_rfl)
    (of_decide_eq_true (by kernel_rfl)) (by unfold Func.isWrapper; first | (rw [if_pos (by decide +kernel)]; kernel_rfl) | (rw [if_neg (by decide +kernel)]; exact ⟨rfl, rfl⟩))
    (fun os started H enc _ => digestMembers_lifted os started H enc)

theorem digestMembers_card : Rows.DigestMembersCardSaid :=
  Claim7.holds_tied_plain_at .later [] [.data, .data, .data] true (true, "e6d10a4eaa8c710180af80b8b0c095909d856fa6f150ba09a50007db838f688c") true
    digestMembers_holds (fun _ h => by cases h) (by kernel_rfl) (fun _ h => by cases h) digestMembers_row_tie rfl ⟨rfl, rfl⟩ (by kernel_rfl) rfl
    (fun f fn hf hfn => by
      obtain rfl : f = 15 := Option.some.inj ((show Tryd.prog.funcNamed "understory/understorylaw02.DigestMembers" = some 15 by kernel_rfl).symm.trans hf) |>.symm
      obtain rfl : fn = Tryd.f15 := (Option.some.inj (Tryd.func15.symm.trans hfn)).symm
      exact ⟨by kernel_rfl, no_stand_ins _ (by kernel_rfl)⟩)
    (by kernel_rfl)
end Go.Proofs.YtdpgebifeaakjaaDoor
