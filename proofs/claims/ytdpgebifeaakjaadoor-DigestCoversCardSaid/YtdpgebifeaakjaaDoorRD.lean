/- DigestCovers: the tied card. -/
import Derived.Test.YtdpgebifeaakjaaDoorRC
namespace Go.Proofs.YtdpgebifeaakjaaDoor
set_option linter.unusedSimpArgs false
set_option linter.unusedVariables false
open Go

theorem covers_card : Rows.DigestCoversCardSaid :=
  Claim7.holds_tied_plain_at .later [] [.data, .data] true (true, "e6d10a4eaa8c710180af80b8b0c095909d856fa6f150ba09a50007db838f688c") true
    covers_holds (fun _ h => by cases h) (by kernel_rfl) (fun _ h => by cases h) digestCovers_row_tie rfl ⟨rfl, rfl⟩ (by kernel_rfl) rfl
    (fun f fn hf hfn => by
      obtain rfl : f = 4 := Option.some.inj ((show Tryd.prog.funcNamed "understory/understorylaw02.DigestCovers" = some 4 by kernel_rfl).symm.trans hf) |>.symm
      obtain rfl : fn = Tryd.f4 := (Option.some.inj (Tryd.func4.symm.trans hfn)).symm
      exact ⟨by kernel_rfl, fun j t ht => by
        rw [Tryd.params4] at ht
        have h3 : t = 3 := by
          rcases j with _ | j
          · simpa using ht.symm
          · rcases j with _ | j
            · simpa using ht.symm
            · simp at ht
        subst h3
        exact (show Tryd.prog.wantsStandIn 3 = false by kernel_rfl)⟩)
    (by kernel_rfl)
end Go.Proofs.YtdpgebifeaakjaaDoor
