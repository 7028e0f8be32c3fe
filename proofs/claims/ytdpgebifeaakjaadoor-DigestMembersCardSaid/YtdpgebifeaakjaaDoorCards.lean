/-
  DERIVED. GIVEN WITH THE SEED: THE CARDS: each row of YtdpgebifeaakjaaDoorRows.lean that lists a variable, with what it lists TIED to the program's text (the seventh form; the later family's looks); each row that meets fmt, with fmt's text TOLD by the authors' own Lean function (tested against real Go, not proved from fmt's source: count such statements apart). THE CARD IS WHAT COUNTS. Prove the row's statement (the work); the ties are given (YtdpgebifeaakjaaDoorTie.lean); close each card by the builder's one call (the guide's Derived/Test/ToyasCard.lean, 'card_holds'). Laid BY PROGRAM, IN A SANDBOX (cutbox-door.mjs). By AI agents, Wed Nov 11 2026. No macro, syntax, notation, axiom, sorry.
-/
import Derived.Test.YtdpgebifeaakjaaDoorRows
import GoSem.ClaimSeven
namespace Go.Proofs.YtdpgebifeaakjaaDoor
namespace Rows

/-- THE TIED CARD OF 'understorylaw02.DigestHexes'. -/
def digestHexesCard : Claim7 := { stood := { row := digestHexesRow, standIns := [], harness := (true, "e6d10a4eaa8c710180af80b8b0c095909d856fa6f150ba09a50007db838f688c"), looks := true }, kinds := [], alts := [], laidByText := true, laidKinds := [.data, .data], laidTests := true, laidLooks := .later }
def DigestHexesCardSaid : Prop := Claim7.holds Tryd.pinned (.plain (OpenSpec.ofChange digestHexesSpec)) digestHexesCard

/-- THE TIED CARD OF 'understorylaw02.DigestCovers'. -/
def digestCoversCard : Claim7 := { stood := { row := digestCoversRow, standIns := [], harness := (true, "e6d10a4eaa8c710180af80b8b0c095909d856fa6f150ba09a50007db838f688c"), looks := true }, kinds := [], alts := [], laidByText := true, laidKinds := [.data, .data], laidTests := true, laidLooks := .later }
def DigestCoversCardSaid : Prop := Claim7.holds Tryd.pinned (.plain (OpenSpec.ofChange digestCoversSpec)) digestCoversCard

/-- THE TIED CARD OF 'understorylaw02.DigestBursts'. -/
def digestBurstsCard : Claim7 := { stood := { row := digestBurstsRow, standIns := [], harness := (true, "e6d10a4eaa8c710180af80b8b0c095909d856fa6f150ba09a50007db838f688c"), looks := true }, kinds := [], alts := [], laidByText := true, laidKinds := [.data, .data], laidTests := true, laidLooks := .later }
def DigestBurstsCardSaid : Prop := Claim7.holds Tryd.pinned (.plain (OpenSpec.ofChange digestBurstsSpec)) digestBurstsCard

/-- THE TIED CARD OF 'understorylaw02.DigestCRCs'. -/
def digestCRCsCard : Claim7 := { stood := { row := digestCRCsRow, standIns := [], harness := (true, "e6d10a4eaa8c710180af80b8b0c095909d856fa6f150ba09a50007db838f688c"), looks := true }, kinds := [], alts := [], laidByText := true, laidKinds := [.data, .data], laidTests := true, laidLooks := .later }
def DigestCRCsCardSaid : Prop := Claim7.holds Tryd.pinned (.plain (OpenSpec.ofChange digestCRCsSpec)) digestCRCsCard

/-- THE TIED CARD OF 'understorylaw02.DigestAlgebra'. -/
def digestAlgebraCard : Claim7 := { stood := { row := digestAlgebraRow, standIns := [], harness := (true, "e6d10a4eaa8c710180af80b8b0c095909d856fa6f150ba09a50007db838f688c"), looks := true }, kinds := [], alts := [], laidByText := true, laidKinds := [.data, .data], laidTests := true, laidLooks := .later }
def DigestAlgebraCardSaid : Prop := Claim7.holds Tryd.pinned (.plain (OpenSpec.ofChange digestAlgebraSpec)) digestAlgebraCard

/-- THE TIED CARD OF 'understorylaw02.DigestStates'. -/
def digestStatesCard : Claim7 := { stood := { row := digestStatesRow, standIns := [], harness := (true, "e6d10a4eaa8c710180af80b8b0c095909d856fa6f150ba09a50007db838f688c"), looks := true }, kinds := [], alts := [], laidByText := true, laidKinds := [.data, .data, .data], laidTests := true, laidLooks := .later }
def DigestStatesCardSaid : Prop := Claim7.holds Tryd.pinned (.plain (OpenSpec.ofChange digestStatesSpec)) digestStatesCard

/-- THE TIED CARD OF 'understorylaw02.DigestParts'. -/
def digestPartsCard : Claim7 := { stood := { row := digestPartsRow, standIns := [], harness := (true, "e6d10a4eaa8c710180af80b8b0c095909d856fa6f150ba09a50007db838f688c"), looks := true }, kinds := [], alts := [], laidByText := true, laidKinds := [.data, .data], laidTests := true, laidLooks := .later }
def DigestPartsCardSaid : Prop := Claim7.holds Tryd.pinned (.plain (OpenSpec.ofChange digestPartsSpec)) digestPartsCard

/-- THE TIED CARD OF 'understorylaw02.DigestTrees'. -/
def digestTreesCard : Claim7 := { stood := { row := digestTreesRow, standIns := [], harness := (true, "e6d10a4eaa8c710180af80b8b0c095909d856fa6f150ba09a50007db838f688c"), looks := true }, kinds := [], alts := [], laidByText := true, laidKinds := [.data, .data, .data], laidTests := true, laidLooks := .later }
def DigestTreesCardSaid : Prop := Claim7.holds Tryd.pinned (.plain (OpenSpec.ofChange digestTreesSpec)) digestTreesCard

/-- THE TIED CARD OF 'understorylaw02.DigestGrowths'. -/
def digestGrowthsCard : Claim7 := { stood := { row := digestGrowthsRow, standIns := [], harness := (true, "e6d10a4eaa8c710180af80b8b0c095909d856fa6f150ba09a50007db838f688c"), looks := true }, kinds := [], alts := [], laidByText := true, laidKinds := [.data, .data, .data], laidTests := true, laidLooks := .later }
def DigestGrowthsCardSaid : Prop := Claim7.holds Tryd.pinned (.plain (OpenSpec.ofChange digestGrowthsSpec)) digestGrowthsCard

/-- THE TIED CARD OF 'understorylaw02.DigestFrontiers'. -/
def digestFrontiersCard : Claim7 := { stood := { row := digestFrontiersRow, standIns := [], harness := (true, "e6d10a4eaa8c710180af80b8b0c095909d856fa6f150ba09a50007db838f688c"), looks := true }, kinds := [], alts := [], laidByText := true, laidKinds := [.data, .data, .data], laidTests := true, laidLooks := .later }
def DigestFrontiersCardSaid : Prop := Claim7.holds Tryd.pinned (.plain (OpenSpec.ofChange digestFrontiersSpec)) digestFrontiersCard

/-- THE TIED CARD OF 'understorylaw02.DigestPaths'. -/
def digestPathsCard : Claim7 := { stood := { row := digestPathsRow, standIns := [], harness := (true, "e6d10a4eaa8c710180af80b8b0c095909d856fa6f150ba09a50007db838f688c"), looks := true }, kinds := [], alts := [], laidByText := true, laidKinds := [.data, .data, .data], laidTests := true, laidLooks := .later }
def DigestPathsCardSaid : Prop := Claim7.holds Tryd.pinned (.plain (OpenSpec.ofChange digestPathsSpec)) digestPathsCard

/-- THE TIED CARD OF 'understorylaw02.DigestGrowing'. -/
def digestGrowingCard : Claim7 := { stood := { row := digestGrowingRow, standIns := [], harness := (true, "e6d10a4eaa8c710180af80b8b0c095909d856fa6f150ba09a50007db838f688c"), looks := true }, kinds := [], alts := [], laidByText := true, laidKinds := [.data, .data], laidTests := true, laidLooks := .later }
def DigestGrowingCardSaid : Prop := Claim7.holds Tryd.pinned (.plain (OpenSpec.ofChange digestGrowingSpec)) digestGrowingCard

/-- THE TIED CARD OF 'understorylaw02.DigestMembers'. -/
def digestMembersCard : Claim7 := { stood := { row := digestMembersRow, standIns := [], harness := (true, "e6d10a4eaa8c710180af80b8b0c095909d856fa6f150ba09a50007db838f688c"), looks := true }, kinds := [], alts := [], laidByText := true, laidKinds := [.data, .data, .data], laidTests := true, laidLooks := .later }
def DigestMembersCardSaid : Prop := Claim7.holds Tryd.pinned (.plain (OpenSpec.ofChange digestMembersSpec)) digestMembersCard

/-- THE TIED CARD OF 'understorylaw02.DigestExtends'. -/
def digestExtendsCard : Claim7 := { stood := { row := digestExtendsRow, standIns := [], harness := (true, "e6d10a4eaa8c710180af80b8b0c095909d856fa6f150ba09a50007db838f688c"), looks := true }, kinds := [], alts := [], laidByText := true, laidKinds := [.data, .data, .data], laidTests := true, laidLooks := .later }
def DigestExtendsCardSaid : Prop := Claim7.holds Tryd.pinned (.plain (OpenSpec.ofChange digestExtendsSpec)) digestExtendsCard

/-- THE SECOND FORM's CARD OF 'understorylaw02.DigestHexes'. -/
def digestHexesUptoCard : Claim7 := { stood := { row := digestHexesUptoRow, standIns := [], harness := (true, "e6d10a4eaa8c710180af80b8b0c095909d856fa6f150ba09a50007db838f688c"), looks := true }, kinds := [], alts := [], laidByText := true, laidKinds := [.data, .data], laidTests := true, laidLooks := .later }
def DigestHexesUptoCardSaid : Prop := Claim7.holds Tryd.pinned (.plain (OpenSpec.upto digestHexesSpec)) digestHexesUptoCard

/-- THE SECOND FORM's CARD OF 'understorylaw02.DigestCovers'. -/
def digestCoversUptoCard : Claim7 := { stood := { row := digestCoversUptoRow, standIns := [], harness := (true, "e6d10a4eaa8c710180af80b8b0c095909d856fa6f150ba09a50007db838f688c"), looks := true }, kinds := [], alts := [], laidByText := true, laidKinds := [.data, .data], laidTests := true, laidLooks := .later }
def DigestCoversUptoCardSaid : Prop := Claim7.holds Tryd.pinned (.plain (OpenSpec.upto digestCoversSpec)) digestCoversUptoCard

/-- THE SECOND FORM's CARD OF 'understorylaw02.DigestBursts'. -/
def digestBurstsUptoCard : Claim7 := { stood := { row := digestBurstsUptoRow, standIns := [], harness := (true, "e6d10a4eaa8c710180af80b8b0c095909d856fa6f150ba09a50007db838f688c"), looks := true }, kinds := [], alts := [], laidByText := true, laidKinds := [.data, .data], laidTests := true, laidLooks := .later }
def DigestBurstsUptoCardSaid : Prop := Claim7.holds Tryd.pinned (.plain (OpenSpec.upto digestBurstsSpec)) digestBurstsUptoCard

/-- THE SECOND FORM's CARD OF 'understorylaw02.DigestCRCs'. -/
def digestCRCsUptoCard : Claim7 := { stood := { row := digestCRCsUptoRow, standIns := [], harness := (true, "e6d10a4eaa8c710180af80b8b0c095909d856fa6f150ba09a50007db838f688c"), looks := true }, kinds := [], alts := [], laidByText := true, laidKinds := [.data, .data], laidTests := true, laidLooks := .later }
def DigestCRCsUptoCardSaid : Prop := Claim7.holds Tryd.pinned (.plain (OpenSpec.upto digestCRCsSpec)) digestCRCsUptoCard

/-- THE SECOND FORM's CARD OF 'understorylaw02.DigestAlgebra'. -/
def digestAlgebraUptoCard : Claim7 := { stood := { row := digestAlgebraUptoRow, standIns := [], harness := (true, "e6d10a4eaa8c710180af80b8b0c095909d856fa6f150ba09a50007db838f688c"), looks := true }, kinds := [], alts := [], laidByText := true, laidKinds := [.data, .data], laidTests := true, laidLooks := .later }
def DigestAlgebraUptoCardSaid : Prop := Claim7.holds Tryd.pinned (.plain (OpenSpec.upto digestAlgebraSpec)) digestAlgebraUptoCard

/-- THE SECOND FORM's CARD OF 'understorylaw02.DigestStates'. -/
def digestStatesUptoCard : Claim7 := { stood := { row := digestStatesUptoRow, standIns := [], harness := (true, "e6d10a4eaa8c710180af80b8b0c095909d856fa6f150ba09a50007db838f688c"), looks := true }, kinds := [], alts := [], laidByText := true, laidKinds := [.data, .data, .data], laidTests := true, laidLooks := .later }
def DigestStatesUptoCardSaid : Prop := Claim7.holds Tryd.pinned (.plain (OpenSpec.upto digestStatesSpec)) digestStatesUptoCard

/-- THE SECOND FORM's CARD OF 'understorylaw02.DigestParts'. -/
def digestPartsUptoCard : Claim7 := { stood := { row := digestPartsUptoRow, standIns := [], harness := (true, "e6d10a4eaa8c710180af80b8b0c095909d856fa6f150ba09a50007db838f688c"), looks := true }, kinds := [], alts := [], laidByText := true, laidKinds := [.data, .data], laidTests := true, laidLooks := .later }
def DigestPartsUptoCardSaid : Prop := Claim7.holds Tryd.pinned (.plain (OpenSpec.upto digestPartsSpec)) digestPartsUptoCard

/-- THE SECOND FORM's CARD OF 'understorylaw02.DigestTrees'. -/
def digestTreesUptoCard : Claim7 := { stood := { row := digestTreesUptoRow, standIns := [], harness := (true, "e6d10a4eaa8c710180af80b8b0c095909d856fa6f150ba09a50007db838f688c"), looks := true }, kinds := [], alts := [], laidByText := true, laidKinds := [.data, .data, .data], laidTests := true, laidLooks := .later }
def DigestTreesUptoCardSaid : Prop := Claim7.holds Tryd.pinned (.plain (OpenSpec.upto digestTreesSpec)) digestTreesUptoCard

/-- THE SECOND FORM's CARD OF 'understorylaw02.DigestGrowths'. -/
def digestGrowthsUptoCard : Claim7 := { stood := { row := digestGrowthsUptoRow, standIns := [], harness := (true, "e6d10a4eaa8c710180af80b8b0c095909d856fa6f150ba09a50007db838f688c"), looks := true }, kinds := [], alts := [], laidByText := true, laidKinds := [.data, .data, .data], laidTests := true, laidLooks := .later }
def DigestGrowthsUptoCardSaid : Prop := Claim7.holds Tryd.pinned (.plain (OpenSpec.upto digestGrowthsSpec)) digestGrowthsUptoCard

/-- THE SECOND FORM's CARD OF 'understorylaw02.DigestFrontiers'. -/
def digestFrontiersUptoCard : Claim7 := { stood := { row := digestFrontiersUptoRow, standIns := [], harness := (true, "e6d10a4eaa8c710180af80b8b0c095909d856fa6f150ba09a50007db838f688c"), looks := true }, kinds := [], alts := [], laidByText := true, laidKinds := [.data, .data, .data], laidTests := true, laidLooks := .later }
def DigestFrontiersUptoCardSaid : Prop := Claim7.holds Tryd.pinned (.plain (OpenSpec.upto digestFrontiersSpec)) digestFrontiersUptoCard

/-- THE SECOND FORM's CARD OF 'understorylaw02.DigestPaths'. -/
def digestPathsUptoCard : Claim7 := { stood := { row := digestPathsUptoRow, standIns := [], harness := (true, "e6d10a4eaa8c710180af80b8b0c095909d856fa6f150ba09a50007db838f688c"), looks := true }, kinds := [], alts := [], laidByText := true, laidKinds := [.data, .data, .data], laidTests := true, laidLooks := .later }
def DigestPathsUptoCardSaid : Prop := Claim7.holds Tryd.pinned (.plain (OpenSpec.upto digestPathsSpec)) digestPathsUptoCard

/-- THE SECOND FORM's CARD OF 'understorylaw02.DigestGrowing'. -/
def digestGrowingUptoCard : Claim7 := { stood := { row := digestGrowingUptoRow, standIns := [], harness := (true, "e6d10a4eaa8c710180af80b8b0c095909d856fa6f150ba09a50007db838f688c"), looks := true }, kinds := [], alts := [], laidByText := true, laidKinds := [.data, .data], laidTests := true, laidLooks := .later }
def DigestGrowingUptoCardSaid : Prop := Claim7.holds Tryd.pinned (.plain (OpenSpec.upto digestGrowingSpec)) digestGrowingUptoCard

/-- THE SECOND FORM's CARD OF 'understorylaw02.DigestMembers'. -/
def digestMembersUptoCard : Claim7 := { stood := { row := digestMembersUptoRow, standIns := [], harness := (true, "e6d10a4eaa8c710180af80b8b0c095909d856fa6f150ba09a50007db838f688c"), looks := true }, kinds := [], alts := [], laidByText := true, laidKinds := [.data, .data, .data], laidTests := true, laidLooks := .later }
def DigestMembersUptoCardSaid : Prop := Claim7.holds Tryd.pinned (.plain (OpenSpec.upto digestMembersSpec)) digestMembersUptoCard

/-- THE SECOND FORM's CARD OF 'understorylaw02.DigestExtends'. -/
def digestExtendsUptoCard : Claim7 := { stood := { row := digestExtendsUptoRow, standIns := [], harness := (true, "e6d10a4eaa8c710180af80b8b0c095909d856fa6f150ba09a50007db838f688c"), looks := true }, kinds := [], alts := [], laidByText := true, laidKinds := [.data, .data, .data], laidTests := true, laidLooks := .later }
def DigestExtendsUptoCardSaid : Prop := Claim7.holds Tryd.pinned (.plain (OpenSpec.upto digestExtendsSpec)) digestExtendsUptoCard
end Rows
end Go.Proofs.YtdpgebifeaakjaaDoor
