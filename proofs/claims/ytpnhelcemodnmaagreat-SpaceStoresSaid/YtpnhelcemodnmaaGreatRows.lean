/-
  No cell of these rows narrows 'for every input' (looked for: loops, veiled, ifaces, maps, wideKeys, modest, calm, conditions, laid).
  DERIVED. THE GIVEN ROWS OF THIS SEAT. 9 by the template 'for every input the law returns true; each argument reads behind the call as it read before'; 0 by the template 'total and deterministic' (their statements: YtpnhelcemodnmaaGreatTotals.lean).
  GIVEN WITH THE SEED: the statements are not yours to turn. If you find one false, say at which input.
  Laid BY PROGRAM, IN A SANDBOX (cutbox-rows.mjs): the forced cells as the released guide's own fill.sh prints them over the translation a132982d9fbf445e… (all of the seat's roots in one cut). By AI agents, Wed Nov 11 2026. No macro, syntax, notation, axiom, sorry.
-/
import Derived.Test.YtpnhelcemodnmaaGreatChecked
import GoSem.Claim
import GoSem.ClaimJoined
import GoSem.ClaimMapViews
import Derived.JoinedTies
import Derived.KernelRfl
namespace Go.Proofs.YtpnhelcemodnmaaGreat
/- THE CELL 'sum', in the pinned program and in every row, IS THE sha256 OF THE DUMP (.gsa) THAT YtpnhelcemodnmaaGreatProg.lean LOADS. Nothing in Lean hashes anything: it is a label: what it is worth is what the hold of that sum in a sandbox is worth. -/
noncomputable def Tryz.pinned : Pinned := { name := "ytpnhelcemodnmaagreat", sum := "a132982d9fbf445eb5a0832bba4217fbf3865b3bd33fc698852e7634e40a9442", checked := Tryz.checked }
namespace Rows
def none {H : Type} : Left H := { results := [], args := [] }

/-- 'understorylaw12.SpaceEnds': WHATEVER THE INPUT: true; the input reads as it did. -/
def spaceEndsSpec : ChangeSpec := { name := "spaceEnds", fn := fun _ => fun
  | [d1, d2, d3, d4, d5] => { results := [.lit (.bool true)], args := [d1, d2, d3, d4, d5] }
  | _ => none }
def spaceEndsRow : OpenClaim := { program := "ytpnhelcemodnmaagreat", sum := "a132982d9fbf445eb5a0832bba4217fbf3865b3bd33fc698852e7634e40a9442", func := "understory/understorylaw12.SpaceEnds", spec := "spaceEnds", unfollowed := true, recurses := true, apart := false }
def SpaceEndsSaid : Prop := spaceEndsRow.holds Tryz.pinned (OpenSpec.ofChange spaceEndsSpec)

/-- ITS FALSE NEIGHBOUR: 'it returns false'. Refute it at one input. -/
def spaceEndsWrong : ChangeSpec := { name := "spaceEnds", fn := fun _ => fun
  | [d1, d2, d3, d4, d5] => { results := [.lit (.bool false)], args := [d1, d2, d3, d4, d5] }
  | _ => none }
def SpaceEndsWrongFalsely : Prop := spaceEndsRow.holds Tryz.pinned (OpenSpec.ofChange spaceEndsWrong)

/-- 'understorylaw12.SpaceLists': WHATEVER THE INPUT: true; the input reads as it did. -/
def spaceListsSpec : ChangeSpec := { name := "spaceLists", fn := fun _ => fun
  | [d1, d2, d3, d4] => { results := [.lit (.bool true)], args := [d1, d2, d3, d4] }
  | _ => none }
def spaceListsRow : OpenClaim := { program := "ytpnhelcemodnmaagreat", sum := "a132982d9fbf445eb5a0832bba4217fbf3865b3bd33fc698852e7634e40a9442", func := "understory/understorylaw12.SpaceLists", spec := "spaceLists", unfollowed := true, recurses := true, apart := false }
def SpaceListsSaid : Prop := spaceListsRow.holds Tryz.pinned (OpenSpec.ofChange spaceListsSpec)

/-- ITS FALSE NEIGHBOUR: 'it returns false'. Refute it at one input. -/
def spaceListsWrong : ChangeSpec := { name := "spaceLists", fn := fun _ => fun
  | [d1, d2, d3, d4] => { results := [.lit (.bool false)], args := [d1, d2, d3, d4] }
  | _ => none }
def SpaceListsWrongFalsely : Prop := spaceListsRow.holds Tryz.pinned (OpenSpec.ofChange spaceListsWrong)

/-- 'understorylaw12.SpaceStores': WHATEVER THE INPUT: true; the input reads as it did. -/
def spaceStoresSpec : ChangeSpec := { name := "spaceStores", fn := fun _ => fun
  | [d1, d2] => { results := [.lit (.bool true)], args := [d1, d2] }
  | _ => none }
def spaceStoresRow : OpenClaim := { program := "ytpnhelcemodnmaagreat", sum := "a132982d9fbf445eb5a0832bba4217fbf3865b3bd33fc698852e7634e40a9442", func := "understory/understorylaw12.SpaceStores", spec := "spaceStores", unfollowed := true, recurses := true, apart := false }
def SpaceStoresSaid : Prop := spaceStoresRow.holds Tryz.pinned (OpenSpec.ofChange spaceStoresSpec)

/-- ITS FALSE NEIGHBOUR: 'it returns false'. Refute it at one input. -/
def spaceStoresWrong : ChangeSpec := { name := "spaceStores", fn := fun _ => fun
  | [d1, d2] => { results := [.lit (.bool false)], args := [d1, d2] }
  | _ => none }
def SpaceStoresWrongFalsely : Prop := spaceStoresRow.holds Tryz.pinned (OpenSpec.ofChange spaceStoresWrong)

/-- 'understorylaw12.SpaceBegins': WHATEVER THE INPUT: true; the input reads as it did. -/
def spaceBeginsSpec : ChangeSpec := { name := "spaceBegins", fn := fun _ => fun
  | [d1, d2, d3, d4, d5] => { results := [.lit (.bool true)], args := [d1, d2, d3, d4, d5] }
  | _ => none }
def spaceBeginsRow : OpenClaim := { program := "ytpnhelcemodnmaagreat", sum := "a132982d9fbf445eb5a0832bba4217fbf3865b3bd33fc698852e7634e40a9442", func := "understory/understorylaw12.SpaceBegins", spec := "spaceBegins", unfollowed := true, recurses := true, apart := false }
def SpaceBeginsSaid : Prop := spaceBeginsRow.holds Tryz.pinned (OpenSpec.ofChange spaceBeginsSpec)

/-- ITS FALSE NEIGHBOUR: 'it returns false'. Refute it at one input. -/
def spaceBeginsWrong : ChangeSpec := { name := "spaceBegins", fn := fun _ => fun
  | [d1, d2, d3, d4, d5] => { results := [.lit (.bool false)], args := [d1, d2, d3, d4, d5] }
  | _ => none }
def SpaceBeginsWrongFalsely : Prop := spaceBeginsRow.holds Tryz.pinned (OpenSpec.ofChange spaceBeginsWrong)

/-- 'understorylaw12.SpacePinned': WHATEVER THE INPUT: true; the input reads as it did. -/
def spacePinnedSpec : ChangeSpec := { name := "spacePinned", fn := fun _ => fun
  | [d1, d2] => { results := [.lit (.bool true)], args := [d1, d2] }
  | _ => none }
def spacePinnedRow : OpenClaim := { program := "ytpnhelcemodnmaagreat", sum := "a132982d9fbf445eb5a0832bba4217fbf3865b3bd33fc698852e7634e40a9442", func := "understory/understorylaw12.SpacePinned", spec := "spacePinned", unfollowed := true, recurses := true, apart := false }
def SpacePinnedSaid : Prop := spacePinnedRow.holds Tryz.pinned (OpenSpec.ofChange spacePinnedSpec)

/-- ITS FALSE NEIGHBOUR: 'it returns false'. Refute it at one input. -/
def spacePinnedWrong : ChangeSpec := { name := "spacePinned", fn := fun _ => fun
  | [d1, d2] => { results := [.lit (.bool false)], args := [d1, d2] }
  | _ => none }
def SpacePinnedWrongFalsely : Prop := spacePinnedRow.holds Tryz.pinned (OpenSpec.ofChange spacePinnedWrong)

/-- 'understorylaw12.SpaceWhole': WHATEVER THE INPUT: true; the input reads as it did. -/
def spaceWholeSpec : ChangeSpec := { name := "spaceWhole", fn := fun _ => fun
  | [d1, d2] => { results := [.lit (.bool true)], args := [d1, d2] }
  | _ => none }
def spaceWholeRow : OpenClaim := { program := "ytpnhelcemodnmaagreat", sum := "a132982d9fbf445eb5a0832bba4217fbf3865b3bd33fc698852e7634e40a9442", func := "understory/understorylaw12.SpaceWhole", spec := "spaceWhole", unfollowed := true, recurses := true, apart := false }
def SpaceWholeSaid : Prop := spaceWholeRow.holds Tryz.pinned (OpenSpec.ofChange spaceWholeSpec)

/-- ITS FALSE NEIGHBOUR: 'it returns false'. Refute it at one input. -/
def spaceWholeWrong : ChangeSpec := { name := "spaceWhole", fn := fun _ => fun
  | [d1, d2] => { results := [.lit (.bool false)], args := [d1, d2] }
  | _ => none }
def SpaceWholeWrongFalsely : Prop := spaceWholeRow.holds Tryz.pinned (OpenSpec.ofChange spaceWholeWrong)

/-- 'understorylaw12.SpaceReuse': WHATEVER THE INPUT: true; the input reads as it did. -/
def spaceReuseSpec : ChangeSpec := { name := "spaceReuse", fn := fun _ => fun
  | [d1, d2] => { results := [.lit (.bool true)], args := [d1, d2] }
  | _ => none }
def spaceReuseRow : OpenClaim := { program := "ytpnhelcemodnmaagreat", sum := "a132982d9fbf445eb5a0832bba4217fbf3865b3bd33fc698852e7634e40a9442", func := "understory/understorylaw12.SpaceReuse", spec := "spaceReuse", unfollowed := true, recurses := true, apart := false }
def SpaceReuseSaid : Prop := spaceReuseRow.holds Tryz.pinned (OpenSpec.ofChange spaceReuseSpec)

/-- ITS FALSE NEIGHBOUR: 'it returns false'. Refute it at one input. -/
def spaceReuseWrong : ChangeSpec := { name := "spaceReuse", fn := fun _ => fun
  | [d1, d2] => { results := [.lit (.bool false)], args := [d1, d2] }
  | _ => none }
def SpaceReuseWrongFalsely : Prop := spaceReuseRow.holds Tryz.pinned (OpenSpec.ofChange spaceReuseWrong)

/-- 'understorylaw12.SpaceShrinks': WHATEVER THE INPUT: true; the input reads as it did. -/
def spaceShrinksSpec : ChangeSpec := { name := "spaceShrinks", fn := fun _ => fun
  | [d1, d2] => { results := [.lit (.bool true)], args := [d1, d2] }
  | _ => none }
def spaceShrinksRow : OpenClaim := { program := "ytpnhelcemodnmaagreat", sum := "a132982d9fbf445eb5a0832bba4217fbf3865b3bd33fc698852e7634e40a9442", func := "understory/understorylaw12.SpaceShrinks", spec := "spaceShrinks", unfollowed := true, recurses := true, apart := false }
def SpaceShrinksSaid : Prop := spaceShrinksRow.holds Tryz.pinned (OpenSpec.ofChange spaceShrinksSpec)

/-- ITS FALSE NEIGHBOUR: 'it returns false'. Refute it at one input. -/
def spaceShrinksWrong : ChangeSpec := { name := "spaceShrinks", fn := fun _ => fun
  | [d1, d2] => { results := [.lit (.bool false)], args := [d1, d2] }
  | _ => none }
def SpaceShrinksWrongFalsely : Prop := spaceShrinksRow.holds Tryz.pinned (OpenSpec.ofChange spaceShrinksWrong)

/-- 'understorylaw12.SpacePlays': WHATEVER THE INPUT: true; the input reads as it did. -/
def spacePlaysSpec : ChangeSpec := { name := "spacePlays", fn := fun _ => fun
  | [d1, d2] => { results := [.lit (.bool true)], args := [d1, d2] }
  | _ => none }
def spacePlaysRow : OpenClaim := { program := "ytpnhelcemodnmaagreat", sum := "a132982d9fbf445eb5a0832bba4217fbf3865b3bd33fc698852e7634e40a9442", func := "understory/understorylaw12.SpacePlays", spec := "spacePlays", inPlace := ["slices.overlaps[int]"], unfollowed := true, recurses := true, apart := false }
def SpacePlaysSaid : Prop := spacePlaysRow.holds Tryz.pinned (OpenSpec.ofChange spacePlaysSpec)

/-- ITS FALSE NEIGHBOUR: 'it returns false'. Refute it at one input. -/
def spacePlaysWrong : ChangeSpec := { name := "spacePlays", fn := fun _ => fun
  | [d1, d2] => { results := [.lit (.bool false)], args := [d1, d2] }
  | _ => none }
def SpacePlaysWrongFalsely : Prop := spacePlaysRow.holds Tryz.pinned (OpenSpec.ofChange spacePlaysWrong)

/- THE SECOND FORM. 'bulk': how many values and letters a reading holds, each counted each time it is reached (what is shared counts as often as it is met; a slice's spare places count too). A statement '..UptoSaid' is the law's where the arguments, and the package variables that the reading takes, are together of bulk at most 1048576: NARROWER than '..Said'. Prove '..Said' where nothing that the law and all that it calls make is longer than what came in: it says more and counts as full. Else prove '..UptoSaid'. A law counts once. -/
mutual
def uptoBulk {H : Type} : DataW H → Nat
  | .lit (.string bytes) => bytes.length + 1
  | .lit _ => 1
  | .nil => 1
  | .ptr d => uptoBulk d + 1
  | .slice elems spare => uptoBulkAll elems + uptoBulkAll spare + 1
  | .agg parts => uptoBulkAll parts + 1
  | .iface _ d => uptoBulk d + 1
  | .map entries => uptoBulkEntries entries + 1
  | .held _ => 1
def uptoBulkAll {H : Type} : List (DataW H) → Nat
  | [] => 0
  | d :: r => uptoBulk d + uptoBulkAll r
def uptoBulkEntries {H : Type} : List (Lit × DataW H) → Nat
  | [] => 0
  | x :: r => uptoBulkEntry x + uptoBulkEntries r
def uptoBulkEntry {H : Type} : Lit × DataW H → Nat
  | (.string bytes, d) => bytes.length + uptoBulk d + 1
  | (_, d) => uptoBulk d + 1
 end
def uptoSmall : (H : Type) → List (DataW H) → Bool := fun _ ds => decide (uptoBulkAll ds ≤ 1048576)
def OpenSpec.upto (s : _root_.Go.ChangeSpec) : _root_.Go.OpenSpec := { _root_.Go.OpenSpec.ofChange s with cond := some uptoSmall }

/-- 'understorylaw12.SpaceEnds', WHERE WHAT IT READS IS OF BULK AT MOST 1048576: true; the input reads as it did. -/
def spaceEndsUptoRow : OpenClaim := { program := "ytpnhelcemodnmaagreat", sum := "a132982d9fbf445eb5a0832bba4217fbf3865b3bd33fc698852e7634e40a9442", func := "understory/understorylaw12.SpaceEnds", spec := "spaceEnds", unfollowed := true, recurses := true, apart := false, narrowed := true }
def SpaceEndsUptoSaid : Prop := spaceEndsUptoRow.holds Tryz.pinned (OpenSpec.upto spaceEndsSpec)

/-- 'understorylaw12.SpaceLists', WHERE WHAT IT READS IS OF BULK AT MOST 1048576: true; the input reads as it did. -/
def spaceListsUptoRow : OpenClaim := { program := "ytpnhelcemodnmaagreat", sum := "a132982d9fbf445eb5a0832bba4217fbf3865b3bd33fc698852e7634e40a9442", func := "understory/understorylaw12.SpaceLists", spec := "spaceLists", unfollowed := true, recurses := true, apart := false, narrowed := true }
def SpaceListsUptoSaid : Prop := spaceListsUptoRow.holds Tryz.pinned (OpenSpec.upto spaceListsSpec)

/-- 'understorylaw12.SpaceStores', WHERE WHAT IT READS IS OF BULK AT MOST 1048576: true; the input reads as it did. -/
def spaceStoresUptoRow : OpenClaim := { program := "ytpnhelcemodnmaagreat", sum := "a132982d9fbf445eb5a0832bba4217fbf3865b3bd33fc698852e7634e40a9442", func := "understory/understorylaw12.SpaceStores", spec := "spaceStores", unfollowed := true, recurses := true, apart := false, narrowed := true }
def SpaceStoresUptoSaid : Prop := spaceStoresUptoRow.holds Tryz.pinned (OpenSpec.upto spaceStoresSpec)

/-- 'understorylaw12.SpaceBegins', WHERE WHAT IT READS IS OF BULK AT MOST 1048576: true; the input reads as it did. -/
def spaceBeginsUptoRow : OpenClaim := { program := "ytpnhelcemodnmaagreat", sum := "a132982d9fbf445eb5a0832bba4217fbf3865b3bd33fc698852e7634e40a9442", func := "understory/understorylaw12.SpaceBegins", spec := "spaceBegins", unfollowed := true, recurses := true, apart := false, narrowed := true }
def SpaceBeginsUptoSaid : Prop := spaceBeginsUptoRow.holds Tryz.pinned (OpenSpec.upto spaceBeginsSpec)

/-- 'understorylaw12.SpacePinned', WHERE WHAT IT READS IS OF BULK AT MOST 1048576: true; the input reads as it did. -/
def spacePinnedUptoRow : OpenClaim := { program := "ytpnhelcemodnmaagreat", sum := "a132982d9fbf445eb5a0832bba4217fbf3865b3bd33fc698852e7634e40a9442", func := "understory/understorylaw12.SpacePinned", spec := "spacePinned", unfollowed := true, recurses := true, apart := false, narrowed := true }
def SpacePinnedUptoSaid : Prop := spacePinnedUptoRow.holds Tryz.pinned (OpenSpec.upto spacePinnedSpec)

/-- 'understorylaw12.SpaceWhole', WHERE WHAT IT READS IS OF BULK AT MOST 1048576: true; the input reads as it did. -/
def spaceWholeUptoRow : OpenClaim := { program := "ytpnhelcemodnmaagreat", sum := "a132982d9fbf445eb5a0832bba4217fbf3865b3bd33fc698852e7634e40a9442", func := "understory/understorylaw12.SpaceWhole", spec := "spaceWhole", unfollowed := true, recurses := true, apart := false, narrowed := true }
def SpaceWholeUptoSaid : Prop := spaceWholeUptoRow.holds Tryz.pinned (OpenSpec.upto spaceWholeSpec)

/-- 'understorylaw12.SpaceReuse', WHERE WHAT IT READS IS OF BULK AT MOST 1048576: true; the input reads as it did. -/
def spaceReuseUptoRow : OpenClaim := { program := "ytpnhelcemodnmaagreat", sum := "a132982d9fbf445eb5a0832bba4217fbf3865b3bd33fc698852e7634e40a9442", func := "understory/understorylaw12.SpaceReuse", spec := "spaceReuse", unfollowed := true, recurses := true, apart := false, narrowed := true }
def SpaceReuseUptoSaid : Prop := spaceReuseUptoRow.holds Tryz.pinned (OpenSpec.upto spaceReuseSpec)

/-- 'understorylaw12.SpaceShrinks', WHERE WHAT IT READS IS OF BULK AT MOST 1048576: true; the input reads as it did. -/
def spaceShrinksUptoRow : OpenClaim := { program := "ytpnhelcemodnmaagreat", sum := "a132982d9fbf445eb5a0832bba4217fbf3865b3bd33fc698852e7634e40a9442", func := "understory/understorylaw12.SpaceShrinks", spec := "spaceShrinks", unfollowed := true, recurses := true, apart := false, narrowed := true }
def SpaceShrinksUptoSaid : Prop := spaceShrinksUptoRow.holds Tryz.pinned (OpenSpec.upto spaceShrinksSpec)

/-- 'understorylaw12.SpacePlays', WHERE WHAT IT READS IS OF BULK AT MOST 1048576: true; the input reads as it did. -/
def spacePlaysUptoRow : OpenClaim := { program := "ytpnhelcemodnmaagreat", sum := "a132982d9fbf445eb5a0832bba4217fbf3865b3bd33fc698852e7634e40a9442", func := "understory/understorylaw12.SpacePlays", spec := "spacePlays", inPlace := ["slices.overlaps[int]"], unfollowed := true, recurses := true, apart := false, narrowed := true }
def SpacePlaysUptoSaid : Prop := spacePlaysUptoRow.holds Tryz.pinned (OpenSpec.upto spacePlaysSpec)

end Rows
end Go.Proofs.YtpnhelcemodnmaaGreat
