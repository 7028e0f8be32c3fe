/-
  NARROWER THAN 'FOR EVERY INPUT', by the rows' own cells (each row's printed sentence says how): DigestHexes: laid · DigestCovers: laid · DigestBursts: laid · DigestCRCs: laid · DigestAlgebra: laid · DigestStates: laid · DigestParts: laid · DigestTrees: laid · DigestGrowths: laid · DigestFrontiers: laid · DigestPaths: laid · DigestGrowing: laid · DigestMembers: laid · DigestExtends: laid.
  DERIVED. THE GIVEN ROWS OF THIS SEAT. 14 by the template 'for every input the law returns true; each argument reads behind the call as it read before'; 0 by the template 'total and deterministic' (their statements: YtdpgebifeaakjaaDoorTotals.lean).
  GIVEN WITH THE SEED: the statements are not yours to turn. If you find one false, say at which input.
  Laid BY PROGRAM, IN A SANDBOX (cutbox-rows.mjs): the forced cells as the released guide's own fill.sh prints them over the translation 25f4a06e38ec395e… (all of the seat's roots in one cut). By AI agents, Wed Nov 11 2026. No macro, syntax, notation, axiom, sorry.
-/
import Derived.Test.YtdpgebifeaakjaaDoorChecked
import GoSem.Claim
import GoSem.ClaimJoined
import GoSem.ClaimMapViews
import Derived.JoinedTies
import Derived.KernelRfl
namespace Go.Proofs.YtdpgebifeaakjaaDoor
/- THE CELL 'sum', in the pinned program and in every row, IS THE sha256 OF THE DUMP (.gsa) THAT YtdpgebifeaakjaaDoorProg.lean LOADS. Nothing in Lean hashes anything: it is a label: what it is worth is what the hold of that sum in a sandbox is worth. -/
noncomputable def Tryd.pinned : Pinned := { name := "ytdpgebifeaakjaadoor", sum := "25f4a06e38ec395e054e1c7eb0ebe50af9bf681f7b2590340ba6e9954929fdeb", checked := Tryd.checked }
namespace Rows
def none {H : Type} : Left H := { results := [], args := [] }

/- WHAT THE LISTED PACKAGE-LEVEL VARIABLES READ AS WHEN THE CALL BEGINS. Each datum BY PROGRAM (the guide's laid-datum.mjs) off the statement by which the dump's own 'gosem.cut.vars' lays the variable. In a bare row this is a premise. The card (YtdpgebifeaakjaaDoorCards.lean) ties it to the program's text. -/
def laid_math_bits_deBruijn32tab {H : Type} : DataW H := .agg [.lit (.int .u8 0), .lit (.int .u8 1), .lit (.int .u8 28), .lit (.int .u8 2), .lit (.int .u8 29), .lit (.int .u8 14), .lit (.int .u8 24), .lit (.int .u8 3), .lit (.int .u8 30), .lit (.int .u8 22), .lit (.int .u8 20), .lit (.int .u8 15), .lit (.int .u8 25), .lit (.int .u8 17), .lit (.int .u8 4), .lit (.int .u8 8), .lit (.int .u8 31), .lit (.int .u8 27), .lit (.int .u8 13), .lit (.int .u8 23), .lit (.int .u8 21), .lit (.int .u8 19), .lit (.int .u8 16), .lit (.int .u8 7), .lit (.int .u8 26), .lit (.int .u8 12), .lit (.int .u8 18), .lit (.int .u8 6), .lit (.int .u8 11), .lit (.int .u8 5), .lit (.int .u8 10), .lit (.int .u8 9)]
def laid_math_bits_deBruijn64tab {H : Type} : DataW H := .agg [.lit (.int .u8 0), .lit (.int .u8 1), .lit (.int .u8 56), .lit (.int .u8 2), .lit (.int .u8 57), .lit (.int .u8 49), .lit (.int .u8 28), .lit (.int .u8 3), .lit (.int .u8 61), .lit (.int .u8 58), .lit (.int .u8 42), .lit (.int .u8 50), .lit (.int .u8 38), .lit (.int .u8 29), .lit (.int .u8 17), .lit (.int .u8 4), .lit (.int .u8 62), .lit (.int .u8 47), .lit (.int .u8 59), .lit (.int .u8 36), .lit (.int .u8 45), .lit (.int .u8 43), .lit (.int .u8 51), .lit (.int .u8 22), .lit (.int .u8 53), .lit (.int .u8 39), .lit (.int .u8 33), .lit (.int .u8 30), .lit (.int .u8 24), .lit (.int .u8 18), .lit (.int .u8 12), .lit (.int .u8 5), .lit (.int .u8 63), .lit (.int .u8 55), .lit (.int .u8 48), .lit (.int .u8 27), .lit (.int .u8 60), .lit (.int .u8 41), .lit (.int .u8 37), .lit (.int .u8 16), .lit (.int .u8 46), .lit (.int .u8 35), .lit (.int .u8 44), .lit (.int .u8 21), .lit (.int .u8 52), .lit (.int .u8 32), .lit (.int .u8 23), .lit (.int .u8 11), .lit (.int .u8 54), .lit (.int .u8 26), .lit (.int .u8 40), .lit (.int .u8 15), .lit (.int .u8 34), .lit (.int .u8 20), .lit (.int .u8 31), .lit (.int .u8 10), .lit (.int .u8 25), .lit (.int .u8 14), .lit (.int .u8 19), .lit (.int .u8 9), .lit (.int .u8 13), .lit (.int .u8 8), .lit (.int .u8 7), .lit (.int .u8 6)]
def laid_understory_understoryref02_constants {H : Type} : DataW H := .agg [.lit (.int .u32 1116352408), .lit (.int .u32 1899447441), .lit (.int .u32 3049323471), .lit (.int .u32 3921009573), .lit (.int .u32 961987163), .lit (.int .u32 1508970993), .lit (.int .u32 2453635748), .lit (.int .u32 2870763221), .lit (.int .u32 3624381080), .lit (.int .u32 310598401), .lit (.int .u32 607225278), .lit (.int .u32 1426881987), .lit (.int .u32 1925078388), .lit (.int .u32 2162078206), .lit (.int .u32 2614888103), .lit (.int .u32 3248222580), .lit (.int .u32 3835390401), .lit (.int .u32 4022224774), .lit (.int .u32 264347078), .lit (.int .u32 604807628), .lit (.int .u32 770255983), .lit (.int .u32 1249150122), .lit (.int .u32 1555081692), .lit (.int .u32 1996064986), .lit (.int .u32 2554220882), .lit (.int .u32 2821834349), .lit (.int .u32 2952996808), .lit (.int .u32 3210313671), .lit (.int .u32 3336571891), .lit (.int .u32 3584528711), .lit (.int .u32 113926993), .lit (.int .u32 338241895), .lit (.int .u32 666307205), .lit (.int .u32 773529912), .lit (.int .u32 1294757372), .lit (.int .u32 1396182291), .lit (.int .u32 1695183700), .lit (.int .u32 1986661051), .lit (.int .u32 2177026350), .lit (.int .u32 2456956037), .lit (.int .u32 2730485921), .lit (.int .u32 2820302411), .lit (.int .u32 3259730800), .lit (.int .u32 3345764771), .lit (.int .u32 3516065817), .lit (.int .u32 3600352804), .lit (.int .u32 4094571909), .lit (.int .u32 275423344), .lit (.int .u32 430227734), .lit (.int .u32 506948616), .lit (.int .u32 659060556), .lit (.int .u32 883997877), .lit (.int .u32 958139571), .lit (.int .u32 1322822218), .lit (.int .u32 1537002063), .lit (.int .u32 1747873779), .lit (.int .u32 1955562222), .lit (.int .u32 2024104815), .lit (.int .u32 2227730452), .lit (.int .u32 2361852424), .lit (.int .u32 2428436474), .lit (.int .u32 2756734187), .lit (.int .u32 3204031479), .lit (.int .u32 3329325298)]

/-- 'understorylaw02.DigestHexes': WHATEVER THE INPUT: true; the input reads as it did. -/
def digestHexesSpec : ChangeSpec := { name := "digestHexes", fn := fun _ => fun
  | [d1, d2] => { results := [.lit (.bool true)], args := [d1, d2] }
  | _ => none }
def digestHexesRow : OpenClaim := { program := "ytdpgebifeaakjaadoor", sum := "25f4a06e38ec395e054e1c7eb0ebe50af9bf681f7b2590340ba6e9954929fdeb", func := "understory/understorylaw02.DigestHexes", spec := "digestHexes", inPlace := ["math.sqrt", "math.Float64bits", "math.Float64frombits"], unfollowed := true, recurses := true, named := ["math/bits.deBruijn32tab", "math/bits.deBruijn64tab"], apart := false, laid := [("math/bits.deBruijn32tab", laid_math_bits_deBruijn32tab), ("math/bits.deBruijn64tab", laid_math_bits_deBruijn64tab)] }
def DigestHexesSaid : Prop := digestHexesRow.holds Tryd.pinned (OpenSpec.ofChange digestHexesSpec)

/-- ITS FALSE NEIGHBOUR: 'it returns false'. Refute it at one input. -/
def digestHexesWrong : ChangeSpec := { name := "digestHexes", fn := fun _ => fun
  | [d1, d2] => { results := [.lit (.bool false)], args := [d1, d2] }
  | _ => none }
def DigestHexesWrongFalsely : Prop := digestHexesRow.holds Tryd.pinned (OpenSpec.ofChange digestHexesWrong)

/-- 'understorylaw02.DigestCovers': WHATEVER THE INPUT: true; the input reads as it did. -/
def digestCoversSpec : ChangeSpec := { name := "digestCovers", fn := fun _ => fun
  | [d1, d2] => { results := [.lit (.bool true)], args := [d1, d2] }
  | _ => none }
def digestCoversRow : OpenClaim := { program := "ytdpgebifeaakjaadoor", sum := "25f4a06e38ec395e054e1c7eb0ebe50af9bf681f7b2590340ba6e9954929fdeb", func := "understory/understorylaw02.DigestCovers", spec := "digestCovers", inPlace := ["math.sqrt", "math.Float64bits", "math.Float64frombits"], unfollowed := true, recurses := true, named := ["math/bits.deBruijn32tab", "math/bits.deBruijn64tab"], apart := false, laid := [("math/bits.deBruijn32tab", laid_math_bits_deBruijn32tab), ("math/bits.deBruijn64tab", laid_math_bits_deBruijn64tab)] }
def DigestCoversSaid : Prop := digestCoversRow.holds Tryd.pinned (OpenSpec.ofChange digestCoversSpec)

/-- ITS FALSE NEIGHBOUR: 'it returns false'. Refute it at one input. -/
def digestCoversWrong : ChangeSpec := { name := "digestCovers", fn := fun _ => fun
  | [d1, d2] => { results := [.lit (.bool false)], args := [d1, d2] }
  | _ => none }
def DigestCoversWrongFalsely : Prop := digestCoversRow.holds Tryd.pinned (OpenSpec.ofChange digestCoversWrong)

/-- 'understorylaw02.DigestBursts': WHATEVER THE INPUT: true; the input reads as it did. -/
def digestBurstsSpec : ChangeSpec := { name := "digestBursts", fn := fun _ => fun
  | [d1, d2, d3] => { results := [.lit (.bool true)], args := [d1, d2, d3] }
  | _ => none }
def digestBurstsRow : OpenClaim := { program := "ytdpgebifeaakjaadoor", sum := "25f4a06e38ec395e054e1c7eb0ebe50af9bf681f7b2590340ba6e9954929fdeb", func := "understory/understorylaw02.DigestBursts", spec := "digestBursts", inPlace := ["math.sqrt", "math.Float64bits", "math.Float64frombits"], unfollowed := true, recurses := true, named := ["math/bits.deBruijn32tab", "math/bits.deBruijn64tab"], apart := false, laid := [("math/bits.deBruijn32tab", laid_math_bits_deBruijn32tab), ("math/bits.deBruijn64tab", laid_math_bits_deBruijn64tab)] }
def DigestBurstsSaid : Prop := digestBurstsRow.holds Tryd.pinned (OpenSpec.ofChange digestBurstsSpec)

/-- ITS FALSE NEIGHBOUR: 'it returns false'. Refute it at one input. -/
def digestBurstsWrong : ChangeSpec := { name := "digestBursts", fn := fun _ => fun
  | [d1, d2, d3] => { results := [.lit (.bool false)], args := [d1, d2, d3] }
  | _ => none }
def DigestBurstsWrongFalsely : Prop := digestBurstsRow.holds Tryd.pinned (OpenSpec.ofChange digestBurstsWrong)

/-- 'understorylaw02.DigestCRCs': WHATEVER THE INPUT: true; the input reads as it did. -/
def digestCRCsSpec : ChangeSpec := { name := "digestCRCs", fn := fun _ => fun
  | [d1, d2, d3, d4, d5] => { results := [.lit (.bool true)], args := [d1, d2, d3, d4, d5] }
  | _ => none }
def digestCRCsRow : OpenClaim := { program := "ytdpgebifeaakjaadoor", sum := "25f4a06e38ec395e054e1c7eb0ebe50af9bf681f7b2590340ba6e9954929fdeb", func := "understory/understorylaw02.DigestCRCs", spec := "digestCRCs", inPlace := ["math.sqrt", "math.Float64bits", "math.Float64frombits"], unfollowed := true, recurses := true, named := ["math/bits.deBruijn32tab", "math/bits.deBruijn64tab"], apart := false, laid := [("math/bits.deBruijn32tab", laid_math_bits_deBruijn32tab), ("math/bits.deBruijn64tab", laid_math_bits_deBruijn64tab)] }
def DigestCRCsSaid : Prop := digestCRCsRow.holds Tryd.pinned (OpenSpec.ofChange digestCRCsSpec)

/-- ITS FALSE NEIGHBOUR: 'it returns false'. Refute it at one input. -/
def digestCRCsWrong : ChangeSpec := { name := "digestCRCs", fn := fun _ => fun
  | [d1, d2, d3, d4, d5] => { results := [.lit (.bool false)], args := [d1, d2, d3, d4, d5] }
  | _ => none }
def DigestCRCsWrongFalsely : Prop := digestCRCsRow.holds Tryd.pinned (OpenSpec.ofChange digestCRCsWrong)

/-- 'understorylaw02.DigestAlgebra': WHATEVER THE INPUT: true; the input reads as it did. -/
def digestAlgebraSpec : ChangeSpec := { name := "digestAlgebra", fn := fun _ => fun
  | [d1, d2, d3] => { results := [.lit (.bool true)], args := [d1, d2, d3] }
  | _ => none }
def digestAlgebraRow : OpenClaim := { program := "ytdpgebifeaakjaadoor", sum := "25f4a06e38ec395e054e1c7eb0ebe50af9bf681f7b2590340ba6e9954929fdeb", func := "understory/understorylaw02.DigestAlgebra", spec := "digestAlgebra", inPlace := ["math.sqrt", "math.Float64bits", "math.Float64frombits"], unfollowed := true, recurses := true, named := ["math/bits.deBruijn32tab", "math/bits.deBruijn64tab"], apart := false, laid := [("math/bits.deBruijn32tab", laid_math_bits_deBruijn32tab), ("math/bits.deBruijn64tab", laid_math_bits_deBruijn64tab)] }
def DigestAlgebraSaid : Prop := digestAlgebraRow.holds Tryd.pinned (OpenSpec.ofChange digestAlgebraSpec)

/-- ITS FALSE NEIGHBOUR: 'it returns false'. Refute it at one input. -/
def digestAlgebraWrong : ChangeSpec := { name := "digestAlgebra", fn := fun _ => fun
  | [d1, d2, d3] => { results := [.lit (.bool false)], args := [d1, d2, d3] }
  | _ => none }
def DigestAlgebraWrongFalsely : Prop := digestAlgebraRow.holds Tryd.pinned (OpenSpec.ofChange digestAlgebraWrong)

/-- 'understorylaw02.DigestStates': WHATEVER THE INPUT: true; the input reads as it did. -/
def digestStatesSpec : ChangeSpec := { name := "digestStates", fn := fun _ => fun
  | [d1, d2] => { results := [.lit (.bool true)], args := [d1, d2] }
  | _ => none }
def digestStatesRow : OpenClaim := { program := "ytdpgebifeaakjaadoor", sum := "25f4a06e38ec395e054e1c7eb0ebe50af9bf681f7b2590340ba6e9954929fdeb", func := "understory/understorylaw02.DigestStates", spec := "digestStates", inPlace := ["math.sqrt", "math.Float64bits", "math.Float64frombits"], unfollowed := true, recurses := true, named := ["math/bits.deBruijn32tab", "math/bits.deBruijn64tab", "understory/understoryref02.constants"], apart := false, laid := [("math/bits.deBruijn32tab", laid_math_bits_deBruijn32tab), ("math/bits.deBruijn64tab", laid_math_bits_deBruijn64tab), ("understory/understoryref02.constants", laid_understory_understoryref02_constants)] }
def DigestStatesSaid : Prop := digestStatesRow.holds Tryd.pinned (OpenSpec.ofChange digestStatesSpec)

/-- ITS FALSE NEIGHBOUR: 'it returns false'. Refute it at one input. -/
def digestStatesWrong : ChangeSpec := { name := "digestStates", fn := fun _ => fun
  | [d1, d2] => { results := [.lit (.bool false)], args := [d1, d2] }
  | _ => none }
def DigestStatesWrongFalsely : Prop := digestStatesRow.holds Tryd.pinned (OpenSpec.ofChange digestStatesWrong)

/-- 'understorylaw02.DigestParts': WHATEVER THE INPUT: true; the input reads as it did. -/
def digestPartsSpec : ChangeSpec := { name := "digestParts", fn := fun _ => fun
  | [d1, d2] => { results := [.lit (.bool true)], args := [d1, d2] }
  | _ => none }
def digestPartsRow : OpenClaim := { program := "ytdpgebifeaakjaadoor", sum := "25f4a06e38ec395e054e1c7eb0ebe50af9bf681f7b2590340ba6e9954929fdeb", func := "understory/understorylaw02.DigestParts", spec := "digestParts", inPlace := ["math.sqrt", "math.Float64bits", "math.Float64frombits"], unfollowed := true, recurses := true, named := ["math/bits.deBruijn32tab", "math/bits.deBruijn64tab"], apart := false, laid := [("math/bits.deBruijn32tab", laid_math_bits_deBruijn32tab), ("math/bits.deBruijn64tab", laid_math_bits_deBruijn64tab)] }
def DigestPartsSaid : Prop := digestPartsRow.holds Tryd.pinned (OpenSpec.ofChange digestPartsSpec)

/-- ITS FALSE NEIGHBOUR: 'it returns false'. Refute it at one input. -/
def digestPartsWrong : ChangeSpec := { name := "digestParts", fn := fun _ => fun
  | [d1, d2] => { results := [.lit (.bool false)], args := [d1, d2] }
  | _ => none }
def DigestPartsWrongFalsely : Prop := digestPartsRow.holds Tryd.pinned (OpenSpec.ofChange digestPartsWrong)

/-- 'understorylaw02.DigestTrees': WHATEVER THE INPUT: true; the input reads as it did. -/
def digestTreesSpec : ChangeSpec := { name := "digestTrees", fn := fun _ => fun
  | [d1, d2, d3] => { results := [.lit (.bool true)], args := [d1, d2, d3] }
  | _ => none }
def digestTreesRow : OpenClaim := { program := "ytdpgebifeaakjaadoor", sum := "25f4a06e38ec395e054e1c7eb0ebe50af9bf681f7b2590340ba6e9954929fdeb", func := "understory/understorylaw02.DigestTrees", spec := "digestTrees", inPlace := ["math.sqrt", "math.Float64bits", "math.Float64frombits"], unfollowed := true, recurses := true, named := ["math/bits.deBruijn32tab", "math/bits.deBruijn64tab", "understory/understoryref02.constants"], apart := false, laid := [("math/bits.deBruijn32tab", laid_math_bits_deBruijn32tab), ("math/bits.deBruijn64tab", laid_math_bits_deBruijn64tab), ("understory/understoryref02.constants", laid_understory_understoryref02_constants)] }
def DigestTreesSaid : Prop := digestTreesRow.holds Tryd.pinned (OpenSpec.ofChange digestTreesSpec)

/-- ITS FALSE NEIGHBOUR: 'it returns false'. Refute it at one input. -/
def digestTreesWrong : ChangeSpec := { name := "digestTrees", fn := fun _ => fun
  | [d1, d2, d3] => { results := [.lit (.bool false)], args := [d1, d2, d3] }
  | _ => none }
def DigestTreesWrongFalsely : Prop := digestTreesRow.holds Tryd.pinned (OpenSpec.ofChange digestTreesWrong)

/-- 'understorylaw02.DigestGrowths': WHATEVER THE INPUT: true; the input reads as it did. -/
def digestGrowthsSpec : ChangeSpec := { name := "digestGrowths", fn := fun _ => fun
  | [d1, d2, d3, d4, d5] => { results := [.lit (.bool true)], args := [d1, d2, d3, d4, d5] }
  | _ => none }
def digestGrowthsRow : OpenClaim := { program := "ytdpgebifeaakjaadoor", sum := "25f4a06e38ec395e054e1c7eb0ebe50af9bf681f7b2590340ba6e9954929fdeb", func := "understory/understorylaw02.DigestGrowths", spec := "digestGrowths", inPlace := ["math.sqrt", "math.Float64bits", "math.Float64frombits"], unfollowed := true, recurses := true, named := ["math/bits.deBruijn32tab", "math/bits.deBruijn64tab", "understory/understoryref02.constants"], apart := false, laid := [("math/bits.deBruijn32tab", laid_math_bits_deBruijn32tab), ("math/bits.deBruijn64tab", laid_math_bits_deBruijn64tab), ("understory/understoryref02.constants", laid_understory_understoryref02_constants)] }
def DigestGrowthsSaid : Prop := digestGrowthsRow.holds Tryd.pinned (OpenSpec.ofChange digestGrowthsSpec)

/-- ITS FALSE NEIGHBOUR: 'it returns false'. Refute it at one input. -/
def digestGrowthsWrong : ChangeSpec := { name := "digestGrowths", fn := fun _ => fun
  | [d1, d2, d3, d4, d5] => { results := [.lit (.bool false)], args := [d1, d2, d3, d4, d5] }
  | _ => none }
def DigestGrowthsWrongFalsely : Prop := digestGrowthsRow.holds Tryd.pinned (OpenSpec.ofChange digestGrowthsWrong)

/-- 'understorylaw02.DigestFrontiers': WHATEVER THE INPUT: true; the input reads as it did. -/
def digestFrontiersSpec : ChangeSpec := { name := "digestFrontiers", fn := fun _ => fun
  | [d1, d2] => { results := [.lit (.bool true)], args := [d1, d2] }
  | _ => none }
def digestFrontiersRow : OpenClaim := { program := "ytdpgebifeaakjaadoor", sum := "25f4a06e38ec395e054e1c7eb0ebe50af9bf681f7b2590340ba6e9954929fdeb", func := "understory/understorylaw02.DigestFrontiers", spec := "digestFrontiers", inPlace := ["math.sqrt", "math.Float64bits", "math.Float64frombits"], unfollowed := true, recurses := true, named := ["math/bits.deBruijn32tab", "math/bits.deBruijn64tab", "understory/understoryref02.constants"], apart := false, laid := [("math/bits.deBruijn32tab", laid_math_bits_deBruijn32tab), ("math/bits.deBruijn64tab", laid_math_bits_deBruijn64tab), ("understory/understoryref02.constants", laid_understory_understoryref02_constants)] }
def DigestFrontiersSaid : Prop := digestFrontiersRow.holds Tryd.pinned (OpenSpec.ofChange digestFrontiersSpec)

/-- ITS FALSE NEIGHBOUR: 'it returns false'. Refute it at one input. -/
def digestFrontiersWrong : ChangeSpec := { name := "digestFrontiers", fn := fun _ => fun
  | [d1, d2] => { results := [.lit (.bool false)], args := [d1, d2] }
  | _ => none }
def DigestFrontiersWrongFalsely : Prop := digestFrontiersRow.holds Tryd.pinned (OpenSpec.ofChange digestFrontiersWrong)

/-- 'understorylaw02.DigestPaths': WHATEVER THE INPUT: true; the input reads as it did. -/
def digestPathsSpec : ChangeSpec := { name := "digestPaths", fn := fun _ => fun
  | [d1, d2, d3, d4, d5] => { results := [.lit (.bool true)], args := [d1, d2, d3, d4, d5] }
  | _ => none }
def digestPathsRow : OpenClaim := { program := "ytdpgebifeaakjaadoor", sum := "25f4a06e38ec395e054e1c7eb0ebe50af9bf681f7b2590340ba6e9954929fdeb", func := "understory/understorylaw02.DigestPaths", spec := "digestPaths", inPlace := ["math.sqrt", "math.Float64bits", "math.Float64frombits"], unfollowed := true, recurses := true, named := ["math/bits.deBruijn32tab", "math/bits.deBruijn64tab", "understory/understoryref02.constants"], apart := false, laid := [("math/bits.deBruijn32tab", laid_math_bits_deBruijn32tab), ("math/bits.deBruijn64tab", laid_math_bits_deBruijn64tab), ("understory/understoryref02.constants", laid_understory_understoryref02_constants)] }
def DigestPathsSaid : Prop := digestPathsRow.holds Tryd.pinned (OpenSpec.ofChange digestPathsSpec)

/-- ITS FALSE NEIGHBOUR: 'it returns false'. Refute it at one input. -/
def digestPathsWrong : ChangeSpec := { name := "digestPaths", fn := fun _ => fun
  | [d1, d2, d3, d4, d5] => { results := [.lit (.bool false)], args := [d1, d2, d3, d4, d5] }
  | _ => none }
def DigestPathsWrongFalsely : Prop := digestPathsRow.holds Tryd.pinned (OpenSpec.ofChange digestPathsWrong)

/-- 'understorylaw02.DigestGrowing': WHATEVER THE INPUT: true; the input reads as it did. -/
def digestGrowingSpec : ChangeSpec := { name := "digestGrowing", fn := fun _ => fun
  | [d] => { results := [.lit (.bool true)], args := [d] }
  | _ => none }
def digestGrowingRow : OpenClaim := { program := "ytdpgebifeaakjaadoor", sum := "25f4a06e38ec395e054e1c7eb0ebe50af9bf681f7b2590340ba6e9954929fdeb", func := "understory/understorylaw02.DigestGrowing", spec := "digestGrowing", inPlace := ["math.sqrt", "math.Float64bits", "math.Float64frombits"], unfollowed := true, recurses := true, named := ["math/bits.deBruijn32tab", "math/bits.deBruijn64tab"], apart := false, laid := [("math/bits.deBruijn32tab", laid_math_bits_deBruijn32tab), ("math/bits.deBruijn64tab", laid_math_bits_deBruijn64tab)] }
def DigestGrowingSaid : Prop := digestGrowingRow.holds Tryd.pinned (OpenSpec.ofChange digestGrowingSpec)

/-- ITS FALSE NEIGHBOUR: 'it returns false'. Refute it at one input. -/
def digestGrowingWrong : ChangeSpec := { name := "digestGrowing", fn := fun _ => fun
  | [d] => { results := [.lit (.bool false)], args := [d] }
  | _ => none }
def DigestGrowingWrongFalsely : Prop := digestGrowingRow.holds Tryd.pinned (OpenSpec.ofChange digestGrowingWrong)

/-- 'understorylaw02.DigestMembers': WHATEVER THE INPUT: true; the input reads as it did. -/
def digestMembersSpec : ChangeSpec := { name := "digestMembers", fn := fun _ => fun
  | [d1, d2, d3, d4, d5, d6, d7] => { results := [.lit (.bool true)], args := [d1, d2, d3, d4, d5, d6, d7] }
  | _ => none }
def digestMembersRow : OpenClaim := { program := "ytdpgebifeaakjaadoor", sum := "25f4a06e38ec395e054e1c7eb0ebe50af9bf681f7b2590340ba6e9954929fdeb", func := "understory/understorylaw02.DigestMembers", spec := "digestMembers", inPlace := ["math.sqrt", "math.Float64bits", "math.Float64frombits"], unfollowed := true, recurses := true, named := ["math/bits.deBruijn32tab", "math/bits.deBruijn64tab", "understory/understoryref02.constants"], apart := false, laid := [("math/bits.deBruijn32tab", laid_math_bits_deBruijn32tab), ("math/bits.deBruijn64tab", laid_math_bits_deBruijn64tab), ("understory/understoryref02.constants", laid_understory_understoryref02_constants)] }
def DigestMembersSaid : Prop := digestMembersRow.holds Tryd.pinned (OpenSpec.ofChange digestMembersSpec)

/-- ITS FALSE NEIGHBOUR: 'it returns false'. Refute it at one input. -/
def digestMembersWrong : ChangeSpec := { name := "digestMembers", fn := fun _ => fun
  | [d1, d2, d3, d4, d5, d6, d7] => { results := [.lit (.bool false)], args := [d1, d2, d3, d4, d5, d6, d7] }
  | _ => none }
def DigestMembersWrongFalsely : Prop := digestMembersRow.holds Tryd.pinned (OpenSpec.ofChange digestMembersWrong)

/-- 'understorylaw02.DigestExtends': WHATEVER THE INPUT: true; the input reads as it did. -/
def digestExtendsSpec : ChangeSpec := { name := "digestExtends", fn := fun _ => fun
  | [d1, d2, d3, d4, d5, d6] => { results := [.lit (.bool true)], args := [d1, d2, d3, d4, d5, d6] }
  | _ => none }
def digestExtendsRow : OpenClaim := { program := "ytdpgebifeaakjaadoor", sum := "25f4a06e38ec395e054e1c7eb0ebe50af9bf681f7b2590340ba6e9954929fdeb", func := "understory/understorylaw02.DigestExtends", spec := "digestExtends", inPlace := ["math.sqrt", "math.Float64bits", "math.Float64frombits"], unfollowed := true, recurses := true, named := ["math/bits.deBruijn32tab", "math/bits.deBruijn64tab", "understory/understoryref02.constants"], apart := false, laid := [("math/bits.deBruijn32tab", laid_math_bits_deBruijn32tab), ("math/bits.deBruijn64tab", laid_math_bits_deBruijn64tab), ("understory/understoryref02.constants", laid_understory_understoryref02_constants)] }
def DigestExtendsSaid : Prop := digestExtendsRow.holds Tryd.pinned (OpenSpec.ofChange digestExtendsSpec)

/-- ITS FALSE NEIGHBOUR: 'it returns false'. Refute it at one input. -/
def digestExtendsWrong : ChangeSpec := { name := "digestExtends", fn := fun _ => fun
  | [d1, d2, d3, d4, d5, d6] => { results := [.lit (.bool false)], args := [d1, d2, d3, d4, d5, d6] }
  | _ => none }
def DigestExtendsWrongFalsely : Prop := digestExtendsRow.holds Tryd.pinned (OpenSpec.ofChange digestExtendsWrong)

/- THE SECOND FORM. 'bulk': how many values and letters a reading holds, each counted each time it is reached (what is shared counts as often as it is met; a slice's spare places count too). A statement '..UptoSaid' is the law's where the arguments, and the package variables that the reading takes, are together of bulk at most 1048576: NARROWER than '..Said'. Prove '..Said' where nothing that the law and all that it calls make is longer than what came in: it says more and counts as full. Else prove '..UptoSaid'. A law counts once. -/
mutual
def uptoBulk {H : Type} : DataW H → Nat
  | .lit (.string bytes) => bytes.length + 1
  | .lit _ => 1
  | .nil => 1
  | .ptr d => uptoBulk d + 1
  | .slice elems spare => uptoBulkAll elems + uptoBulkAll spare + 1
  | .agg parts => uptoBulkAll parts + 1
  | .iface _ d => uptoBulk d + 1
  | .map entries => uptoBulkEntries entries + 1
  | .held _ => 1
def uptoBulkAll {H : Type} : List (DataW H) → Nat
  | [] => 0
  | d :: r => uptoBulk d + uptoBulkAll r
def uptoBulkEntries {H : Type} : List (Lit × DataW H) → Nat
  | [] => 0
  | x :: r => uptoBulkEntry x + uptoBulkEntries r
def uptoBulkEntry {H : Type} : Lit × DataW H → Nat
  | (.string bytes, d) => bytes.length + uptoBulk d + 1
  | (_, d) => uptoBulk d + 1
 end
def uptoSmall : (H : Type) → List (DataW H) → Bool := fun _ ds => decide (uptoBulkAll ds ≤ 1048576)
def OpenSpec.upto (s : _root_.Go.ChangeSpec) : _root_.Go.OpenSpec := { _root_.Go.OpenSpec.ofChange s with cond := some uptoSmall }

/-- 'understorylaw02.DigestHexes', WHERE WHAT IT READS IS OF BULK AT MOST 1048576: true; the input reads as it did. -/
def digestHexesUptoRow : OpenClaim := { program := "ytdpgebifeaakjaadoor", sum := "25f4a06e38ec395e054e1c7eb0ebe50af9bf681f7b2590340ba6e9954929fdeb", func := "understory/understorylaw02.DigestHexes", spec := "digestHexes", inPlace := ["math.sqrt", "math.Float64bits", "math.Float64frombits"], unfollowed := true, recurses := true, named := ["math/bits.deBruijn32tab", "math/bits.deBruijn64tab"], apart := false, laid := [("math/bits.deBruijn32tab", laid_math_bits_deBruijn32tab), ("math/bits.deBruijn64tab", laid_math_bits_deBruijn64tab)], narrowed := true }
def DigestHexesUptoSaid : Prop := digestHexesUptoRow.holds Tryd.pinned (OpenSpec.upto digestHexesSpec)

/-- 'understorylaw02.DigestCovers', WHERE WHAT IT READS IS OF BULK AT MOST 1048576: true; the input reads as it did. -/
def digestCoversUptoRow : OpenClaim := { program := "ytdpgebifeaakjaadoor", sum := "25f4a06e38ec395e054e1c7eb0ebe50af9bf681f7b2590340ba6e9954929fdeb", func := "understory/understorylaw02.DigestCovers", spec := "digestCovers", inPlace := ["math.sqrt", "math.Float64bits", "math.Float64frombits"], unfollowed := true, recurses := true, named := ["math/bits.deBruijn32tab", "math/bits.deBruijn64tab"], apart := false, laid := [("math/bits.deBruijn32tab", laid_math_bits_deBruijn32tab), ("math/bits.deBruijn64tab", laid_math_bits_deBruijn64tab)], narrowed := true }
def DigestCoversUptoSaid : Prop := digestCoversUptoRow.holds Tryd.pinned (OpenSpec.upto digestCoversSpec)

/-- 'understorylaw02.DigestBursts', WHERE WHAT IT READS IS OF BULK AT MOST 1048576: true; the input reads as it did. -/
def digestBurstsUptoRow : OpenClaim := { program := "ytdpgebifeaakjaadoor", sum := "25f4a06e38ec395e054e1c7eb0ebe50af9bf681f7b2590340ba6e9954929fdeb", func := "understory/understorylaw02.DigestBursts", spec := "digestBursts", inPlace := ["math.sqrt", "math.Float64bits", "math.Float64frombits"], unfollowed := true, recurses := true, named := ["math/bits.deBruijn32tab", "math/bits.deBruijn64tab"], apart := false, laid := [("math/bits.deBruijn32tab", laid_math_bits_deBruijn32tab), ("math/bits.deBruijn64tab", laid_math_bits_deBruijn64tab)], narrowed := true }
def DigestBurstsUptoSaid : Prop := digestBurstsUptoRow.holds Tryd.pinned (OpenSpec.upto digestBurstsSpec)

/-- 'understorylaw02.DigestCRCs', WHERE WHAT IT READS IS OF BULK AT MOST 1048576: true; the input reads as it did. -/
def digestCRCsUptoRow : OpenClaim := { program := "ytdpgebifeaakjaadoor", sum := "25f4a06e38ec395e054e1c7eb0ebe50af9bf681f7b2590340ba6e9954929fdeb", func := "understory/understorylaw02.DigestCRCs", spec := "digestCRCs", inPlace := ["math.sqrt", "math.Float64bits", "math.Float64frombits"], unfollowed := true, recurses := true, named := ["math/bits.deBruijn32tab", "math/bits.deBruijn64tab"], apart := false, laid := [("math/bits.deBruijn32tab", laid_math_bits_deBruijn32tab), ("math/bits.deBruijn64tab", laid_math_bits_deBruijn64tab)], narrowed := true }
def DigestCRCsUptoSaid : Prop := digestCRCsUptoRow.holds Tryd.pinned (OpenSpec.upto digestCRCsSpec)

/-- 'understorylaw02.DigestAlgebra', WHERE WHAT IT READS IS OF BULK AT MOST 1048576: true; the input reads as it did. -/
def digestAlgebraUptoRow : OpenClaim := { program := "ytdpgebifeaakjaadoor", sum := "25f4a06e38ec395e054e1c7eb0ebe50af9bf681f7b2590340ba6e9954929fdeb", func := "understory/understorylaw02.DigestAlgebra", spec := "digestAlgebra", inPlace := ["math.sqrt", "math.Float64bits", "math.Float64frombits"], unfollowed := true, recurses := true, named := ["math/bits.deBruijn32tab", "math/bits.deBruijn64tab"], apart := false, laid := [("math/bits.deBruijn32tab", laid_math_bits_deBruijn32tab), ("math/bits.deBruijn64tab", laid_math_bits_deBruijn64tab)], narrowed := true }
def DigestAlgebraUptoSaid : Prop := digestAlgebraUptoRow.holds Tryd.pinned (OpenSpec.upto digestAlgebraSpec)

/-- 'understorylaw02.DigestStates', WHERE WHAT IT READS IS OF BULK AT MOST 1048576: true; the input reads as it did. -/
def digestStatesUptoRow : OpenClaim := { program := "ytdpgebifeaakjaadoor", sum := "25f4a06e38ec395e054e1c7eb0ebe50af9bf681f7b2590340ba6e9954929fdeb", func := "understory/understorylaw02.DigestStates", spec := "digestStates", inPlace := ["math.sqrt", "math.Float64bits", "math.Float64frombits"], unfollowed := true, recurses := true, named := ["math/bits.deBruijn32tab", "math/bits.deBruijn64tab", "understory/understoryref02.constants"], apart := false, laid := [("math/bits.deBruijn32tab", laid_math_bits_deBruijn32tab), ("math/bits.deBruijn64tab", laid_math_bits_deBruijn64tab), ("understory/understoryref02.constants", laid_understory_understoryref02_constants)], narrowed := true }
def DigestStatesUptoSaid : Prop := digestStatesUptoRow.holds Tryd.pinned (OpenSpec.upto digestStatesSpec)

/-- 'understorylaw02.DigestParts', WHERE WHAT IT READS IS OF BULK AT MOST 1048576: true; the input reads as it did. -/
def digestPartsUptoRow : OpenClaim := { program := "ytdpgebifeaakjaadoor", sum := "25f4a06e38ec395e054e1c7eb0ebe50af9bf681f7b2590340ba6e9954929fdeb", func := "understory/understorylaw02.DigestParts", spec := "digestParts", inPlace := ["math.sqrt", "math.Float64bits", "math.Float64frombits"], unfollowed := true, recurses := true, named := ["math/bits.deBruijn32tab", "math/bits.deBruijn64tab"], apart := false, laid := [("math/bits.deBruijn32tab", laid_math_bits_deBruijn32tab), ("math/bits.deBruijn64tab", laid_math_bits_deBruijn64tab)], narrowed := true }
def DigestPartsUptoSaid : Prop := digestPartsUptoRow.holds Tryd.pinned (OpenSpec.upto digestPartsSpec)

/-- 'understorylaw02.DigestTrees', WHERE WHAT IT READS IS OF BULK AT MOST 1048576: true; the input reads as it did. -/
def digestTreesUptoRow : OpenClaim := { program := "ytdpgebifeaakjaadoor", sum := "25f4a06e38ec395e054e1c7eb0ebe50af9bf681f7b2590340ba6e9954929fdeb", func := "understory/understorylaw02.DigestTrees", spec := "digestTrees", inPlace := ["math.sqrt", "math.Float64bits", "math.Float64frombits"], unfollowed := true, recurses := true, named := ["math/bits.deBruijn32tab", "math/bits.deBruijn64tab", "understory/understoryref02.constants"], apart := false, laid := [("math/bits.deBruijn32tab", laid_math_bits_deBruijn32tab), ("math/bits.deBruijn64tab", laid_math_bits_deBruijn64tab), ("understory/understoryref02.constants", laid_understory_understoryref02_constants)], narrowed := true }
def DigestTreesUptoSaid : Prop := digestTreesUptoRow.holds Tryd.pinned (OpenSpec.upto digestTreesSpec)

/-- 'understorylaw02.DigestGrowths', WHERE WHAT IT READS IS OF BULK AT MOST 1048576: true; the input reads as it did. -/
def digestGrowthsUptoRow : OpenClaim := { program := "ytdpgebifeaakjaadoor", sum := "25f4a06e38ec395e054e1c7eb0ebe50af9bf681f7b2590340ba6e9954929fdeb", func := "understory/understorylaw02.DigestGrowths", spec := "digestGrowths", inPlace := ["math.sqrt", "math.Float64bits", "math.Float64frombits"], unfollowed := true, recurses := true, named := ["math/bits.deBruijn32tab", "math/bits.deBruijn64tab", "understory/understoryref02.constants"], apart := false, laid := [("math/bits.deBruijn32tab", laid_math_bits_deBruijn32tab), ("math/bits.deBruijn64tab", laid_math_bits_deBruijn64tab), ("understory/understoryref02.constants", laid_understory_understoryref02_constants)], narrowed := true }
def DigestGrowthsUptoSaid : Prop := digestGrowthsUptoRow.holds Tryd.pinned (OpenSpec.upto digestGrowthsSpec)

/-- 'understorylaw02.DigestFrontiers', WHERE WHAT IT READS IS OF BULK AT MOST 1048576: true; the input reads as it did. -/
def digestFrontiersUptoRow : OpenClaim := { program := "ytdpgebifeaakjaadoor", sum := "25f4a06e38ec395e054e1c7eb0ebe50af9bf681f7b2590340ba6e9954929fdeb", func := "understory/understorylaw02.DigestFrontiers", spec := "digestFrontiers", inPlace := ["math.sqrt", "math.Float64bits", "math.Float64frombits"], unfollowed := true, recurses := true, named := ["math/bits.deBruijn32tab", "math/bits.deBruijn64tab", "understory/understoryref02.constants"], apart := false, laid := [("math/bits.deBruijn32tab", laid_math_bits_deBruijn32tab), ("math/bits.deBruijn64tab", laid_math_bits_deBruijn64tab), ("understory/understoryref02.constants", laid_understory_understoryref02_constants)], narrowed := true }
def DigestFrontiersUptoSaid : Prop := digestFrontiersUptoRow.holds Tryd.pinned (OpenSpec.upto digestFrontiersSpec)

/-- 'understorylaw02.DigestPaths', WHERE WHAT IT READS IS OF BULK AT MOST 1048576: true; the input reads as it did. -/
def digestPathsUptoRow : OpenClaim := { program := "ytdpgebifeaakjaadoor", sum := "25f4a06e38ec395e054e1c7eb0ebe50af9bf681f7b2590340ba6e9954929fdeb", func := "understory/understorylaw02.DigestPaths", spec := "digestPaths", inPlace := ["math.sqrt", "math.Float64bits", "math.Float64frombits"], unfollowed := true, recurses := true, named := ["math/bits.deBruijn32tab", "math/bits.deBruijn64tab", "understory/understoryref02.constants"], apart := false, laid := [("math/bits.deBruijn32tab", laid_math_bits_deBruijn32tab), ("math/bits.deBruijn64tab", laid_math_bits_deBruijn64tab), ("understory/understoryref02.constants", laid_understory_understoryref02_constants)], narrowed := true }
def DigestPathsUptoSaid : Prop := digestPathsUptoRow.holds Tryd.pinned (OpenSpec.upto digestPathsSpec)

/-- 'understorylaw02.DigestGrowing', WHERE WHAT IT READS IS OF BULK AT MOST 1048576: true; the input reads as it did. -/
def digestGrowingUptoRow : OpenClaim := { program := "ytdpgebifeaakjaadoor", sum := "25f4a06e38ec395e054e1c7eb0ebe50af9bf681f7b2590340ba6e9954929fdeb", func := "understory/understorylaw02.DigestGrowing", spec := "digestGrowing", inPlace := ["math.sqrt", "math.Float64bits", "math.Float64frombits"], unfollowed := true, recurses := true, named := ["math/bits.deBruijn32tab", "math/bits.deBruijn64tab"], apart := false, laid := [("math/bits.deBruijn32tab", laid_math_bits_deBruijn32tab), ("math/bits.deBruijn64tab", laid_math_bits_deBruijn64tab)], narrowed := true }
def DigestGrowingUptoSaid : Prop := digestGrowingUptoRow.holds Tryd.pinned (OpenSpec.upto digestGrowingSpec)

/-- 'understorylaw02.DigestMembers', WHERE WHAT IT READS IS OF BULK AT MOST 1048576: true; the input reads as it did. -/
def digestMembersUptoRow : OpenClaim := { program := "ytdpgebifeaakjaadoor", sum := "25f4a06e38ec395e054e1c7eb0ebe50af9bf681f7b2590340ba6e9954929fdeb", func := "understory/understorylaw02.DigestMembers", spec := "digestMembers", inPlace := ["math.sqrt", "math.Float64bits", "math.Float64frombits"], unfollowed := true, recurses := true, named := ["math/bits.deBruijn32tab", "math/bits.deBruijn64tab", "understory/understoryref02.constants"], apart := false, laid := [("math/bits.deBruijn32tab", laid_math_bits_deBruijn32tab), ("math/bits.deBruijn64tab", laid_math_bits_deBruijn64tab), ("understory/understoryref02.constants", laid_understory_understoryref02_constants)], narrowed := true }
def DigestMembersUptoSaid : Prop := digestMembersUptoRow.holds Tryd.pinned (OpenSpec.upto digestMembersSpec)

/-- 'understorylaw02.DigestExtends', WHERE WHAT IT READS IS OF BULK AT MOST 1048576: true; the input reads as it did. -/
def digestExtendsUptoRow : OpenClaim := { program := "ytdpgebifeaakjaadoor", sum := "25f4a06e38ec395e054e1c7eb0ebe50af9bf681f7b2590340ba6e9954929fdeb", func := "understory/understorylaw02.DigestExtends", spec := "digestExtends", inPlace := ["math.sqrt", "math.Float64bits", "math.Float64frombits"], unfollowed := true, recurses := true, named := ["math/bits.deBruijn32tab", "math/bits.deBruijn64tab", "understory/understoryref02.constants"], apart := false, laid := [("math/bits.deBruijn32tab", laid_math_bits_deBruijn32tab), ("math/bits.deBruijn64tab", laid_math_bits_deBruijn64tab), ("understory/understoryref02.constants", laid_understory_understoryref02_constants)], narrowed := true }
def DigestExtendsUptoSaid : Prop := digestExtendsUptoRow.holds Tryd.pinned (OpenSpec.upto digestExtendsSpec)

end Rows
end Go.Proofs.YtdpgebifeaakjaaDoor
