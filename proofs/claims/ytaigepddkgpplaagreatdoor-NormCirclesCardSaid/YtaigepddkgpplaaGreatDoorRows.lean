/-
  NARROWER THAN 'FOR EVERY INPUT', by the rows' own cells (each row's printed sentence says how): DiagramMeans: loops, laid · DiagramLeast: loops, laid · NormMatchesReference: loops, laid · NormDecides: loops, laid · NormOrder: loops, laid · NormOthers: loops, laid · NormCircles: loops, laid · NormChanges: loops, laid · NormFree: loops, laid · DiagramMatchesReference: loops, laid · DiagramForm: loops, laid · DiagramRefuses: laid · DiagramJoins: loops, laid · DiagramEquals: loops, laid.
  DERIVED. THE GIVEN ROWS OF THIS SEAT. 14 by the template 'for every input the law returns true; each argument reads behind the call as it read before'; 0 by the template 'total and deterministic' (their statements: YtaigepddkgpplaaGreatDoorTotals.lean).
  GIVEN WITH THE SEED: the statements are not yours to turn. If you find one false, say at which input.
  Laid BY PROGRAM, IN A SANDBOX (cutbox-rows.mjs): the forced cells as the released guide's own fill.sh prints them over the translation f9f62d53ab0ab306… (all of the seat's roots in one cut). By AI agents, Wed Nov 11 2026. No macro, syntax, notation, axiom, sorry.
-/
import Derived.Test.YtaigepddkgpplaaGreatDoorChecked
import GoSem.Claim
import GoSem.ClaimJoined
import GoSem.ClaimMapViews
import Derived.JoinedTies
import Derived.KernelRfl
namespace Go.Proofs.YtaigepddkgpplaaGreatDoor
/- THE CELL 'sum', in the pinned program and in every row, IS THE sha256 OF THE DUMP (.gsa) THAT YtaigepddkgpplaaGreatDoorProg.lean LOADS. Nothing in Lean hashes anything: it is a label: what it is worth is what the hold of that sum in a sandbox is worth. -/
noncomputable def Tryz.pinned : Pinned := { name := "ytaigepddkgpplaagreatdoor", sum := "f9f62d53ab0ab306909a0d510322ee9e8680589b91fb8d329a1582fd45a33700", checked := Tryz.checked }
namespace Rows
def none {H : Type} : Left H := { results := [], args := [] }

/- WHAT THE LISTED PACKAGE-LEVEL VARIABLES READ AS WHEN THE CALL BEGINS. Each datum BY PROGRAM (the guide's laid-datum.mjs) off the statement by which the dump's own 'gosem.cut.vars' lays the variable. In a bare row this is a premise. The card (YtaigepddkgpplaaGreatDoorCards.lean) ties it to the program's text. -/
def laid_math_bits_deBruijn32tab {H : Type} : DataW H := .agg [.lit (.int .u8 0), .lit (.int .u8 1), .lit (.int .u8 28), .lit (.int .u8 2), .lit (.int .u8 29), .lit (.int .u8 14), .lit (.int .u8 24), .lit (.int .u8 3), .lit (.int .u8 30), .lit (.int .u8 22), .lit (.int .u8 20), .lit (.int .u8 15), .lit (.int .u8 25), .lit (.int .u8 17), .lit (.int .u8 4), .lit (.int .u8 8), .lit (.int .u8 31), .lit (.int .u8 27), .lit (.int .u8 13), .lit (.int .u8 23), .lit (.int .u8 21), .lit (.int .u8 19), .lit (.int .u8 16), .lit (.int .u8 7), .lit (.int .u8 26), .lit (.int .u8 12), .lit (.int .u8 18), .lit (.int .u8 6), .lit (.int .u8 11), .lit (.int .u8 5), .lit (.int .u8 10), .lit (.int .u8 9)]
def laid_math_bits_deBruijn64tab {H : Type} : DataW H := .agg [.lit (.int .u8 0), .lit (.int .u8 1), .lit (.int .u8 56), .lit (.int .u8 2), .lit (.int .u8 57), .lit (.int .u8 49), .lit (.int .u8 28), .lit (.int .u8 3), .lit (.int .u8 61), .lit (.int .u8 58), .lit (.int .u8 42), .lit (.int .u8 50), .lit (.int .u8 38), .lit (.int .u8 29), .lit (.int .u8 17), .lit (.int .u8 4), .lit (.int .u8 62), .lit (.int .u8 47), .lit (.int .u8 59), .lit (.int .u8 36), .lit (.int .u8 45), .lit (.int .u8 43), .lit (.int .u8 51), .lit (.int .u8 22), .lit (.int .u8 53), .lit (.int .u8 39), .lit (.int .u8 33), .lit (.int .u8 30), .lit (.int .u8 24), .lit (.int .u8 18), .lit (.int .u8 12), .lit (.int .u8 5), .lit (.int .u8 63), .lit (.int .u8 55), .lit (.int .u8 48), .lit (.int .u8 27), .lit (.int .u8 60), .lit (.int .u8 41), .lit (.int .u8 37), .lit (.int .u8 16), .lit (.int .u8 46), .lit (.int .u8 35), .lit (.int .u8 44), .lit (.int .u8 21), .lit (.int .u8 52), .lit (.int .u8 32), .lit (.int .u8 23), .lit (.int .u8 11), .lit (.int .u8 54), .lit (.int .u8 26), .lit (.int .u8 40), .lit (.int .u8 15), .lit (.int .u8 34), .lit (.int .u8 20), .lit (.int .u8 31), .lit (.int .u8 10), .lit (.int .u8 25), .lit (.int .u8 14), .lit (.int .u8 19), .lit (.int .u8 9), .lit (.int .u8 13), .lit (.int .u8 8), .lit (.int .u8 7), .lit (.int .u8 6)]
def laid_internal_strconv_uint64pow10 {H : Type} : DataW H := .agg [.lit (.int .u64 1), .lit (.int .u64 10), .lit (.int .u64 100), .lit (.int .u64 1000), .lit (.int .u64 10000), .lit (.int .u64 100000), .lit (.int .u64 1000000), .lit (.int .u64 10000000), .lit (.int .u64 100000000), .lit (.int .u64 1000000000), .lit (.int .u64 10000000000), .lit (.int .u64 100000000000), .lit (.int .u64 1000000000000), .lit (.int .u64 10000000000000), .lit (.int .u64 100000000000000), .lit (.int .u64 1000000000000000), .lit (.int .u64 10000000000000000), .lit (.int .u64 100000000000000000), .lit (.int .u64 1000000000000000000), .lit (.int .u64 10000000000000000000)]
def laid_strconv_ErrRange {H : Type} : DataW H := .iface "*errors.errorString" (.ptr (.agg [.lit (.string [118, 97, 108, 117, 101, 32, 111, 117, 116, 32, 111, 102, 32, 114, 97, 110, 103, 101])]))
def laid_strconv_ErrSyntax {H : Type} : DataW H := .iface "*errors.errorString" (.ptr (.agg [.lit (.string [105, 110, 118, 97, 108, 105, 100, 32, 115, 121, 110, 116, 97, 120])]))

/-- 'pandectlaw11.DiagramMeans': WHATEVER THE INPUT: true; the input reads as it did. -/
def diagramMeansSpec : ChangeSpec := { name := "diagramMeans", fn := fun _ => fun
  | [d1, d2, d3] => { results := [.lit (.bool true)], args := [d1, d2, d3] }
  | _ => none }
def diagramMeansRow : OpenClaim := { program := "ytaigepddkgpplaagreatdoor", sum := "f9f62d53ab0ab306909a0d510322ee9e8680589b91fb8d329a1582fd45a33700", func := "pandect/pandectlaw11.DiagramMeans", spec := "diagramMeans", inPlace := ["internal/bytealg.IndexByteString", "internal/abi.NoEscape"], unfollowed := true, recurses := true, named := ["strconv.ErrSyntax", "strconv.ErrRange", "internal/strconv.uint64pow10", "math/bits.deBruijn32tab", "math/bits.deBruijn64tab"], loops := true, plainKeys := false, apart := false, laid := [("math/bits.deBruijn32tab", laid_math_bits_deBruijn32tab), ("math/bits.deBruijn64tab", laid_math_bits_deBruijn64tab), ("internal/strconv.uint64pow10", laid_internal_strconv_uint64pow10), ("strconv.ErrRange", laid_strconv_ErrRange), ("strconv.ErrSyntax", laid_strconv_ErrSyntax)] }
def DiagramMeansSaid : Prop := diagramMeansRow.holds Tryz.pinned (OpenSpec.ofChange diagramMeansSpec)

/-- ITS FALSE NEIGHBOUR: 'it returns false'. Refute it at one input. -/
def diagramMeansWrong : ChangeSpec := { name := "diagramMeans", fn := fun _ => fun
  | [d1, d2, d3] => { results := [.lit (.bool false)], args := [d1, d2, d3] }
  | _ => none }
def DiagramMeansWrongFalsely : Prop := diagramMeansRow.holds Tryz.pinned (OpenSpec.ofChange diagramMeansWrong)

/-- 'pandectlaw11.DiagramLeast': WHATEVER THE INPUT: true; the input reads as it did. -/
def diagramLeastSpec : ChangeSpec := { name := "diagramLeast", fn := fun _ => fun
  | [d1, d2, d3] => { results := [.lit (.bool true)], args := [d1, d2, d3] }
  | _ => none }
def diagramLeastRow : OpenClaim := { program := "ytaigepddkgpplaagreatdoor", sum := "f9f62d53ab0ab306909a0d510322ee9e8680589b91fb8d329a1582fd45a33700", func := "pandect/pandectlaw11.DiagramLeast", spec := "diagramLeast", inPlace := ["internal/bytealg.IndexByteString", "internal/abi.NoEscape"], unfollowed := true, recurses := true, named := ["strconv.ErrSyntax", "strconv.ErrRange", "internal/strconv.uint64pow10", "math/bits.deBruijn32tab", "math/bits.deBruijn64tab"], loops := true, plainKeys := false, apart := false, laid := [("math/bits.deBruijn32tab", laid_math_bits_deBruijn32tab), ("math/bits.deBruijn64tab", laid_math_bits_deBruijn64tab), ("internal/strconv.uint64pow10", laid_internal_strconv_uint64pow10), ("strconv.ErrRange", laid_strconv_ErrRange), ("strconv.ErrSyntax", laid_strconv_ErrSyntax)] }
def DiagramLeastSaid : Prop := diagramLeastRow.holds Tryz.pinned (OpenSpec.ofChange diagramLeastSpec)

/-- ITS FALSE NEIGHBOUR: 'it returns false'. Refute it at one input. -/
def diagramLeastWrong : ChangeSpec := { name := "diagramLeast", fn := fun _ => fun
  | [d1, d2, d3] => { results := [.lit (.bool false)], args := [d1, d2, d3] }
  | _ => none }
def DiagramLeastWrongFalsely : Prop := diagramLeastRow.holds Tryz.pinned (OpenSpec.ofChange diagramLeastWrong)

/-- 'pandectlaw14.NormMatchesReference': WHATEVER THE INPUT: true; the input reads as it did. -/
def normMatchesReferenceSpec : ChangeSpec := { name := "normMatchesReference", fn := fun _ => fun
  | [d1, d2, d3] => { results := [.lit (.bool true)], args := [d1, d2, d3] }
  | _ => none }
def normMatchesReferenceRow : OpenClaim := { program := "ytaigepddkgpplaagreatdoor", sum := "f9f62d53ab0ab306909a0d510322ee9e8680589b91fb8d329a1582fd45a33700", func := "pandect/pandectlaw14.NormMatchesReference", spec := "normMatchesReference", inPlace := ["internal/bytealg.IndexByteString"], unfollowed := true, recurses := true, named := ["strconv.ErrSyntax", "strconv.ErrRange", "internal/strconv.uint64pow10", "math/bits.deBruijn32tab", "math/bits.deBruijn64tab"], loops := true, plainKeys := false, apart := false, laid := [("math/bits.deBruijn32tab", laid_math_bits_deBruijn32tab), ("math/bits.deBruijn64tab", laid_math_bits_deBruijn64tab), ("internal/strconv.uint64pow10", laid_internal_strconv_uint64pow10), ("strconv.ErrRange", laid_strconv_ErrRange), ("strconv.ErrSyntax", laid_strconv_ErrSyntax)] }
def NormMatchesReferenceSaid : Prop := normMatchesReferenceRow.holds Tryz.pinned (OpenSpec.ofChange normMatchesReferenceSpec)

/-- ITS FALSE NEIGHBOUR: 'it returns false'. Refute it at one input. -/
def normMatchesReferenceWrong : ChangeSpec := { name := "normMatchesReference", fn := fun _ => fun
  | [d1, d2, d3] => { results := [.lit (.bool false)], args := [d1, d2, d3] }
  | _ => none }
def NormMatchesReferenceWrongFalsely : Prop := normMatchesReferenceRow.holds Tryz.pinned (OpenSpec.ofChange normMatchesReferenceWrong)

/-- 'pandectlaw14.NormDecides': WHATEVER THE INPUT: true; the input reads as it did. -/
def normDecidesSpec : ChangeSpec := { name := "normDecides", fn := fun _ => fun
  | [d1, d2] => { results := [.lit (.bool true)], args := [d1, d2] }
  | _ => none }
def normDecidesRow : OpenClaim := { program := "ytaigepddkgpplaagreatdoor", sum := "f9f62d53ab0ab306909a0d510322ee9e8680589b91fb8d329a1582fd45a33700", func := "pandect/pandectlaw14.NormDecides", spec := "normDecides", inPlace := ["internal/bytealg.IndexByteString"], unfollowed := true, recurses := true, named := ["strconv.ErrSyntax", "strconv.ErrRange", "internal/strconv.uint64pow10", "math/bits.deBruijn32tab", "math/bits.deBruijn64tab"], loops := true, plainKeys := false, apart := false, laid := [("math/bits.deBruijn32tab", laid_math_bits_deBruijn32tab), ("math/bits.deBruijn64tab", laid_math_bits_deBruijn64tab), ("internal/strconv.uint64pow10", laid_internal_strconv_uint64pow10), ("strconv.ErrRange", laid_strconv_ErrRange), ("strconv.ErrSyntax", laid_strconv_ErrSyntax)] }
def NormDecidesSaid : Prop := normDecidesRow.holds Tryz.pinned (OpenSpec.ofChange normDecidesSpec)

/-- ITS FALSE NEIGHBOUR: 'it returns false'. Refute it at one input. -/
def normDecidesWrong : ChangeSpec := { name := "normDecides", fn := fun _ => fun
  | [d1, d2] => { results := [.lit (.bool false)], args := [d1, d2] }
  | _ => none }
def NormDecidesWrongFalsely : Prop := normDecidesRow.holds Tryz.pinned (OpenSpec.ofChange normDecidesWrong)

/-- 'pandectlaw14.NormOrder': WHATEVER THE INPUT: true; the input reads as it did. -/
def normOrderSpec : ChangeSpec := { name := "normOrder", fn := fun _ => fun
  | [d1, d2] => { results := [.lit (.bool true)], args := [d1, d2] }
  | _ => none }
def normOrderRow : OpenClaim := { program := "ytaigepddkgpplaagreatdoor", sum := "f9f62d53ab0ab306909a0d510322ee9e8680589b91fb8d329a1582fd45a33700", func := "pandect/pandectlaw14.NormOrder", spec := "normOrder", inPlace := ["internal/bytealg.IndexByteString"], unfollowed := true, recurses := true, named := ["strconv.ErrSyntax", "strconv.ErrRange", "internal/strconv.uint64pow10", "math/bits.deBruijn32tab", "math/bits.deBruijn64tab"], loops := true, plainKeys := false, apart := false, laid := [("math/bits.deBruijn32tab", laid_math_bits_deBruijn32tab), ("math/bits.deBruijn64tab", laid_math_bits_deBruijn64tab), ("internal/strconv.uint64pow10", laid_internal_strconv_uint64pow10), ("strconv.ErrRange", laid_strconv_ErrRange), ("strconv.ErrSyntax", laid_strconv_ErrSyntax)] }
def NormOrderSaid : Prop := normOrderRow.holds Tryz.pinned (OpenSpec.ofChange normOrderSpec)

/-- ITS FALSE NEIGHBOUR: 'it returns false'. Refute it at one input. -/
def normOrderWrong : ChangeSpec := { name := "normOrder", fn := fun _ => fun
  | [d1, d2] => { results := [.lit (.bool false)], args := [d1, d2] }
  | _ => none }
def NormOrderWrongFalsely : Prop := normOrderRow.holds Tryz.pinned (OpenSpec.ofChange normOrderWrong)

/-- 'pandectlaw14.NormOthers': WHATEVER THE INPUT: true; the input reads as it did. -/
def normOthersSpec : ChangeSpec := { name := "normOthers", fn := fun _ => fun
  | [d1, d2, d3, d4, d5] => { results := [.lit (.bool true)], args := [d1, d2, d3, d4, d5] }
  | _ => none }
def normOthersRow : OpenClaim := { program := "ytaigepddkgpplaagreatdoor", sum := "f9f62d53ab0ab306909a0d510322ee9e8680589b91fb8d329a1582fd45a33700", func := "pandect/pandectlaw14.NormOthers", spec := "normOthers", inPlace := ["internal/bytealg.IndexByteString"], unfollowed := true, recurses := true, named := ["strconv.ErrSyntax", "strconv.ErrRange", "internal/strconv.uint64pow10", "math/bits.deBruijn32tab", "math/bits.deBruijn64tab"], loops := true, plainKeys := false, apart := false, laid := [("math/bits.deBruijn32tab", laid_math_bits_deBruijn32tab), ("math/bits.deBruijn64tab", laid_math_bits_deBruijn64tab), ("internal/strconv.uint64pow10", laid_internal_strconv_uint64pow10), ("strconv.ErrRange", laid_strconv_ErrRange), ("strconv.ErrSyntax", laid_strconv_ErrSyntax)] }
def NormOthersSaid : Prop := normOthersRow.holds Tryz.pinned (OpenSpec.ofChange normOthersSpec)

/-- ITS FALSE NEIGHBOUR: 'it returns false'. Refute it at one input. -/
def normOthersWrong : ChangeSpec := { name := "normOthers", fn := fun _ => fun
  | [d1, d2, d3, d4, d5] => { results := [.lit (.bool false)], args := [d1, d2, d3, d4, d5] }
  | _ => none }
def NormOthersWrongFalsely : Prop := normOthersRow.holds Tryz.pinned (OpenSpec.ofChange normOthersWrong)

/-- 'pandectlaw14.NormCircles': WHATEVER THE INPUT: true; the input reads as it did. -/
def normCirclesSpec : ChangeSpec := { name := "normCircles", fn := fun _ => fun
  | [d] => { results := [.lit (.bool true)], args := [d] }
  | _ => none }
def normCirclesRow : OpenClaim := { program := "ytaigepddkgpplaagreatdoor", sum := "f9f62d53ab0ab306909a0d510322ee9e8680589b91fb8d329a1582fd45a33700", func := "pandect/pandectlaw14.NormCircles", spec := "normCircles", inPlace := ["internal/bytealg.IndexByteString"], unfollowed := true, recurses := true, named := ["strconv.ErrSyntax", "strconv.ErrRange", "internal/strconv.uint64pow10", "math/bits.deBruijn32tab", "math/bits.deBruijn64tab"], loops := true, plainKeys := false, apart := false, laid := [("math/bits.deBruijn32tab", laid_math_bits_deBruijn32tab), ("math/bits.deBruijn64tab", laid_math_bits_deBruijn64tab), ("internal/strconv.uint64pow10", laid_internal_strconv_uint64pow10), ("strconv.ErrRange", laid_strconv_ErrRange), ("strconv.ErrSyntax", laid_strconv_ErrSyntax)] }
def NormCirclesSaid : Prop := normCirclesRow.holds Tryz.pinned (OpenSpec.ofChange normCirclesSpec)

/-- ITS FALSE NEIGHBOUR: 'it returns false'. Refute it at one input. -/
def normCirclesWrong : ChangeSpec := { name := "normCircles", fn := fun _ => fun
  | [d] => { results := [.lit (.bool false)], args := [d] }
  | _ => none }
def NormCirclesWrongFalsely : Prop := normCirclesRow.holds Tryz.pinned (OpenSpec.ofChange normCirclesWrong)

/-- 'pandectlaw14.NormChanges': WHATEVER THE INPUT: true; the input reads as it did. -/
def normChangesSpec : ChangeSpec := { name := "normChanges", fn := fun _ => fun
  | [d1, d2, d3, d4] => { results := [.lit (.bool true)], args := [d1, d2, d3, d4] }
  | _ => none }
def normChangesRow : OpenClaim := { program := "ytaigepddkgpplaagreatdoor", sum := "f9f62d53ab0ab306909a0d510322ee9e8680589b91fb8d329a1582fd45a33700", func := "pandect/pandectlaw14.NormChanges", spec := "normChanges", inPlace := ["internal/bytealg.IndexByteString"], unfollowed := true, recurses := true, named := ["strconv.ErrSyntax", "strconv.ErrRange", "internal/strconv.uint64pow10", "math/bits.deBruijn32tab", "math/bits.deBruijn64tab"], loops := true, plainKeys := false, apart := false, laid := [("math/bits.deBruijn32tab", laid_math_bits_deBruijn32tab), ("math/bits.deBruijn64tab", laid_math_bits_deBruijn64tab), ("internal/strconv.uint64pow10", laid_internal_strconv_uint64pow10), ("strconv.ErrRange", laid_strconv_ErrRange), ("strconv.ErrSyntax", laid_strconv_ErrSyntax)] }
def NormChangesSaid : Prop := normChangesRow.holds Tryz.pinned (OpenSpec.ofChange normChangesSpec)

/-- ITS FALSE NEIGHBOUR: 'it returns false'. Refute it at one input. -/
def normChangesWrong : ChangeSpec := { name := "normChanges", fn := fun _ => fun
  | [d1, d2, d3, d4] => { results := [.lit (.bool false)], args := [d1, d2, d3, d4] }
  | _ => none }
def NormChangesWrongFalsely : Prop := normChangesRow.holds Tryz.pinned (OpenSpec.ofChange normChangesWrong)

/-- 'pandectlaw14.NormFree': WHATEVER THE INPUT: true; the input reads as it did. -/
def normFreeSpec : ChangeSpec := { name := "normFree", fn := fun _ => fun
  | [d1, d2] => { results := [.lit (.bool true)], args := [d1, d2] }
  | _ => none }
def normFreeRow : OpenClaim := { program := "ytaigepddkgpplaagreatdoor", sum := "f9f62d53ab0ab306909a0d510322ee9e8680589b91fb8d329a1582fd45a33700", func := "pandect/pandectlaw14.NormFree", spec := "normFree", inPlace := ["internal/bytealg.IndexByteString"], unfollowed := true, recurses := true, named := ["strconv.ErrSyntax", "strconv.ErrRange", "internal/strconv.uint64pow10", "math/bits.deBruijn32tab", "math/bits.deBruijn64tab"], loops := true, plainKeys := false, apart := false, laid := [("math/bits.deBruijn32tab", laid_math_bits_deBruijn32tab), ("math/bits.deBruijn64tab", laid_math_bits_deBruijn64tab), ("internal/strconv.uint64pow10", laid_internal_strconv_uint64pow10), ("strconv.ErrRange", laid_strconv_ErrRange), ("strconv.ErrSyntax", laid_strconv_ErrSyntax)] }
def NormFreeSaid : Prop := normFreeRow.holds Tryz.pinned (OpenSpec.ofChange normFreeSpec)

/-- ITS FALSE NEIGHBOUR: 'it returns false'. Refute it at one input. -/
def normFreeWrong : ChangeSpec := { name := "normFree", fn := fun _ => fun
  | [d1, d2] => { results := [.lit (.bool false)], args := [d1, d2] }
  | _ => none }
def NormFreeWrongFalsely : Prop := normFreeRow.holds Tryz.pinned (OpenSpec.ofChange normFreeWrong)

/-- 'pandectlaw11.DiagramMatchesReference': WHATEVER THE INPUT: true; the input reads as it did. -/
def diagramMatchesReferenceSpec : ChangeSpec := { name := "diagramMatchesReference", fn := fun _ => fun
  | [d1, d2, d3, d4, d5] => { results := [.lit (.bool true)], args := [d1, d2, d3, d4, d5] }
  | _ => none }
def diagramMatchesReferenceRow : OpenClaim := { program := "ytaigepddkgpplaagreatdoor", sum := "f9f62d53ab0ab306909a0d510322ee9e8680589b91fb8d329a1582fd45a33700", func := "pandect/pandectlaw11.DiagramMatchesReference", spec := "diagramMatchesReference", inPlace := ["internal/bytealg.IndexByteString", "internal/abi.NoEscape"], unfollowed := true, recurses := true, named := ["strconv.ErrSyntax", "strconv.ErrRange", "internal/strconv.uint64pow10", "math/bits.deBruijn32tab", "math/bits.deBruijn64tab"], loops := true, plainKeys := false, apart := false, laid := [("math/bits.deBruijn32tab", laid_math_bits_deBruijn32tab), ("math/bits.deBruijn64tab", laid_math_bits_deBruijn64tab), ("internal/strconv.uint64pow10", laid_internal_strconv_uint64pow10), ("strconv.ErrRange", laid_strconv_ErrRange), ("strconv.ErrSyntax", laid_strconv_ErrSyntax)] }
def DiagramMatchesReferenceSaid : Prop := diagramMatchesReferenceRow.holds Tryz.pinned (OpenSpec.ofChange diagramMatchesReferenceSpec)

/-- ITS FALSE NEIGHBOUR: 'it returns false'. Refute it at one input. -/
def diagramMatchesReferenceWrong : ChangeSpec := { name := "diagramMatchesReference", fn := fun _ => fun
  | [d1, d2, d3, d4, d5] => { results := [.lit (.bool false)], args := [d1, d2, d3, d4, d5] }
  | _ => none }
def DiagramMatchesReferenceWrongFalsely : Prop := diagramMatchesReferenceRow.holds Tryz.pinned (OpenSpec.ofChange diagramMatchesReferenceWrong)

/-- 'pandectlaw11.DiagramForm': WHATEVER THE INPUT: true; the input reads as it did. -/
def diagramFormSpec : ChangeSpec := { name := "diagramForm", fn := fun _ => fun
  | [d1, d2] => { results := [.lit (.bool true)], args := [d1, d2] }
  | _ => none }
def diagramFormRow : OpenClaim := { program := "ytaigepddkgpplaagreatdoor", sum := "f9f62d53ab0ab306909a0d510322ee9e8680589b91fb8d329a1582fd45a33700", func := "pandect/pandectlaw11.DiagramForm", spec := "diagramForm", inPlace := ["internal/bytealg.IndexByteString", "internal/abi.NoEscape"], unfollowed := true, recurses := true, named := ["strconv.ErrSyntax", "strconv.ErrRange", "internal/strconv.uint64pow10", "math/bits.deBruijn32tab", "math/bits.deBruijn64tab"], loops := true, plainKeys := false, apart := false, laid := [("math/bits.deBruijn32tab", laid_math_bits_deBruijn32tab), ("math/bits.deBruijn64tab", laid_math_bits_deBruijn64tab), ("internal/strconv.uint64pow10", laid_internal_strconv_uint64pow10), ("strconv.ErrRange", laid_strconv_ErrRange), ("strconv.ErrSyntax", laid_strconv_ErrSyntax)] }
def DiagramFormSaid : Prop := diagramFormRow.holds Tryz.pinned (OpenSpec.ofChange diagramFormSpec)

/-- ITS FALSE NEIGHBOUR: 'it returns false'. Refute it at one input. -/
def diagramFormWrong : ChangeSpec := { name := "diagramForm", fn := fun _ => fun
  | [d1, d2] => { results := [.lit (.bool false)], args := [d1, d2] }
  | _ => none }
def DiagramFormWrongFalsely : Prop := diagramFormRow.holds Tryz.pinned (OpenSpec.ofChange diagramFormWrong)

/-- 'pandectlaw11.DiagramRefuses': WHATEVER THE INPUT: true; the input reads as it did. -/
def diagramRefusesSpec : ChangeSpec := { name := "diagramRefuses", fn := fun _ => fun
  | [d1, d2, d3] => { results := [.lit (.bool true)], args := [d1, d2, d3] }
  | _ => none }
def diagramRefusesRow : OpenClaim := { program := "ytaigepddkgpplaagreatdoor", sum := "f9f62d53ab0ab306909a0d510322ee9e8680589b91fb8d329a1582fd45a33700", func := "pandect/pandectlaw11.DiagramRefuses", spec := "diagramRefuses", inPlace := ["internal/bytealg.IndexByteString", "internal/abi.NoEscape"], unfollowed := true, recurses := true, named := ["strconv.ErrSyntax", "strconv.ErrRange", "internal/strconv.uint64pow10", "math/bits.deBruijn32tab", "math/bits.deBruijn64tab"], plainKeys := false, apart := false, laid := [("math/bits.deBruijn32tab", laid_math_bits_deBruijn32tab), ("math/bits.deBruijn64tab", laid_math_bits_deBruijn64tab), ("internal/strconv.uint64pow10", laid_internal_strconv_uint64pow10), ("strconv.ErrRange", laid_strconv_ErrRange), ("strconv.ErrSyntax", laid_strconv_ErrSyntax)] }
def DiagramRefusesSaid : Prop := diagramRefusesRow.holds Tryz.pinned (OpenSpec.ofChange diagramRefusesSpec)

/-- ITS FALSE NEIGHBOUR: 'it returns false'. Refute it at one input. -/
def diagramRefusesWrong : ChangeSpec := { name := "diagramRefuses", fn := fun _ => fun
  | [d1, d2, d3] => { results := [.lit (.bool false)], args := [d1, d2, d3] }
  | _ => none }
def DiagramRefusesWrongFalsely : Prop := diagramRefusesRow.holds Tryz.pinned (OpenSpec.ofChange diagramRefusesWrong)

/-- 'pandectlaw11.DiagramJoins': WHATEVER THE INPUT: true; the input reads as it did. -/
def diagramJoinsSpec : ChangeSpec := { name := "diagramJoins", fn := fun _ => fun
  | [d1, d2, d3, d4] => { results := [.lit (.bool true)], args := [d1, d2, d3, d4] }
  | _ => none }
def diagramJoinsRow : OpenClaim := { program := "ytaigepddkgpplaagreatdoor", sum := "f9f62d53ab0ab306909a0d510322ee9e8680589b91fb8d329a1582fd45a33700", func := "pandect/pandectlaw11.DiagramJoins", spec := "diagramJoins", inPlace := ["internal/bytealg.IndexByteString", "internal/abi.NoEscape"], unfollowed := true, recurses := true, named := ["strconv.ErrSyntax", "strconv.ErrRange", "internal/strconv.uint64pow10", "math/bits.deBruijn32tab", "math/bits.deBruijn64tab"], loops := true, plainKeys := false, apart := false, laid := [("math/bits.deBruijn32tab", laid_math_bits_deBruijn32tab), ("math/bits.deBruijn64tab", laid_math_bits_deBruijn64tab), ("internal/strconv.uint64pow10", laid_internal_strconv_uint64pow10), ("strconv.ErrRange", laid_strconv_ErrRange), ("strconv.ErrSyntax", laid_strconv_ErrSyntax)] }
def DiagramJoinsSaid : Prop := diagramJoinsRow.holds Tryz.pinned (OpenSpec.ofChange diagramJoinsSpec)

/-- ITS FALSE NEIGHBOUR: 'it returns false'. Refute it at one input. -/
def diagramJoinsWrong : ChangeSpec := { name := "diagramJoins", fn := fun _ => fun
  | [d1, d2, d3, d4] => { results := [.lit (.bool false)], args := [d1, d2, d3, d4] }
  | _ => none }
def DiagramJoinsWrongFalsely : Prop := diagramJoinsRow.holds Tryz.pinned (OpenSpec.ofChange diagramJoinsWrong)

/-- 'pandectlaw11.DiagramEquals': WHATEVER THE INPUT: true; the input reads as it did. -/
def diagramEqualsSpec : ChangeSpec := { name := "diagramEquals", fn := fun _ => fun
  | [d1, d2, d3, d4] => { results := [.lit (.bool true)], args := [d1, d2, d3, d4] }
  | _ => none }
def diagramEqualsRow : OpenClaim := { program := "ytaigepddkgpplaagreatdoor", sum := "f9f62d53ab0ab306909a0d510322ee9e8680589b91fb8d329a1582fd45a33700", func := "pandect/pandectlaw11.DiagramEquals", spec := "diagramEquals", inPlace := ["internal/bytealg.IndexByteString", "internal/abi.NoEscape"], unfollowed := true, recurses := true, named := ["strconv.ErrSyntax", "strconv.ErrRange", "internal/strconv.uint64pow10", "math/bits.deBruijn32tab", "math/bits.deBruijn64tab"], loops := true, plainKeys := false, apart := false, laid := [("math/bits.deBruijn32tab", laid_math_bits_deBruijn32tab), ("math/bits.deBruijn64tab", laid_math_bits_deBruijn64tab), ("internal/strconv.uint64pow10", laid_internal_strconv_uint64pow10), ("strconv.ErrRange", laid_strconv_ErrRange), ("strconv.ErrSyntax", laid_strconv_ErrSyntax)] }
def DiagramEqualsSaid : Prop := diagramEqualsRow.holds Tryz.pinned (OpenSpec.ofChange diagramEqualsSpec)

/-- ITS FALSE NEIGHBOUR: 'it returns false'. Refute it at one input. -/
def diagramEqualsWrong : ChangeSpec := { name := "diagramEquals", fn := fun _ => fun
  | [d1, d2, d3, d4] => { results := [.lit (.bool false)], args := [d1, d2, d3, d4] }
  | _ => none }
def DiagramEqualsWrongFalsely : Prop := diagramEqualsRow.holds Tryz.pinned (OpenSpec.ofChange diagramEqualsWrong)

/- THE SECOND FORM. 'bulk': how many values and letters a reading holds, each counted each time it is reached (what is shared counts as often as it is met; a slice's spare places count too). A statement '..UptoSaid' is the law's where the arguments, and the package variables that the reading takes, are together of bulk at most 1048576: NARROWER than '..Said'. Prove '..Said' where nothing that the law and all that it calls make is longer than what came in: it says more and counts as full. Else prove '..UptoSaid'. A law counts once. -/
mutual
def uptoBulk {H : Type} : DataW H → Nat
  | .lit (.string bytes) => bytes.length + 1
  | .lit _ => 1
  | .nil => 1
  | .ptr d => uptoBulk d + 1
  | .slice elems spare => uptoBulkAll elems + uptoBulkAll spare + 1
  | .agg parts => uptoBulkAll parts + 1
  | .iface _ d => uptoBulk d + 1
  | .map entries => uptoBulkEntries entries + 1
  | .held _ => 1
def uptoBulkAll {H : Type} : List (DataW H) → Nat
  | [] => 0
  | d :: r => uptoBulk d + uptoBulkAll r
def uptoBulkEntries {H : Type} : List (Lit × DataW H) → Nat
  | [] => 0
  | x :: r => uptoBulkEntry x + uptoBulkEntries r
def uptoBulkEntry {H : Type} : Lit × DataW H → Nat
  | (.string bytes, d) => bytes.length + uptoBulk d + 1
  | (_, d) => uptoBulk d + 1
 end
def uptoSmall : (H : Type) → List (DataW H) → Bool := fun _ ds => decide (uptoBulkAll ds ≤ 1048576)
def OpenSpec.upto (s : _root_.Go.ChangeSpec) : _root_.Go.OpenSpec := { _root_.Go.OpenSpec.ofChange s with cond := some uptoSmall }

/-- 'pandectlaw11.DiagramMeans', WHERE WHAT IT READS IS OF BULK AT MOST 1048576: true; the input reads as it did. -/
def diagramMeansUptoRow : OpenClaim := { program := "ytaigepddkgpplaagreatdoor", sum := "f9f62d53ab0ab306909a0d510322ee9e8680589b91fb8d329a1582fd45a33700", func := "pandect/pandectlaw11.DiagramMeans", spec := "diagramMeans", inPlace := ["internal/bytealg.IndexByteString", "internal/abi.NoEscape"], unfollowed := true, recurses := true, named := ["strconv.ErrSyntax", "strconv.ErrRange", "internal/strconv.uint64pow10", "math/bits.deBruijn32tab", "math/bits.deBruijn64tab"], loops := true, plainKeys := false, apart := false, laid := [("math/bits.deBruijn32tab", laid_math_bits_deBruijn32tab), ("math/bits.deBruijn64tab", laid_math_bits_deBruijn64tab), ("internal/strconv.uint64pow10", laid_internal_strconv_uint64pow10), ("strconv.ErrRange", laid_strconv_ErrRange), ("strconv.ErrSyntax", laid_strconv_ErrSyntax)], narrowed := true }
def DiagramMeansUptoSaid : Prop := diagramMeansUptoRow.holds Tryz.pinned (OpenSpec.upto diagramMeansSpec)

/-- 'pandectlaw11.DiagramLeast', WHERE WHAT IT READS IS OF BULK AT MOST 1048576: true; the input reads as it did. -/
def diagramLeastUptoRow : OpenClaim := { program := "ytaigepddkgpplaagreatdoor", sum := "f9f62d53ab0ab306909a0d510322ee9e8680589b91fb8d329a1582fd45a33700", func := "pandect/pandectlaw11.DiagramLeast", spec := "diagramLeast", inPlace := ["internal/bytealg.IndexByteString", "internal/abi.NoEscape"], unfollowed := true, recurses := true, named := ["strconv.ErrSyntax", "strconv.ErrRange", "internal/strconv.uint64pow10", "math/bits.deBruijn32tab", "math/bits.deBruijn64tab"], loops := true, plainKeys := false, apart := false, laid := [("math/bits.deBruijn32tab", laid_math_bits_deBruijn32tab), ("math/bits.deBruijn64tab", laid_math_bits_deBruijn64tab), ("internal/strconv.uint64pow10", laid_internal_strconv_uint64pow10), ("strconv.ErrRange", laid_strconv_ErrRange), ("strconv.ErrSyntax", laid_strconv_ErrSyntax)], narrowed := true }
def DiagramLeastUptoSaid : Prop := diagramLeastUptoRow.holds Tryz.pinned (OpenSpec.upto diagramLeastSpec)

/-- 'pandectlaw14.NormMatchesReference', WHERE WHAT IT READS IS OF BULK AT MOST 1048576: true; the input reads as it did. -/
def normMatchesReferenceUptoRow : OpenClaim := { program := "ytaigepddkgpplaagreatdoor", sum := "f9f62d53ab0ab306909a0d510322ee9e8680589b91fb8d329a1582fd45a33700", func := "pandect/pandectlaw14.NormMatchesReference", spec := "normMatchesReference", inPlace := ["internal/bytealg.IndexByteString"], unfollowed := true, recurses := true, named := ["strconv.ErrSyntax", "strconv.ErrRange", "internal/strconv.uint64pow10", "math/bits.deBruijn32tab", "math/bits.deBruijn64tab"], loops := true, plainKeys := false, apart := false, laid := [("math/bits.deBruijn32tab", laid_math_bits_deBruijn32tab), ("math/bits.deBruijn64tab", laid_math_bits_deBruijn64tab), ("internal/strconv.uint64pow10", laid_internal_strconv_uint64pow10), ("strconv.ErrRange", laid_strconv_ErrRange), ("strconv.ErrSyntax", laid_strconv_ErrSyntax)], narrowed := true }
def NormMatchesReferenceUptoSaid : Prop := normMatchesReferenceUptoRow.holds Tryz.pinned (OpenSpec.upto normMatchesReferenceSpec)

/-- 'pandectlaw14.NormDecides', WHERE WHAT IT READS IS OF BULK AT MOST 1048576: true; the input reads as it did. -/
def normDecidesUptoRow : OpenClaim := { program := "ytaigepddkgpplaagreatdoor", sum := "f9f62d53ab0ab306909a0d510322ee9e8680589b91fb8d329a1582fd45a33700", func := "pandect/pandectlaw14.NormDecides", spec := "normDecides", inPlace := ["internal/bytealg.IndexByteString"], unfollowed := true, recurses := true, named := ["strconv.ErrSyntax", "strconv.ErrRange", "internal/strconv.uint64pow10", "math/bits.deBruijn32tab", "math/bits.deBruijn64tab"], loops := true, plainKeys := false, apart := false, laid := [("math/bits.deBruijn32tab", laid_math_bits_deBruijn32tab), ("math/bits.deBruijn64tab", laid_math_bits_deBruijn64tab), ("internal/strconv.uint64pow10", laid_internal_strconv_uint64pow10), ("strconv.ErrRange", laid_strconv_ErrRange), ("strconv.ErrSyntax", laid_strconv_ErrSyntax)], narrowed := true }
def NormDecidesUptoSaid : Prop := normDecidesUptoRow.holds Tryz.pinned (OpenSpec.upto normDecidesSpec)

/-- 'pandectlaw14.NormOrder', WHERE WHAT IT READS IS OF BULK AT MOST 1048576: true; the input reads as it did. -/
def normOrderUptoRow : OpenClaim := { program := "ytaigepddkgpplaagreatdoor", sum := "f9f62d53ab0ab306909a0d510322ee9e8680589b91fb8d329a1582fd45a33700", func := "pandect/pandectlaw14.NormOrder", spec := "normOrder", inPlace := ["internal/bytealg.IndexByteString"], unfollowed := true, recurses := true, named := ["strconv.ErrSyntax", "strconv.ErrRange", "internal/strconv.uint64pow10", "math/bits.deBruijn32tab", "math/bits.deBruijn64tab"], loops := true, plainKeys := false, apart := false, laid := [("math/bits.deBruijn32tab", laid_math_bits_deBruijn32tab), ("math/bits.deBruijn64tab", laid_math_bits_deBruijn64tab), ("internal/strconv.uint64pow10", laid_internal_strconv_uint64pow10), ("strconv.ErrRange", laid_strconv_ErrRange), ("strconv.ErrSyntax", laid_strconv_ErrSyntax)], narrowed := true }
def NormOrderUptoSaid : Prop := normOrderUptoRow.holds Tryz.pinned (OpenSpec.upto normOrderSpec)

/-- 'pandectlaw14.NormOthers', WHERE WHAT IT READS IS OF BULK AT MOST 1048576: true; the input reads as it did. -/
def normOthersUptoRow : OpenClaim := { program := "ytaigepddkgpplaagreatdoor", sum := "f9f62d53ab0ab306909a0d510322ee9e8680589b91fb8d329a1582fd45a33700", func := "pandect/pandectlaw14.NormOthers", spec := "normOthers", inPlace := ["internal/bytealg.IndexByteString"], unfollowed := true, recurses := true, named := ["strconv.ErrSyntax", "strconv.ErrRange", "internal/strconv.uint64pow10", "math/bits.deBruijn32tab", "math/bits.deBruijn64tab"], loops := true, plainKeys := false, apart := false, laid := [("math/bits.deBruijn32tab", laid_math_bits_deBruijn32tab), ("math/bits.deBruijn64tab", laid_math_bits_deBruijn64tab), ("internal/strconv.uint64pow10", laid_internal_strconv_uint64pow10), ("strconv.ErrRange", laid_strconv_ErrRange), ("strconv.ErrSyntax", laid_strconv_ErrSyntax)], narrowed := true }
def NormOthersUptoSaid : Prop := normOthersUptoRow.holds Tryz.pinned (OpenSpec.upto normOthersSpec)

/-- 'pandectlaw14.NormCircles', WHERE WHAT IT READS IS OF BULK AT MOST 1048576: true; the input reads as it did. -/
def normCirclesUptoRow : OpenClaim := { program := "ytaigepddkgpplaagreatdoor", sum := "f9f62d53ab0ab306909a0d510322ee9e8680589b91fb8d329a1582fd45a33700", func := "pandect/pandectlaw14.NormCircles", spec := "normCircles", inPlace := ["internal/bytealg.IndexByteString"], unfollowed := true, recurses := true, named := ["strconv.ErrSyntax", "strconv.ErrRange", "internal/strconv.uint64pow10", "math/bits.deBruijn32tab", "math/bits.deBruijn64tab"], loops := true, plainKeys := false, apart := false, laid := [("math/bits.deBruijn32tab", laid_math_bits_deBruijn32tab), ("math/bits.deBruijn64tab", laid_math_bits_deBruijn64tab), ("internal/strconv.uint64pow10", laid_internal_strconv_uint64pow10), ("strconv.ErrRange", laid_strconv_ErrRange), ("strconv.ErrSyntax", laid_strconv_ErrSyntax)], narrowed := true }
def NormCirclesUptoSaid : Prop := normCirclesUptoRow.holds Tryz.pinned (OpenSpec.upto normCirclesSpec)

/-- 'pandectlaw14.NormChanges', WHERE WHAT IT READS IS OF BULK AT MOST 1048576: true; the input reads as it did. -/
def normChangesUptoRow : OpenClaim := { program := "ytaigepddkgpplaagreatdoor", sum := "f9f62d53ab0ab306909a0d510322ee9e8680589b91fb8d329a1582fd45a33700", func := "pandect/pandectlaw14.NormChanges", spec := "normChanges", inPlace := ["internal/bytealg.IndexByteString"], unfollowed := true, recurses := true, named := ["strconv.ErrSyntax", "strconv.ErrRange", "internal/strconv.uint64pow10", "math/bits.deBruijn32tab", "math/bits.deBruijn64tab"], loops := true, plainKeys := false, apart := false, laid := [("math/bits.deBruijn32tab", laid_math_bits_deBruijn32tab), ("math/bits.deBruijn64tab", laid_math_bits_deBruijn64tab), ("internal/strconv.uint64pow10", laid_internal_strconv_uint64pow10), ("strconv.ErrRange", laid_strconv_ErrRange), ("strconv.ErrSyntax", laid_strconv_ErrSyntax)], narrowed := true }
def NormChangesUptoSaid : Prop := normChangesUptoRow.holds Tryz.pinned (OpenSpec.upto normChangesSpec)

/-- 'pandectlaw14.NormFree', WHERE WHAT IT READS IS OF BULK AT MOST 1048576: true; the input reads as it did. -/
def normFreeUptoRow : OpenClaim := { program := "ytaigepddkgpplaagreatdoor", sum := "f9f62d53ab0ab306909a0d510322ee9e8680589b91fb8d329a1582fd45a33700", func := "pandect/pandectlaw14.NormFree", spec := "normFree", inPlace := ["internal/bytealg.IndexByteString"], unfollowed := true, recurses := true, named := ["strconv.ErrSyntax", "strconv.ErrRange", "internal/strconv.uint64pow10", "math/bits.deBruijn32tab", "math/bits.deBruijn64tab"], loops := true, plainKeys := false, apart := false, laid := [("math/bits.deBruijn32tab", laid_math_bits_deBruijn32tab), ("math/bits.deBruijn64tab", laid_math_bits_deBruijn64tab), ("internal/strconv.uint64pow10", laid_internal_strconv_uint64pow10), ("strconv.ErrRange", laid_strconv_ErrRange), ("strconv.ErrSyntax", laid_strconv_ErrSyntax)], narrowed := true }
def NormFreeUptoSaid : Prop := normFreeUptoRow.holds Tryz.pinned (OpenSpec.upto normFreeSpec)

/-- 'pandectlaw11.DiagramMatchesReference', WHERE WHAT IT READS IS OF BULK AT MOST 1048576: true; the input reads as it did. -/
def diagramMatchesReferenceUptoRow : OpenClaim := { program := "ytaigepddkgpplaagreatdoor", sum := "f9f62d53ab0ab306909a0d510322ee9e8680589b91fb8d329a1582fd45a33700", func := "pandect/pandectlaw11.DiagramMatchesReference", spec := "diagramMatchesReference", inPlace := ["internal/bytealg.IndexByteString", "internal/abi.NoEscape"], unfollowed := true, recurses := true, named := ["strconv.ErrSyntax", "strconv.ErrRange", "internal/strconv.uint64pow10", "math/bits.deBruijn32tab", "math/bits.deBruijn64tab"], loops := true, plainKeys := false, apart := false, laid := [("math/bits.deBruijn32tab", laid_math_bits_deBruijn32tab), ("math/bits.deBruijn64tab", laid_math_bits_deBruijn64tab), ("internal/strconv.uint64pow10", laid_internal_strconv_uint64pow10), ("strconv.ErrRange", laid_strconv_ErrRange), ("strconv.ErrSyntax", laid_strconv_ErrSyntax)], narrowed := true }
def DiagramMatchesReferenceUptoSaid : Prop := diagramMatchesReferenceUptoRow.holds Tryz.pinned (OpenSpec.upto diagramMatchesReferenceSpec)

/-- 'pandectlaw11.DiagramForm', WHERE WHAT IT READS IS OF BULK AT MOST 1048576: true; the input reads as it did. -/
def diagramFormUptoRow : OpenClaim := { program := "ytaigepddkgpplaagreatdoor", sum := "f9f62d53ab0ab306909a0d510322ee9e8680589b91fb8d329a1582fd45a33700", func := "pandect/pandectlaw11.DiagramForm", spec := "diagramForm", inPlace := ["internal/bytealg.IndexByteString", "internal/abi.NoEscape"], unfollowed := true, recurses := true, named := ["strconv.ErrSyntax", "strconv.ErrRange", "internal/strconv.uint64pow10", "math/bits.deBruijn32tab", "math/bits.deBruijn64tab"], loops := true, plainKeys := false, apart := false, laid := [("math/bits.deBruijn32tab", laid_math_bits_deBruijn32tab), ("math/bits.deBruijn64tab", laid_math_bits_deBruijn64tab), ("internal/strconv.uint64pow10", laid_internal_strconv_uint64pow10), ("strconv.ErrRange", laid_strconv_ErrRange), ("strconv.ErrSyntax", laid_strconv_ErrSyntax)], narrowed := true }
def DiagramFormUptoSaid : Prop := diagramFormUptoRow.holds Tryz.pinned (OpenSpec.upto diagramFormSpec)

/-- 'pandectlaw11.DiagramRefuses', WHERE WHAT IT READS IS OF BULK AT MOST 1048576: true; the input reads as it did. -/
def diagramRefusesUptoRow : OpenClaim := { program := "ytaigepddkgpplaagreatdoor", sum := "f9f62d53ab0ab306909a0d510322ee9e8680589b91fb8d329a1582fd45a33700", func := "pandect/pandectlaw11.DiagramRefuses", spec := "diagramRefuses", inPlace := ["internal/bytealg.IndexByteString", "internal/abi.NoEscape"], unfollowed := true, recurses := true, named := ["strconv.ErrSyntax", "strconv.ErrRange", "internal/strconv.uint64pow10", "math/bits.deBruijn32tab", "math/bits.deBruijn64tab"], plainKeys := false, apart := false, laid := [("math/bits.deBruijn32tab", laid_math_bits_deBruijn32tab), ("math/bits.deBruijn64tab", laid_math_bits_deBruijn64tab), ("internal/strconv.uint64pow10", laid_internal_strconv_uint64pow10), ("strconv.ErrRange", laid_strconv_ErrRange), ("strconv.ErrSyntax", laid_strconv_ErrSyntax)], narrowed := true }
def DiagramRefusesUptoSaid : Prop := diagramRefusesUptoRow.holds Tryz.pinned (OpenSpec.upto diagramRefusesSpec)

/-- 'pandectlaw11.DiagramJoins', WHERE WHAT IT READS IS OF BULK AT MOST 1048576: true; the input reads as it did. -/
def diagramJoinsUptoRow : OpenClaim := { program := "ytaigepddkgpplaagreatdoor", sum := "f9f62d53ab0ab306909a0d510322ee9e8680589b91fb8d329a1582fd45a33700", func := "pandect/pandectlaw11.DiagramJoins", spec := "diagramJoins", inPlace := ["internal/bytealg.IndexByteString", "internal/abi.NoEscape"], unfollowed := true, recurses := true, named := ["strconv.ErrSyntax", "strconv.ErrRange", "internal/strconv.uint64pow10", "math/bits.deBruijn32tab", "math/bits.deBruijn64tab"], loops := true, plainKeys := false, apart := false, laid := [("math/bits.deBruijn32tab", laid_math_bits_deBruijn32tab), ("math/bits.deBruijn64tab", laid_math_bits_deBruijn64tab), ("internal/strconv.uint64pow10", laid_internal_strconv_uint64pow10), ("strconv.ErrRange", laid_strconv_ErrRange), ("strconv.ErrSyntax", laid_strconv_ErrSyntax)], narrowed := true }
def DiagramJoinsUptoSaid : Prop := diagramJoinsUptoRow.holds Tryz.pinned (OpenSpec.upto diagramJoinsSpec)

/-- 'pandectlaw11.DiagramEquals', WHERE WHAT IT READS IS OF BULK AT MOST 1048576: true; the input reads as it did. -/
def diagramEqualsUptoRow : OpenClaim := { program := "ytaigepddkgpplaagreatdoor", sum := "f9f62d53ab0ab306909a0d510322ee9e8680589b91fb8d329a1582fd45a33700", func := "pandect/pandectlaw11.DiagramEquals", spec := "diagramEquals", inPlace := ["internal/bytealg.IndexByteString", "internal/abi.NoEscape"], unfollowed := true, recurses := true, named := ["strconv.ErrSyntax", "strconv.ErrRange", "internal/strconv.uint64pow10", "math/bits.deBruijn32tab", "math/bits.deBruijn64tab"], loops := true, plainKeys := false, apart := false, laid := [("math/bits.deBruijn32tab", laid_math_bits_deBruijn32tab), ("math/bits.deBruijn64tab", laid_math_bits_deBruijn64tab), ("internal/strconv.uint64pow10", laid_internal_strconv_uint64pow10), ("strconv.ErrRange", laid_strconv_ErrRange), ("strconv.ErrSyntax", laid_strconv_ErrSyntax)], narrowed := true }
def DiagramEqualsUptoSaid : Prop := diagramEqualsUptoRow.holds Tryz.pinned (OpenSpec.upto diagramEqualsSpec)

end Rows
end Go.Proofs.YtaigepddkgpplaaGreatDoor
