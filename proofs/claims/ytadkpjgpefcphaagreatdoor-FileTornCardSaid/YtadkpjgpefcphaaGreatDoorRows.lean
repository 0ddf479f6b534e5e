/-
  NARROWER THAN 'FOR EVERY INPUT', by the rows' own cells (each row's printed sentence says how): FileYears: loops, laid · FileParses: laid · FileCopies: loops, laid · FileJoined: laid · FileGrown: laid · FileNodes: loops, laid · FilePut: laid · FileChanges: loops, laid · FileAfter: laid · FileMade: laid · FileTold: laid · FileComposed: laid · FileSmall: laid · FileTorn: laid.
  DERIVED. THE GIVEN ROWS OF THIS SEAT. 14 by the template 'for every input the law returns true; each argument reads behind the call as it read before'; 0 by the template 'total and deterministic' (their statements: YtadkpjgpefcphaaGreatDoorTotals.lean).
  GIVEN WITH THE SEED: the statements are not yours to turn. If you find one false, say at which input.
  Laid BY PROGRAM, IN A SANDBOX (cutbox-rows.mjs): the forced cells as the released guide's own fill.sh prints them over the translation e2beff68a24f91e8… (all of the seat's roots in one cut). By AI agents, Wed Nov 11 2026. No macro, syntax, notation, axiom, sorry.
-/
import Derived.Test.YtadkpjgpefcphaaGreatDoorChecked
import GoSem.PinnedTables
import GoSem.Claim
import GoSem.ClaimJoined
import GoSem.ClaimMapViews
import Derived.JoinedTies
import Derived.KernelRfl
namespace Go.Proofs.YtadkpjgpefcphaaGreatDoor
/- THE CELL 'sum', in the pinned program and in every row, IS THE sha256 OF THE DUMP (.gsa) THAT YtadkpjgpefcphaaGreatDoorProg.lean LOADS. Nothing in Lean hashes anything: it is a label: what it is worth is what the hold of that sum in a sandbox is worth. -/
noncomputable def Tryz.pinned : Pinned := { name := "ytadkpjgpefcphaagreatdoor", sum := "e2beff68a24f91e87daa2773d7f4fd82cc96b655d2e3f5818abd7ae9bc15fcf2", checked := Tryz.checked }
namespace Rows
def none {H : Type} : Left H := { results := [], args := [] }

/- WHAT THE LISTED PACKAGE-LEVEL VARIABLES READ AS WHEN THE CALL BEGINS. Each datum BY PROGRAM (the guide's laid-datum.mjs) off the statement by which the dump's own 'gosem.cut.vars' lays the variable. In a bare row this is a premise. The card (YtadkpjgpefcphaaGreatDoorCards.lean) ties it to the program's text. -/
def laid_math_bits_deBruijn32tab {H : Type} : DataW H := .agg [.lit (.int .u8 0), .lit (.int .u8 1), .lit (.int .u8 28), .lit (.int .u8 2), .lit (.int .u8 29), .lit (.int .u8 14), .lit (.int .u8 24), .lit (.int .u8 3), .lit (.int .u8 30), .lit (.int .u8 22), .lit (.int .u8 20), .lit (.int .u8 15), .lit (.int .u8 25), .lit (.int .u8 17), .lit (.int .u8 4), .lit (.int .u8 8), .lit (.int .u8 31), .lit (.int .u8 27), .lit (.int .u8 13), .lit (.int .u8 23), .lit (.int .u8 21), .lit (.int .u8 19), .lit (.int .u8 16), .lit (.int .u8 7), .lit (.int .u8 26), .lit (.int .u8 12), .lit (.int .u8 18), .lit (.int .u8 6), .lit (.int .u8 11), .lit (.int .u8 5), .lit (.int .u8 10), .lit (.int .u8 9)]
def laid_math_bits_deBruijn64tab {H : Type} : DataW H := .agg [.lit (.int .u8 0), .lit (.int .u8 1), .lit (.int .u8 56), .lit (.int .u8 2), .lit (.int .u8 57), .lit (.int .u8 49), .lit (.int .u8 28), .lit (.int .u8 3), .lit (.int .u8 61), .lit (.int .u8 58), .lit (.int .u8 42), .lit (.int .u8 50), .lit (.int .u8 38), .lit (.int .u8 29), .lit (.int .u8 17), .lit (.int .u8 4), .lit (.int .u8 62), .lit (.int .u8 47), .lit (.int .u8 59), .lit (.int .u8 36), .lit (.int .u8 45), .lit (.int .u8 43), .lit (.int .u8 51), .lit (.int .u8 22), .lit (.int .u8 53), .lit (.int .u8 39), .lit (.int .u8 33), .lit (.int .u8 30), .lit (.int .u8 24), .lit (.int .u8 18), .lit (.int .u8 12), .lit (.int .u8 5), .lit (.int .u8 63), .lit (.int .u8 55), .lit (.int .u8 48), .lit (.int .u8 27), .lit (.int .u8 60), .lit (.int .u8 41), .lit (.int .u8 37), .lit (.int .u8 16), .lit (.int .u8 46), .lit (.int .u8 35), .lit (.int .u8 44), .lit (.int .u8 21), .lit (.int .u8 52), .lit (.int .u8 32), .lit (.int .u8 23), .lit (.int .u8 11), .lit (.int .u8 54), .lit (.int .u8 26), .lit (.int .u8 40), .lit (.int .u8 15), .lit (.int .u8 34), .lit (.int .u8 20), .lit (.int .u8 31), .lit (.int .u8 10), .lit (.int .u8 25), .lit (.int .u8 14), .lit (.int .u8 19), .lit (.int .u8 9), .lit (.int .u8 13), .lit (.int .u8 8), .lit (.int .u8 7), .lit (.int .u8 6)]
def laid_internal_strconv_uint64pow10 {H : Type} : DataW H := .agg [.lit (.int .u64 1), .lit (.int .u64 10), .lit (.int .u64 100), .lit (.int .u64 1000), .lit (.int .u64 10000), .lit (.int .u64 100000), .lit (.int .u64 1000000), .lit (.int .u64 10000000), .lit (.int .u64 100000000), .lit (.int .u64 1000000000), .lit (.int .u64 10000000000), .lit (.int .u64 100000000000), .lit (.int .u64 1000000000000), .lit (.int .u64 10000000000000), .lit (.int .u64 100000000000000), .lit (.int .u64 1000000000000000), .lit (.int .u64 10000000000000000), .lit (.int .u64 100000000000000000), .lit (.int .u64 1000000000000000000), .lit (.int .u64 10000000000000000000)]
def laid_strconv_ErrRange {H : Type} : DataW H := .iface "*errors.errorString" (.ptr (.agg [.lit (.string [118, 97, 108, 117, 101, 32, 111, 117, 116, 32, 111, 102, 32, 114, 97, 110, 103, 101])]))
def laid_strconv_ErrSyntax {H : Type} : DataW H := .iface "*errors.errorString" (.ptr (.agg [.lit (.string [105, 110, 118, 97, 108, 105, 100, 32, 115, 121, 110, 116, 97, 120])]))
def laid_unicode_utf8_acceptRanges {H : Type} : DataW H := .agg [.agg [.lit (.int .u8 128), .lit (.int .u8 191)], .agg [.lit (.int .u8 160), .lit (.int .u8 191)], .agg [.lit (.int .u8 128), .lit (.int .u8 159)], .agg [.lit (.int .u8 144), .lit (.int .u8 191)], .agg [.lit (.int .u8 128), .lit (.int .u8 143)], .agg [.lit (.int .u8 0), .lit (.int .u8 0)], .agg [.lit (.int .u8 0), .lit (.int .u8 0)], .agg [.lit (.int .u8 0), .lit (.int .u8 0)], .agg [.lit (.int .u8 0), .lit (.int .u8 0)], .agg [.lit (.int .u8 0), .lit (.int .u8 0)], .agg [.lit (.int .u8 0), .lit (.int .u8 0)], .agg [.lit (.int .u8 0), .lit (.int .u8 0)], .agg [.lit (.int .u8 0), .lit (.int .u8 0)], .agg [.lit (.int .u8 0), .lit (.int .u8 0)], .agg [.lit (.int .u8 0), .lit (.int .u8 0)], .agg [.lit (.int .u8 0), .lit (.int .u8 0)]]
/-- One of Go's own tables, pinned by name: the form's constant. -/
def laid_unicode_utf8_first : DataW Unit := Go.Pinned.utf8First

/-- 'laurellaw11.FileYears': WHATEVER THE INPUT: true; the input reads as it did. -/
def fileYearsSpec : ChangeSpec := { name := "fileYears", fn := fun _ => fun
  | [d] => { results := [.lit (.bool true)], args := [d] }
  | _ => none }
def fileYearsRow : OpenClaim := { program := "ytadkpjgpefcphaagreatdoor", sum := "e2beff68a24f91e87daa2773d7f4fd82cc96b655d2e3f5818abd7ae9bc15fcf2", func := "laurel/laurellaw11.FileYears", spec := "fileYears", inPlace := ["internal/abi.NoEscape", "internal/bytealg.MakeNoZero", "slices.overlaps[laurel/file.Node]"], unfollowed := true, recurses := true, named := ["internal/strconv.uint64pow10", "math/bits.deBruijn32tab", "math/bits.deBruijn64tab", "strconv.ErrSyntax", "strconv.ErrRange"], loops := true, apart := false, laid := [("math/bits.deBruijn32tab", laid_math_bits_deBruijn32tab), ("math/bits.deBruijn64tab", laid_math_bits_deBruijn64tab), ("internal/strconv.uint64pow10", laid_internal_strconv_uint64pow10), ("strconv.ErrRange", laid_strconv_ErrRange), ("strconv.ErrSyntax", laid_strconv_ErrSyntax)] }
def FileYearsSaid : Prop := fileYearsRow.holds Tryz.pinned (OpenSpec.ofChange fileYearsSpec)

/-- ITS FALSE NEIGHBOUR: 'it returns false'. Refute it at one input. -/
def fileYearsWrong : ChangeSpec := { name := "fileYears", fn := fun _ => fun
  | [d] => { results := [.lit (.bool false)], args := [d] }
  | _ => none }
def FileYearsWrongFalsely : Prop := fileYearsRow.holds Tryz.pinned (OpenSpec.ofChange fileYearsWrong)

/-- 'laurellaw11.FileParses': WHATEVER THE INPUT: true; the input reads as it did. -/
def fileParsesSpec : ChangeSpec := { name := "fileParses", fn := fun _ => fun
  | [d] => { results := [.lit (.bool true)], args := [d] }
  | _ => none }
def fileParsesRow : OpenClaim := { program := "ytadkpjgpefcphaagreatdoor", sum := "e2beff68a24f91e87daa2773d7f4fd82cc96b655d2e3f5818abd7ae9bc15fcf2", func := "laurel/laurellaw11.FileParses", spec := "fileParses", inPlace := ["internal/abi.NoEscape", "internal/bytealg.MakeNoZero", "slices.overlaps[laurel/file.Node]"], unfollowed := true, recurses := true, named := ["internal/strconv.uint64pow10", "math/bits.deBruijn32tab", "math/bits.deBruijn64tab", "strconv.ErrSyntax", "strconv.ErrRange"], apart := false, laid := [("math/bits.deBruijn32tab", laid_math_bits_deBruijn32tab), ("math/bits.deBruijn64tab", laid_math_bits_deBruijn64tab), ("internal/strconv.uint64pow10", laid_internal_strconv_uint64pow10), ("strconv.ErrRange", laid_strconv_ErrRange), ("strconv.ErrSyntax", laid_strconv_ErrSyntax)] }
def FileParsesSaid : Prop := fileParsesRow.holds Tryz.pinned (OpenSpec.ofChange fileParsesSpec)

/-- ITS FALSE NEIGHBOUR: 'it returns false'. Refute it at one input. -/
def fileParsesWrong : ChangeSpec := { name := "fileParses", fn := fun _ => fun
  | [d] => { results := [.lit (.bool false)], args := [d] }
  | _ => none }
def FileParsesWrongFalsely : Prop := fileParsesRow.holds Tryz.pinned (OpenSpec.ofChange fileParsesWrong)

/-- 'laurellaw11.FileCopies': WHATEVER THE INPUT: true; the input reads as it did. -/
def fileCopiesSpec : ChangeSpec := { name := "fileCopies", fn := fun _ => fun
  | [d1, d2, d3] => { results := [.lit (.bool true)], args := [d1, d2, d3] }
  | _ => none }
def fileCopiesRow : OpenClaim := { program := "ytadkpjgpefcphaagreatdoor", sum := "e2beff68a24f91e87daa2773d7f4fd82cc96b655d2e3f5818abd7ae9bc15fcf2", func := "laurel/laurellaw11.FileCopies", spec := "fileCopies", inPlace := ["internal/abi.NoEscape", "internal/bytealg.MakeNoZero", "slices.overlaps[laurel/file.Node]"], unfollowed := true, recurses := true, named := ["internal/strconv.uint64pow10", "math/bits.deBruijn32tab", "math/bits.deBruijn64tab", "strconv.ErrSyntax", "strconv.ErrRange"], loops := true, apart := false, laid := [("math/bits.deBruijn32tab", laid_math_bits_deBruijn32tab), ("math/bits.deBruijn64tab", laid_math_bits_deBruijn64tab), ("internal/strconv.uint64pow10", laid_internal_strconv_uint64pow10), ("strconv.ErrRange", laid_strconv_ErrRange), ("strconv.ErrSyntax", laid_strconv_ErrSyntax)] }
def FileCopiesSaid : Prop := fileCopiesRow.holds Tryz.pinned (OpenSpec.ofChange fileCopiesSpec)

/-- ITS FALSE NEIGHBOUR: 'it returns false'. Refute it at one input. -/
def fileCopiesWrong : ChangeSpec := { name := "fileCopies", fn := fun _ => fun
  | [d1, d2, d3] => { results := [.lit (.bool false)], args := [d1, d2, d3] }
  | _ => none }
def FileCopiesWrongFalsely : Prop := fileCopiesRow.holds Tryz.pinned (OpenSpec.ofChange fileCopiesWrong)

/-- 'laurellaw11.FileJoined': WHATEVER THE INPUT: true; the input reads as it did. -/
def fileJoinedSpec : ChangeSpec := { name := "fileJoined", fn := fun _ => fun
  | [d1, d2, d3] => { results := [.lit (.bool true)], args := [d1, d2, d3] }
  | _ => none }
def fileJoinedRow : OpenClaim := { program := "ytadkpjgpefcphaagreatdoor", sum := "e2beff68a24f91e87daa2773d7f4fd82cc96b655d2e3f5818abd7ae9bc15fcf2", func := "laurel/laurellaw11.FileJoined", spec := "fileJoined", inPlace := ["internal/abi.NoEscape", "internal/bytealg.MakeNoZero", "slices.overlaps[laurel/file.Node]"], unfollowed := true, recurses := true, named := ["internal/strconv.uint64pow10", "math/bits.deBruijn32tab", "math/bits.deBruijn64tab", "strconv.ErrSyntax", "strconv.ErrRange"], apart := false, laid := [("math/bits.deBruijn32tab", laid_math_bits_deBruijn32tab), ("math/bits.deBruijn64tab", laid_math_bits_deBruijn64tab), ("internal/strconv.uint64pow10", laid_internal_strconv_uint64pow10), ("strconv.ErrRange", laid_strconv_ErrRange), ("strconv.ErrSyntax", laid_strconv_ErrSyntax)] }
def FileJoinedSaid : Prop := fileJoinedRow.holds Tryz.pinned (OpenSpec.ofChange fileJoinedSpec)

/-- ITS FALSE NEIGHBOUR: 'it returns false'. Refute it at one input. -/
def fileJoinedWrong : ChangeSpec := { name := "fileJoined", fn := fun _ => fun
  | [d1, d2, d3] => { results := [.lit (.bool false)], args := [d1, d2, d3] }
  | _ => none }
def FileJoinedWrongFalsely : Prop := fileJoinedRow.holds Tryz.pinned (OpenSpec.ofChange fileJoinedWrong)

/-- 'laurellaw11.FileGrown': WHATEVER THE INPUT: true; the input reads as it did. -/
def fileGrownSpec : ChangeSpec := { name := "fileGrown", fn := fun _ => fun
  | [d1, d2, d3] => { results := [.lit (.bool true)], args := [d1, d2, d3] }
  | _ => none }
def fileGrownRow : OpenClaim := { program := "ytadkpjgpefcphaagreatdoor", sum := "e2beff68a24f91e87daa2773d7f4fd82cc96b655d2e3f5818abd7ae9bc15fcf2", func := "laurel/laurellaw11.FileGrown", spec := "fileGrown", inPlace := ["internal/abi.NoEscape", "internal/bytealg.MakeNoZero", "slices.overlaps[laurel/file.Node]"], unfollowed := true, recurses := true, named := ["internal/strconv.uint64pow10", "math/bits.deBruijn32tab", "math/bits.deBruijn64tab", "strconv.ErrSyntax", "strconv.ErrRange"], apart := false, laid := [("math/bits.deBruijn32tab", laid_math_bits_deBruijn32tab), ("math/bits.deBruijn64tab", laid_math_bits_deBruijn64tab), ("internal/strconv.uint64pow10", laid_internal_strconv_uint64pow10), ("strconv.ErrRange", laid_strconv_ErrRange), ("strconv.ErrSyntax", laid_strconv_ErrSyntax)] }
def FileGrownSaid : Prop := fileGrownRow.holds Tryz.pinned (OpenSpec.ofChange fileGrownSpec)

/-- ITS FALSE NEIGHBOUR: 'it returns false'. Refute it at one input. -/
def fileGrownWrong : ChangeSpec := { name := "fileGrown", fn := fun _ => fun
  | [d1, d2, d3] => { results := [.lit (.bool false)], args := [d1, d2, d3] }
  | _ => none }
def FileGrownWrongFalsely : Prop := fileGrownRow.holds Tryz.pinned (OpenSpec.ofChange fileGrownWrong)

/-- 'laurellaw11.FileNodes': WHATEVER THE INPUT: true; the input reads as it did. -/
def fileNodesSpec : ChangeSpec := { name := "fileNodes", fn := fun _ => fun
  | [d1, d2, d3, d4] => { results := [.lit (.bool true)], args := [d1, d2, d3, d4] }
  | _ => none }
def fileNodesRow : OpenClaim := { program := "ytadkpjgpefcphaagreatdoor", sum := "e2beff68a24f91e87daa2773d7f4fd82cc96b655d2e3f5818abd7ae9bc15fcf2", func := "laurel/laurellaw11.FileNodes", spec := "fileNodes", inPlace := ["internal/abi.NoEscape", "internal/bytealg.MakeNoZero", "slices.overlaps[laurel/file.Node]"], unfollowed := true, recurses := true, named := ["internal/strconv.uint64pow10", "math/bits.deBruijn32tab", "math/bits.deBruijn64tab", "strconv.ErrSyntax", "strconv.ErrRange"], loops := true, apart := false, laid := [("math/bits.deBruijn32tab", laid_math_bits_deBruijn32tab), ("math/bits.deBruijn64tab", laid_math_bits_deBruijn64tab), ("internal/strconv.uint64pow10", laid_internal_strconv_uint64pow10), ("strconv.ErrRange", laid_strconv_ErrRange), ("strconv.ErrSyntax", laid_strconv_ErrSyntax)] }
def FileNodesSaid : Prop := fileNodesRow.holds Tryz.pinned (OpenSpec.ofChange fileNodesSpec)

/-- ITS FALSE NEIGHBOUR: 'it returns false'. Refute it at one input. -/
def fileNodesWrong : ChangeSpec := { name := "fileNodes", fn := fun _ => fun
  | [d1, d2, d3, d4] => { results := [.lit (.bool false)], args := [d1, d2, d3, d4] }
  | _ => none }
def FileNodesWrongFalsely : Prop := fileNodesRow.holds Tryz.pinned (OpenSpec.ofChange fileNodesWrong)

/-- 'laurellaw11.FilePut': WHATEVER THE INPUT: true; the input reads as it did. -/
def filePutSpec : ChangeSpec := { name := "filePut", fn := fun _ => fun
  | [d1, d2, d3] => { results := [.lit (.bool true)], args := [d1, d2, d3] }
  | _ => none }
def filePutRow : OpenClaim := { program := "ytadkpjgpefcphaagreatdoor", sum := "e2beff68a24f91e87daa2773d7f4fd82cc96b655d2e3f5818abd7ae9bc15fcf2", func := "laurel/laurellaw11.FilePut", spec := "filePut", inPlace := ["slices.overlaps[laurel/file.Node]", "internal/abi.NoEscape", "internal/bytealg.MakeNoZero"], unfollowed := true, recurses := true, named := ["internal/strconv.uint64pow10", "math/bits.deBruijn32tab", "math/bits.deBruijn64tab", "strconv.ErrSyntax", "strconv.ErrRange"], apart := false, laid := [("math/bits.deBruijn32tab", laid_math_bits_deBruijn32tab), ("math/bits.deBruijn64tab", laid_math_bits_deBruijn64tab), ("internal/strconv.uint64pow10", laid_internal_strconv_uint64pow10), ("strconv.ErrRange", laid_strconv_ErrRange), ("strconv.ErrSyntax", laid_strconv_ErrSyntax)] }
def FilePutSaid : Prop := filePutRow.holds Tryz.pinned (OpenSpec.ofChange filePutSpec)

/-- ITS FALSE NEIGHBOUR: 'it returns false'. Refute it at one input. -/
def filePutWrong : ChangeSpec := { name := "filePut", fn := fun _ => fun
  | [d1, d2, d3] => { results := [.lit (.bool false)], args := [d1, d2, d3] }
  | _ => none }
def FilePutWrongFalsely : Prop := filePutRow.holds Tryz.pinned (OpenSpec.ofChange filePutWrong)

/-- 'laurellaw11.FileChanges': WHATEVER THE INPUT: true; the input reads as it did. -/
def fileChangesSpec : ChangeSpec := { name := "fileChanges", fn := fun _ => fun
  | [d1, d2, d3] => { results := [.lit (.bool true)], args := [d1, d2, d3] }
  | _ => none }
def fileChangesRow : OpenClaim := { program := "ytadkpjgpefcphaagreatdoor", sum := "e2beff68a24f91e87daa2773d7f4fd82cc96b655d2e3f5818abd7ae9bc15fcf2", func := "laurel/laurellaw11.FileChanges", spec := "fileChanges", inPlace := ["internal/abi.NoEscape", "internal/bytealg.MakeNoZero", "slices.overlaps[laurel/file.Node]"], unfollowed := true, recurses := true, named := ["internal/strconv.uint64pow10", "math/bits.deBruijn32tab", "math/bits.deBruijn64tab", "strconv.ErrSyntax", "strconv.ErrRange"], loops := true, apart := false, laid := [("math/bits.deBruijn32tab", laid_math_bits_deBruijn32tab), ("math/bits.deBruijn64tab", laid_math_bits_deBruijn64tab), ("internal/strconv.uint64pow10", laid_internal_strconv_uint64pow10), ("strconv.ErrRange", laid_strconv_ErrRange), ("strconv.ErrSyntax", laid_strconv_ErrSyntax)] }
def FileChangesSaid : Prop := fileChangesRow.holds Tryz.pinned (OpenSpec.ofChange fileChangesSpec)

/-- ITS FALSE NEIGHBOUR: 'it returns false'. Refute it at one input. -/
def fileChangesWrong : ChangeSpec := { name := "fileChanges", fn := fun _ => fun
  | [d1, d2, d3] => { results := [.lit (.bool false)], args := [d1, d2, d3] }
  | _ => none }
def FileChangesWrongFalsely : Prop := fileChangesRow.holds Tryz.pinned (OpenSpec.ofChange fileChangesWrong)

/-- 'laurellaw11.FileAfter': WHATEVER THE INPUT: true; the input reads as it did. -/
def fileAfterSpec : ChangeSpec := { name := "fileAfter", fn := fun _ => fun
  | [d1, d2] => { results := [.lit (.bool true)], args := [d1, d2] }
  | _ => none }
def fileAfterRow : OpenClaim := { program := "ytadkpjgpefcphaagreatdoor", sum := "e2beff68a24f91e87daa2773d7f4fd82cc96b655d2e3f5818abd7ae9bc15fcf2", func := "laurel/laurellaw11.FileAfter", spec := "fileAfter", inPlace := ["internal/abi.NoEscape", "internal/bytealg.MakeNoZero", "slices.overlaps[laurel/file.Node]"], unfollowed := true, recurses := true, named := ["internal/strconv.uint64pow10", "math/bits.deBruijn32tab", "math/bits.deBruijn64tab", "strconv.ErrSyntax", "strconv.ErrRange"], apart := false, laid := [("math/bits.deBruijn32tab", laid_math_bits_deBruijn32tab), ("math/bits.deBruijn64tab", laid_math_bits_deBruijn64tab), ("internal/strconv.uint64pow10", laid_internal_strconv_uint64pow10), ("strconv.ErrRange", laid_strconv_ErrRange), ("strconv.ErrSyntax", laid_strconv_ErrSyntax)] }
def FileAfterSaid : Prop := fileAfterRow.holds Tryz.pinned (OpenSpec.ofChange fileAfterSpec)

/-- ITS FALSE NEIGHBOUR: 'it returns false'. Refute it at one input. -/
def fileAfterWrong : ChangeSpec := { name := "fileAfter", fn := fun _ => fun
  | [d1, d2] => { results := [.lit (.bool false)], args := [d1, d2] }
  | _ => none }
def FileAfterWrongFalsely : Prop := fileAfterRow.holds Tryz.pinned (OpenSpec.ofChange fileAfterWrong)

/-- 'laurellaw11.FileMade': WHATEVER THE INPUT: true; the input reads as it did. -/
def fileMadeSpec : ChangeSpec := { name := "fileMade", fn := fun _ => fun
  | [d1, d2] => { results := [.lit (.bool true)], args := [d1, d2] }
  | _ => none }
def fileMadeRow : OpenClaim := { program := "ytadkpjgpefcphaagreatdoor", sum := "e2beff68a24f91e87daa2773d7f4fd82cc96b655d2e3f5818abd7ae9bc15fcf2", func := "laurel/laurellaw11.FileMade", spec := "fileMade", inPlace := ["internal/abi.NoEscape", "internal/bytealg.MakeNoZero", "slices.overlaps[laurel/file.Node]"], unfollowed := true, recurses := true, named := ["internal/strconv.uint64pow10", "math/bits.deBruijn32tab", "math/bits.deBruijn64tab", "strconv.ErrSyntax", "strconv.ErrRange"], apart := false, laid := [("math/bits.deBruijn32tab", laid_math_bits_deBruijn32tab), ("math/bits.deBruijn64tab", laid_math_bits_deBruijn64tab), ("internal/strconv.uint64pow10", laid_internal_strconv_uint64pow10), ("strconv.ErrRange", laid_strconv_ErrRange), ("strconv.ErrSyntax", laid_strconv_ErrSyntax)] }
def FileMadeSaid : Prop := fileMadeRow.holds Tryz.pinned (OpenSpec.ofChange fileMadeSpec)

/-- ITS FALSE NEIGHBOUR: 'it returns false'. Refute it at one input. -/
def fileMadeWrong : ChangeSpec := { name := "fileMade", fn := fun _ => fun
  | [d1, d2] => { results := [.lit (.bool false)], args := [d1, d2] }
  | _ => none }
def FileMadeWrongFalsely : Prop := fileMadeRow.holds Tryz.pinned (OpenSpec.ofChange fileMadeWrong)

/-- 'laurellaw11.FileTold': WHATEVER THE INPUT: true; the input reads as it did. -/
def fileToldSpec : ChangeSpec := { name := "fileTold", fn := fun _ => fun
  | [d1, d2, d3] => { results := [.lit (.bool true)], args := [d1, d2, d3] }
  | _ => none }
def fileToldRow : OpenClaim := { program := "ytadkpjgpefcphaagreatdoor", sum := "e2beff68a24f91e87daa2773d7f4fd82cc96b655d2e3f5818abd7ae9bc15fcf2", func := "laurel/laurellaw11.FileTold", spec := "fileTold", inPlace := ["internal/abi.NoEscape", "internal/bytealg.MakeNoZero", "slices.overlaps[laurel/file.Node]"], unfollowed := true, recurses := true, named := ["internal/strconv.uint64pow10", "math/bits.deBruijn32tab", "math/bits.deBruijn64tab", "strconv.ErrSyntax", "strconv.ErrRange"], apart := false, laid := [("math/bits.deBruijn32tab", laid_math_bits_deBruijn32tab), ("math/bits.deBruijn64tab", laid_math_bits_deBruijn64tab), ("internal/strconv.uint64pow10", laid_internal_strconv_uint64pow10), ("strconv.ErrRange", laid_strconv_ErrRange), ("strconv.ErrSyntax", laid_strconv_ErrSyntax)] }
def FileToldSaid : Prop := fileToldRow.holds Tryz.pinned (OpenSpec.ofChange fileToldSpec)

/-- ITS FALSE NEIGHBOUR: 'it returns false'. Refute it at one input. -/
def fileToldWrong : ChangeSpec := { name := "fileTold", fn := fun _ => fun
  | [d1, d2, d3] => { results := [.lit (.bool false)], args := [d1, d2, d3] }
  | _ => none }
def FileToldWrongFalsely : Prop := fileToldRow.holds Tryz.pinned (OpenSpec.ofChange fileToldWrong)

/-- 'laurellaw11.FileComposed': WHATEVER THE INPUT: true; the input reads as it did. -/
def fileComposedSpec : ChangeSpec := { name := "fileComposed", fn := fun _ => fun
  | [d1, d2, d3] => { results := [.lit (.bool true)], args := [d1, d2, d3] }
  | _ => none }
def fileComposedRow : OpenClaim := { program := "ytadkpjgpefcphaagreatdoor", sum := "e2beff68a24f91e87daa2773d7f4fd82cc96b655d2e3f5818abd7ae9bc15fcf2", func := "laurel/laurellaw11.FileComposed", spec := "fileComposed", inPlace := ["internal/abi.NoEscape", "internal/bytealg.MakeNoZero", "slices.overlaps[laurel/file.Node]"], unfollowed := true, recurses := true, named := ["internal/strconv.uint64pow10", "math/bits.deBruijn32tab", "math/bits.deBruijn64tab", "strconv.ErrSyntax", "strconv.ErrRange"], apart := false, laid := [("math/bits.deBruijn32tab", laid_math_bits_deBruijn32tab), ("math/bits.deBruijn64tab", laid_math_bits_deBruijn64tab), ("internal/strconv.uint64pow10", laid_internal_strconv_uint64pow10), ("strconv.ErrRange", laid_strconv_ErrRange), ("strconv.ErrSyntax", laid_strconv_ErrSyntax)] }
def FileComposedSaid : Prop := fileComposedRow.holds Tryz.pinned (OpenSpec.ofChange fileComposedSpec)

/-- ITS FALSE NEIGHBOUR: 'it returns false'. Refute it at one input. -/
def fileComposedWrong : ChangeSpec := { name := "fileComposed", fn := fun _ => fun
  | [d1, d2, d3] => { results := [.lit (.bool false)], args := [d1, d2, d3] }
  | _ => none }
def FileComposedWrongFalsely : Prop := fileComposedRow.holds Tryz.pinned (OpenSpec.ofChange fileComposedWrong)

/-- 'laurellaw11.FileSmall': WHATEVER THE INPUT: true; the input reads as it did. -/
def fileSmallSpec : ChangeSpec := { name := "fileSmall", fn := fun _ => fun
  | [] => { results := [.lit (.bool true)], args := [] }
  | _ => none }
def fileSmallRow : OpenClaim := { program := "ytadkpjgpefcphaagreatdoor", sum := "e2beff68a24f91e87daa2773d7f4fd82cc96b655d2e3f5818abd7ae9bc15fcf2", func := "laurel/laurellaw11.FileSmall", spec := "fileSmall", inPlace := ["internal/abi.NoEscape", "internal/bytealg.MakeNoZero", "slices.overlaps[laurel/file.Node]"], unfollowed := true, recurses := true, named := ["internal/strconv.uint64pow10", "math/bits.deBruijn32tab", "math/bits.deBruijn64tab", "strconv.ErrSyntax", "strconv.ErrRange"], apart := false, laid := [("math/bits.deBruijn32tab", laid_math_bits_deBruijn32tab), ("math/bits.deBruijn64tab", laid_math_bits_deBruijn64tab), ("internal/strconv.uint64pow10", laid_internal_strconv_uint64pow10), ("strconv.ErrRange", laid_strconv_ErrRange), ("strconv.ErrSyntax", laid_strconv_ErrSyntax)] }
def FileSmallSaid : Prop := fileSmallRow.holds Tryz.pinned (OpenSpec.ofChange fileSmallSpec)

/-- ITS FALSE NEIGHBOUR: 'it returns false'. Refute it at one input. -/
def fileSmallWrong : ChangeSpec := { name := "fileSmall", fn := fun _ => fun
  | [] => { results := [.lit (.bool false)], args := [] }
  | _ => none }
def FileSmallWrongFalsely : Prop := fileSmallRow.holds Tryz.pinned (OpenSpec.ofChange fileSmallWrong)

/-- 'laurellaw11.FileTorn': WHATEVER THE INPUT: true; the input reads as it did. -/
def fileTornSpec : ChangeSpec := { name := "fileTorn", fn := fun _ => fun
  | [d1, d2, d3] => { results := [.lit (.bool true)], args := [d1, d2, d3] }
  | _ => none }
def fileTornRow : OpenClaim := { program := "ytadkpjgpefcphaagreatdoor", sum := "e2beff68a24f91e87daa2773d7f4fd82cc96b655d2e3f5818abd7ae9bc15fcf2", func := "laurel/laurellaw11.FileTorn", spec := "fileTorn", inPlace := ["internal/abi.NoEscape", "internal/bytealg.MakeNoZero", "slices.overlaps[laurel/file.Node]", "internal/bytealg.CountString", "internal/bytealg.IndexByteString", "internal/bytealg.IndexString"], unfollowed := true, recurses := true, named := ["internal/strconv.uint64pow10", "math/bits.deBruijn32tab", "math/bits.deBruijn64tab", "strconv.ErrSyntax", "strconv.ErrRange", "unicode/utf8.first", "unicode/utf8.acceptRanges", "internal/bytealg.MaxLen"], apart := false, laid := [("math/bits.deBruijn32tab", laid_math_bits_deBruijn32tab), ("math/bits.deBruijn64tab", laid_math_bits_deBruijn64tab), ("internal/strconv.uint64pow10", laid_internal_strconv_uint64pow10), ("unicode/utf8.acceptRanges", laid_unicode_utf8_acceptRanges), ("strconv.ErrRange", laid_strconv_ErrRange), ("strconv.ErrSyntax", laid_strconv_ErrSyntax), ("unicode/utf8.first", laid_unicode_utf8_first)] }
def FileTornSaid : Prop := fileTornRow.holds Tryz.pinned (OpenSpec.ofChange fileTornSpec)

/-- ITS FALSE NEIGHBOUR: 'it returns false'. Refute it at one input. -/
def fileTornWrong : ChangeSpec := { name := "fileTorn", fn := fun _ => fun
  | [d1, d2, d3] => { results := [.lit (.bool false)], args := [d1, d2, d3] }
  | _ => none }
def FileTornWrongFalsely : Prop := fileTornRow.holds Tryz.pinned (OpenSpec.ofChange fileTornWrong)

/- THE SECOND FORM. 'bulk': how many values and letters a reading holds, each counted each time it is reached (what is shared counts as often as it is met; a slice's spare places count too). A statement '..UptoSaid' is the law's where the arguments, and the package variables that the reading takes, are together of bulk at most 1048576: NARROWER than '..Said'. Prove '..Said' where nothing that the law and all that it calls make is longer than what came in: it says more and counts as full. Else prove '..UptoSaid'. A law counts once. -/
mutual
def uptoBulk {H : Type} : DataW H → Nat
  | .lit (.string bytes) => bytes.length + 1
  | .lit _ => 1
  | .nil => 1
  | .ptr d => uptoBulk d + 1
  | .slice elems spare => uptoBulkAll elems + uptoBulkAll spare + 1
  | .agg parts => uptoBulkAll parts + 1
  | .iface _ d => uptoBulk d + 1
  | .map entries => uptoBulkEntries entries + 1
  | .held _ => 1
def uptoBulkAll {H : Type} : List (DataW H) → Nat
  | [] => 0
  | d :: r => uptoBulk d + uptoBulkAll r
def uptoBulkEntries {H : Type} : List (Lit × DataW H) → Nat
  | [] => 0
  | x :: r => uptoBulkEntry x + uptoBulkEntries r
def uptoBulkEntry {H : Type} : Lit × DataW H → Nat
  | (.string bytes, d) => bytes.length + uptoBulk d + 1
  | (_, d) => uptoBulk d + 1
 end
def uptoSmall : (H : Type) → List (DataW H) → Bool := fun _ ds => decide (uptoBulkAll ds ≤ 1048576)
def OpenSpec.upto (s : _root_.Go.ChangeSpec) : _root_.Go.OpenSpec := { _root_.Go.OpenSpec.ofChange s with cond := some uptoSmall }

/-- 'laurellaw11.FileYears', WHERE WHAT IT READS IS OF BULK AT MOST 1048576: true; the input reads as it did. -/
def fileYearsUptoRow : OpenClaim := { program := "ytadkpjgpefcphaagreatdoor", sum := "e2beff68a24f91e87daa2773d7f4fd82cc96b655d2e3f5818abd7ae9bc15fcf2", func := "laurel/laurellaw11.FileYears", spec := "fileYears", inPlace := ["internal/abi.NoEscape", "internal/bytealg.MakeNoZero", "slices.overlaps[laurel/file.Node]"], unfollowed := true, recurses := true, named := ["internal/strconv.uint64pow10", "math/bits.deBruijn32tab", "math/bits.deBruijn64tab", "strconv.ErrSyntax", "strconv.ErrRange"], loops := true, apart := false, laid := [("math/bits.deBruijn32tab", laid_math_bits_deBruijn32tab), ("math/bits.deBruijn64tab", laid_math_bits_deBruijn64tab), ("internal/strconv.uint64pow10", laid_internal_strconv_uint64pow10), ("strconv.ErrRange", laid_strconv_ErrRange), ("strconv.ErrSyntax", laid_strconv_ErrSyntax)], narrowed := true }
def FileYearsUptoSaid : Prop := fileYearsUptoRow.holds Tryz.pinned (OpenSpec.upto fileYearsSpec)

/-- 'laurellaw11.FileParses', WHERE WHAT IT READS IS OF BULK AT MOST 1048576: true; the input reads as it did. -/
def fileParsesUptoRow : OpenClaim := { program := "ytadkpjgpefcphaagreatdoor", sum := "e2beff68a24f91e87daa2773d7f4fd82cc96b655d2e3f5818abd7ae9bc15fcf2", func := "laurel/laurellaw11.FileParses", spec := "fileParses", inPlace := ["internal/abi.NoEscape", "internal/bytealg.MakeNoZero", "slices.overlaps[laurel/file.Node]"], unfollowed := true, recurses := true, named := ["internal/strconv.uint64pow10", "math/bits.deBruijn32tab", "math/bits.deBruijn64tab", "strconv.ErrSyntax", "strconv.ErrRange"], apart := false, laid := [("math/bits.deBruijn32tab", laid_math_bits_deBruijn32tab), ("math/bits.deBruijn64tab", laid_math_bits_deBruijn64tab), ("internal/strconv.uint64pow10", laid_internal_strconv_uint64pow10), ("strconv.ErrRange", laid_strconv_ErrRange), ("strconv.ErrSyntax", laid_strconv_ErrSyntax)], narrowed := true }
def FileParsesUptoSaid : Prop := fileParsesUptoRow.holds Tryz.pinned (OpenSpec.upto fileParsesSpec)

/-- 'laurellaw11.FileCopies', WHERE WHAT IT READS IS OF BULK AT MOST 1048576: true; the input reads as it did. -/
def fileCopiesUptoRow : OpenClaim := { program := "ytadkpjgpefcphaagreatdoor", sum := "e2beff68a24f91e87daa2773d7f4fd82cc96b655d2e3f5818abd7ae9bc15fcf2", func := "laurel/laurellaw11.FileCopies", spec := "fileCopies", inPlace := ["internal/abi.NoEscape", "internal/bytealg.MakeNoZero", "slices.overlaps[laurel/file.Node]"], unfollowed := true, recurses := true, named := ["internal/strconv.uint64pow10", "math/bits.deBruijn32tab", "math/bits.deBruijn64tab", "strconv.ErrSyntax", "strconv.ErrRange"], loops := true, apart := false, laid := [("math/bits.deBruijn32tab", laid_math_bits_deBruijn32tab), ("math/bits.deBruijn64tab", laid_math_bits_deBruijn64tab), ("internal/strconv.uint64pow10", laid_internal_strconv_uint64pow10), ("strconv.ErrRange", laid_strconv_ErrRange), ("strconv.ErrSyntax", laid_strconv_ErrSyntax)], narrowed := true }
def FileCopiesUptoSaid : Prop := fileCopiesUptoRow.holds Tryz.pinned (OpenSpec.upto fileCopiesSpec)

/-- 'laurellaw11.FileJoined', WHERE WHAT IT READS IS OF BULK AT MOST 1048576: true; the input reads as it did. -/
def fileJoinedUptoRow : OpenClaim := { program := "ytadkpjgpefcphaagreatdoor", sum := "e2beff68a24f91e87daa2773d7f4fd82cc96b655d2e3f5818abd7ae9bc15fcf2", func := "laurel/laurellaw11.FileJoined", spec := "fileJoined", inPlace := ["internal/abi.NoEscape", "internal/bytealg.MakeNoZero", "slices.overlaps[laurel/file.Node]"], unfollowed := true, recurses := true, named := ["internal/strconv.uint64pow10", "math/bits.deBruijn32tab", "math/bits.deBruijn64tab", "strconv.ErrSyntax", "strconv.ErrRange"], apart := false, laid := [("math/bits.deBruijn32tab", laid_math_bits_deBruijn32tab), ("math/bits.deBruijn64tab", laid_math_bits_deBruijn64tab), ("internal/strconv.uint64pow10", laid_internal_strconv_uint64pow10), ("strconv.ErrRange", laid_strconv_ErrRange), ("strconv.ErrSyntax", laid_strconv_ErrSyntax)], narrowed := true }
def FileJoinedUptoSaid : Prop := fileJoinedUptoRow.holds Tryz.pinned (OpenSpec.upto fileJoinedSpec)

/-- 'laurellaw11.FileGrown', WHERE WHAT IT READS IS OF BULK AT MOST 1048576: true; the input reads as it did. -/
def fileGrownUptoRow : OpenClaim := { program := "ytadkpjgpefcphaagreatdoor", sum := "e2beff68a24f91e87daa2773d7f4fd82cc96b655d2e3f5818abd7ae9bc15fcf2", func := "laurel/laurellaw11.FileGrown", spec := "fileGrown", inPlace := ["internal/abi.NoEscape", "internal/bytealg.MakeNoZero", "slices.overlaps[laurel/file.Node]"], unfollowed := true, recurses := true, named := ["internal/strconv.uint64pow10", "math/bits.deBruijn32tab", "math/bits.deBruijn64tab", "strconv.ErrSyntax", "strconv.ErrRange"], apart := false, laid := [("math/bits.deBruijn32tab", laid_math_bits_deBruijn32tab), ("math/bits.deBruijn64tab", laid_math_bits_deBruijn64tab), ("internal/strconv.uint64pow10", laid_internal_strconv_uint64pow10), ("strconv.ErrRange", laid_strconv_ErrRange), ("strconv.ErrSyntax", laid_strconv_ErrSyntax)], narrowed := true }
def FileGrownUptoSaid : Prop := fileGrownUptoRow.holds Tryz.pinned (OpenSpec.upto fileGrownSpec)

/-- 'laurellaw11.FileNodes', WHERE WHAT IT READS IS OF BULK AT MOST 1048576: true; the input reads as it did. -/
def fileNodesUptoRow : OpenClaim := { program := "ytadkpjgpefcphaagreatdoor", sum := "e2beff68a24f91e87daa2773d7f4fd82cc96b655d2e3f5818abd7ae9bc15fcf2", func := "laurel/laurellaw11.FileNodes", spec := "fileNodes", inPlace := ["internal/abi.NoEscape", "internal/bytealg.MakeNoZero", "slices.overlaps[laurel/file.Node]"], unfollowed := true, recurses := true, named := ["internal/strconv.uint64pow10", "math/bits.deBruijn32tab", "math/bits.deBruijn64tab", "strconv.ErrSyntax", "strconv.ErrRange"], loops := true, apart := false, laid := [("math/bits.deBruijn32tab", laid_math_bits_deBruijn32tab), ("math/bits.deBruijn64tab", laid_math_bits_deBruijn64tab), ("internal/strconv.uint64pow10", laid_internal_strconv_uint64pow10), ("strconv.ErrRange", laid_strconv_ErrRange), ("strconv.ErrSyntax", laid_strconv_ErrSyntax)], narrowed := true }
def FileNodesUptoSaid : Prop := fileNodesUptoRow.holds Tryz.pinned (OpenSpec.upto fileNodesSpec)

/-- 'laurellaw11.FilePut', WHERE WHAT IT READS IS OF BULK AT MOST 1048576: true; the input reads as it did. -/
def filePutUptoRow : OpenClaim := { program := "ytadkpjgpefcphaagreatdoor", sum := "e2beff68a24f91e87daa2773d7f4fd82cc96b655d2e3f5818abd7ae9bc15fcf2", func := "laurel/laurellaw11.FilePut", spec := "filePut", inPlace := ["slices.overlaps[laurel/file.Node]", "internal/abi.NoEscape", "internal/bytealg.MakeNoZero"], unfollowed := true, recurses := true, named := ["internal/strconv.uint64pow10", "math/bits.deBruijn32tab", "math/bits.deBruijn64tab", "strconv.ErrSyntax", "strconv.ErrRange"], apart := false, laid := [("math/bits.deBruijn32tab", laid_math_bits_deBruijn32tab), ("math/bits.deBruijn64tab", laid_math_bits_deBruijn64tab), ("internal/strconv.uint64pow10", laid_internal_strconv_uint64pow10), ("strconv.ErrRange", laid_strconv_ErrRange), ("strconv.ErrSyntax", laid_strconv_ErrSyntax)], narrowed := true }
def FilePutUptoSaid : Prop := filePutUptoRow.holds Tryz.pinned (OpenSpec.upto filePutSpec)

/-- 'laurellaw11.FileChanges', WHERE WHAT IT READS IS OF BULK AT MOST 1048576: true; the input reads as it did. -/
def fileChangesUptoRow : OpenClaim := { program := "ytadkpjgpefcphaagreatdoor", sum := "e2beff68a24f91e87daa2773d7f4fd82cc96b655d2e3f5818abd7ae9bc15fcf2", func := "laurel/laurellaw11.FileChanges", spec := "fileChanges", inPlace := ["internal/abi.NoEscape", "internal/bytealg.MakeNoZero", "slices.overlaps[laurel/file.Node]"], unfollowed := true, recurses := true, named := ["internal/strconv.uint64pow10", "math/bits.deBruijn32tab", "math/bits.deBruijn64tab", "strconv.ErrSyntax", "strconv.ErrRange"], loops := true, apart := false, laid := [("math/bits.deBruijn32tab", laid_math_bits_deBruijn32tab), ("math/bits.deBruijn64tab", laid_math_bits_deBruijn64tab), ("internal/strconv.uint64pow10", laid_internal_strconv_uint64pow10), ("strconv.ErrRange", laid_strconv_ErrRange), ("strconv.ErrSyntax", laid_strconv_ErrSyntax)], narrowed := true }
def FileChangesUptoSaid : Prop := fileChangesUptoRow.holds Tryz.pinned (OpenSpec.upto fileChangesSpec)

/-- 'laurellaw11.FileAfter', WHERE WHAT IT READS IS OF BULK AT MOST 1048576: true; the input reads as it did. -/
def fileAfterUptoRow : OpenClaim := { program := "ytadkpjgpefcphaagreatdoor", sum := "e2beff68a24f91e87daa2773d7f4fd82cc96b655d2e3f5818abd7ae9bc15fcf2", func := "laurel/laurellaw11.FileAfter", spec := "fileAfter", inPlace := ["internal/abi.NoEscape", "internal/bytealg.MakeNoZero", "slices.overlaps[laurel/file.Node]"], unfollowed := true, recurses := true, named := ["internal/strconv.uint64pow10", "math/bits.deBruijn32tab", "math/bits.deBruijn64tab", "strconv.ErrSyntax", "strconv.ErrRange"], apart := false, laid := [("math/bits.deBruijn32tab", laid_math_bits_deBruijn32tab), ("math/bits.deBruijn64tab", laid_math_bits_deBruijn64tab), ("internal/strconv.uint64pow10", laid_internal_strconv_uint64pow10), ("strconv.ErrRange", laid_strconv_ErrRange), ("strconv.ErrSyntax", laid_strconv_ErrSyntax)], narrowed := true }
def FileAfterUptoSaid : Prop := fileAfterUptoRow.holds Tryz.pinned (OpenSpec.upto fileAfterSpec)

/-- 'laurellaw11.FileMade', WHERE WHAT IT READS IS OF BULK AT MOST 1048576: true; the input reads as it did. -/
def fileMadeUptoRow : OpenClaim := { program := "ytadkpjgpefcphaagreatdoor", sum := "e2beff68a24f91e87daa2773d7f4fd82cc96b655d2e3f5818abd7ae9bc15fcf2", func := "laurel/laurellaw11.FileMade", spec := "fileMade", inPlace := ["internal/abi.NoEscape", "internal/bytealg.MakeNoZero", "slices.overlaps[laurel/file.Node]"], unfollowed := true, recurses := true, named := ["internal/strconv.uint64pow10", "math/bits.deBruijn32tab", "math/bits.deBruijn64tab", "strconv.ErrSyntax", "strconv.ErrRange"], apart := false, laid := [("math/bits.deBruijn32tab", laid_math_bits_deBruijn32tab), ("math/bits.deBruijn64tab", laid_math_bits_deBruijn64tab), ("internal/strconv.uint64pow10", laid_internal_strconv_uint64pow10), ("strconv.ErrRange", laid_strconv_ErrRange), ("strconv.ErrSyntax", laid_strconv_ErrSyntax)], narrowed := true }
def FileMadeUptoSaid : Prop := fileMadeUptoRow.holds Tryz.pinned (OpenSpec.upto fileMadeSpec)

/-- 'laurellaw11.FileTold', WHERE WHAT IT READS IS OF BULK AT MOST 1048576: true; the input reads as it did. -/
def fileToldUptoRow : OpenClaim := { program := "ytadkpjgpefcphaagreatdoor", sum := "e2beff68a24f91e87daa2773d7f4fd82cc96b655d2e3f5818abd7ae9bc15fcf2", func := "laurel/laurellaw11.FileTold", spec := "fileTold", inPlace := ["internal/abi.NoEscape", "internal/bytealg.MakeNoZero", "slices.overlaps[laurel/file.Node]"], unfollowed := true, recurses := true, named := ["internal/strconv.uint64pow10", "math/bits.deBruijn32tab", "math/bits.deBruijn64tab", "strconv.ErrSyntax", "strconv.ErrRange"], apart := false, laid := [("math/bits.deBruijn32tab", laid_math_bits_deBruijn32tab), ("math/bits.deBruijn64tab", laid_math_bits_deBruijn64tab), ("internal/strconv.uint64pow10", laid_internal_strconv_uint64pow10), ("strconv.ErrRange", laid_strconv_ErrRange), ("strconv.ErrSyntax", laid_strconv_ErrSyntax)], narrowed := true }
def FileToldUptoSaid : Prop := fileToldUptoRow.holds Tryz.pinned (OpenSpec.upto fileToldSpec)

/-- 'laurellaw11.FileComposed', WHERE WHAT IT READS IS OF BULK AT MOST 1048576: true; the input reads as it did. -/
def fileComposedUptoRow : OpenClaim := { program := "ytadkpjgpefcphaagreatdoor", sum := "e2beff68a24f91e87daa2773d7f4fd82cc96b655d2e3f5818abd7ae9bc15fcf2", func := "laurel/laurellaw11.FileComposed", spec := "fileComposed", inPlace := ["internal/abi.NoEscape", "internal/bytealg.MakeNoZero", "slices.overlaps[laurel/file.Node]"], unfollowed := true, recurses := true, named := ["internal/strconv.uint64pow10", "math/bits.deBruijn32tab", "math/bits.deBruijn64tab", "strconv.ErrSyntax", "strconv.ErrRange"], apart := false, laid := [("math/bits.deBruijn32tab", laid_math_bits_deBruijn32tab), ("math/bits.deBruijn64tab", laid_math_bits_deBruijn64tab), ("internal/strconv.uint64pow10", laid_internal_strconv_uint64pow10), ("strconv.ErrRange", laid_strconv_ErrRange), ("strconv.ErrSyntax", laid_strconv_ErrSyntax)], narrowed := true }
def FileComposedUptoSaid : Prop := fileComposedUptoRow.holds Tryz.pinned (OpenSpec.upto fileComposedSpec)

/-- 'laurellaw11.FileSmall', WHERE WHAT IT READS IS OF BULK AT MOST 1048576: true; the input reads as it did. -/
def fileSmallUptoRow : OpenClaim := { program := "ytadkpjgpefcphaagreatdoor", sum := "e2beff68a24f91e87daa2773d7f4fd82cc96b655d2e3f5818abd7ae9bc15fcf2", func := "laurel/laurellaw11.FileSmall", spec := "fileSmall", inPlace := ["internal/abi.NoEscape", "internal/bytealg.MakeNoZero", "slices.overlaps[laurel/file.Node]"], unfollowed := true, recurses := true, named := ["internal/strconv.uint64pow10", "math/bits.deBruijn32tab", "math/bits.deBruijn64tab", "strconv.ErrSyntax", "strconv.ErrRange"], apart := false, laid := [("math/bits.deBruijn32tab", laid_math_bits_deBruijn32tab), ("math/bits.deBruijn64tab", laid_math_bits_deBruijn64tab), ("internal/strconv.uint64pow10", laid_internal_strconv_uint64pow10), ("strconv.ErrRange", laid_strconv_ErrRange), ("strconv.ErrSyntax", laid_strconv_ErrSyntax)], narrowed := true }
def FileSmallUptoSaid : Prop := fileSmallUptoRow.holds Tryz.pinned (OpenSpec.upto fileSmallSpec)

/-- 'laurellaw11.FileTorn', WHERE WHAT IT READS IS OF BULK AT MOST 1048576: true; the input reads as it did. -/
def fileTornUptoRow : OpenClaim := { program := "ytadkpjgpefcphaagreatdoor", sum := "e2beff68a24f91e87daa2773d7f4fd82cc96b655d2e3f5818abd7ae9bc15fcf2", func := "laurel/laurellaw11.FileTorn", spec := "fileTorn", inPlace := ["internal/abi.NoEscape", "internal/bytealg.MakeNoZero", "slices.overlaps[laurel/file.Node]", "internal/bytealg.CountString", "internal/bytealg.IndexByteString", "internal/bytealg.IndexString"], unfollowed := true, recurses := true, named := ["internal/strconv.uint64pow10", "math/bits.deBruijn32tab", "math/bits.deBruijn64tab", "strconv.ErrSyntax", "strconv.ErrRange", "unicode/utf8.first", "unicode/utf8.acceptRanges", "internal/bytealg.MaxLen"], apart := false, laid := [("math/bits.deBruijn32tab", laid_math_bits_deBruijn32tab), ("math/bits.deBruijn64tab", laid_math_bits_deBruijn64tab), ("internal/strconv.uint64pow10", laid_internal_strconv_uint64pow10), ("unicode/utf8.acceptRanges", laid_unicode_utf8_acceptRanges), ("strconv.ErrRange", laid_strconv_ErrRange), ("strconv.ErrSyntax", laid_strconv_ErrSyntax), ("unicode/utf8.first", laid_unicode_utf8_first)], narrowed := true }
def FileTornUptoSaid : Prop := fileTornUptoRow.holds Tryz.pinned (OpenSpec.upto fileTornSpec)

end Rows
end Go.Proofs.YtadkpjgpefcphaaGreatDoor
