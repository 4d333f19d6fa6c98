/-
  NARROWER THAN 'FOR EVERY INPUT', by the rows' own cells (each row's printed sentence says how): FnExactTypeValid: laid · FnExactTypeSize: laid · FnExactDerivPlaces: laid · FnSize: laid · FnExactTypeClosed: laid · FnExactTypeEmpty: laid · FnExactTypeNames: laid · FnExactTypeAlike: laid · FnEmpty: laid · FnAlike: laid · FnValueSize: laid · FnValue: laid.
  DERIVED. THE GIVEN ROWS OF THIS SEAT. 12 by the template 'for every input the law returns true; each argument reads behind the call as it read before'; 0 by the template 'total and deterministic' (their statements: YtmghnibnokkjjaaDoorTotals.lean).
  GIVEN WITH THE SEED: the statements are not yours to turn. If you find one false, say at which input.
  Laid BY PROGRAM, IN A SANDBOX (cutbox-rows.mjs): the forced cells as the released guide's own fill.sh prints them over the translation 3204cfc8a232e363… (all of the seat's roots in one cut). By AI agents, Wed Nov 11 2026. No macro, syntax, notation, axiom, sorry.
-/
import Derived.Test.YtmghnibnokkjjaaDoorChecked
import GoSem.PinnedTables
import GoSem.Claim
import GoSem.ClaimJoined
import GoSem.ClaimMapViews
import Derived.JoinedTies
import Derived.KernelRfl
namespace Go.Proofs.YtmghnibnokkjjaaDoor
/- THE CELL 'sum', in the pinned program and in every row, IS THE sha256 OF THE DUMP (.gsa) THAT YtmghnibnokkjjaaDoorProg.lean LOADS. Nothing in Lean hashes anything: it is a label: what it is worth is what the hold of that sum in a sandbox is worth. -/
noncomputable def Tryd.pinned : Pinned := { name := "ytmghnibnokkjjaadoor", sum := "3204cfc8a232e3639a7439db146af6bca53f2e6c3575cde5d9e8e45ba06415b7", checked := Tryd.checked }
namespace Rows
def none {H : Type} : Left H := { results := [], args := [] }

/- WHAT THE LISTED PACKAGE-LEVEL VARIABLES READ AS WHEN THE CALL BEGINS. Each datum BY PROGRAM (the guide's laid-datum.mjs) off the statement by which the dump's own 'gosem.cut.vars' lays the variable. In a bare row this is a premise. The card (YtmghnibnokkjjaaDoorCards.lean) ties it to the program's text. -/
def laid_unicode_utf8_acceptRanges {H : Type} : DataW H := .agg [.agg [.lit (.int .u8 128), .lit (.int .u8 191)], .agg [.lit (.int .u8 160), .lit (.int .u8 191)], .agg [.lit (.int .u8 128), .lit (.int .u8 159)], .agg [.lit (.int .u8 144), .lit (.int .u8 191)], .agg [.lit (.int .u8 128), .lit (.int .u8 143)], .agg [.lit (.int .u8 0), .lit (.int .u8 0)], .agg [.lit (.int .u8 0), .lit (.int .u8 0)], .agg [.lit (.int .u8 0), .lit (.int .u8 0)], .agg [.lit (.int .u8 0), .lit (.int .u8 0)], .agg [.lit (.int .u8 0), .lit (.int .u8 0)], .agg [.lit (.int .u8 0), .lit (.int .u8 0)], .agg [.lit (.int .u8 0), .lit (.int .u8 0)], .agg [.lit (.int .u8 0), .lit (.int .u8 0)], .agg [.lit (.int .u8 0), .lit (.int .u8 0)], .agg [.lit (.int .u8 0), .lit (.int .u8 0)], .agg [.lit (.int .u8 0), .lit (.int .u8 0)]]
/-- One of Go's own tables, pinned by name: the form's constant. -/
def laid_unicode_utf8_first : DataW Unit := Go.Pinned.utf8First

/-- 'laws.FnExactTypeValid': WHATEVER THE INPUT: true; the input reads as it did. -/
def fnExactTypeValidSpec : ChangeSpec := { name := "fnExactTypeValid", fn := fun _ => fun
  | [d] => { results := [.lit (.bool true)], args := [d] }
  | _ => none }
def fnExactTypeValidRow : OpenClaim := { program := "ytmghnibnokkjjaadoor", sum := "3204cfc8a232e3639a7439db146af6bca53f2e6c3575cde5d9e8e45ba06415b7", func := "loop.example/typezippers/laws.FnExactTypeValid", spec := "fnExactTypeValid", inPlace := ["internal/bytealg.IndexByteString", "internal/bytealg.IndexString"], recurses := true, named := ["internal/bytealg.MaxLen", "unicode/utf8.first", "unicode/utf8.acceptRanges"], apart := false, laid := [("unicode/utf8.acceptRanges", laid_unicode_utf8_acceptRanges), ("unicode/utf8.first", laid_unicode_utf8_first)] }
def FnExactTypeValidSaid : Prop := fnExactTypeValidRow.holds Tryd.pinned (OpenSpec.ofChange fnExactTypeValidSpec)

/-- ITS FALSE NEIGHBOUR: 'it returns false'. Refute it at one input. -/
def fnExactTypeValidWrong : ChangeSpec := { name := "fnExactTypeValid", fn := fun _ => fun
  | [d] => { results := [.lit (.bool false)], args := [d] }
  | _ => none }
def FnExactTypeValidWrongFalsely : Prop := fnExactTypeValidRow.holds Tryd.pinned (OpenSpec.ofChange fnExactTypeValidWrong)

/-- 'laws.FnExactTypeSize': WHATEVER THE INPUT: true; the input reads as it did. -/
def fnExactTypeSizeSpec : ChangeSpec := { name := "fnExactTypeSize", fn := fun _ => fun
  | [d] => { results := [.lit (.bool true)], args := [d] }
  | _ => none }
def fnExactTypeSizeRow : OpenClaim := { program := "ytmghnibnokkjjaadoor", sum := "3204cfc8a232e3639a7439db146af6bca53f2e6c3575cde5d9e8e45ba06415b7", func := "loop.example/typezippers/laws.FnExactTypeSize", spec := "fnExactTypeSize", inPlace := ["internal/bytealg.IndexByteString", "internal/bytealg.IndexString"], recurses := true, named := ["internal/bytealg.MaxLen", "unicode/utf8.first", "unicode/utf8.acceptRanges"], apart := false, laid := [("unicode/utf8.acceptRanges", laid_unicode_utf8_acceptRanges), ("unicode/utf8.first", laid_unicode_utf8_first)] }
def FnExactTypeSizeSaid : Prop := fnExactTypeSizeRow.holds Tryd.pinned (OpenSpec.ofChange fnExactTypeSizeSpec)

/-- ITS FALSE NEIGHBOUR: 'it returns false'. Refute it at one input. -/
def fnExactTypeSizeWrong : ChangeSpec := { name := "fnExactTypeSize", fn := fun _ => fun
  | [d] => { results := [.lit (.bool false)], args := [d] }
  | _ => none }
def FnExactTypeSizeWrongFalsely : Prop := fnExactTypeSizeRow.holds Tryd.pinned (OpenSpec.ofChange fnExactTypeSizeWrong)

/-- 'laws.FnExactDerivPlaces': WHATEVER THE INPUT: true; the input reads as it did. -/
def fnExactDerivPlacesSpec : ChangeSpec := { name := "fnExactDerivPlaces", fn := fun _ => fun
  | [d1, d2] => { results := [.lit (.bool true)], args := [d1, d2] }
  | _ => none }
def fnExactDerivPlacesRow : OpenClaim := { program := "ytmghnibnokkjjaadoor", sum := "3204cfc8a232e3639a7439db146af6bca53f2e6c3575cde5d9e8e45ba06415b7", func := "loop.example/typezippers/laws.FnExactDerivPlaces", spec := "fnExactDerivPlaces", inPlace := ["internal/bytealg.IndexByteString", "internal/bytealg.IndexString"], unfollowed := true, recurses := true, named := ["internal/bytealg.MaxLen", "unicode/utf8.first", "unicode/utf8.acceptRanges"], apart := false, laid := [("unicode/utf8.acceptRanges", laid_unicode_utf8_acceptRanges), ("unicode/utf8.first", laid_unicode_utf8_first)] }
def FnExactDerivPlacesSaid : Prop := fnExactDerivPlacesRow.holds Tryd.pinned (OpenSpec.ofChange fnExactDerivPlacesSpec)

/-- ITS FALSE NEIGHBOUR: 'it returns false'. Refute it at one input. -/
def fnExactDerivPlacesWrong : ChangeSpec := { name := "fnExactDerivPlaces", fn := fun _ => fun
  | [d1, d2] => { results := [.lit (.bool false)], args := [d1, d2] }
  | _ => none }
def FnExactDerivPlacesWrongFalsely : Prop := fnExactDerivPlacesRow.holds Tryd.pinned (OpenSpec.ofChange fnExactDerivPlacesWrong)

/-- 'laws.FnSize': WHATEVER THE INPUT: true; the input reads as it did. -/
def fnSizeSpec : ChangeSpec := { name := "fnSize", fn := fun _ => fun
  | [d] => { results := [.lit (.bool true)], args := [d] }
  | _ => none }
def fnSizeRow : OpenClaim := { program := "ytmghnibnokkjjaadoor", sum := "3204cfc8a232e3639a7439db146af6bca53f2e6c3575cde5d9e8e45ba06415b7", func := "loop.example/typezippers/laws.FnSize", spec := "fnSize", inPlace := ["internal/bytealg.IndexByteString", "internal/bytealg.IndexString"], recurses := true, named := ["internal/bytealg.MaxLen", "unicode/utf8.first", "unicode/utf8.acceptRanges"], apart := false, laid := [("unicode/utf8.acceptRanges", laid_unicode_utf8_acceptRanges), ("unicode/utf8.first", laid_unicode_utf8_first)] }
def FnSizeSaid : Prop := fnSizeRow.holds Tryd.pinned (OpenSpec.ofChange fnSizeSpec)

/-- ITS FALSE NEIGHBOUR: 'it returns false'. Refute it at one input. -/
def fnSizeWrong : ChangeSpec := { name := "fnSize", fn := fun _ => fun
  | [d] => { results := [.lit (.bool false)], args := [d] }
  | _ => none }
def FnSizeWrongFalsely : Prop := fnSizeRow.holds Tryd.pinned (OpenSpec.ofChange fnSizeWrong)

/-- 'laws.FnExactTypeClosed': WHATEVER THE INPUT: true; the input reads as it did. -/
def fnExactTypeClosedSpec : ChangeSpec := { name := "fnExactTypeClosed", fn := fun _ => fun
  | [d] => { results := [.lit (.bool true)], args := [d] }
  | _ => none }
def fnExactTypeClosedRow : OpenClaim := { program := "ytmghnibnokkjjaadoor", sum := "3204cfc8a232e3639a7439db146af6bca53f2e6c3575cde5d9e8e45ba06415b7", func := "loop.example/typezippers/laws.FnExactTypeClosed", spec := "fnExactTypeClosed", inPlace := ["internal/bytealg.IndexByteString", "internal/bytealg.IndexString"], unfollowed := true, recurses := true, named := ["internal/bytealg.MaxLen", "unicode/utf8.first", "unicode/utf8.acceptRanges"], apart := false, laid := [("unicode/utf8.acceptRanges", laid_unicode_utf8_acceptRanges), ("unicode/utf8.first", laid_unicode_utf8_first)] }
def FnExactTypeClosedSaid : Prop := fnExactTypeClosedRow.holds Tryd.pinned (OpenSpec.ofChange fnExactTypeClosedSpec)

/-- ITS FALSE NEIGHBOUR: 'it returns false'. Refute it at one input. -/
def fnExactTypeClosedWrong : ChangeSpec := { name := "fnExactTypeClosed", fn := fun _ => fun
  | [d] => { results := [.lit (.bool false)], args := [d] }
  | _ => none }
def FnExactTypeClosedWrongFalsely : Prop := fnExactTypeClosedRow.holds Tryd.pinned (OpenSpec.ofChange fnExactTypeClosedWrong)

/-- 'laws.FnExactTypeEmpty': WHATEVER THE INPUT: true; the input reads as it did. -/
def fnExactTypeEmptySpec : ChangeSpec := { name := "fnExactTypeEmpty", fn := fun _ => fun
  | [d] => { results := [.lit (.bool true)], args := [d] }
  | _ => none }
def fnExactTypeEmptyRow : OpenClaim := { program := "ytmghnibnokkjjaadoor", sum := "3204cfc8a232e3639a7439db146af6bca53f2e6c3575cde5d9e8e45ba06415b7", func := "loop.example/typezippers/laws.FnExactTypeEmpty", spec := "fnExactTypeEmpty", inPlace := ["internal/bytealg.IndexByteString", "internal/bytealg.IndexString"], recurses := true, named := ["internal/bytealg.MaxLen", "unicode/utf8.first", "unicode/utf8.acceptRanges"], apart := false, laid := [("unicode/utf8.acceptRanges", laid_unicode_utf8_acceptRanges), ("unicode/utf8.first", laid_unicode_utf8_first)] }
def FnExactTypeEmptySaid : Prop := fnExactTypeEmptyRow.holds Tryd.pinned (OpenSpec.ofChange fnExactTypeEmptySpec)

/-- ITS FALSE NEIGHBOUR: 'it returns false'. Refute it at one input. -/
def fnExactTypeEmptyWrong : ChangeSpec := { name := "fnExactTypeEmpty", fn := fun _ => fun
  | [d] => { results := [.lit (.bool false)], args := [d] }
  | _ => none }
def FnExactTypeEmptyWrongFalsely : Prop := fnExactTypeEmptyRow.holds Tryd.pinned (OpenSpec.ofChange fnExactTypeEmptyWrong)

/-- 'laws.FnExactTypeNames': WHATEVER THE INPUT: true; the input reads as it did. -/
def fnExactTypeNamesSpec : ChangeSpec := { name := "fnExactTypeNames", fn := fun _ => fun
  | [d] => { results := [.lit (.bool true)], args := [d] }
  | _ => none }
def fnExactTypeNamesRow : OpenClaim := { program := "ytmghnibnokkjjaadoor", sum := "3204cfc8a232e3639a7439db146af6bca53f2e6c3575cde5d9e8e45ba06415b7", func := "loop.example/typezippers/laws.FnExactTypeNames", spec := "fnExactTypeNames", inPlace := ["internal/bytealg.IndexByteString", "internal/bytealg.IndexString"], unfollowed := true, recurses := true, named := ["internal/bytealg.MaxLen", "unicode/utf8.first", "unicode/utf8.acceptRanges"], apart := false, laid := [("unicode/utf8.acceptRanges", laid_unicode_utf8_acceptRanges), ("unicode/utf8.first", laid_unicode_utf8_first)] }
def FnExactTypeNamesSaid : Prop := fnExactTypeNamesRow.holds Tryd.pinned (OpenSpec.ofChange fnExactTypeNamesSpec)

/-- ITS FALSE NEIGHBOUR: 'it returns false'. Refute it at one input. -/
def fnExactTypeNamesWrong : ChangeSpec := { name := "fnExactTypeNames", fn := fun _ => fun
  | [d] => { results := [.lit (.bool false)], args := [d] }
  | _ => none }
def FnExactTypeNamesWrongFalsely : Prop := fnExactTypeNamesRow.holds Tryd.pinned (OpenSpec.ofChange fnExactTypeNamesWrong)

/-- 'laws.FnExactTypeAlike': WHATEVER THE INPUT: true; the input reads as it did. -/
def fnExactTypeAlikeSpec : ChangeSpec := { name := "fnExactTypeAlike", fn := fun _ => fun
  | [d1, d2] => { results := [.lit (.bool true)], args := [d1, d2] }
  | _ => none }
def fnExactTypeAlikeRow : OpenClaim := { program := "ytmghnibnokkjjaadoor", sum := "3204cfc8a232e3639a7439db146af6bca53f2e6c3575cde5d9e8e45ba06415b7", func := "loop.example/typezippers/laws.FnExactTypeAlike", spec := "fnExactTypeAlike", inPlace := ["internal/bytealg.IndexByteString", "internal/bytealg.IndexString"], recurses := true, named := ["internal/bytealg.MaxLen", "unicode/utf8.first", "unicode/utf8.acceptRanges"], apart := false, laid := [("unicode/utf8.acceptRanges", laid_unicode_utf8_acceptRanges), ("unicode/utf8.first", laid_unicode_utf8_first)] }
def FnExactTypeAlikeSaid : Prop := fnExactTypeAlikeRow.holds Tryd.pinned (OpenSpec.ofChange fnExactTypeAlikeSpec)

/-- ITS FALSE NEIGHBOUR: 'it returns false'. Refute it at one input. -/
def fnExactTypeAlikeWrong : ChangeSpec := { name := "fnExactTypeAlike", fn := fun _ => fun
  | [d1, d2] => { results := [.lit (.bool false)], args := [d1, d2] }
  | _ => none }
def FnExactTypeAlikeWrongFalsely : Prop := fnExactTypeAlikeRow.holds Tryd.pinned (OpenSpec.ofChange fnExactTypeAlikeWrong)

/-- 'laws.FnEmpty': WHATEVER THE INPUT: true; the input reads as it did. -/
def fnEmptySpec : ChangeSpec := { name := "fnEmpty", fn := fun _ => fun
  | [d] => { results := [.lit (.bool true)], args := [d] }
  | _ => none }
def fnEmptyRow : OpenClaim := { program := "ytmghnibnokkjjaadoor", sum := "3204cfc8a232e3639a7439db146af6bca53f2e6c3575cde5d9e8e45ba06415b7", func := "loop.example/typezippers/laws.FnEmpty", spec := "fnEmpty", inPlace := ["internal/bytealg.IndexByteString", "internal/bytealg.IndexString"], recurses := true, named := ["internal/bytealg.MaxLen", "unicode/utf8.first", "unicode/utf8.acceptRanges"], apart := false, laid := [("unicode/utf8.acceptRanges", laid_unicode_utf8_acceptRanges), ("unicode/utf8.first", laid_unicode_utf8_first)] }
def FnEmptySaid : Prop := fnEmptyRow.holds Tryd.pinned (OpenSpec.ofChange fnEmptySpec)

/-- ITS FALSE NEIGHBOUR: 'it returns false'. Refute it at one input. -/
def fnEmptyWrong : ChangeSpec := { name := "fnEmpty", fn := fun _ => fun
  | [d] => { results := [.lit (.bool false)], args := [d] }
  | _ => none }
def FnEmptyWrongFalsely : Prop := fnEmptyRow.holds Tryd.pinned (OpenSpec.ofChange fnEmptyWrong)

/-- 'laws.FnAlike': WHATEVER THE INPUT: true; the input reads as it did. -/
def fnAlikeSpec : ChangeSpec := { name := "fnAlike", fn := fun _ => fun
  | [d] => { results := [.lit (.bool true)], args := [d] }
  | _ => none }
def fnAlikeRow : OpenClaim := { program := "ytmghnibnokkjjaadoor", sum := "3204cfc8a232e3639a7439db146af6bca53f2e6c3575cde5d9e8e45ba06415b7", func := "loop.example/typezippers/laws.FnAlike", spec := "fnAlike", inPlace := ["internal/bytealg.IndexByteString", "internal/bytealg.IndexString"], recurses := true, named := ["internal/bytealg.MaxLen", "unicode/utf8.first", "unicode/utf8.acceptRanges"], apart := false, laid := [("unicode/utf8.acceptRanges", laid_unicode_utf8_acceptRanges), ("unicode/utf8.first", laid_unicode_utf8_first)] }
def FnAlikeSaid : Prop := fnAlikeRow.holds Tryd.pinned (OpenSpec.ofChange fnAlikeSpec)

/-- ITS FALSE NEIGHBOUR: 'it returns false'. Refute it at one input. -/
def fnAlikeWrong : ChangeSpec := { name := "fnAlike", fn := fun _ => fun
  | [d] => { results := [.lit (.bool false)], args := [d] }
  | _ => none }
def FnAlikeWrongFalsely : Prop := fnAlikeRow.holds Tryd.pinned (OpenSpec.ofChange fnAlikeWrong)

/-- 'laws.FnValueSize': WHATEVER THE INPUT: true; the input reads as it did. -/
def fnValueSizeSpec : ChangeSpec := { name := "fnValueSize", fn := fun _ => fun
  | [d] => { results := [.lit (.bool true)], args := [d] }
  | _ => none }
def fnValueSizeRow : OpenClaim := { program := "ytmghnibnokkjjaadoor", sum := "3204cfc8a232e3639a7439db146af6bca53f2e6c3575cde5d9e8e45ba06415b7", func := "loop.example/typezippers/laws.FnValueSize", spec := "fnValueSize", inPlace := ["internal/bytealg.IndexByteString", "internal/bytealg.IndexString"], recurses := true, named := ["unicode/utf8.first", "unicode/utf8.acceptRanges", "internal/bytealg.MaxLen"], apart := false, laid := [("unicode/utf8.acceptRanges", laid_unicode_utf8_acceptRanges), ("unicode/utf8.first", laid_unicode_utf8_first)] }
def FnValueSizeSaid : Prop := fnValueSizeRow.holds Tryd.pinned (OpenSpec.ofChange fnValueSizeSpec)

/-- ITS FALSE NEIGHBOUR: 'it returns false'. Refute it at one input. -/
def fnValueSizeWrong : ChangeSpec := { name := "fnValueSize", fn := fun _ => fun
  | [d] => { results := [.lit (.bool false)], args := [d] }
  | _ => none }
def FnValueSizeWrongFalsely : Prop := fnValueSizeRow.holds Tryd.pinned (OpenSpec.ofChange fnValueSizeWrong)

/-- 'laws.FnValue': WHATEVER THE INPUT: true; the input reads as it did. -/
def fnValueSpec : ChangeSpec := { name := "fnValue", fn := fun _ => fun
  | [d] => { results := [.lit (.bool true)], args := [d] }
  | _ => none }
def fnValueRow : OpenClaim := { program := "ytmghnibnokkjjaadoor", sum := "3204cfc8a232e3639a7439db146af6bca53f2e6c3575cde5d9e8e45ba06415b7", func := "loop.example/typezippers/laws.FnValue", spec := "fnValue", inPlace := ["internal/bytealg.IndexByteString", "internal/bytealg.IndexString"], recurses := true, named := ["unicode/utf8.first", "unicode/utf8.acceptRanges", "internal/bytealg.MaxLen"], apart := false, laid := [("unicode/utf8.acceptRanges", laid_unicode_utf8_acceptRanges), ("unicode/utf8.first", laid_unicode_utf8_first)] }
def FnValueSaid : Prop := fnValueRow.holds Tryd.pinned (OpenSpec.ofChange fnValueSpec)

/-- ITS FALSE NEIGHBOUR: 'it returns false'. Refute it at one input. -/
def fnValueWrong : ChangeSpec := { name := "fnValue", fn := fun _ => fun
  | [d] => { results := [.lit (.bool false)], args := [d] }
  | _ => none }
def FnValueWrongFalsely : Prop := fnValueRow.holds Tryd.pinned (OpenSpec.ofChange fnValueWrong)

/- THE SECOND FORM. 'bulk': how many values and letters a reading holds, each counted each time it is reached (what is shared counts as often as it is met; a slice's spare places count too). A statement '..UptoSaid' is the law's where the arguments, and the package variables that the reading takes, are together of bulk at most 1048576: NARROWER than '..Said'. Prove '..Said' where nothing that the law and all that it calls make is longer than what came in: it says more and counts as full. Else prove '..UptoSaid'. A law counts once. -/
mutual
def uptoBulk {H : Type} : DataW H → Nat
  | .lit (.string bytes) => bytes.length + 1
  | .lit _ => 1
  | .nil => 1
  | .ptr d => uptoBulk d + 1
  | .slice elems spare => uptoBulkAll elems + uptoBulkAll spare + 1
  | .agg parts => uptoBulkAll parts + 1
  | .iface _ d => uptoBulk d + 1
  | .map entries => uptoBulkEntries entries + 1
  | .held _ => 1
def uptoBulkAll {H : Type} : List (DataW H) → Nat
  | [] => 0
  | d :: r => uptoBulk d + uptoBulkAll r
def uptoBulkEntries {H : Type} : List (Lit × DataW H) → Nat
  | [] => 0
  | x :: r => uptoBulkEntry x + uptoBulkEntries r
def uptoBulkEntry {H : Type} : Lit × DataW H → Nat
  | (.string bytes, d) => bytes.length + uptoBulk d + 1
  | (_, d) => uptoBulk d + 1
 end
def uptoSmall : (H : Type) → List (DataW H) → Bool := fun _ ds => decide (uptoBulkAll ds ≤ 1048576)
def OpenSpec.upto (s : _root_.Go.ChangeSpec) : _root_.Go.OpenSpec := { _root_.Go.OpenSpec.ofChange s with cond := some uptoSmall }

/-- 'laws.FnExactTypeValid', WHERE WHAT IT READS IS OF BULK AT MOST 1048576: true; the input reads as it did. -/
def fnExactTypeValidUptoRow : OpenClaim := { program := "ytmghnibnokkjjaadoor", sum := "3204cfc8a232e3639a7439db146af6bca53f2e6c3575cde5d9e8e45ba06415b7", func := "loop.example/typezippers/laws.FnExactTypeValid", spec := "fnExactTypeValid", inPlace := ["internal/bytealg.IndexByteString", "internal/bytealg.IndexString"], recurses := true, named := ["internal/bytealg.MaxLen", "unicode/utf8.first", "unicode/utf8.acceptRanges"], apart := false, laid := [("unicode/utf8.acceptRanges", laid_unicode_utf8_acceptRanges), ("unicode/utf8.first", laid_unicode_utf8_first)], narrowed := true }
def FnExactTypeValidUptoSaid : Prop := fnExactTypeValidUptoRow.holds Tryd.pinned (OpenSpec.upto fnExactTypeValidSpec)

/-- 'laws.FnExactTypeSize', WHERE WHAT IT READS IS OF BULK AT MOST 1048576: true; the input reads as it did. -/
def fnExactTypeSizeUptoRow : OpenClaim := { program := "ytmghnibnokkjjaadoor", sum := "3204cfc8a232e3639a7439db146af6bca53f2e6c3575cde5d9e8e45ba06415b7", func := "loop.example/typezippers/laws.FnExactTypeSize", spec := "fnExactTypeSize", inPlace := ["internal/bytealg.IndexByteString", "internal/bytealg.IndexString"], recurses := true, named := ["internal/bytealg.MaxLen", "unicode/utf8.first", "unicode/utf8.acceptRanges"], apart := false, laid := [("unicode/utf8.acceptRanges", laid_unicode_utf8_acceptRanges), ("unicode/utf8.first", laid_unicode_utf8_first)], narrowed := true }
def FnExactTypeSizeUptoSaid : Prop := fnExactTypeSizeUptoRow.holds Tryd.pinned (OpenSpec.upto fnExactTypeSizeSpec)

/-- 'laws.FnExactDerivPlaces', WHERE WHAT IT READS IS OF BULK AT MOST 1048576: true; the input reads as it did. -/
def fnExactDerivPlacesUptoRow : OpenClaim := { program := "ytmghnibnokkjjaadoor", sum := "3204cfc8a232e3639a7439db146af6bca53f2e6c3575cde5d9e8e45ba06415b7", func := "loop.example/typezippers/laws.FnExactDerivPlaces", spec := "fnExactDerivPlaces", inPlace := ["internal/bytealg.IndexByteString", "internal/bytealg.IndexString"], unfollowed := true, recurses := true, named := ["internal/bytealg.MaxLen", "unicode/utf8.first", "unicode/utf8.acceptRanges"], apart := false, laid := [("unicode/utf8.acceptRanges", laid_unicode_utf8_acceptRanges), ("unicode/utf8.first", laid_unicode_utf8_first)], narrowed := true }
def FnExactDerivPlacesUptoSaid : Prop := fnExactDerivPlacesUptoRow.holds Tryd.pinned (OpenSpec.upto fnExactDerivPlacesSpec)

/-- 'laws.FnSize', WHERE WHAT IT READS IS OF BULK AT MOST 1048576: true; the input reads as it did. -/
def fnSizeUptoRow : OpenClaim := { program := "ytmghnibnokkjjaadoor", sum := "3204cfc8a232e3639a7439db146af6bca53f2e6c3575cde5d9e8e45ba06415b7", func := "loop.example/typezippers/laws.FnSize", spec := "fnSize", inPlace := ["internal/bytealg.IndexByteString", "internal/bytealg.IndexString"], recurses := true, named := ["internal/bytealg.MaxLen", "unicode/utf8.first", "unicode/utf8.acceptRanges"], apart := false, laid := [("unicode/utf8.acceptRanges", laid_unicode_utf8_acceptRanges), ("unicode/utf8.first", laid_unicode_utf8_first)], narrowed := true }
def FnSizeUptoSaid : Prop := fnSizeUptoRow.holds Tryd.pinned (OpenSpec.upto fnSizeSpec)

/-- 'laws.FnExactTypeClosed', WHERE WHAT IT READS IS OF BULK AT MOST 1048576: true; the input reads as it did. -/
def fnExactTypeClosedUptoRow : OpenClaim := { program := "ytmghnibnokkjjaadoor", sum := "3204cfc8a232e3639a7439db146af6bca53f2e6c3575cde5d9e8e45ba06415b7", func := "loop.example/typezippers/laws.FnExactTypeClosed", spec := "fnExactTypeClosed", inPlace := ["internal/bytealg.IndexByteString", "internal/bytealg.IndexString"], unfollowed := true, recurses := true, named := ["internal/bytealg.MaxLen", "unicode/utf8.first", "unicode/utf8.acceptRanges"], apart := false, laid := [("unicode/utf8.acceptRanges", laid_unicode_utf8_acceptRanges), ("unicode/utf8.first", laid_unicode_utf8_first)], narrowed := true }
def FnExactTypeClosedUptoSaid : Prop := fnExactTypeClosedUptoRow.holds Tryd.pinned (OpenSpec.upto fnExactTypeClosedSpec)

/-- 'laws.FnExactTypeEmpty', WHERE WHAT IT READS IS OF BULK AT MOST 1048576: true; the input reads as it did. -/
def fnExactTypeEmptyUptoRow : OpenClaim := { program := "ytmghnibnokkjjaadoor", sum := "3204cfc8a232e3639a7439db146af6bca53f2e6c3575cde5d9e8e45ba06415b7", func := "loop.example/typezippers/laws.FnExactTypeEmpty", spec := "fnExactTypeEmpty", inPlace := ["internal/bytealg.IndexByteString", "internal/bytealg.IndexString"], recurses := true, named := ["internal/bytealg.MaxLen", "unicode/utf8.first", "unicode/utf8.acceptRanges"], apart := false, laid := [("unicode/utf8.acceptRanges", laid_unicode_utf8_acceptRanges), ("unicode/utf8.first", laid_unicode_utf8_first)], narrowed := true }
def FnExactTypeEmptyUptoSaid : Prop := fnExactTypeEmptyUptoRow.holds Tryd.pinned (OpenSpec.upto fnExactTypeEmptySpec)

/-- 'laws.FnExactTypeNames', WHERE WHAT IT READS IS OF BULK AT MOST 1048576: true; the input reads as it did. -/
def fnExactTypeNamesUptoRow : OpenClaim := { program := "ytmghnibnokkjjaadoor", sum := "3204cfc8a232e3639a7439db146af6bca53f2e6c3575cde5d9e8e45ba06415b7", func := "loop.example/typezippers/laws.FnExactTypeNames", spec := "fnExactTypeNames", inPlace := ["internal/bytealg.IndexByteString", "internal/bytealg.IndexString"], unfollowed := true, recurses := true, named := ["internal/bytealg.MaxLen", "unicode/utf8.first", "unicode/utf8.acceptRanges"], apart := false, laid := [("unicode/utf8.acceptRanges", laid_unicode_utf8_acceptRanges), ("unicode/utf8.first", laid_unicode_utf8_first)], narrowed := true }
def FnExactTypeNamesUptoSaid : Prop := fnExactTypeNamesUptoRow.holds Tryd.pinned (OpenSpec.upto fnExactTypeNamesSpec)

/-- 'laws.FnExactTypeAlike', WHERE WHAT IT READS IS OF BULK AT MOST 1048576: true; the input reads as it did. -/
def fnExactTypeAlikeUptoRow : OpenClaim := { program := "ytmghnibnokkjjaadoor", sum := "3204cfc8a232e3639a7439db146af6bca53f2e6c3575cde5d9e8e45ba06415b7", func := "loop.example/typezippers/laws.FnExactTypeAlike", spec := "fnExactTypeAlike", inPlace := ["internal/bytealg.IndexByteString", "internal/bytealg.IndexString"], recurses := true, named := ["internal/bytealg.MaxLen", "unicode/utf8.first", "unicode/utf8.acceptRanges"], apart := false, laid := [("unicode/utf8.acceptRanges", laid_unicode_utf8_acceptRanges), ("unicode/utf8.first", laid_unicode_utf8_first)], narrowed := true }
def FnExactTypeAlikeUptoSaid : Prop := fnExactTypeAlikeUptoRow.holds Tryd.pinned (OpenSpec.upto fnExactTypeAlikeSpec)

/-- 'laws.FnEmpty', WHERE WHAT IT READS IS OF BULK AT MOST 1048576: true; the input reads as it did. -/
def fnEmptyUptoRow : OpenClaim := { program := "ytmghnibnokkjjaadoor", sum := "3204cfc8a232e3639a7439db146af6bca53f2e6c3575cde5d9e8e45ba06415b7", func := "loop.example/typezippers/laws.FnEmpty", spec := "fnEmpty", inPlace := ["internal/bytealg.IndexByteString", "internal/bytealg.IndexString"], recurses := true, named := ["internal/bytealg.MaxLen", "unicode/utf8.first", "unicode/utf8.acceptRanges"], apart := false, laid := [("unicode/utf8.acceptRanges", laid_unicode_utf8_acceptRanges), ("unicode/utf8.first", laid_unicode_utf8_first)], narrowed := true }
def FnEmptyUptoSaid : Prop := fnEmptyUptoRow.holds Tryd.pinned (OpenSpec.upto fnEmptySpec)

/-- 'laws.FnAlike', WHERE WHAT IT READS IS OF BULK AT MOST 1048576: true; the input reads as it did. -/
def fnAlikeUptoRow : OpenClaim := { program := "ytmghnibnokkjjaadoor", sum := "3204cfc8a232e3639a7439db146af6bca53f2e6c3575cde5d9e8e45ba06415b7", func := "loop.example/typezippers/laws.FnAlike", spec := "fnAlike", inPlace := ["internal/bytealg.IndexByteString", "internal/bytealg.IndexString"], recurses := true, named := ["internal/bytealg.MaxLen", "unicode/utf8.first", "unicode/utf8.acceptRanges"], apart := false, laid := [("unicode/utf8.acceptRanges", laid_unicode_utf8_acceptRanges), ("unicode/utf8.first", laid_unicode_utf8_first)], narrowed := true }
def FnAlikeUptoSaid : Prop := fnAlikeUptoRow.holds Tryd.pinned (OpenSpec.upto fnAlikeSpec)

/-- 'laws.FnValueSize', WHERE WHAT IT READS IS OF BULK AT MOST 1048576: true; the input reads as it did. -/
def fnValueSizeUptoRow : OpenClaim := { program := "ytmghnibnokkjjaadoor", sum := "3204cfc8a232e3639a7439db146af6bca53f2e6c3575cde5d9e8e45ba06415b7", func := "loop.example/typezippers/laws.FnValueSize", spec := "fnValueSize", inPlace := ["internal/bytealg.IndexByteString", "internal/bytealg.IndexString"], recurses := true, named := ["unicode/utf8.first", "unicode/utf8.acceptRanges", "internal/bytealg.MaxLen"], apart := false, laid := [("unicode/utf8.acceptRanges", laid_unicode_utf8_acceptRanges), ("unicode/utf8.first", laid_unicode_utf8_first)], narrowed := true }
def FnValueSizeUptoSaid : Prop := fnValueSizeUptoRow.holds Tryd.pinned (OpenSpec.upto fnValueSizeSpec)

/-- 'laws.FnValue', WHERE WHAT IT READS IS OF BULK AT MOST 1048576: true; the input reads as it did. -/
def fnValueUptoRow : OpenClaim := { program := "ytmghnibnokkjjaadoor", sum := "3204cfc8a232e3639a7439db146af6bca53f2e6c3575cde5d9e8e45ba06415b7", func := "loop.example/typezippers/laws.FnValue", spec := "fnValue", inPlace := ["internal/bytealg.IndexByteString", "internal/bytealg.IndexString"], recurses := true, named := ["unicode/utf8.first", "unicode/utf8.acceptRanges", "internal/bytealg.MaxLen"], apart := false, laid := [("unicode/utf8.acceptRanges", laid_unicode_utf8_acceptRanges), ("unicode/utf8.first", laid_unicode_utf8_first)], narrowed := true }
def FnValueUptoSaid : Prop := fnValueUptoRow.holds Tryd.pinned (OpenSpec.upto fnValueSpec)

end Rows
end Go.Proofs.YtmghnibnokkjjaaDoor
