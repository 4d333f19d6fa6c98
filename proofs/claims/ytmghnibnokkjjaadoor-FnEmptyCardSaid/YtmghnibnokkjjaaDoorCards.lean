/-
  DERIVED. GIVEN WITH THE SEED: THE CARDS: each row of YtmghnibnokkjjaaDoorRows.lean that lists a variable, with what it lists TIED to the program's text (the seventh form; the later family's looks); each row that meets fmt, with fmt's text TOLD by the authors' own Lean function (tested against real Go, not proved from fmt's source: count such statements apart). THE CARD IS WHAT COUNTS. Prove the row's statement (the work); the ties are given (YtmghnibnokkjjaaDoorTie.lean); close each card by the builder's one call (the guide's Derived/Test/ToyasCard.lean, 'card_holds'). Laid BY PROGRAM, IN A SANDBOX (cutbox-door.mjs). By AI agents, Wed Nov 11 2026. No macro, syntax, notation, axiom, sorry.
-/
import Derived.Test.YtmghnibnokkjjaaDoorRows
import GoSem.ClaimSeven
namespace Go.Proofs.YtmghnibnokkjjaaDoor
namespace Rows

/-- THE TIED CARD OF 'laws.FnExactTypeValid'. -/
def fnExactTypeValidCard : Claim7 := { stood := { row := fnExactTypeValidRow, standIns := [], harness := (true, "44ea63b14f7f550faf9cca762e9907532e7bbc5ee69745c867b8bcdcf24ce857"), looks := false }, kinds := [], alts := [], laidByText := true, laidKinds := [.data, .pinned], laidTests := true, laidLooks := .later }
def FnExactTypeValidCardSaid : Prop := Claim7.holds Tryd.pinned (.plain (OpenSpec.ofChange fnExactTypeValidSpec)) fnExactTypeValidCard

/-- THE TIED CARD OF 'laws.FnExactTypeSize'. -/
def fnExactTypeSizeCard : Claim7 := { stood := { row := fnExactTypeSizeRow, standIns := [], harness := (true, "44ea63b14f7f550faf9cca762e9907532e7bbc5ee69745c867b8bcdcf24ce857"), looks := false }, kinds := [], alts := [], laidByText := true, laidKinds := [.data, .pinned], laidTests := true, laidLooks := .later }
def FnExactTypeSizeCardSaid : Prop := Claim7.holds Tryd.pinned (.plain (OpenSpec.ofChange fnExactTypeSizeSpec)) fnExactTypeSizeCard

/-- THE TIED CARD OF 'laws.FnExactDerivPlaces'. -/
def fnExactDerivPlacesCard : Claim7 := { stood := { row := fnExactDerivPlacesRow, standIns := [], harness := (true, "44ea63b14f7f550faf9cca762e9907532e7bbc5ee69745c867b8bcdcf24ce857"), looks := false }, kinds := [], alts := [], laidByText := true, laidKinds := [.data, .pinned], laidTests := true, laidLooks := .later }
def FnExactDerivPlacesCardSaid : Prop := Claim7.holds Tryd.pinned (.plain (OpenSpec.ofChange fnExactDerivPlacesSpec)) fnExactDerivPlacesCard

/-- THE TIED CARD OF 'laws.FnSize'. -/
def fnSizeCard : Claim7 := { stood := { row := fnSizeRow, standIns := [], harness := (true, "44ea63b14f7f550faf9cca762e9907532e7bbc5ee69745c867b8bcdcf24ce857"), looks := false }, kinds := [], alts := [], laidByText := true, laidKinds := [.data, .pinned], laidTests := true, laidLooks := .later }
def FnSizeCardSaid : Prop := Claim7.holds Tryd.pinned (.plain (OpenSpec.ofChange fnSizeSpec)) fnSizeCard

/-- THE TIED CARD OF 'laws.FnExactTypeClosed'. -/
def fnExactTypeClosedCard : Claim7 := { stood := { row := fnExactTypeClosedRow, standIns := [], harness := (true, "44ea63b14f7f550faf9cca762e9907532e7bbc5ee69745c867b8bcdcf24ce857"), looks := false }, kinds := [], alts := [], laidByText := true, laidKinds := [.data, .pinned], laidTests := true, laidLooks := .later }
def FnExactTypeClosedCardSaid : Prop := Claim7.holds Tryd.pinned (.plain (OpenSpec.ofChange fnExactTypeClosedSpec)) fnExactTypeClosedCard

/-- THE TIED CARD OF 'laws.FnExactTypeEmpty'. -/
def fnExactTypeEmptyCard : Claim7 := { stood := { row := fnExactTypeEmptyRow, standIns := [], harness := (true, "44ea63b14f7f550faf9cca762e9907532e7bbc5ee69745c867b8bcdcf24ce857"), looks := false }, kinds := [], alts := [], laidByText := true, laidKinds := [.data, .pinned], laidTests := true, laidLooks := .later }
def FnExactTypeEmptyCardSaid : Prop := Claim7.holds Tryd.pinned (.plain (OpenSpec.ofChange fnExactTypeEmptySpec)) fnExactTypeEmptyCard

/-- THE TIED CARD OF 'laws.FnExactTypeNames'. -/
def fnExactTypeNamesCard : Claim7 := { stood := { row := fnExactTypeNamesRow, standIns := [], harness := (true, "44ea63b14f7f550faf9cca762e9907532e7bbc5ee69745c867b8bcdcf24ce857"), looks := false }, kinds := [], alts := [], laidByText := true, laidKinds := [.data, .pinned], laidTests := true, laidLooks := .later }
def FnExactTypeNamesCardSaid : Prop := Claim7.holds Tryd.pinned (.plain (OpenSpec.ofChange fnExactTypeNamesSpec)) fnExactTypeNamesCard

/-- THE TIED CARD OF 'laws.FnExactTypeAlike'. -/
def fnExactTypeAlikeCard : Claim7 := { stood := { row := fnExactTypeAlikeRow, standIns := [], harness := (true, "44ea63b14f7f550faf9cca762e9907532e7bbc5ee69745c867b8bcdcf24ce857"), looks := false }, kinds := [], alts := [], laidByText := true, laidKinds := [.data, .pinned], laidTests := true, laidLooks := .later }
def FnExactTypeAlikeCardSaid : Prop := Claim7.holds Tryd.pinned (.plain (OpenSpec.ofChange fnExactTypeAlikeSpec)) fnExactTypeAlikeCard

/-- THE TIED CARD OF 'laws.FnEmpty'. -/
def fnEmptyCard : Claim7 := { stood := { row := fnEmptyRow, standIns := [], harness := (true, "44ea63b14f7f550faf9cca762e9907532e7bbc5ee69745c867b8bcdcf24ce857"), looks := false }, kinds := [], alts := [], laidByText := true, laidKinds := [.data, .pinned], laidTests := true, laidLooks := .later }
def FnEmptyCardSaid : Prop := Claim7.holds Tryd.pinned (.plain (OpenSpec.ofChange fnEmptySpec)) fnEmptyCard

/-- THE TIED CARD OF 'laws.FnAlike'. -/
def fnAlikeCard : Claim7 := { stood := { row := fnAlikeRow, standIns := [], harness := (true, "44ea63b14f7f550faf9cca762e9907532e7bbc5ee69745c867b8bcdcf24ce857"), looks := false }, kinds := [], alts := [], laidByText := true, laidKinds := [.data, .pinned], laidTests := true, laidLooks := .later }
def FnAlikeCardSaid : Prop := Claim7.holds Tryd.pinned (.plain (OpenSpec.ofChange fnAlikeSpec)) fnAlikeCard

/-- THE TIED CARD OF 'laws.FnValueSize'. -/
def fnValueSizeCard : Claim7 := { stood := { row := fnValueSizeRow, standIns := [], harness := (true, "44ea63b14f7f550faf9cca762e9907532e7bbc5ee69745c867b8bcdcf24ce857"), looks := false }, kinds := [], alts := [], laidByText := true, laidKinds := [.data, .pinned], laidTests := true, laidLooks := .later }
def FnValueSizeCardSaid : Prop := Claim7.holds Tryd.pinned (.plain (OpenSpec.ofChange fnValueSizeSpec)) fnValueSizeCard

/-- THE TIED CARD OF 'laws.FnValue'. -/
def fnValueCard : Claim7 := { stood := { row := fnValueRow, standIns := [], harness := (true, "44ea63b14f7f550faf9cca762e9907532e7bbc5ee69745c867b8bcdcf24ce857"), looks := false }, kinds := [], alts := [], laidByText := true, laidKinds := [.data, .pinned], laidTests := true, laidLooks := .later }
def FnValueCardSaid : Prop := Claim7.holds Tryd.pinned (.plain (OpenSpec.ofChange fnValueSpec)) fnValueCard

/-- THE SECOND FORM's CARD OF 'laws.FnExactTypeValid'. -/
def fnExactTypeValidUptoCard : Claim7 := { stood := { row := fnExactTypeValidUptoRow, standIns := [], harness := (true, "44ea63b14f7f550faf9cca762e9907532e7bbc5ee69745c867b8bcdcf24ce857"), looks := false }, kinds := [], alts := [], laidByText := true, laidKinds := [.data, .pinned], laidTests := true, laidLooks := .later }
def FnExactTypeValidUptoCardSaid : Prop := Claim7.holds Tryd.pinned (.plain (OpenSpec.upto fnExactTypeValidSpec)) fnExactTypeValidUptoCard

/-- THE SECOND FORM's CARD OF 'laws.FnExactTypeSize'. -/
def fnExactTypeSizeUptoCard : Claim7 := { stood := { row := fnExactTypeSizeUptoRow, standIns := [], harness := (true, "44ea63b14f7f550faf9cca762e9907532e7bbc5ee69745c867b8bcdcf24ce857"), looks := false }, kinds := [], alts := [], laidByText := true, laidKinds := [.data, .pinned], laidTests := true, laidLooks := .later }
def FnExactTypeSizeUptoCardSaid : Prop := Claim7.holds Tryd.pinned (.plain (OpenSpec.upto fnExactTypeSizeSpec)) fnExactTypeSizeUptoCard

/-- THE SECOND FORM's CARD OF 'laws.FnExactDerivPlaces'. -/
def fnExactDerivPlacesUptoCard : Claim7 := { stood := { row := fnExactDerivPlacesUptoRow, standIns := [], harness := (true, "44ea63b14f7f550faf9cca762e9907532e7bbc5ee69745c867b8bcdcf24ce857"), looks := false }, kinds := [], alts := [], laidByText := true, laidKinds := [.data, .pinned], laidTests := true, laidLooks := .later }
def FnExactDerivPlacesUptoCardSaid : Prop := Claim7.holds Tryd.pinned (.plain (OpenSpec.upto fnExactDerivPlacesSpec)) fnExactDerivPlacesUptoCard

/-- THE SECOND FORM's CARD OF 'laws.FnSize'. -/
def fnSizeUptoCard : Claim7 := { stood := { row := fnSizeUptoRow, standIns := [], harness := (true, "44ea63b14f7f550faf9cca762e9907532e7bbc5ee69745c867b8bcdcf24ce857"), looks := false }, kinds := [], alts := [], laidByText := true, laidKinds := [.data, .pinned], laidTests := true, laidLooks := .later }
def FnSizeUptoCardSaid : Prop := Claim7.holds Tryd.pinned (.plain (OpenSpec.upto fnSizeSpec)) fnSizeUptoCard

/-- THE SECOND FORM's CARD OF 'laws.FnExactTypeClosed'. -/
def fnExactTypeClosedUptoCard : Claim7 := { stood := { row := fnExactTypeClosedUptoRow, standIns := [], harness := (true, "44ea63b14f7f550faf9cca762e9907532e7bbc5ee69745c867b8bcdcf24ce857"), looks := false }, kinds := [], alts := [], laidByText := true, laidKinds := [.data, .pinned], laidTests := true, laidLooks := .later }
def FnExactTypeClosedUptoCardSaid : Prop := Claim7.holds Tryd.pinned (.plain (OpenSpec.upto fnExactTypeClosedSpec)) fnExactTypeClosedUptoCard

/-- THE SECOND FORM's CARD OF 'laws.FnExactTypeEmpty'. -/
def fnExactTypeEmptyUptoCard : Claim7 := { stood := { row := fnExactTypeEmptyUptoRow, standIns := [], harness := (true, "44ea63b14f7f550faf9cca762e9907532e7bbc5ee69745c867b8bcdcf24ce857"), looks := false }, kinds := [], alts := [], laidByText := true, laidKinds := [.data, .pinned], laidTests := true, laidLooks := .later }
def FnExactTypeEmptyUptoCardSaid : Prop := Claim7.holds Tryd.pinned (.plain (OpenSpec.upto fnExactTypeEmptySpec)) fnExactTypeEmptyUptoCard

/-- THE SECOND FORM's CARD OF 'laws.FnExactTypeNames'. -/
def fnExactTypeNamesUptoCard : Claim7 := { stood := { row := fnExactTypeNamesUptoRow, standIns := [], harness := (true, "44ea63b14f7f550faf9cca762e9907532e7bbc5ee69745c867b8bcdcf24ce857"), looks := false }, kinds := [], alts := [], laidByText := true, laidKinds := [.data, .pinned], laidTests := true, laidLooks := .later }
def FnExactTypeNamesUptoCardSaid : Prop := Claim7.holds Tryd.pinned (.plain (OpenSpec.upto fnExactTypeNamesSpec)) fnExactTypeNamesUptoCard

/-- THE SECOND FORM's CARD OF 'laws.FnExactTypeAlike'. -/
def fnExactTypeAlikeUptoCard : Claim7 := { stood := { row := fnExactTypeAlikeUptoRow, standIns := [], harness := (true, "44ea63b14f7f550faf9cca762e9907532e7bbc5ee69745c867b8bcdcf24ce857"), looks := false }, kinds := [], alts := [], laidByText := true, laidKinds := [.data, .pinned], laidTests := true, laidLooks := .later }
def FnExactTypeAlikeUptoCardSaid : Prop := Claim7.holds Tryd.pinned (.plain (OpenSpec.upto fnExactTypeAlikeSpec)) fnExactTypeAlikeUptoCard

/-- THE SECOND FORM's CARD OF 'laws.FnEmpty'. -/
def fnEmptyUptoCard : Claim7 := { stood := { row := fnEmptyUptoRow, standIns := [], harness := (true, "44ea63b14f7f550faf9cca762e9907532e7bbc5ee69745c867b8bcdcf24ce857"), looks := false }, kinds := [], alts := [], laidByText := true, laidKinds := [.data, .pinned], laidTests := true, laidLooks := .later }
def FnEmptyUptoCardSaid : Prop := Claim7.holds Tryd.pinned (.plain (OpenSpec.upto fnEmptySpec)) fnEmptyUptoCard

/-- THE SECOND FORM's CARD OF 'laws.FnAlike'. -/
def fnAlikeUptoCard : Claim7 := { stood := { row := fnAlikeUptoRow, standIns := [], harness := (true, "44ea63b14f7f550faf9cca762e9907532e7bbc5ee69745c867b8bcdcf24ce857"), looks := false }, kinds := [], alts := [], laidByText := true, laidKinds := [.data, .pinned], laidTests := true, laidLooks := .later }
def FnAlikeUptoCardSaid : Prop := Claim7.holds Tryd.pinned (.plain (OpenSpec.upto fnAlikeSpec)) fnAlikeUptoCard

/-- THE SECOND FORM's CARD OF 'laws.FnValueSize'. -/
def fnValueSizeUptoCard : Claim7 := { stood := { row := fnValueSizeUptoRow, standIns := [], harness := (true, "44ea63b14f7f550faf9cca762e9907532e7bbc5ee69745c867b8bcdcf24ce857"), looks := false }, kinds := [], alts := [], laidByText := true, laidKinds := [.data, .pinned], laidTests := true, laidLooks := .later }
def FnValueSizeUptoCardSaid : Prop := Claim7.holds Tryd.pinned (.plain (OpenSpec.upto fnValueSizeSpec)) fnValueSizeUptoCard

/-- THE SECOND FORM's CARD OF 'laws.FnValue'. -/
def fnValueUptoCard : Claim7 := { stood := { row := fnValueUptoRow, standIns := [], harness := (true, "44ea63b14f7f550faf9cca762e9907532e7bbc5ee69745c867b8bcdcf24ce857"), looks := false }, kinds := [], alts := [], laidByText := true, laidKinds := [.data, .pinned], laidTests := true, laidLooks := .later }
def FnValueUptoCardSaid : Prop := Claim7.holds Tryd.pinned (.plain (OpenSpec.upto fnValueSpec)) fnValueUptoCard
end Rows
end Go.Proofs.YtmghnibnokkjjaaDoor
