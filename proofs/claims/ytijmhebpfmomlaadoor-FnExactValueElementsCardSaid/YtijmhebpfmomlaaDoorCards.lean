/-
  DERIVED. GIVEN WITH THE SEED: THE CARDS: each row of YtijmhebpfmomlaaDoorRows.lean that lists a variable, with what it lists TIED to the program's text (the seventh form; the later family's looks); each row that meets fmt, with fmt's text TOLD by the authors' own Lean function (tested against real Go, not proved from fmt's source: count such statements apart). THE CARD IS WHAT COUNTS. Prove the row's statement (the work); the ties are given (YtijmhebpfmomlaaDoorTie.lean); close each card by the builder's one call (the guide's Derived/Test/ToyasCard.lean, 'card_holds'). Laid BY PROGRAM, IN A SANDBOX (cutbox-door.mjs). By AI agents, Wed Nov 11 2026. No macro, syntax, notation, axiom, sorry.
-/
import Derived.Test.YtijmhebpfmomlaaDoorRows
import GoSem.ClaimSeven
namespace Go.Proofs.YtijmhebpfmomlaaDoor
namespace Rows

/-- THE TIED CARD OF 'laws.FnExactValueValid'. -/
def fnExactValueValidCard : Claim7 := { stood := { row := fnExactValueValidRow, standIns := [], harness := (true, "9dcd37e211c7e5b9e704e5de4ec8c513be5f44e45019ab1d8e2b2d9422994b4a"), looks := false }, kinds := [], alts := [], laidByText := true, laidKinds := [.data, .pinned], laidTests := true, laidLooks := .later }
def FnExactValueValidCardSaid : Prop := Claim7.holds Tryd.pinned (.plain (OpenSpec.ofChange fnExactValueValidSpec)) fnExactValueValidCard

/-- THE TIED CARD OF 'laws.FnExactValueSize'. -/
def fnExactValueSizeCard : Claim7 := { stood := { row := fnExactValueSizeRow, standIns := [], harness := (true, "9dcd37e211c7e5b9e704e5de4ec8c513be5f44e45019ab1d8e2b2d9422994b4a"), looks := false }, kinds := [], alts := [], laidByText := true, laidKinds := [.data, .pinned], laidTests := true, laidLooks := .later }
def FnExactValueSizeCardSaid : Prop := Claim7.holds Tryd.pinned (.plain (OpenSpec.ofChange fnExactValueSizeSpec)) fnExactValueSizeCard

/-- THE TIED CARD OF 'laws.FnExactValueElements'. -/
def fnExactValueElementsCard : Claim7 := { stood := { row := fnExactValueElementsRow, standIns := [], harness := (true, "9dcd37e211c7e5b9e704e5de4ec8c513be5f44e45019ab1d8e2b2d9422994b4a"), looks := false }, kinds := [], alts := [], laidByText := true, laidKinds := [.data, .pinned], laidTests := true, laidLooks := .later }
def FnExactValueElementsCardSaid : Prop := Claim7.holds Tryd.pinned (.plain (OpenSpec.ofChange fnExactValueElementsSpec)) fnExactValueElementsCard

/-- THE TIED CARD OF 'laws.FnExactTypeValid'. -/
def fnExactTypeValidCard : Claim7 := { stood := { row := fnExactTypeValidRow, standIns := [], harness := (true, "9dcd37e211c7e5b9e704e5de4ec8c513be5f44e45019ab1d8e2b2d9422994b4a"), looks := false }, kinds := [], alts := [], laidByText := true, laidKinds := [.data, .pinned], laidTests := true, laidLooks := .later }
def FnExactTypeValidCardSaid : Prop := Claim7.holds Tryd.pinned (.plain (OpenSpec.ofChange fnExactTypeValidSpec)) fnExactTypeValidCard

/-- THE TIED CARD OF 'laws.FnExactTypeSize'. -/
def fnExactTypeSizeCard : Claim7 := { stood := { row := fnExactTypeSizeRow, standIns := [], harness := (true, "9dcd37e211c7e5b9e704e5de4ec8c513be5f44e45019ab1d8e2b2d9422994b4a"), looks := false }, kinds := [], alts := [], laidByText := true, laidKinds := [.data, .pinned], laidTests := true, laidLooks := .later }
def FnExactTypeSizeCardSaid : Prop := Claim7.holds Tryd.pinned (.plain (OpenSpec.ofChange fnExactTypeSizeSpec)) fnExactTypeSizeCard

/-- THE TIED CARD OF 'laws.FnExactDerivPlaces'. -/
def fnExactDerivPlacesCard : Claim7 := { stood := { row := fnExactDerivPlacesRow, standIns := [], harness := (true, "9dcd37e211c7e5b9e704e5de4ec8c513be5f44e45019ab1d8e2b2d9422994b4a"), looks := false }, kinds := [], alts := [], laidByText := true, laidKinds := [.data, .pinned], laidTests := true, laidLooks := .later }
def FnExactDerivPlacesCardSaid : Prop := Claim7.holds Tryd.pinned (.plain (OpenSpec.ofChange fnExactDerivPlacesSpec)) fnExactDerivPlacesCard

/-- THE TIED CARD OF 'laws.FnSize'. -/
def fnSizeCard : Claim7 := { stood := { row := fnSizeRow, standIns := [], harness := (true, "9dcd37e211c7e5b9e704e5de4ec8c513be5f44e45019ab1d8e2b2d9422994b4a"), looks := false }, kinds := [], alts := [], laidByText := true, laidKinds := [.data, .pinned], laidTests := true, laidLooks := .later }
def FnSizeCardSaid : Prop := Claim7.holds Tryd.pinned (.plain (OpenSpec.ofChange fnSizeSpec)) fnSizeCard

/-- THE TIED CARD OF 'laws.FnExactTypeClosed'. -/
def fnExactTypeClosedCard : Claim7 := { stood := { row := fnExactTypeClosedRow, standIns := [], harness := (true, "9dcd37e211c7e5b9e704e5de4ec8c513be5f44e45019ab1d8e2b2d9422994b4a"), looks := false }, kinds := [], alts := [], laidByText := true, laidKinds := [.data, .pinned], laidTests := true, laidLooks := .later }
def FnExactTypeClosedCardSaid : Prop := Claim7.holds Tryd.pinned (.plain (OpenSpec.ofChange fnExactTypeClosedSpec)) fnExactTypeClosedCard

/-- THE TIED CARD OF 'laws.FnExactTypeEmpty'. -/
def fnExactTypeEmptyCard : Claim7 := { stood := { row := fnExactTypeEmptyRow, standIns := [], harness := (true, "9dcd37e211c7e5b9e704e5de4ec8c513be5f44e45019ab1d8e2b2d9422994b4a"), looks := false }, kinds := [], alts := [], laidByText := true, laidKinds := [.data, .pinned], laidTests := true, laidLooks := .later }
def FnExactTypeEmptyCardSaid : Prop := Claim7.holds Tryd.pinned (.plain (OpenSpec.ofChange fnExactTypeEmptySpec)) fnExactTypeEmptyCard

/-- THE TIED CARD OF 'laws.FnExactTypeNames'. -/
def fnExactTypeNamesCard : Claim7 := { stood := { row := fnExactTypeNamesRow, standIns := [], harness := (true, "9dcd37e211c7e5b9e704e5de4ec8c513be5f44e45019ab1d8e2b2d9422994b4a"), looks := false }, kinds := [], alts := [], laidByText := true, laidKinds := [.data, .pinned], laidTests := true, laidLooks := .later }
def FnExactTypeNamesCardSaid : Prop := Claim7.holds Tryd.pinned (.plain (OpenSpec.ofChange fnExactTypeNamesSpec)) fnExactTypeNamesCard

/-- THE SECOND FORM's CARD OF 'laws.FnExactValueValid'. -/
def fnExactValueValidUptoCard : Claim7 := { stood := { row := fnExactValueValidUptoRow, standIns := [], harness := (true, "9dcd37e211c7e5b9e704e5de4ec8c513be5f44e45019ab1d8e2b2d9422994b4a"), looks := false }, kinds := [], alts := [], laidByText := true, laidKinds := [.data, .pinned], laidTests := true, laidLooks := .later }
def FnExactValueValidUptoCardSaid : Prop := Claim7.holds Tryd.pinned (.plain (OpenSpec.upto fnExactValueValidSpec)) fnExactValueValidUptoCard

/-- THE SECOND FORM's CARD OF 'laws.FnExactValueSize'. -/
def fnExactValueSizeUptoCard : Claim7 := { stood := { row := fnExactValueSizeUptoRow, standIns := [], harness := (true, "9dcd37e211c7e5b9e704e5de4ec8c513be5f44e45019ab1d8e2b2d9422994b4a"), looks := false }, kinds := [], alts := [], laidByText := true, laidKinds := [.data, .pinned], laidTests := true, laidLooks := .later }
def FnExactValueSizeUptoCardSaid : Prop := Claim7.holds Tryd.pinned (.plain (OpenSpec.upto fnExactValueSizeSpec)) fnExactValueSizeUptoCard

/-- THE SECOND FORM's CARD OF 'laws.FnExactValueElements'. -/
def fnExactValueElementsUptoCard : Claim7 := { stood := { row := fnExactValueElementsUptoRow, standIns := [], harness := (true, "9dcd37e211c7e5b9e704e5de4ec8c513be5f44e45019ab1d8e2b2d9422994b4a"), looks := false }, kinds := [], alts := [], laidByText := true, laidKinds := [.data, .pinned], laidTests := true, laidLooks := .later }
def FnExactValueElementsUptoCardSaid : Prop := Claim7.holds Tryd.pinned (.plain (OpenSpec.upto fnExactValueElementsSpec)) fnExactValueElementsUptoCard

/-- THE SECOND FORM's CARD OF 'laws.FnExactTypeValid'. -/
def fnExactTypeValidUptoCard : Claim7 := { stood := { row := fnExactTypeValidUptoRow, standIns := [], harness := (true, "9dcd37e211c7e5b9e704e5de4ec8c513be5f44e45019ab1d8e2b2d9422994b4a"), looks := false }, kinds := [], alts := [], laidByText := true, laidKinds := [.data, .pinned], laidTests := true, laidLooks := .later }
def FnExactTypeValidUptoCardSaid : Prop := Claim7.holds Tryd.pinned (.plain (OpenSpec.upto fnExactTypeValidSpec)) fnExactTypeValidUptoCard

/-- THE SECOND FORM's CARD OF 'laws.FnExactTypeSize'. -/
def fnExactTypeSizeUptoCard : Claim7 := { stood := { row := fnExactTypeSizeUptoRow, standIns := [], harness := (true, "9dcd37e211c7e5b9e704e5de4ec8c513be5f44e45019ab1d8e2b2d9422994b4a"), looks := false }, kinds := [], alts := [], laidByText := true, laidKinds := [.data, .pinned], laidTests := true, laidLooks := .later }
def FnExactTypeSizeUptoCardSaid : Prop := Claim7.holds Tryd.pinned (.plain (OpenSpec.upto fnExactTypeSizeSpec)) fnExactTypeSizeUptoCard

/-- THE SECOND FORM's CARD OF 'laws.FnExactDerivPlaces'. -/
def fnExactDerivPlacesUptoCard : Claim7 := { stood := { row := fnExactDerivPlacesUptoRow, standIns := [], harness := (true, "9dcd37e211c7e5b9e704e5de4ec8c513be5f44e45019ab1d8e2b2d9422994b4a"), looks := false }, kinds := [], alts := [], laidByText := true, laidKinds := [.data, .pinned], laidTests := true, laidLooks := .later }
def FnExactDerivPlacesUptoCardSaid : Prop := Claim7.holds Tryd.pinned (.plain (OpenSpec.upto fnExactDerivPlacesSpec)) fnExactDerivPlacesUptoCard

/-- THE SECOND FORM's CARD OF 'laws.FnSize'. -/
def fnSizeUptoCard : Claim7 := { stood := { row := fnSizeUptoRow, standIns := [], harness := (true, "9dcd37e211c7e5b9e704e5de4ec8c513be5f44e45019ab1d8e2b2d9422994b4a"), looks := false }, kinds := [], alts := [], laidByText := true, laidKinds := [.data, .pinned], laidTests := true, laidLooks := .later }
def FnSizeUptoCardSaid : Prop := Claim7.holds Tryd.pinned (.plain (OpenSpec.upto fnSizeSpec)) fnSizeUptoCard

/-- THE SECOND FORM's CARD OF 'laws.FnExactTypeClosed'. -/
def fnExactTypeClosedUptoCard : Claim7 := { stood := { row := fnExactTypeClosedUptoRow, standIns := [], harness := (true, "9dcd37e211c7e5b9e704e5de4ec8c513be5f44e45019ab1d8e2b2d9422994b4a"), looks := false }, kinds := [], alts := [], laidByText := true, laidKinds := [.data, .pinned], laidTests := true, laidLooks := .later }
def FnExactTypeClosedUptoCardSaid : Prop := Claim7.holds Tryd.pinned (.plain (OpenSpec.upto fnExactTypeClosedSpec)) fnExactTypeClosedUptoCard

/-- THE SECOND FORM's CARD OF 'laws.FnExactTypeEmpty'. -/
def fnExactTypeEmptyUptoCard : Claim7 := { stood := { row := fnExactTypeEmptyUptoRow, standIns := [], harness := (true, "9dcd37e211c7e5b9e704e5de4ec8c513be5f44e45019ab1d8e2b2d9422994b4a"), looks := false }, kinds := [], alts := [], laidByText := true, laidKinds := [.data, .pinned], laidTests := true, laidLooks := .later }
def FnExactTypeEmptyUptoCardSaid : Prop := Claim7.holds Tryd.pinned (.plain (OpenSpec.upto fnExactTypeEmptySpec)) fnExactTypeEmptyUptoCard

/-- THE SECOND FORM's CARD OF 'laws.FnExactTypeNames'. -/
def fnExactTypeNamesUptoCard : Claim7 := { stood := { row := fnExactTypeNamesUptoRow, standIns := [], harness := (true, "9dcd37e211c7e5b9e704e5de4ec8c513be5f44e45019ab1d8e2b2d9422994b4a"), looks := false }, kinds := [], alts := [], laidByText := true, laidKinds := [.data, .pinned], laidTests := true, laidLooks := .later }
def FnExactTypeNamesUptoCardSaid : Prop := Claim7.holds Tryd.pinned (.plain (OpenSpec.upto fnExactTypeNamesSpec)) fnExactTypeNamesUptoCard
end Rows
end Go.Proofs.YtijmhebpfmomlaaDoor
