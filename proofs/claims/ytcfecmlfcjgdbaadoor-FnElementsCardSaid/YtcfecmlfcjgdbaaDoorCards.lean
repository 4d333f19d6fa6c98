/-
  DERIVED. GIVEN WITH THE SEED: THE CARDS: each row of YtcfecmlfcjgdbaaDoorRows.lean that lists a variable, with what it lists TIED to the program's text (the seventh form; the later family's looks); each row that meets fmt, with fmt's text TOLD by the authors' own Lean function (tested against real Go, not proved from fmt's source: count such statements apart). THE CARD IS WHAT COUNTS. Prove the row's statement (the work); the ties are given (YtcfecmlfcjgdbaaDoorTie.lean); close each card by the builder's one call (the guide's Derived/Test/ToyasCard.lean, 'card_holds'). Laid BY PROGRAM, IN A SANDBOX (cutbox-door.mjs). By AI agents, Wed Nov 11 2026. No macro, syntax, notation, axiom, sorry.
-/
import Derived.Test.YtcfecmlfcjgdbaaDoorRows
import GoSem.ClaimSeven
namespace Go.Proofs.YtcfecmlfcjgdbaaDoor
namespace Rows

/-- THE TIED CARD OF 'laws.FnExactDerivOf'. -/
def fnExactDerivOfCard : Claim7 := { stood := { row := fnExactDerivOfRow, standIns := [], harness := (true, "bf56ba2356f21da3aa5cbbf47d8c268249211718e35507c90d0d3f64f927fc67"), looks := false }, kinds := [], alts := [], laidByText := true, laidKinds := [.data, .data, .data, .data, .pinned], laidTests := true, laidLooks := .later }
def FnExactDerivOfCardSaid : Prop := Claim7.holds Tryd.pinned (.plain (OpenSpec.ofChange fnExactDerivOfSpec)) fnExactDerivOfCard

/-- THE TIED CARD OF 'laws.FnExactDerivLoop'. -/
def fnExactDerivLoopCard : Claim7 := { stood := { row := fnExactDerivLoopRow, standIns := [], harness := (true, "bf56ba2356f21da3aa5cbbf47d8c268249211718e35507c90d0d3f64f927fc67"), looks := false }, kinds := [], alts := [], laidByText := true, laidKinds := [.data, .data, .data, .data, .pinned], laidTests := true, laidLooks := .later }
def FnExactDerivLoopCardSaid : Prop := Claim7.holds Tryd.pinned (.plain (OpenSpec.ofChange fnExactDerivLoopSpec)) fnExactDerivLoopCard

/-- THE TIED CARD OF 'laws.FnExactDerivTwice'. -/
def fnExactDerivTwiceCard : Claim7 := { stood := { row := fnExactDerivTwiceRow, standIns := [], harness := (true, "bf56ba2356f21da3aa5cbbf47d8c268249211718e35507c90d0d3f64f927fc67"), looks := false }, kinds := [], alts := [], laidByText := true, laidKinds := [.data, .data, .data, .data, .pinned], laidTests := true, laidLooks := .later }
def FnExactDerivTwiceCardSaid : Prop := Claim7.holds Tryd.pinned (.plain (OpenSpec.ofChange fnExactDerivTwiceSpec)) fnExactDerivTwiceCard

/-- THE TIED CARD OF 'laws.FnPlaces'. -/
def fnPlacesCard : Claim7 := { stood := { row := fnPlacesRow, standIns := [], harness := (true, "bf56ba2356f21da3aa5cbbf47d8c268249211718e35507c90d0d3f64f927fc67"), looks := false }, kinds := [], alts := [], laidByText := true, laidKinds := [.data, .data, .data, .data, .pinned], laidTests := true, laidLooks := .later }
def FnPlacesCardSaid : Prop := Claim7.holds Tryd.pinned (.plain (OpenSpec.ofChange fnPlacesSpec)) fnPlacesCard

/-- THE TIED CARD OF 'laws.FnElements'. -/
def fnElementsCard : Claim7 := { stood := { row := fnElementsRow, standIns := [], harness := (true, "bf56ba2356f21da3aa5cbbf47d8c268249211718e35507c90d0d3f64f927fc67"), looks := false }, kinds := [], alts := [], laidByText := true, laidKinds := [.data, .pinned], laidTests := true, laidLooks := .later }
def FnElementsCardSaid : Prop := Claim7.holds Tryd.pinned (.plain (OpenSpec.ofChange fnElementsSpec)) fnElementsCard

/-- THE TIED CARD OF 'laws.FnValueSize'. -/
def fnValueSizeCard : Claim7 := { stood := { row := fnValueSizeRow, standIns := [], harness := (true, "bf56ba2356f21da3aa5cbbf47d8c268249211718e35507c90d0d3f64f927fc67"), looks := false }, kinds := [], alts := [], laidByText := true, laidKinds := [.data, .pinned], laidTests := true, laidLooks := .later }
def FnValueSizeCardSaid : Prop := Claim7.holds Tryd.pinned (.plain (OpenSpec.ofChange fnValueSizeSpec)) fnValueSizeCard

/-- THE SECOND FORM's CARD OF 'laws.FnExactDerivOf'. -/
def fnExactDerivOfUptoCard : Claim7 := { stood := { row := fnExactDerivOfUptoRow, standIns := [], harness := (true, "bf56ba2356f21da3aa5cbbf47d8c268249211718e35507c90d0d3f64f927fc67"), looks := false }, kinds := [], alts := [], laidByText := true, laidKinds := [.data, .data, .data, .data, .pinned], laidTests := true, laidLooks := .later }
def FnExactDerivOfUptoCardSaid : Prop := Claim7.holds Tryd.pinned (.plain (OpenSpec.upto fnExactDerivOfSpec)) fnExactDerivOfUptoCard

/-- THE SECOND FORM's CARD OF 'laws.FnExactDerivLoop'. -/
def fnExactDerivLoopUptoCard : Claim7 := { stood := { row := fnExactDerivLoopUptoRow, standIns := [], harness := (true, "bf56ba2356f21da3aa5cbbf47d8c268249211718e35507c90d0d3f64f927fc67"), looks := false }, kinds := [], alts := [], laidByText := true, laidKinds := [.data, .data, .data, .data, .pinned], laidTests := true, laidLooks := .later }
def FnExactDerivLoopUptoCardSaid : Prop := Claim7.holds Tryd.pinned (.plain (OpenSpec.upto fnExactDerivLoopSpec)) fnExactDerivLoopUptoCard

/-- THE SECOND FORM's CARD OF 'laws.FnExactDerivTwice'. -/
def fnExactDerivTwiceUptoCard : Claim7 := { stood := { row := fnExactDerivTwiceUptoRow, standIns := [], harness := (true, "bf56ba2356f21da3aa5cbbf47d8c268249211718e35507c90d0d3f64f927fc67"), looks := false }, kinds := [], alts := [], laidByText := true, laidKinds := [.data, .data, .data, .data, .pinned], laidTests := true, laidLooks := .later }
def FnExactDerivTwiceUptoCardSaid : Prop := Claim7.holds Tryd.pinned (.plain (OpenSpec.upto fnExactDerivTwiceSpec)) fnExactDerivTwiceUptoCard

/-- THE SECOND FORM's CARD OF 'laws.FnPlaces'. -/
def fnPlacesUptoCard : Claim7 := { stood := { row := fnPlacesUptoRow, standIns := [], harness := (true, "bf56ba2356f21da3aa5cbbf47d8c268249211718e35507c90d0d3f64f927fc67"), looks := false }, kinds := [], alts := [], laidByText := true, laidKinds := [.data, .data, .data, .data, .pinned], laidTests := true, laidLooks := .later }
def FnPlacesUptoCardSaid : Prop := Claim7.holds Tryd.pinned (.plain (OpenSpec.upto fnPlacesSpec)) fnPlacesUptoCard

/-- THE SECOND FORM's CARD OF 'laws.FnElements'. -/
def fnElementsUptoCard : Claim7 := { stood := { row := fnElementsUptoRow, standIns := [], harness := (true, "bf56ba2356f21da3aa5cbbf47d8c268249211718e35507c90d0d3f64f927fc67"), looks := false }, kinds := [], alts := [], laidByText := true, laidKinds := [.data, .pinned], laidTests := true, laidLooks := .later }
def FnElementsUptoCardSaid : Prop := Claim7.holds Tryd.pinned (.plain (OpenSpec.upto fnElementsSpec)) fnElementsUptoCard

/-- THE SECOND FORM's CARD OF 'laws.FnValueSize'. -/
def fnValueSizeUptoCard : Claim7 := { stood := { row := fnValueSizeUptoRow, standIns := [], harness := (true, "bf56ba2356f21da3aa5cbbf47d8c268249211718e35507c90d0d3f64f927fc67"), looks := false }, kinds := [], alts := [], laidByText := true, laidKinds := [.data, .pinned], laidTests := true, laidLooks := .later }
def FnValueSizeUptoCardSaid : Prop := Claim7.holds Tryd.pinned (.plain (OpenSpec.upto fnValueSizeSpec)) fnValueSizeUptoCard
end Rows
end Go.Proofs.YtcfecmlfcjgdbaaDoor
