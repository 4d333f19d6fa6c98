/-
  DERIVED. GIVEN WITH THE SEED: THE CARDS: each row of YtcfecmlfcjgdbaaGreatDoorRows.lean that lists a variable, with what it lists TIED to the program's text (the seventh form; the later family's looks); each row that meets fmt, with fmt's text TOLD by the authors' own Lean function (tested against real Go, not proved from fmt's source: count such statements apart). THE CARD IS WHAT COUNTS. Prove the row's statement (the work); the ties are given (YtcfecmlfcjgdbaaGreatDoorTie.lean); close each card by the builder's one call (the guide's Derived/Test/ToyasCard.lean, 'card_holds'). Laid BY PROGRAM, IN A SANDBOX (cutbox-door.mjs). By AI agents, Wed Nov 11 2026. No macro, syntax, notation, axiom, sorry.
-/
import Derived.Test.YtcfecmlfcjgdbaaGreatDoorRows
import GoSem.ClaimSeven
namespace Go.Proofs.YtcfecmlfcjgdbaaGreatDoor
namespace Rows

/-- THE TIED CARD OF 'laws.FnExactDerivNone'. -/
def fnExactDerivNoneCard : Claim7 := { stood := { row := fnExactDerivNoneRow, standIns := [], harness := (true, "8fe9b647810a38ff8de61e42eca3dfe033e9c9633d301ea42b175620fd9e1c02"), looks := true }, kinds := [], alts := [], laidByText := true, laidKinds := [.data, .data, .data, .data, .pinned], laidTests := true, laidLooks := .later }
def FnExactDerivNoneCardSaid : Prop := Claim7.holds Tryz.pinned (.plain (OpenSpec.ofChange fnExactDerivNoneSpec)) fnExactDerivNoneCard

/-- THE TIED CARD OF 'laws.FnTwice'. -/
def fnTwiceCard : Claim7 := { stood := { row := fnTwiceRow, standIns := [], harness := (true, "8fe9b647810a38ff8de61e42eca3dfe033e9c9633d301ea42b175620fd9e1c02"), looks := true }, kinds := [], alts := [], laidByText := true, laidKinds := [.data, .data, .data, .data, .pinned], laidTests := true, laidLooks := .later }
def FnTwiceCardSaid : Prop := Claim7.holds Tryz.pinned (.plain (OpenSpec.ofChange fnTwiceSpec)) fnTwiceCard

/-- THE TIED CARD OF 'laws.FnDeriv'. -/
def fnDerivCard : Claim7 := { stood := { row := fnDerivRow, standIns := [], harness := (true, "8fe9b647810a38ff8de61e42eca3dfe033e9c9633d301ea42b175620fd9e1c02"), looks := true }, kinds := [], alts := [], laidByText := true, laidKinds := [.data, .data, .data, .data, .pinned], laidTests := true, laidLooks := .later }
def FnDerivCardSaid : Prop := Claim7.holds Tryz.pinned (.plain (OpenSpec.ofChange fnDerivSpec)) fnDerivCard

/-- THE TIED CARD OF 'laws.FnDerivLoop'. -/
def fnDerivLoopCard : Claim7 := { stood := { row := fnDerivLoopRow, standIns := [], harness := (true, "8fe9b647810a38ff8de61e42eca3dfe033e9c9633d301ea42b175620fd9e1c02"), looks := true }, kinds := [], alts := [], laidByText := true, laidKinds := [.data, .data, .data, .data, .pinned], laidTests := true, laidLooks := .later }
def FnDerivLoopCardSaid : Prop := Claim7.holds Tryz.pinned (.plain (OpenSpec.ofChange fnDerivLoopSpec)) fnDerivLoopCard

/-- THE TIED CARD OF 'laws.FnUnroll'. -/
def fnUnrollCard : Claim7 := { stood := { row := fnUnrollRow, standIns := [], harness := (true, "8fe9b647810a38ff8de61e42eca3dfe033e9c9633d301ea42b175620fd9e1c02"), looks := true }, kinds := [], alts := [], laidByText := true, laidKinds := [.data, .data, .data, .data, .pinned], laidTests := true, laidLooks := .later }
def FnUnrollCardSaid : Prop := Claim7.holds Tryz.pinned (.plain (OpenSpec.ofChange fnUnrollSpec)) fnUnrollCard

/-- THE TIED CARD OF 'laws.FnHoles'. -/
def fnHolesCard : Claim7 := { stood := { row := fnHolesRow, standIns := [], harness := (true, "8fe9b647810a38ff8de61e42eca3dfe033e9c9633d301ea42b175620fd9e1c02"), looks := true }, kinds := [], alts := [], laidByText := true, laidKinds := [.data, .data, .data, .data, .sentinel, .sentinel, .pinned], laidTests := true, laidLooks := .later }
def FnHolesCardSaid : Prop := Claim7.holds Tryz.pinned (.plain (OpenSpec.ofChange fnHolesSpec)) fnHolesCard

/-- THE SECOND FORM's CARD OF 'laws.FnExactDerivNone'. -/
def fnExactDerivNoneUptoCard : Claim7 := { stood := { row := fnExactDerivNoneUptoRow, standIns := [], harness := (true, "8fe9b647810a38ff8de61e42eca3dfe033e9c9633d301ea42b175620fd9e1c02"), looks := true }, kinds := [], alts := [], laidByText := true, laidKinds := [.data, .data, .data, .data, .pinned], laidTests := true, laidLooks := .later }
def FnExactDerivNoneUptoCardSaid : Prop := Claim7.holds Tryz.pinned (.plain (OpenSpec.upto fnExactDerivNoneSpec)) fnExactDerivNoneUptoCard

/-- THE SECOND FORM's CARD OF 'laws.FnTwice'. -/
def fnTwiceUptoCard : Claim7 := { stood := { row := fnTwiceUptoRow, standIns := [], harness := (true, "8fe9b647810a38ff8de61e42eca3dfe033e9c9633d301ea42b175620fd9e1c02"), looks := true }, kinds := [], alts := [], laidByText := true, laidKinds := [.data, .data, .data, .data, .pinned], laidTests := true, laidLooks := .later }
def FnTwiceUptoCardSaid : Prop := Claim7.holds Tryz.pinned (.plain (OpenSpec.upto fnTwiceSpec)) fnTwiceUptoCard

/-- THE SECOND FORM's CARD OF 'laws.FnDeriv'. -/
def fnDerivUptoCard : Claim7 := { stood := { row := fnDerivUptoRow, standIns := [], harness := (true, "8fe9b647810a38ff8de61e42eca3dfe033e9c9633d301ea42b175620fd9e1c02"), looks := true }, kinds := [], alts := [], laidByText := true, laidKinds := [.data, .data, .data, .data, .pinned], laidTests := true, laidLooks := .later }
def FnDerivUptoCardSaid : Prop := Claim7.holds Tryz.pinned (.plain (OpenSpec.upto fnDerivSpec)) fnDerivUptoCard

/-- THE SECOND FORM's CARD OF 'laws.FnDerivLoop'. -/
def fnDerivLoopUptoCard : Claim7 := { stood := { row := fnDerivLoopUptoRow, standIns := [], harness := (true, "8fe9b647810a38ff8de61e42eca3dfe033e9c9633d301ea42b175620fd9e1c02"), looks := true }, kinds := [], alts := [], laidByText := true, laidKinds := [.data, .data, .data, .data, .pinned], laidTests := true, laidLooks := .later }
def FnDerivLoopUptoCardSaid : Prop := Claim7.holds Tryz.pinned (.plain (OpenSpec.upto fnDerivLoopSpec)) fnDerivLoopUptoCard

/-- THE SECOND FORM's CARD OF 'laws.FnUnroll'. -/
def fnUnrollUptoCard : Claim7 := { stood := { row := fnUnrollUptoRow, standIns := [], harness := (true, "8fe9b647810a38ff8de61e42eca3dfe033e9c9633d301ea42b175620fd9e1c02"), looks := true }, kinds := [], alts := [], laidByText := true, laidKinds := [.data, .data, .data, .data, .pinned], laidTests := true, laidLooks := .later }
def FnUnrollUptoCardSaid : Prop := Claim7.holds Tryz.pinned (.plain (OpenSpec.upto fnUnrollSpec)) fnUnrollUptoCard

/-- THE SECOND FORM's CARD OF 'laws.FnHoles'. -/
def fnHolesUptoCard : Claim7 := { stood := { row := fnHolesUptoRow, standIns := [], harness := (true, "8fe9b647810a38ff8de61e42eca3dfe033e9c9633d301ea42b175620fd9e1c02"), looks := true }, kinds := [], alts := [], laidByText := true, laidKinds := [.data, .data, .data, .data, .sentinel, .sentinel, .pinned], laidTests := true, laidLooks := .later }
def FnHolesUptoCardSaid : Prop := Claim7.holds Tryz.pinned (.plain (OpenSpec.upto fnHolesSpec)) fnHolesUptoCard
end Rows
end Go.Proofs.YtcfecmlfcjgdbaaGreatDoor
