/-
  DERIVED. GIVEN WITH THE SEED: THE CARDS: each row of YtofbhdgccijbgaaGreatDoorRows.lean that lists a variable, with what it lists TIED to the program's text (the seventh form; the later family's looks); each row that meets fmt, with fmt's text TOLD by the authors' own Lean function (tested against real Go, not proved from fmt's source: count such statements apart). THE CARD IS WHAT COUNTS. Prove the row's statement (the work); the ties are given (YtofbhdgccijbgaaGreatDoorTie.lean); close each card by the builder's one call (the guide's Derived/Test/ToyasCard.lean, 'card_holds'). Laid BY PROGRAM, IN A SANDBOX (cutbox-door.mjs). By AI agents, Wed Nov 11 2026. No macro, syntax, notation, axiom, sorry.
-/
import Derived.Test.YtofbhdgccijbgaaGreatDoorRows
import GoSem.ClaimSeven
namespace Go.Proofs.YtofbhdgccijbgaaGreatDoor
namespace Rows

/-- THE TIED CARD OF 'laws.FnExactValueIs'. -/
def fnExactValueIsCard : Claim7 := { stood := { row := fnExactValueIsRow, standIns := [], harness := (true, "f1617e68649727820af09c8f113117629559bf0a305767d82c28eaa0a6e2b0c7"), looks := true }, kinds := [], alts := [], laidByText := true, laidKinds := [.data, .data, .data, .data, .sentinel, .sentinel, .pinned], laidTests := true, laidLooks := .later }
def FnExactValueIsCardSaid : Prop := Claim7.holds Tryz.pinned (.plain (OpenSpec.ofChange fnExactValueIsSpec)) fnExactValueIsCard

/-- THE TIED CARD OF 'laws.FnExactValueMap'. -/
def fnExactValueMapCard : Claim7 := { stood := { row := fnExactValueMapRow, standIns := [], harness := (true, "f1617e68649727820af09c8f113117629559bf0a305767d82c28eaa0a6e2b0c7"), looks := true }, kinds := [], alts := [], laidByText := true, laidKinds := [.data, .data, .data, .data, .sentinel, .sentinel, .pinned], laidTests := true, laidLooks := .later }
def FnExactValueMapCardSaid : Prop := Claim7.holds Tryz.pinned (.plain (OpenSpec.ofChange fnExactValueMapSpec)) fnExactValueMapCard

/-- THE TIED CARD OF 'laws.FnExactValueOf'. -/
def fnExactValueOfCard : Claim7 := { stood := { row := fnExactValueOfRow, standIns := [], harness := (true, "f1617e68649727820af09c8f113117629559bf0a305767d82c28eaa0a6e2b0c7"), looks := true }, kinds := [], alts := [], laidByText := true, laidKinds := [.data, .data, .data, .data, .sentinel, .sentinel, .pinned], laidTests := true, laidLooks := .later }
def FnExactValueOfCardSaid : Prop := Claim7.holds Tryz.pinned (.plain (OpenSpec.ofChange fnExactValueOfSpec)) fnExactValueOfCard

/-- THE TIED CARD OF 'laws.FnExactHoleCount'. -/
def fnExactHoleCountCard : Claim7 := { stood := { row := fnExactHoleCountRow, standIns := [], harness := (true, "f1617e68649727820af09c8f113117629559bf0a305767d82c28eaa0a6e2b0c7"), looks := true }, kinds := [], alts := [], laidByText := true, laidKinds := [.data, .data, .data, .data, .sentinel, .sentinel, .pinned], laidTests := true, laidLooks := .later }
def FnExactHoleCountCardSaid : Prop := Claim7.holds Tryz.pinned (.plain (OpenSpec.ofChange fnExactHoleCountSpec)) fnExactHoleCountCard

/-- THE TIED CARD OF 'laws.FnExactHolesOf'. -/
def fnExactHolesOfCard : Claim7 := { stood := { row := fnExactHolesOfRow, standIns := [], harness := (true, "f1617e68649727820af09c8f113117629559bf0a305767d82c28eaa0a6e2b0c7"), looks := true }, kinds := [], alts := [], laidByText := true, laidKinds := [.data, .data, .data, .data, .sentinel, .sentinel, .pinned], laidTests := true, laidLooks := .later }
def FnExactHolesOfCardSaid : Prop := Claim7.holds Tryz.pinned (.plain (OpenSpec.ofChange fnExactHolesOfSpec)) fnExactHolesOfCard

/-- THE TIED CARD OF 'laws.FnExactHolesLoop'. -/
def fnExactHolesLoopCard : Claim7 := { stood := { row := fnExactHolesLoopRow, standIns := [], harness := (true, "f1617e68649727820af09c8f113117629559bf0a305767d82c28eaa0a6e2b0c7"), looks := true }, kinds := [], alts := [], laidByText := true, laidKinds := [.data, .data, .data, .data, .sentinel, .sentinel, .pinned], laidTests := true, laidLooks := .later }
def FnExactHolesLoopCardSaid : Prop := Claim7.holds Tryz.pinned (.plain (OpenSpec.ofChange fnExactHolesLoopSpec)) fnExactHolesLoopCard

/-- THE TIED CARD OF 'laws.FnExactContextIs'. -/
def fnExactContextIsCard : Claim7 := { stood := { row := fnExactContextIsRow, standIns := [], harness := (true, "f1617e68649727820af09c8f113117629559bf0a305767d82c28eaa0a6e2b0c7"), looks := true }, kinds := [], alts := [], laidByText := true, laidKinds := [.data, .data, .data, .data, .sentinel, .sentinel, .pinned], laidTests := true, laidLooks := .later }
def FnExactContextIsCardSaid : Prop := Claim7.holds Tryz.pinned (.plain (OpenSpec.ofChange fnExactContextIsSpec)) fnExactContextIsCard

/-- THE TIED CARD OF 'laws.FnExactPlugOf'. -/
def fnExactPlugOfCard : Claim7 := { stood := { row := fnExactPlugOfRow, standIns := [], harness := (true, "f1617e68649727820af09c8f113117629559bf0a305767d82c28eaa0a6e2b0c7"), looks := true }, kinds := [], alts := [], laidByText := true, laidKinds := [.data, .data, .data, .data, .sentinel, .sentinel, .pinned], laidTests := true, laidLooks := .later }
def FnExactPlugOfCardSaid : Prop := Claim7.holds Tryz.pinned (.plain (OpenSpec.ofChange fnExactPlugOfSpec)) fnExactPlugOfCard

/-- THE TIED CARD OF 'laws.FnExactPlugLoop'. -/
def fnExactPlugLoopCard : Claim7 := { stood := { row := fnExactPlugLoopRow, standIns := [], harness := (true, "f1617e68649727820af09c8f113117629559bf0a305767d82c28eaa0a6e2b0c7"), looks := true }, kinds := [], alts := [], laidByText := true, laidKinds := [.data, .data, .data, .data, .sentinel, .sentinel, .pinned], laidTests := true, laidLooks := .later }
def FnExactPlugLoopCardSaid : Prop := Claim7.holds Tryz.pinned (.plain (OpenSpec.ofChange fnExactPlugLoopSpec)) fnExactPlugLoopCard

/-- THE TIED CARD OF 'laws.FnHoleCount'. -/
def fnHoleCountCard : Claim7 := { stood := { row := fnHoleCountRow, standIns := [], harness := (true, "f1617e68649727820af09c8f113117629559bf0a305767d82c28eaa0a6e2b0c7"), looks := true }, kinds := [], alts := [], laidByText := true, laidKinds := [.data, .data, .data, .data, .sentinel, .sentinel, .pinned], laidTests := true, laidLooks := .later }
def FnHoleCountCardSaid : Prop := Claim7.holds Tryz.pinned (.plain (OpenSpec.ofChange fnHoleCountSpec)) fnHoleCountCard

/-- THE TIED CARD OF 'laws.FnOf'. -/
def fnOfCard : Claim7 := { stood := { row := fnOfRow, standIns := [], harness := (true, "f1617e68649727820af09c8f113117629559bf0a305767d82c28eaa0a6e2b0c7"), looks := true }, kinds := [], alts := [], laidByText := true, laidKinds := [.data, .data, .data, .data, .sentinel, .sentinel, .pinned], laidTests := true, laidLooks := .later }
def FnOfCardSaid : Prop := Claim7.holds Tryz.pinned (.plain (OpenSpec.ofChange fnOfSpec)) fnOfCard

/-- THE TIED CARD OF 'laws.FnMap'. -/
def fnMapCard : Claim7 := { stood := { row := fnMapRow, standIns := [], harness := (true, "f1617e68649727820af09c8f113117629559bf0a305767d82c28eaa0a6e2b0c7"), looks := true }, kinds := [], alts := [], laidByText := true, laidKinds := [.data, .data, .data, .data, .sentinel, .sentinel, .pinned], laidTests := true, laidLooks := .later }
def FnMapCardSaid : Prop := Claim7.holds Tryz.pinned (.plain (OpenSpec.ofChange fnMapSpec)) fnMapCard

/-- THE SECOND FORM's CARD OF 'laws.FnExactValueIs'. -/
def fnExactValueIsUptoCard : Claim7 := { stood := { row := fnExactValueIsUptoRow, standIns := [], harness := (true, "f1617e68649727820af09c8f113117629559bf0a305767d82c28eaa0a6e2b0c7"), looks := true }, kinds := [], alts := [], laidByText := true, laidKinds := [.data, .data, .data, .data, .sentinel, .sentinel, .pinned], laidTests := true, laidLooks := .later }
def FnExactValueIsUptoCardSaid : Prop := Claim7.holds Tryz.pinned (.plain (OpenSpec.upto fnExactValueIsSpec)) fnExactValueIsUptoCard

/-- THE SECOND FORM's CARD OF 'laws.FnExactValueMap'. -/
def fnExactValueMapUptoCard : Claim7 := { stood := { row := fnExactValueMapUptoRow, standIns := [], harness := (true, "f1617e68649727820af09c8f113117629559bf0a305767d82c28eaa0a6e2b0c7"), looks := true }, kinds := [], alts := [], laidByText := true, laidKinds := [.data, .data, .data, .data, .sentinel, .sentinel, .pinned], laidTests := true, laidLooks := .later }
def FnExactValueMapUptoCardSaid : Prop := Claim7.holds Tryz.pinned (.plain (OpenSpec.upto fnExactValueMapSpec)) fnExactValueMapUptoCard

/-- THE SECOND FORM's CARD OF 'laws.FnExactValueOf'. -/
def fnExactValueOfUptoCard : Claim7 := { stood := { row := fnExactValueOfUptoRow, standIns := [], harness := (true, "f1617e68649727820af09c8f113117629559bf0a305767d82c28eaa0a6e2b0c7"), looks := true }, kinds := [], alts := [], laidByText := true, laidKinds := [.data, .data, .data, .data, .sentinel, .sentinel, .pinned], laidTests := true, laidLooks := .later }
def FnExactValueOfUptoCardSaid : Prop := Claim7.holds Tryz.pinned (.plain (OpenSpec.upto fnExactValueOfSpec)) fnExactValueOfUptoCard

/-- THE SECOND FORM's CARD OF 'laws.FnExactHoleCount'. -/
def fnExactHoleCountUptoCard : Claim7 := { stood := { row := fnExactHoleCountUptoRow, standIns := [], harness := (true, "f1617e68649727820af09c8f113117629559bf0a305767d82c28eaa0a6e2b0c7"), looks := true }, kinds := [], alts := [], laidByText := true, laidKinds := [.data, .data, .data, .data, .sentinel, .sentinel, .pinned], laidTests := true, laidLooks := .later }
def FnExactHoleCountUptoCardSaid : Prop := Claim7.holds Tryz.pinned (.plain (OpenSpec.upto fnExactHoleCountSpec)) fnExactHoleCountUptoCard

/-- THE SECOND FORM's CARD OF 'laws.FnExactHolesOf'. -/
def fnExactHolesOfUptoCard : Claim7 := { stood := { row := fnExactHolesOfUptoRow, standIns := [], harness := (true, "f1617e68649727820af09c8f113117629559bf0a305767d82c28eaa0a6e2b0c7"), looks := true }, kinds := [], alts := [], laidByText := true, laidKinds := [.data, .data, .data, .data, .sentinel, .sentinel, .pinned], laidTests := true, laidLooks := .later }
def FnExactHolesOfUptoCardSaid : Prop := Claim7.holds Tryz.pinned (.plain (OpenSpec.upto fnExactHolesOfSpec)) fnExactHolesOfUptoCard

/-- THE SECOND FORM's CARD OF 'laws.FnExactHolesLoop'. -/
def fnExactHolesLoopUptoCard : Claim7 := { stood := { row := fnExactHolesLoopUptoRow, standIns := [], harness := (true, "f1617e68649727820af09c8f113117629559bf0a305767d82c28eaa0a6e2b0c7"), looks := true }, kinds := [], alts := [], laidByText := true, laidKinds := [.data, .data, .data, .data, .sentinel, .sentinel, .pinned], laidTests := true, laidLooks := .later }
def FnExactHolesLoopUptoCardSaid : Prop := Claim7.holds Tryz.pinned (.plain (OpenSpec.upto fnExactHolesLoopSpec)) fnExactHolesLoopUptoCard

/-- THE SECOND FORM's CARD OF 'laws.FnExactContextIs'. -/
def fnExactContextIsUptoCard : Claim7 := { stood := { row := fnExactContextIsUptoRow, standIns := [], harness := (true, "f1617e68649727820af09c8f113117629559bf0a305767d82c28eaa0a6e2b0c7"), looks := true }, kinds := [], alts := [], laidByText := true, laidKinds := [.data, .data, .data, .data, .sentinel, .sentinel, .pinned], laidTests := true, laidLooks := .later }
def FnExactContextIsUptoCardSaid : Prop := Claim7.holds Tryz.pinned (.plain (OpenSpec.upto fnExactContextIsSpec)) fnExactContextIsUptoCard

/-- THE SECOND FORM's CARD OF 'laws.FnExactPlugOf'. -/
def fnExactPlugOfUptoCard : Claim7 := { stood := { row := fnExactPlugOfUptoRow, standIns := [], harness := (true, "f1617e68649727820af09c8f113117629559bf0a305767d82c28eaa0a6e2b0c7"), looks := true }, kinds := [], alts := [], laidByText := true, laidKinds := [.data, .data, .data, .data, .sentinel, .sentinel, .pinned], laidTests := true, laidLooks := .later }
def FnExactPlugOfUptoCardSaid : Prop := Claim7.holds Tryz.pinned (.plain (OpenSpec.upto fnExactPlugOfSpec)) fnExactPlugOfUptoCard

/-- THE SECOND FORM's CARD OF 'laws.FnExactPlugLoop'. -/
def fnExactPlugLoopUptoCard : Claim7 := { stood := { row := fnExactPlugLoopUptoRow, standIns := [], harness := (true, "f1617e68649727820af09c8f113117629559bf0a305767d82c28eaa0a6e2b0c7"), looks := true }, kinds := [], alts := [], laidByText := true, laidKinds := [.data, .data, .data, .data, .sentinel, .sentinel, .pinned], laidTests := true, laidLooks := .later }
def FnExactPlugLoopUptoCardSaid : Prop := Claim7.holds Tryz.pinned (.plain (OpenSpec.upto fnExactPlugLoopSpec)) fnExactPlugLoopUptoCard

/-- THE SECOND FORM's CARD OF 'laws.FnHoleCount'. -/
def fnHoleCountUptoCard : Claim7 := { stood := { row := fnHoleCountUptoRow, standIns := [], harness := (true, "f1617e68649727820af09c8f113117629559bf0a305767d82c28eaa0a6e2b0c7"), looks := true }, kinds := [], alts := [], laidByText := true, laidKinds := [.data, .data, .data, .data, .sentinel, .sentinel, .pinned], laidTests := true, laidLooks := .later }
def FnHoleCountUptoCardSaid : Prop := Claim7.holds Tryz.pinned (.plain (OpenSpec.upto fnHoleCountSpec)) fnHoleCountUptoCard

/-- THE SECOND FORM's CARD OF 'laws.FnOf'. -/
def fnOfUptoCard : Claim7 := { stood := { row := fnOfUptoRow, standIns := [], harness := (true, "f1617e68649727820af09c8f113117629559bf0a305767d82c28eaa0a6e2b0c7"), looks := true }, kinds := [], alts := [], laidByText := true, laidKinds := [.data, .data, .data, .data, .sentinel, .sentinel, .pinned], laidTests := true, laidLooks := .later }
def FnOfUptoCardSaid : Prop := Claim7.holds Tryz.pinned (.plain (OpenSpec.upto fnOfSpec)) fnOfUptoCard

/-- THE SECOND FORM's CARD OF 'laws.FnMap'. -/
def fnMapUptoCard : Claim7 := { stood := { row := fnMapUptoRow, standIns := [], harness := (true, "f1617e68649727820af09c8f113117629559bf0a305767d82c28eaa0a6e2b0c7"), looks := true }, kinds := [], alts := [], laidByText := true, laidKinds := [.data, .data, .data, .data, .sentinel, .sentinel, .pinned], laidTests := true, laidLooks := .later }
def FnMapUptoCardSaid : Prop := Claim7.holds Tryz.pinned (.plain (OpenSpec.upto fnMapSpec)) fnMapUptoCard
end Rows
end Go.Proofs.YtofbhdgccijbgaaGreatDoor
