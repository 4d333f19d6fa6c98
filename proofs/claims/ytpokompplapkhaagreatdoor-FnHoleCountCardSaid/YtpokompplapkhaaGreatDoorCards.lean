/-
  DERIVED. GIVEN WITH THE SEED: THE CARDS: each row of YtpokompplapkhaaGreatDoorRows.lean that lists a variable, with what it lists TIED to the program's text (the seventh form; the later family's looks); each row that meets fmt, with fmt's text TOLD by the authors' own Lean function (tested against real Go, not proved from fmt's source: count such statements apart). THE CARD IS WHAT COUNTS. Prove the row's statement (the work); the ties are given (YtpokompplapkhaaGreatDoorTie.lean); close each card by the builder's one call (the guide's Derived/Test/ToyasCard.lean, 'card_holds'). Laid BY PROGRAM, IN A SANDBOX (cutbox-door.mjs). By AI agents, Wed Nov 11 2026. No macro, syntax, notation, axiom, sorry.
-/
import Derived.Test.YtpokompplapkhaaGreatDoorRows
import GoSem.ClaimSeven
namespace Go.Proofs.YtpokompplapkhaaGreatDoor
namespace Rows

/-- THE TIED CARD OF 'laws.FnExactContextIs'. -/
def fnExactContextIsCard : Claim7 := { stood := { row := fnExactContextIsRow, standIns := [], harness := (true, "7b975ebcb6c1ff254e837305f06b3b9e545ccde7f7440ccfc7f5bd466bd8bf4f"), looks := true }, kinds := [], alts := [], laidByText := true, laidKinds := [.data, .data, .data, .data, .sentinel, .sentinel, .pinned], laidTests := true, laidLooks := .later }
def FnExactContextIsCardSaid : Prop := Claim7.holds Tryz.pinned (.plain (OpenSpec.ofChange fnExactContextIsSpec)) fnExactContextIsCard

/-- THE TIED CARD OF 'laws.FnExactHoleCount'. -/
def fnExactHoleCountCard : Claim7 := { stood := { row := fnExactHoleCountRow, standIns := [], harness := (true, "7b975ebcb6c1ff254e837305f06b3b9e545ccde7f7440ccfc7f5bd466bd8bf4f"), looks := true }, kinds := [], alts := [], laidByText := true, laidKinds := [.data, .data, .data, .data, .sentinel, .sentinel, .pinned], laidTests := true, laidLooks := .later }
def FnExactHoleCountCardSaid : Prop := Claim7.holds Tryz.pinned (.plain (OpenSpec.ofChange fnExactHoleCountSpec)) fnExactHoleCountCard

/-- THE TIED CARD OF 'laws.FnExactHolesOf'. -/
def fnExactHolesOfCard : Claim7 := { stood := { row := fnExactHolesOfRow, standIns := [], harness := (true, "7b975ebcb6c1ff254e837305f06b3b9e545ccde7f7440ccfc7f5bd466bd8bf4f"), looks := true }, kinds := [], alts := [], laidByText := true, laidKinds := [.data, .data, .data, .data, .sentinel, .sentinel, .pinned], laidTests := true, laidLooks := .later }
def FnExactHolesOfCardSaid : Prop := Claim7.holds Tryz.pinned (.plain (OpenSpec.ofChange fnExactHolesOfSpec)) fnExactHolesOfCard

/-- THE TIED CARD OF 'laws.FnExactHolesLoop'. -/
def fnExactHolesLoopCard : Claim7 := { stood := { row := fnExactHolesLoopRow, standIns := [], harness := (true, "7b975ebcb6c1ff254e837305f06b3b9e545ccde7f7440ccfc7f5bd466bd8bf4f"), looks := true }, kinds := [], alts := [], laidByText := true, laidKinds := [.data, .data, .data, .data, .sentinel, .sentinel, .pinned], laidTests := true, laidLooks := .later }
def FnExactHolesLoopCardSaid : Prop := Claim7.holds Tryz.pinned (.plain (OpenSpec.ofChange fnExactHolesLoopSpec)) fnExactHolesLoopCard

/-- THE TIED CARD OF 'laws.FnExactPlugOf'. -/
def fnExactPlugOfCard : Claim7 := { stood := { row := fnExactPlugOfRow, standIns := [], harness := (true, "7b975ebcb6c1ff254e837305f06b3b9e545ccde7f7440ccfc7f5bd466bd8bf4f"), looks := true }, kinds := [], alts := [], laidByText := true, laidKinds := [.data, .data, .data, .data, .sentinel, .sentinel, .pinned], laidTests := true, laidLooks := .later }
def FnExactPlugOfCardSaid : Prop := Claim7.holds Tryz.pinned (.plain (OpenSpec.ofChange fnExactPlugOfSpec)) fnExactPlugOfCard

/-- THE TIED CARD OF 'laws.FnExactPlugLoop'. -/
def fnExactPlugLoopCard : Claim7 := { stood := { row := fnExactPlugLoopRow, standIns := [], harness := (true, "7b975ebcb6c1ff254e837305f06b3b9e545ccde7f7440ccfc7f5bd466bd8bf4f"), looks := true }, kinds := [], alts := [], laidByText := true, laidKinds := [.data, .data, .data, .data, .sentinel, .sentinel, .pinned], laidTests := true, laidLooks := .later }
def FnExactPlugLoopCardSaid : Prop := Claim7.holds Tryz.pinned (.plain (OpenSpec.ofChange fnExactPlugLoopSpec)) fnExactPlugLoopCard

/-- THE TIED CARD OF 'laws.FnHoleCount'. -/
def fnHoleCountCard : Claim7 := { stood := { row := fnHoleCountRow, standIns := [], harness := (true, "7b975ebcb6c1ff254e837305f06b3b9e545ccde7f7440ccfc7f5bd466bd8bf4f"), looks := true }, kinds := [], alts := [], laidByText := true, laidKinds := [.data, .data, .data, .data, .sentinel, .sentinel, .pinned], laidTests := true, laidLooks := .later }
def FnHoleCountCardSaid : Prop := Claim7.holds Tryz.pinned (.plain (OpenSpec.ofChange fnHoleCountSpec)) fnHoleCountCard

/-- THE TIED CARD OF 'laws.FnValueIs'. -/
def fnValueIsCard : Claim7 := { stood := { row := fnValueIsRow, standIns := [], harness := (true, "7b975ebcb6c1ff254e837305f06b3b9e545ccde7f7440ccfc7f5bd466bd8bf4f"), looks := true }, kinds := [], alts := [], laidByText := true, laidKinds := [.data, .data, .data, .data, .sentinel, .sentinel, .pinned], laidTests := true, laidLooks := .later }
def FnValueIsCardSaid : Prop := Claim7.holds Tryz.pinned (.plain (OpenSpec.ofChange fnValueIsSpec)) fnValueIsCard

/-- THE TIED CARD OF 'laws.FnMapTwice'. -/
def fnMapTwiceCard : Claim7 := { stood := { row := fnMapTwiceRow, standIns := [], harness := (true, "7b975ebcb6c1ff254e837305f06b3b9e545ccde7f7440ccfc7f5bd466bd8bf4f"), looks := true }, kinds := [], alts := [], laidByText := true, laidKinds := [.data, .data, .data, .data, .sentinel, .sentinel, .pinned], laidTests := true, laidLooks := .later }
def FnMapTwiceCardSaid : Prop := Claim7.holds Tryz.pinned (.plain (OpenSpec.ofChange fnMapTwiceSpec)) fnMapTwiceCard

/-- THE TIED CARD OF 'laws.FnNone'. -/
def fnNoneCard : Claim7 := { stood := { row := fnNoneRow, standIns := [], harness := (true, "7b975ebcb6c1ff254e837305f06b3b9e545ccde7f7440ccfc7f5bd466bd8bf4f"), looks := true }, kinds := [], alts := [], laidByText := true, laidKinds := [.data, .data, .data, .data, .sentinel, .sentinel, .pinned], laidTests := true, laidLooks := .later }
def FnNoneCardSaid : Prop := Claim7.holds Tryz.pinned (.plain (OpenSpec.ofChange fnNoneSpec)) fnNoneCard

/-- THE TIED CARD OF 'laws.FnHoles'. -/
def fnHolesCard : Claim7 := { stood := { row := fnHolesRow, standIns := [], harness := (true, "7b975ebcb6c1ff254e837305f06b3b9e545ccde7f7440ccfc7f5bd466bd8bf4f"), looks := true }, kinds := [], alts := [], laidByText := true, laidKinds := [.data, .data, .data, .data, .sentinel, .sentinel, .pinned], laidTests := true, laidLooks := .later }
def FnHolesCardSaid : Prop := Claim7.holds Tryz.pinned (.plain (OpenSpec.ofChange fnHolesSpec)) fnHolesCard

/-- THE SECOND FORM's CARD OF 'laws.FnExactContextIs'. -/
def fnExactContextIsUptoCard : Claim7 := { stood := { row := fnExactContextIsUptoRow, standIns := [], harness := (true, "7b975ebcb6c1ff254e837305f06b3b9e545ccde7f7440ccfc7f5bd466bd8bf4f"), looks := true }, kinds := [], alts := [], laidByText := true, laidKinds := [.data, .data, .data, .data, .sentinel, .sentinel, .pinned], laidTests := true, laidLooks := .later }
def FnExactContextIsUptoCardSaid : Prop := Claim7.holds Tryz.pinned (.plain (OpenSpec.upto fnExactContextIsSpec)) fnExactContextIsUptoCard

/-- THE SECOND FORM's CARD OF 'laws.FnExactHoleCount'. -/
def fnExactHoleCountUptoCard : Claim7 := { stood := { row := fnExactHoleCountUptoRow, standIns := [], harness := (true, "7b975ebcb6c1ff254e837305f06b3b9e545ccde7f7440ccfc7f5bd466bd8bf4f"), looks := true }, kinds := [], alts := [], laidByText := true, laidKinds := [.data, .data, .data, .data, .sentinel, .sentinel, .pinned], laidTests := true, laidLooks := .later }
def FnExactHoleCountUptoCardSaid : Prop := Claim7.holds Tryz.pinned (.plain (OpenSpec.upto fnExactHoleCountSpec)) fnExactHoleCountUptoCard

/-- THE SECOND FORM's CARD OF 'laws.FnExactHolesOf'. -/
def fnExactHolesOfUptoCard : Claim7 := { stood := { row := fnExactHolesOfUptoRow, standIns := [], harness := (true, "7b975ebcb6c1ff254e837305f06b3b9e545ccde7f7440ccfc7f5bd466bd8bf4f"), looks := true }, kinds := [], alts := [], laidByText := true, laidKinds := [.data, .data, .data, .data, .sentinel, .sentinel, .pinned], laidTests := true, laidLooks := .later }
def FnExactHolesOfUptoCardSaid : Prop := Claim7.holds Tryz.pinned (.plain (OpenSpec.upto fnExactHolesOfSpec)) fnExactHolesOfUptoCard

/-- THE SECOND FORM's CARD OF 'laws.FnExactHolesLoop'. -/
def fnExactHolesLoopUptoCard : Claim7 := { stood := { row := fnExactHolesLoopUptoRow, standIns := [], harness := (true, "7b975ebcb6c1ff254e837305f06b3b9e545ccde7f7440ccfc7f5bd466bd8bf4f"), looks := true }, kinds := [], alts := [], laidByText := true, laidKinds := [.data, .data, .data, .data, .sentinel, .sentinel, .pinned], laidTests := true, laidLooks := .later }
def FnExactHolesLoopUptoCardSaid : Prop := Claim7.holds Tryz.pinned (.plain (OpenSpec.upto fnExactHolesLoopSpec)) fnExactHolesLoopUptoCard

/-- THE SECOND FORM's CARD OF 'laws.FnExactPlugOf'. -/
def fnExactPlugOfUptoCard : Claim7 := { stood := { row := fnExactPlugOfUptoRow, standIns := [], harness := (true, "7b975ebcb6c1ff254e837305f06b3b9e545ccde7f7440ccfc7f5bd466bd8bf4f"), looks := true }, kinds := [], alts := [], laidByText := true, laidKinds := [.data, .data, .data, .data, .sentinel, .sentinel, .pinned], laidTests := true, laidLooks := .later }
def FnExactPlugOfUptoCardSaid : Prop := Claim7.holds Tryz.pinned (.plain (OpenSpec.upto fnExactPlugOfSpec)) fnExactPlugOfUptoCard

/-- THE SECOND FORM's CARD OF 'laws.FnExactPlugLoop'. -/
def fnExactPlugLoopUptoCard : Claim7 := { stood := { row := fnExactPlugLoopUptoRow, standIns := [], harness := (true, "7b975ebcb6c1ff254e837305f06b3b9e545ccde7f7440ccfc7f5bd466bd8bf4f"), looks := true }, kinds := [], alts := [], laidByText := true, laidKinds := [.data, .data, .data, .data, .sentinel, .sentinel, .pinned], laidTests := true, laidLooks := .later }
def FnExactPlugLoopUptoCardSaid : Prop := Claim7.holds Tryz.pinned (.plain (OpenSpec.upto fnExactPlugLoopSpec)) fnExactPlugLoopUptoCard

/-- THE SECOND FORM's CARD OF 'laws.FnHoleCount'. -/
def fnHoleCountUptoCard : Claim7 := { stood := { row := fnHoleCountUptoRow, standIns := [], harness := (true, "7b975ebcb6c1ff254e837305f06b3b9e545ccde7f7440ccfc7f5bd466bd8bf4f"), looks := true }, kinds := [], alts := [], laidByText := true, laidKinds := [.data, .data, .data, .data, .sentinel, .sentinel, .pinned], laidTests := true, laidLooks := .later }
def FnHoleCountUptoCardSaid : Prop := Claim7.holds Tryz.pinned (.plain (OpenSpec.upto fnHoleCountSpec)) fnHoleCountUptoCard

/-- THE SECOND FORM's CARD OF 'laws.FnValueIs'. -/
def fnValueIsUptoCard : Claim7 := { stood := { row := fnValueIsUptoRow, standIns := [], harness := (true, "7b975ebcb6c1ff254e837305f06b3b9e545ccde7f7440ccfc7f5bd466bd8bf4f"), looks := true }, kinds := [], alts := [], laidByText := true, laidKinds := [.data, .data, .data, .data, .sentinel, .sentinel, .pinned], laidTests := true, laidLooks := .later }
def FnValueIsUptoCardSaid : Prop := Claim7.holds Tryz.pinned (.plain (OpenSpec.upto fnValueIsSpec)) fnValueIsUptoCard

/-- THE SECOND FORM's CARD OF 'laws.FnMapTwice'. -/
def fnMapTwiceUptoCard : Claim7 := { stood := { row := fnMapTwiceUptoRow, standIns := [], harness := (true, "7b975ebcb6c1ff254e837305f06b3b9e545ccde7f7440ccfc7f5bd466bd8bf4f"), looks := true }, kinds := [], alts := [], laidByText := true, laidKinds := [.data, .data, .data, .data, .sentinel, .sentinel, .pinned], laidTests := true, laidLooks := .later }
def FnMapTwiceUptoCardSaid : Prop := Claim7.holds Tryz.pinned (.plain (OpenSpec.upto fnMapTwiceSpec)) fnMapTwiceUptoCard

/-- THE SECOND FORM's CARD OF 'laws.FnNone'. -/
def fnNoneUptoCard : Claim7 := { stood := { row := fnNoneUptoRow, standIns := [], harness := (true, "7b975ebcb6c1ff254e837305f06b3b9e545ccde7f7440ccfc7f5bd466bd8bf4f"), looks := true }, kinds := [], alts := [], laidByText := true, laidKinds := [.data, .data, .data, .data, .sentinel, .sentinel, .pinned], laidTests := true, laidLooks := .later }
def FnNoneUptoCardSaid : Prop := Claim7.holds Tryz.pinned (.plain (OpenSpec.upto fnNoneSpec)) fnNoneUptoCard

/-- THE SECOND FORM's CARD OF 'laws.FnHoles'. -/
def fnHolesUptoCard : Claim7 := { stood := { row := fnHolesUptoRow, standIns := [], harness := (true, "7b975ebcb6c1ff254e837305f06b3b9e545ccde7f7440ccfc7f5bd466bd8bf4f"), looks := true }, kinds := [], alts := [], laidByText := true, laidKinds := [.data, .data, .data, .data, .sentinel, .sentinel, .pinned], laidTests := true, laidLooks := .later }
def FnHolesUptoCardSaid : Prop := Claim7.holds Tryz.pinned (.plain (OpenSpec.upto fnHolesSpec)) fnHolesUptoCard
end Rows
end Go.Proofs.YtpokompplapkhaaGreatDoor
