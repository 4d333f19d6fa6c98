/-
  DERIVED. GIVEN WITH THE SEED: THE CARDS: each row of YtkciljcligohnaaDoorRows.lean that lists a variable, with what it lists TIED to the program's text (the seventh form; the later family's looks); each row that meets fmt, with fmt's text TOLD by the authors' own Lean function (tested against real Go, not proved from fmt's source: count such statements apart). THE CARD IS WHAT COUNTS. Prove the row's statement (the work); the ties are given (YtkciljcligohnaaDoorTie.lean); close each card by the builder's one call (the guide's Derived/Test/ToyasCard.lean, 'card_holds'). Laid BY PROGRAM, IN A SANDBOX (cutbox-door.mjs). By AI agents, Wed Nov 11 2026. No macro, syntax, notation, axiom, sorry.
-/
import Derived.Test.YtkciljcligohnaaDoorRows
import GoSem.ClaimSeven
namespace Go.Proofs.YtkciljcligohnaaDoor
namespace Rows

/-- THE TIED CARD OF 'laws.FnExactTypeCanon'. -/
def fnExactTypeCanonCard : Claim7 := { stood := { row := fnExactTypeCanonRow, standIns := [], harness := (true, "b6e4dc614ebee54dc82aa35923f937d85663ec56c3791eb23186ac5c1e7204f3"), looks := false }, kinds := [], alts := [], laidByText := true, laidKinds := [.data, .data, .data, .data, .pinned], laidTests := true, laidLooks := .later }
def FnExactTypeCanonCardSaid : Prop := Claim7.holds Tryd.pinned (.plain (OpenSpec.ofChange fnExactTypeCanonSpec)) fnExactTypeCanonCard

/-- THE TIED CARD OF 'laws.FnExactTypePut'. -/
def fnExactTypePutCard : Claim7 := { stood := { row := fnExactTypePutRow, standIns := [], harness := (true, "b6e4dc614ebee54dc82aa35923f937d85663ec56c3791eb23186ac5c1e7204f3"), looks := false }, kinds := [], alts := [], laidByText := true, laidKinds := [.data, .data, .data, .data, .pinned], laidTests := true, laidLooks := .later }
def FnExactTypePutCardSaid : Prop := Claim7.holds Tryd.pinned (.plain (OpenSpec.ofChange fnExactTypePutSpec)) fnExactTypePutCard

/-- THE TIED CARD OF 'laws.FnExactTypeUnroll'. -/
def fnExactTypeUnrollCard : Claim7 := { stood := { row := fnExactTypeUnrollRow, standIns := [], harness := (true, "b6e4dc614ebee54dc82aa35923f937d85663ec56c3791eb23186ac5c1e7204f3"), looks := false }, kinds := [], alts := [], laidByText := true, laidKinds := [.data, .data, .data, .data, .pinned], laidTests := true, laidLooks := .later }
def FnExactTypeUnrollCardSaid : Prop := Claim7.holds Tryd.pinned (.plain (OpenSpec.ofChange fnExactTypeUnrollSpec)) fnExactTypeUnrollCard

/-- THE TIED CARD OF 'laws.FnAlike'. -/
def fnAlikeCard : Claim7 := { stood := { row := fnAlikeRow, standIns := [], harness := (true, "b6e4dc614ebee54dc82aa35923f937d85663ec56c3791eb23186ac5c1e7204f3"), looks := false }, kinds := [], alts := [], laidByText := true, laidKinds := [.data, .pinned], laidTests := true, laidLooks := .later }
def FnAlikeCardSaid : Prop := Claim7.holds Tryd.pinned (.plain (OpenSpec.ofChange fnAlikeSpec)) fnAlikeCard

/-- THE TIED CARD OF 'laws.FnType'. -/
def fnTypeCard : Claim7 := { stood := { row := fnTypeRow, standIns := [], harness := (true, "b6e4dc614ebee54dc82aa35923f937d85663ec56c3791eb23186ac5c1e7204f3"), looks := false }, kinds := [], alts := [], laidByText := true, laidKinds := [.data, .data, .data, .data, .pinned], laidTests := true, laidLooks := .later }
def FnTypeCardSaid : Prop := Claim7.holds Tryd.pinned (.plain (OpenSpec.ofChange fnTypeSpec)) fnTypeCard

/-- THE TIED CARD OF 'laws.FnNames'. -/
def fnNamesCard : Claim7 := { stood := { row := fnNamesRow, standIns := [], harness := (true, "b6e4dc614ebee54dc82aa35923f937d85663ec56c3791eb23186ac5c1e7204f3"), looks := false }, kinds := [], alts := [], laidByText := true, laidKinds := [.data, .data, .data, .data, .pinned], laidTests := true, laidLooks := .later }
def FnNamesCardSaid : Prop := Claim7.holds Tryd.pinned (.plain (OpenSpec.ofChange fnNamesSpec)) fnNamesCard

/-- THE TIED CARD OF 'laws.FnClosed'. -/
def fnClosedCard : Claim7 := { stood := { row := fnClosedRow, standIns := [], harness := (true, "b6e4dc614ebee54dc82aa35923f937d85663ec56c3791eb23186ac5c1e7204f3"), looks := false }, kinds := [], alts := [], laidByText := true, laidKinds := [.data, .data, .data, .data, .pinned], laidTests := true, laidLooks := .later }
def FnClosedCardSaid : Prop := Claim7.holds Tryd.pinned (.plain (OpenSpec.ofChange fnClosedSpec)) fnClosedCard

/-- THE TIED CARD OF 'laws.FnCanon'. -/
def fnCanonCard : Claim7 := { stood := { row := fnCanonRow, standIns := [], harness := (true, "b6e4dc614ebee54dc82aa35923f937d85663ec56c3791eb23186ac5c1e7204f3"), looks := false }, kinds := [], alts := [], laidByText := true, laidKinds := [.data, .data, .data, .data, .pinned], laidTests := true, laidLooks := .later }
def FnCanonCardSaid : Prop := Claim7.holds Tryd.pinned (.plain (OpenSpec.ofChange fnCanonSpec)) fnCanonCard

/-- THE TIED CARD OF 'laws.FnPut'. -/
def fnPutCard : Claim7 := { stood := { row := fnPutRow, standIns := [], harness := (true, "b6e4dc614ebee54dc82aa35923f937d85663ec56c3791eb23186ac5c1e7204f3"), looks := false }, kinds := [], alts := [], laidByText := true, laidKinds := [.data, .data, .data, .data, .pinned], laidTests := true, laidLooks := .later }
def FnPutCardSaid : Prop := Claim7.holds Tryd.pinned (.plain (OpenSpec.ofChange fnPutSpec)) fnPutCard

/-- THE TIED CARD OF 'laws.FnValueSize'. -/
def fnValueSizeCard : Claim7 := { stood := { row := fnValueSizeRow, standIns := [], harness := (true, "b6e4dc614ebee54dc82aa35923f937d85663ec56c3791eb23186ac5c1e7204f3"), looks := false }, kinds := [], alts := [], laidByText := true, laidKinds := [.data, .pinned], laidTests := true, laidLooks := .later }
def FnValueSizeCardSaid : Prop := Claim7.holds Tryd.pinned (.plain (OpenSpec.ofChange fnValueSizeSpec)) fnValueSizeCard

/-- THE TIED CARD OF 'laws.FnValue'. -/
def fnValueCard : Claim7 := { stood := { row := fnValueRow, standIns := [], harness := (true, "b6e4dc614ebee54dc82aa35923f937d85663ec56c3791eb23186ac5c1e7204f3"), looks := false }, kinds := [], alts := [], laidByText := true, laidKinds := [.data, .pinned], laidTests := true, laidLooks := .later }
def FnValueCardSaid : Prop := Claim7.holds Tryd.pinned (.plain (OpenSpec.ofChange fnValueSpec)) fnValueCard

/-- THE SECOND FORM's CARD OF 'laws.FnExactTypeCanon'. -/
def fnExactTypeCanonUptoCard : Claim7 := { stood := { row := fnExactTypeCanonUptoRow, standIns := [], harness := (true, "b6e4dc614ebee54dc82aa35923f937d85663ec56c3791eb23186ac5c1e7204f3"), looks := false }, kinds := [], alts := [], laidByText := true, laidKinds := [.data, .data, .data, .data, .pinned], laidTests := true, laidLooks := .later }
def FnExactTypeCanonUptoCardSaid : Prop := Claim7.holds Tryd.pinned (.plain (OpenSpec.upto fnExactTypeCanonSpec)) fnExactTypeCanonUptoCard

/-- THE SECOND FORM's CARD OF 'laws.FnExactTypePut'. -/
def fnExactTypePutUptoCard : Claim7 := { stood := { row := fnExactTypePutUptoRow, standIns := [], harness := (true, "b6e4dc614ebee54dc82aa35923f937d85663ec56c3791eb23186ac5c1e7204f3"), looks := false }, kinds := [], alts := [], laidByText := true, laidKinds := [.data, .data, .data, .data, .pinned], laidTests := true, laidLooks := .later }
def FnExactTypePutUptoCardSaid : Prop := Claim7.holds Tryd.pinned (.plain (OpenSpec.upto fnExactTypePutSpec)) fnExactTypePutUptoCard

/-- THE SECOND FORM's CARD OF 'laws.FnExactTypeUnroll'. -/
def fnExactTypeUnrollUptoCard : Claim7 := { stood := { row := fnExactTypeUnrollUptoRow, standIns := [], harness := (true, "b6e4dc614ebee54dc82aa35923f937d85663ec56c3791eb23186ac5c1e7204f3"), looks := false }, kinds := [], alts := [], laidByText := true, laidKinds := [.data, .data, .data, .data, .pinned], laidTests := true, laidLooks := .later }
def FnExactTypeUnrollUptoCardSaid : Prop := Claim7.holds Tryd.pinned (.plain (OpenSpec.upto fnExactTypeUnrollSpec)) fnExactTypeUnrollUptoCard

/-- THE SECOND FORM's CARD OF 'laws.FnAlike'. -/
def fnAlikeUptoCard : Claim7 := { stood := { row := fnAlikeUptoRow, standIns := [], harness := (true, "b6e4dc614ebee54dc82aa35923f937d85663ec56c3791eb23186ac5c1e7204f3"), looks := false }, kinds := [], alts := [], laidByText := true, laidKinds := [.data, .pinned], laidTests := true, laidLooks := .later }
def FnAlikeUptoCardSaid : Prop := Claim7.holds Tryd.pinned (.plain (OpenSpec.upto fnAlikeSpec)) fnAlikeUptoCard

/-- THE SECOND FORM's CARD OF 'laws.FnType'. -/
def fnTypeUptoCard : Claim7 := { stood := { row := fnTypeUptoRow, standIns := [], harness := (true, "b6e4dc614ebee54dc82aa35923f937d85663ec56c3791eb23186ac5c1e7204f3"), looks := false }, kinds := [], alts := [], laidByText := true, laidKinds := [.data, .data, .data, .data, .pinned], laidTests := true, laidLooks := .later }
def FnTypeUptoCardSaid : Prop := Claim7.holds Tryd.pinned (.plain (OpenSpec.upto fnTypeSpec)) fnTypeUptoCard

/-- THE SECOND FORM's CARD OF 'laws.FnNames'. -/
def fnNamesUptoCard : Claim7 := { stood := { row := fnNamesUptoRow, standIns := [], harness := (true, "b6e4dc614ebee54dc82aa35923f937d85663ec56c3791eb23186ac5c1e7204f3"), looks := false }, kinds := [], alts := [], laidByText := true, laidKinds := [.data, .data, .data, .data, .pinned], laidTests := true, laidLooks := .later }
def FnNamesUptoCardSaid : Prop := Claim7.holds Tryd.pinned (.plain (OpenSpec.upto fnNamesSpec)) fnNamesUptoCard

/-- THE SECOND FORM's CARD OF 'laws.FnClosed'. -/
def fnClosedUptoCard : Claim7 := { stood := { row := fnClosedUptoRow, standIns := [], harness := (true, "b6e4dc614ebee54dc82aa35923f937d85663ec56c3791eb23186ac5c1e7204f3"), looks := false }, kinds := [], alts := [], laidByText := true, laidKinds := [.data, .data, .data, .data, .pinned], laidTests := true, laidLooks := .later }
def FnClosedUptoCardSaid : Prop := Claim7.holds Tryd.pinned (.plain (OpenSpec.upto fnClosedSpec)) fnClosedUptoCard

/-- THE SECOND FORM's CARD OF 'laws.FnCanon'. -/
def fnCanonUptoCard : Claim7 := { stood := { row := fnCanonUptoRow, standIns := [], harness := (true, "b6e4dc614ebee54dc82aa35923f937d85663ec56c3791eb23186ac5c1e7204f3"), looks := false }, kinds := [], alts := [], laidByText := true, laidKinds := [.data, .data, .data, .data, .pinned], laidTests := true, laidLooks := .later }
def FnCanonUptoCardSaid : Prop := Claim7.holds Tryd.pinned (.plain (OpenSpec.upto fnCanonSpec)) fnCanonUptoCard

/-- THE SECOND FORM's CARD OF 'laws.FnPut'. -/
def fnPutUptoCard : Claim7 := { stood := { row := fnPutUptoRow, standIns := [], harness := (true, "b6e4dc614ebee54dc82aa35923f937d85663ec56c3791eb23186ac5c1e7204f3"), looks := false }, kinds := [], alts := [], laidByText := true, laidKinds := [.data, .data, .data, .data, .pinned], laidTests := true, laidLooks := .later }
def FnPutUptoCardSaid : Prop := Claim7.holds Tryd.pinned (.plain (OpenSpec.upto fnPutSpec)) fnPutUptoCard

/-- THE SECOND FORM's CARD OF 'laws.FnValueSize'. -/
def fnValueSizeUptoCard : Claim7 := { stood := { row := fnValueSizeUptoRow, standIns := [], harness := (true, "b6e4dc614ebee54dc82aa35923f937d85663ec56c3791eb23186ac5c1e7204f3"), looks := false }, kinds := [], alts := [], laidByText := true, laidKinds := [.data, .pinned], laidTests := true, laidLooks := .later }
def FnValueSizeUptoCardSaid : Prop := Claim7.holds Tryd.pinned (.plain (OpenSpec.upto fnValueSizeSpec)) fnValueSizeUptoCard

/-- THE SECOND FORM's CARD OF 'laws.FnValue'. -/
def fnValueUptoCard : Claim7 := { stood := { row := fnValueUptoRow, standIns := [], harness := (true, "b6e4dc614ebee54dc82aa35923f937d85663ec56c3791eb23186ac5c1e7204f3"), looks := false }, kinds := [], alts := [], laidByText := true, laidKinds := [.data, .pinned], laidTests := true, laidLooks := .later }
def FnValueUptoCardSaid : Prop := Claim7.holds Tryd.pinned (.plain (OpenSpec.upto fnValueSpec)) fnValueUptoCard
end Rows
end Go.Proofs.YtkciljcligohnaaDoor
