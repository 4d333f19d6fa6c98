/- The law FnCanon, walked. -/
import Derived.Test.YtcfecmlfcjgdbaaGreatDoorML
import Derived.Test.YtcfecmlfcjgdbaaGreatDoorMJ
namespace Go.Proofs.YtcfecmlfcjgdbaaGreatDoor
open Go.RowKit
set_option linter.unusedVariables false
set_option linter.unusedSimpArgs false

theorem canonOf_some {o : Option NT} {c : List UInt8} (h : canonOf o = some c) : ∃ n, o = some n ∧ (n.db []).told = some c := by
  cases o with
  | none => cases h
  | some n => exact ⟨n, rfl, h⟩
theorem told_len {n : NT} (hn : n.ok3) {c : List UInt8} (h : (n.db []).told = some c) : c.length ≤ 8000 := by
  obtain ⟨h1, _⟩ := told_rd hn h
  exact (rdTy_tr h1).2.2.2.1


end Go.Proofs.YtcfecmlfcjgdbaaGreatDoor
