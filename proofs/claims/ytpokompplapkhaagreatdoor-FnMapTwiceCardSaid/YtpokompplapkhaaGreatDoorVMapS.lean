/- The reference's ValueOf. -/
import Derived.Test.YtpokompplapkhaaGreatDoorTurn
import Derived.Test.YtpokompplapkhaaGreatDoorVMapI
import Derived.Test.YtpokompplapkhaaGreatDoorVIs
import Derived.Test.YtpokompplapkhaaGreatDoorClT
import Derived.Test.YtpokompplapkhaaGreatDoorVTxt
import Derived.Test.YtpokompplapkhaaGreatDoorMH
namespace Go.Proofs.YtpokompplapkhaaGreatDoor
open Go.RowKit
set_option linter.unusedVariables false
set_option linter.unusedSimpArgs false
theorem turnN_top {l : List UInt8} {N : NT} (h : clTy l = some N) (g : List UInt8 → List UInt8 → List UInt8) (x : V) : x.turnN g [] N = x.turn g [] (N.db []) := by
  obtain ⟨_, ho, _, hp, _⟩ := clTy_some h
  exact turnN_db g x [] N trivial (ok_ok3 ho) hp (fun e he => by cases he) (fun k e r hd => by simp at hd)
end Go.Proofs.YtpokompplapkhaaGreatDoor

