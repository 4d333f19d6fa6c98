/- FnExactHoleCount: whether the row goes by what is looked at, reckoned. -/
import Derived.Test.YtpokompplapkhaaGreatDoorTie
import Derived.ProofKit
import Derived.OpenShut
import Derived.LaidMore
import Derived.Lay
import Derived.SevenTiedAt
import Derived.Stop.Joined
namespace Go.Proofs.YtpokompplapkhaaGreatDoor
open Go.ChangeShapes Go.WideShapes Go.ChangeAt Go.ChangeMaps Go.RowKit
namespace fnExactHoleCount
theorem goes : false = Rows.fnExactHoleCountRow.goesBy Tryz.pinned.checked.prog := by kernel_rfl
end fnExactHoleCount
end Go.Proofs.YtpokompplapkhaaGreatDoor
