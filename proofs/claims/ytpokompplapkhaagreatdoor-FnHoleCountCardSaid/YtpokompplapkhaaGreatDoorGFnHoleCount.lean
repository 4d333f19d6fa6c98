/- FnHoleCount: whether the row goes by what is looked at, reckoned. -/
import Derived.Test.YtpokompplapkhaaGreatDoorTie
import Derived.ProofKit
import Derived.OpenShut
import Derived.LaidMore
import Derived.Lay
import Derived.SevenTiedAt
import Derived.Stop.Joined
namespace Go.Proofs.YtpokompplapkhaaGreatDoor
open Go.ChangeShapes Go.WideShapes Go.ChangeAt Go.ChangeMaps Go.RowKit
namespace fnHoleCount
theorem goes : false = Rows.fnHoleCountRow.goesBy Tryz.pinned.checked.prog := by kernel_rfl
end fnHoleCount
end Go.Proofs.YtpokompplapkhaaGreatDoor

