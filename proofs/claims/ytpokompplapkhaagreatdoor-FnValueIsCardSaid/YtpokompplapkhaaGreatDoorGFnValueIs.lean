/- FnValueIs: whether the row goes by what is looked at, reckoned. -/
import Derived.Test.YtpokompplapkhaaGreatDoorTie
import Derived.ProofKit
import Derived.OpenShut
import Derived.LaidMore
import Derived.Lay
import Derived.SevenTiedAt
import Derived.Stop.Joined
namespace Go.Proofs.YtpokompplapkhaaGreatDoor
open Go.ChangeShapes Go.WideShapes Go.ChangeAt Go.ChangeMaps Go.RowKit
namespace fnValueIs
theorem goes : false = Rows.fnValueIsRow.goesBy Tryz.pinned.checked.prog := by kernel_rfl
end fnValueIs
end Go.Proofs.YtpokompplapkhaaGreatDoor
