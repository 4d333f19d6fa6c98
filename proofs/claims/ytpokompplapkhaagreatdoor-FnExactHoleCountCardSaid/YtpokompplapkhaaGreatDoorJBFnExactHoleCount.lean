/- FnExactHoleCount: what the row says of the code that is reached, reckoned (2). -/
import Derived.Test.YtpokompplapkhaaGreatDoorTie
import Derived.ProofKit
import Derived.OpenShut
import Derived.LaidMore
import Derived.Lay
import Derived.SevenTiedAt
import Derived.Stop.Joined
namespace Go.Proofs.YtpokompplapkhaaGreatDoor
open Go.ChangeShapes Go.WideShapes Go.ChangeAt Go.ChangeMaps Go.RowKit
namespace fnExactHoleCount
theorem jC : (Rows.fnExactHoleCountRow.recurses == Tryz.pinned.checked.prog.recurses 4) = true := by kernel_rfl
theorem jD : (Rows.fnExactHoleCountRow.named == Tryz.pinned.checked.prog.varsNamed 4) = true := by kernel_rfl
end fnExactHoleCount
end Go.Proofs.YtpokompplapkhaaGreatDoor
