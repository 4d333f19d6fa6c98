/- FnHoleCount: what the row says of the code that is reached, reckoned (2). -/
import Derived.Test.YtpokompplapkhaaGreatDoorTie
import Derived.ProofKit
import Derived.OpenShut
import Derived.LaidMore
import Derived.Lay
import Derived.SevenTiedAt
import Derived.Stop.Joined
namespace Go.Proofs.YtpokompplapkhaaGreatDoor
open Go.ChangeShapes Go.WideShapes Go.ChangeAt Go.ChangeMaps Go.RowKit
namespace fnHoleCount
theorem jC : (Rows.fnHoleCountRow.recurses == Tryz.pinned.checked.prog.recurses 9) = true := by kernel_rfl
theorem jD : (Rows.fnHoleCountRow.named == Tryz.pinned.checked.prog.varsNamed 9) = true := by kernel_rfl
end fnHoleCount
end Go.Proofs.YtpokompplapkhaaGreatDoor

