/- FnExactHolesLoop: what the row says of the code that is reached, reckoned (2). -/
import Derived.Test.YtpokompplapkhaaGreatDoorTie
import Derived.ProofKit
import Derived.OpenShut
import Derived.LaidMore
import Derived.Lay
import Derived.SevenTiedAt
import Derived.Stop.Joined
namespace Go.Proofs.YtpokompplapkhaaGreatDoor
open Go.ChangeShapes Go.WideShapes Go.ChangeAt Go.ChangeMaps Go.RowKit
namespace fnExactHolesLoop
theorem jC : (Rows.fnExactHolesLoopRow.recurses == Tryz.pinned.checked.prog.recurses 6) = true := by kernel_rfl
theorem jD : (Rows.fnExactHolesLoopRow.named == Tryz.pinned.checked.prog.varsNamed 6) = true := by kernel_rfl
end fnExactHolesLoop
end Go.Proofs.YtpokompplapkhaaGreatDoor
