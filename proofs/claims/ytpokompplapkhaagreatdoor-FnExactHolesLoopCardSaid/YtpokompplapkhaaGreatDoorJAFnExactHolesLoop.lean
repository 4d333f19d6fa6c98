/- FnExactHolesLoop: what the row says of the code that is reached, reckoned (1). -/
import Derived.Test.YtpokompplapkhaaGreatDoorTie
import Derived.ProofKit
import Derived.OpenShut
import Derived.LaidMore
import Derived.Lay
import Derived.SevenTiedAt
import Derived.Stop.Joined
namespace Go.Proofs.YtpokompplapkhaaGreatDoor
open Go.ChangeShapes Go.WideShapes Go.ChangeAt Go.ChangeMaps Go.RowKit
namespace fnExactHolesLoop
theorem jA : (Rows.fnExactHolesLoopRow.inPlace == Tryz.pinned.checked.prog.inPlace 6) = true := by kernel_rfl
theorem jB : (Rows.fnExactHolesLoopRow.unfollowed == Tryz.pinned.checked.prog.unfollowed 6) = true := by kernel_rfl
end fnExactHolesLoop
end Go.Proofs.YtpokompplapkhaaGreatDoor
