/- FnExactValueMap: what the row says of the code that is reached, reckoned (1). -/
import Derived.Test.YtofbhdgccijbgaaGreatDoorTie
import Derived.ProofKit
import Derived.OpenShut
import Derived.LaidMore
import Derived.Lay
import Derived.SevenTiedAt
import Derived.Stop.Joined
namespace Go.Proofs.YtofbhdgccijbgaaGreatDoor
open Go.ChangeShapes Go.WideShapes Go.ChangeAt Go.ChangeMaps Go.RowKit
namespace fnExactValueMap
theorem jA : (Rows.fnExactValueMapRow.inPlace == Tryz.pinned.checked.prog.inPlace 4) = true := by kernel_rfl
theorem jB : (Rows.fnExactValueMapRow.unfollowed == Tryz.pinned.checked.prog.unfollowed 4) = true := by kernel_rfl
end fnExactValueMap
end Go.Proofs.YtofbhdgccijbgaaGreatDoor
