/- FnOf: what the row says of the code that is reached, reckoned (1). -/
import Derived.Test.YtofbhdgccijbgaaGreatDoorTie
import Derived.ProofKit
import Derived.OpenShut
import Derived.LaidMore
import Derived.Lay
import Derived.SevenTiedAt
import Derived.Stop.Joined
namespace Go.Proofs.YtofbhdgccijbgaaGreatDoor
open Go.ChangeShapes Go.WideShapes Go.ChangeAt Go.ChangeMaps Go.RowKit
namespace fnOf
theorem jA : (Rows.fnOfRow.inPlace == Tryz.pinned.checked.prog.inPlace 13) = true := by kernel_rfl
theorem jB : (Rows.fnOfRow.unfollowed == Tryz.pinned.checked.prog.unfollowed 13) = true := by kernel_rfl
end fnOf
end Go.Proofs.YtofbhdgccijbgaaGreatDoor
