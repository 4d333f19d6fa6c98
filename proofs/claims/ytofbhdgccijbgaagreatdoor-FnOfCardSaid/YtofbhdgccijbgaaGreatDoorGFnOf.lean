/- FnOf: whether the row goes by what is looked at, reckoned. -/
import Derived.Test.YtofbhdgccijbgaaGreatDoorTie
import Derived.ProofKit
import Derived.OpenShut
import Derived.LaidMore
import Derived.Lay
import Derived.SevenTiedAt
import Derived.Stop.Joined
namespace Go.Proofs.YtofbhdgccijbgaaGreatDoor
open Go.ChangeShapes Go.WideShapes Go.ChangeAt Go.ChangeMaps Go.RowKit
namespace fnOf
theorem goes : false = Rows.fnOfRow.goesBy Tryz.pinned.checked.prog := by kernel_rfl
end fnOf
end Go.Proofs.YtofbhdgccijbgaaGreatDoor
