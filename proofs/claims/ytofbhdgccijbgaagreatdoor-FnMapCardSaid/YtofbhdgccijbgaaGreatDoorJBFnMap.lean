/- FnMap: what the row says of the code that is reached, reckoned (2). -/
import Derived.Test.YtofbhdgccijbgaaGreatDoorTie
import Derived.ProofKit
import Derived.OpenShut
import Derived.LaidMore
import Derived.Lay
import Derived.SevenTiedAt
import Derived.Stop.Joined
namespace Go.Proofs.YtofbhdgccijbgaaGreatDoor
open Go.ChangeShapes Go.WideShapes Go.ChangeAt Go.ChangeMaps Go.RowKit
namespace fnMap
theorem jC : (Rows.fnMapRow.recurses == Tryz.pinned.checked.prog.recurses 14) = true := by kernel_rfl
theorem jD : (Rows.fnMapRow.named == Tryz.pinned.checked.prog.varsNamed 14) = true := by kernel_rfl
end fnMap
end Go.Proofs.YtofbhdgccijbgaaGreatDoor
