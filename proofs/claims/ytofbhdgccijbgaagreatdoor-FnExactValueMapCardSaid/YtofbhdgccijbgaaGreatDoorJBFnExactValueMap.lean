/- FnExactValueMap: what the row says of the code that is reached, reckoned (2). -/
import Derived.Test.YtofbhdgccijbgaaGreatDoorTie
import Derived.ProofKit
import Derived.OpenShut
import Derived.LaidMore
import Derived.Lay
import Derived.SevenTiedAt
import Derived.Stop.Joined
namespace Go.Proofs.YtofbhdgccijbgaaGreatDoor
open Go.ChangeShapes Go.WideShapes Go.ChangeAt Go.ChangeMaps Go.RowKit
namespace fnExactValueMap
theorem jC : (Rows.fnExactValueMapRow.recurses == Tryz.pinned.checked.prog.recurses 4) = true := by kernel_rfl
theorem jD : (Rows.fnExactValueMapRow.named == Tryz.pinned.checked.prog.varsNamed 4) = true := by kernel_rfl
end fnExactValueMap
end Go.Proofs.YtofbhdgccijbgaaGreatDoor
