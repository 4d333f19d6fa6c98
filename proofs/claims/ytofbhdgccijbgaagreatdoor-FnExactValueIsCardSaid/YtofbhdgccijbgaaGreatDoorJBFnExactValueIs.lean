/- FnExactValueIs: what the row says of the code that is reached, reckoned (2). -/
import Derived.Test.YtofbhdgccijbgaaGreatDoorTie
import Derived.ProofKit
import Derived.OpenShut
import Derived.LaidMore
import Derived.Lay
import Derived.SevenTiedAt
import Derived.Stop.Joined
namespace Go.Proofs.YtofbhdgccijbgaaGreatDoor
open Go.ChangeShapes Go.WideShapes Go.ChangeAt Go.ChangeMaps Go.RowKit
namespace fnExactValueIs
theorem jC : (Rows.fnExactValueIsRow.recurses == Tryz.pinned.checked.prog.recurses 3) = true := by kernel_rfl
theorem jD : (Rows.fnExactValueIsRow.named == Tryz.pinned.checked.prog.varsNamed 3) = true := by kernel_rfl
end fnExactValueIs
end Go.Proofs.YtofbhdgccijbgaaGreatDoor
