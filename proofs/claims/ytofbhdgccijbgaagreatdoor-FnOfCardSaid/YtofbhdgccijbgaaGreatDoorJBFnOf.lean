/- FnOf: what the row says of the code that is reached, reckoned (2). -/
import Derived.Test.YtofbhdgccijbgaaGreatDoorTie
import Derived.ProofKit
import Derived.OpenShut
import Derived.LaidMore
import Derived.Lay
import Derived.SevenTiedAt
import Derived.Stop.Joined
namespace Go.Proofs.YtofbhdgccijbgaaGreatDoor
open Go.ChangeShapes Go.WideShapes Go.ChangeAt Go.ChangeMaps Go.RowKit
namespace fnOf
theorem jC : (Rows.fnOfRow.recurses == Tryz.pinned.checked.prog.recurses 13) = true := by kernel_rfl
theorem jD : (Rows.fnOfRow.named == Tryz.pinned.checked.prog.varsNamed 13) = true := by kernel_rfl
end fnOf
end Go.Proofs.YtofbhdgccijbgaaGreatDoor
