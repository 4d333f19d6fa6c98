/- FnValueIs: what the row says of the code that is reached, reckoned (2). -/
import Derived.Test.YtpokompplapkhaaGreatDoorTie
import Derived.ProofKit
import Derived.OpenShut
import Derived.LaidMore
import Derived.Lay
import Derived.SevenTiedAt
import Derived.Stop.Joined
namespace Go.Proofs.YtpokompplapkhaaGreatDoor
open Go.ChangeShapes Go.WideShapes Go.ChangeAt Go.ChangeMaps Go.RowKit
namespace fnValueIs
theorem jC : (Rows.fnValueIsRow.recurses == Tryz.pinned.checked.prog.recurses 10) = true := by kernel_rfl
theorem jD : (Rows.fnValueIsRow.named == Tryz.pinned.checked.prog.varsNamed 10) = true := by kernel_rfl
end fnValueIs
end Go.Proofs.YtpokompplapkhaaGreatDoor
