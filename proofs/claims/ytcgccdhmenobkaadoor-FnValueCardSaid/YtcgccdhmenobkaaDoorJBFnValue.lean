/- FnValue: what the row says of the code that is reached, reckoned (2). -/
import Derived.Test.YtcgccdhmenobkaaDoorTie
import Derived.ProofKit
import Derived.OpenShut
import Derived.LaidMore
import Derived.Lay
import Derived.SevenTiedAt
import Derived.Stop.Joined
namespace Go.Proofs.YtcgccdhmenobkaaDoor
open Go.ChangeShapes Go.WideShapes Go.ChangeAt Go.ChangeMaps Go.RowKit
namespace fnValue
theorem jC : (Rows.fnValueRow.recurses == Tryd.pinned.checked.prog.recurses 3) = true := by kernel_rfl
theorem jD : (Rows.fnValueRow.named == Tryd.pinned.checked.prog.varsNamed 3) = true := by kernel_rfl
end fnValue
end Go.Proofs.YtcgccdhmenobkaaDoor
