/- FnValue: what the row says of the code that is reached, reckoned (1). -/
import Derived.Test.YtcgccdhmenobkaaDoorTie
import Derived.ProofKit
import Derived.OpenShut
import Derived.LaidMore
import Derived.Lay
import Derived.SevenTiedAt
import Derived.Stop.Joined
namespace Go.Proofs.YtcgccdhmenobkaaDoor
open Go.ChangeShapes Go.WideShapes Go.ChangeAt Go.ChangeMaps Go.RowKit
namespace fnValue
theorem jA : (Rows.fnValueRow.inPlace == Tryd.pinned.checked.prog.inPlace 3) = true := by kernel_rfl
theorem jB : (Rows.fnValueRow.unfollowed == Tryd.pinned.checked.prog.unfollowed 3) = true := by kernel_rfl
end fnValue
end Go.Proofs.YtcgccdhmenobkaaDoor
