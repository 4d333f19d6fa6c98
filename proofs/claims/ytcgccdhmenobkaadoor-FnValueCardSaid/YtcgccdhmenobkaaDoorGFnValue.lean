/- FnValue: whether the row goes by what is looked at, reckoned. -/
import Derived.Test.YtcgccdhmenobkaaDoorTie
import Derived.ProofKit
import Derived.OpenShut
import Derived.LaidMore
import Derived.Lay
import Derived.SevenTiedAt
import Derived.Stop.Joined
namespace Go.Proofs.YtcgccdhmenobkaaDoor
open Go.ChangeShapes Go.WideShapes Go.ChangeAt Go.ChangeMaps Go.RowKit
namespace fnValue
theorem goes : false = Rows.fnValueRow.goesBy Tryd.pinned.checked.prog := by kernel_rfl
end fnValue
end Go.Proofs.YtcgccdhmenobkaaDoor
