/- FnValue: what the row says of the code that is reached, joined. -/
import Derived.Test.YtcgccdhmenobkaaDoorTie
import Derived.ProofKit
import Derived.OpenShut
import Derived.LaidMore
import Derived.Lay
import Derived.SevenTiedAt
import Derived.Stop.Joined
import Derived.Test.YtcgccdhmenobkaaDoorJAFnValue
import Derived.Test.YtcgccdhmenobkaaDoorJBFnValue
namespace Go.Proofs.YtcgccdhmenobkaaDoor
open Go.ChangeShapes Go.WideShapes Go.ChangeAt Go.ChangeMaps Go.RowKit
namespace fnValue
theorem joined : joinedFacts Tryd.pinned.checked.prog 3 Tryd.f3 Rows.fnValueSpec Rows.fnValueRow = true := by
  unfold joinedFacts
  rw [jA, jB, jC, jD]
  kernel_rfl
end fnValue
end Go.Proofs.YtcgccdhmenobkaaDoor
