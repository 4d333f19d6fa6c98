/- FnHoleCount: what the row says of the code that is reached, joined. -/
import Derived.Test.YtpokompplapkhaaGreatDoorTie
import Derived.ProofKit
import Derived.OpenShut
import Derived.LaidMore
import Derived.Lay
import Derived.SevenTiedAt
import Derived.Stop.Joined
import Derived.Test.YtpokompplapkhaaGreatDoorJAFnHoleCount
import Derived.Test.YtpokompplapkhaaGreatDoorJBFnHoleCount
namespace Go.Proofs.YtpokompplapkhaaGreatDoor
open Go.ChangeShapes Go.WideShapes Go.ChangeAt Go.ChangeMaps Go.RowKit
namespace fnHoleCount
theorem joined : joinedFacts Tryz.pinned.checked.prog 9 Tryz.f9 Rows.fnHoleCountSpec Rows.fnHoleCountRow = true := by
  unfold joinedFacts
  rw [jA, jB, jC, jD]
  kernel_rfl
end fnHoleCount
end Go.Proofs.YtpokompplapkhaaGreatDoor

