/- FnExactHoleCount: what the row says of the code that is reached, joined. -/
import Derived.Test.YtpokompplapkhaaGreatDoorTie
import Derived.ProofKit
import Derived.OpenShut
import Derived.LaidMore
import Derived.Lay
import Derived.SevenTiedAt
import Derived.Stop.Joined
import Derived.Test.YtpokompplapkhaaGreatDoorJAFnExactHoleCount
import Derived.Test.YtpokompplapkhaaGreatDoorJBFnExactHoleCount
namespace Go.Proofs.YtpokompplapkhaaGreatDoor
open Go.ChangeShapes Go.WideShapes Go.ChangeAt Go.ChangeMaps Go.RowKit
namespace fnExactHoleCount
theorem joined : joinedFacts Tryz.pinned.checked.prog 4 Tryz.f4 Rows.fnExactHoleCountSpec Rows.fnExactHoleCountRow = true := by
  unfold joinedFacts
  rw [jA, jB, jC, jD]
  kernel_rfl
end fnExactHoleCount
end Go.Proofs.YtpokompplapkhaaGreatDoor
