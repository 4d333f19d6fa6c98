/- FnExactContextIs: what the row says of the code that is reached, joined. -/
import Derived.Test.YtpokompplapkhaaGreatDoorTie
import Derived.ProofKit
import Derived.OpenShut
import Derived.LaidMore
import Derived.Lay
import Derived.SevenTiedAt
import Derived.Stop.Joined
import Derived.Test.YtpokompplapkhaaGreatDoorJAFnExactContextIs
import Derived.Test.YtpokompplapkhaaGreatDoorJBFnExactContextIs
namespace Go.Proofs.YtpokompplapkhaaGreatDoor
open Go.ChangeShapes Go.WideShapes Go.ChangeAt Go.ChangeMaps Go.RowKit
namespace fnExactContextIs
theorem joined : joinedFacts Tryz.pinned.checked.prog 3 Tryz.f3 Rows.fnExactContextIsSpec Rows.fnExactContextIsRow = true := by
  unfold joinedFacts
  rw [jA, jB, jC, jD]
  kernel_rfl
end fnExactContextIs
end Go.Proofs.YtpokompplapkhaaGreatDoor
