/- FnMapTwice: what the row says of the code that is reached, joined. -/
import Derived.Test.YtpokompplapkhaaGreatDoorTie
import Derived.ProofKit
import Derived.OpenShut
import Derived.LaidMore
import Derived.Lay
import Derived.SevenTiedAt
import Derived.Stop.Joined
import Derived.Test.YtpokompplapkhaaGreatDoorJAFnMapTwice
import Derived.Test.YtpokompplapkhaaGreatDoorJBFnMapTwice
namespace Go.Proofs.YtpokompplapkhaaGreatDoor
open Go.ChangeShapes Go.WideShapes Go.ChangeAt Go.ChangeMaps Go.RowKit
namespace fnMapTwice
theorem joined : joinedFacts Tryz.pinned.checked.prog 11 Tryz.f11 Rows.fnMapTwiceSpec Rows.fnMapTwiceRow = true := by
  unfold joinedFacts
  rw [jA, jB, jC, jD]
  kernel_rfl
end fnMapTwice
end Go.Proofs.YtpokompplapkhaaGreatDoor
