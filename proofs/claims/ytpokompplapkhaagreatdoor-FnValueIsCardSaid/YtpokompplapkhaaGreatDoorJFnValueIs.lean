/- FnValueIs: what the row says of the code that is reached, joined. -/
import Derived.Test.YtpokompplapkhaaGreatDoorTie
import Derived.ProofKit
import Derived.OpenShut
import Derived.LaidMore
import Derived.Lay
import Derived.SevenTiedAt
import Derived.Stop.Joined
import Derived.Test.YtpokompplapkhaaGreatDoorJAFnValueIs
import Derived.Test.YtpokompplapkhaaGreatDoorJBFnValueIs
namespace Go.Proofs.YtpokompplapkhaaGreatDoor
open Go.ChangeShapes Go.WideShapes Go.ChangeAt Go.ChangeMaps Go.RowKit
namespace fnValueIs
theorem joined : joinedFacts Tryz.pinned.checked.prog 10 Tryz.f10 Rows.fnValueIsSpec Rows.fnValueIsRow = true := by
  unfold joinedFacts
  rw [jA, jB, jC, jD]
  kernel_rfl
end fnValueIs
end Go.Proofs.YtpokompplapkhaaGreatDoor
