/- FnMap: what the row says of the code that is reached, joined. -/
import Derived.Test.YtofbhdgccijbgaaGreatDoorTie
import Derived.ProofKit
import Derived.OpenShut
import Derived.LaidMore
import Derived.Lay
import Derived.SevenTiedAt
import Derived.Stop.Joined
import Derived.Test.YtofbhdgccijbgaaGreatDoorJAFnMap
import Derived.Test.YtofbhdgccijbgaaGreatDoorJBFnMap
namespace Go.Proofs.YtofbhdgccijbgaaGreatDoor
open Go.ChangeShapes Go.WideShapes Go.ChangeAt Go.ChangeMaps Go.RowKit
namespace fnMap
theorem joined : joinedFacts Tryz.pinned.checked.prog 14 Tryz.f14 Rows.fnMapSpec Rows.fnMapRow = true := by
  unfold joinedFacts
  rw [jA, jB, jC, jD]
  kernel_rfl
end fnMap
end Go.Proofs.YtofbhdgccijbgaaGreatDoor
