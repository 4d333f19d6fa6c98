/- FnExactValueMap: what the row says of the code that is reached, joined. -/
import Derived.Test.YtofbhdgccijbgaaGreatDoorTie
import Derived.ProofKit
import Derived.OpenShut
import Derived.LaidMore
import Derived.Lay
import Derived.SevenTiedAt
import Derived.Stop.Joined
import Derived.Test.YtofbhdgccijbgaaGreatDoorJAFnExactValueMap
import Derived.Test.YtofbhdgccijbgaaGreatDoorJBFnExactValueMap
namespace Go.Proofs.YtofbhdgccijbgaaGreatDoor
open Go.ChangeShapes Go.WideShapes Go.ChangeAt Go.ChangeMaps Go.RowKit
namespace fnExactValueMap
theorem joined : joinedFacts Tryz.pinned.checked.prog 4 Tryz.f4 Rows.fnExactValueMapSpec Rows.fnExactValueMapRow = true := by
  unfold joinedFacts
  rw [jA, jB, jC, jD]
  kernel_rfl
end fnExactValueMap
end Go.Proofs.YtofbhdgccijbgaaGreatDoor
