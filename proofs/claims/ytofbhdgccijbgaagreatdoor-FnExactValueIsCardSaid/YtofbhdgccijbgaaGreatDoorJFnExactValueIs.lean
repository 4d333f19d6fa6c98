/- FnExactValueIs: what the row says of the code that is reached, joined. -/
import Derived.Test.YtofbhdgccijbgaaGreatDoorTie
import Derived.ProofKit
import Derived.OpenShut
import Derived.LaidMore
import Derived.Lay
import Derived.SevenTiedAt
import Derived.Stop.Joined
import Derived.Test.YtofbhdgccijbgaaGreatDoorJAFnExactValueIs
import Derived.Test.YtofbhdgccijbgaaGreatDoorJBFnExactValueIs
namespace Go.Proofs.YtofbhdgccijbgaaGreatDoor
open Go.ChangeShapes Go.WideShapes Go.ChangeAt Go.ChangeMaps Go.RowKit
namespace fnExactValueIs
theorem joined : joinedFacts Tryz.pinned.checked.prog 3 Tryz.f3 Rows.fnExactValueIsSpec Rows.fnExactValueIsRow = true := by
  unfold joinedFacts
  rw [jA, jB, jC, jD]
  kernel_rfl
end fnExactValueIs
end Go.Proofs.YtofbhdgccijbgaaGreatDoor
