/- FnExactValueOf: what the row says of the code that is reached, joined. -/
import Derived.Test.YtofbhdgccijbgaaGreatDoorTie
import Derived.ProofKit
import Derived.OpenShut
import Derived.LaidMore
import Derived.Lay
import Derived.SevenTiedAt
import Derived.Stop.Joined
import Derived.Test.YtofbhdgccijbgaaGreatDoorJAFnExactValueOf
import Derived.Test.YtofbhdgccijbgaaGreatDoorJBFnExactValueOf
namespace Go.Proofs.YtofbhdgccijbgaaGreatDoor
open Go.ChangeShapes Go.WideShapes Go.ChangeAt Go.ChangeMaps Go.RowKit
namespace fnExactValueOf
theorem joined : joinedFacts Tryz.pinned.checked.prog 5 Tryz.f5 Rows.fnExactValueOfSpec Rows.fnExactValueOfRow = true := by
  unfold joinedFacts
  rw [jA, jB, jC, jD]
  kernel_rfl
end fnExactValueOf
end Go.Proofs.YtofbhdgccijbgaaGreatDoor
