/- FnOf: what the row says of the code that is reached, joined. -/
import Derived.Test.YtofbhdgccijbgaaGreatDoorTie
import Derived.ProofKit
import Derived.OpenShut
import Derived.LaidMore
import Derived.Lay
import Derived.SevenTiedAt
import Derived.Stop.Joined
import Derived.Test.YtofbhdgccijbgaaGreatDoorJAFnOf
import Derived.Test.YtofbhdgccijbgaaGreatDoorJBFnOf
namespace Go.Proofs.YtofbhdgccijbgaaGreatDoor
open Go.ChangeShapes Go.WideShapes Go.ChangeAt Go.ChangeMaps Go.RowKit
namespace fnOf
theorem joined : joinedFacts Tryz.pinned.checked.prog 13 Tryz.f13 Rows.fnOfSpec Rows.fnOfRow = true := by
  unfold joinedFacts
  rw [jA, jB, jC, jD]
  kernel_rfl
end fnOf
end Go.Proofs.YtofbhdgccijbgaaGreatDoor
