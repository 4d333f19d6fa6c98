/- DrawTypeUnroll. -/
import Derived.Test.YtofbhdgccijbgaaGreatDoorMJ
namespace Go.Proofs.YtofbhdgccijbgaaGreatDoor
open Go.RowKit
set_option linter.unusedVariables false
set_option linter.unusedSimpArgs false


end Go.Proofs.YtofbhdgccijbgaaGreatDoor
