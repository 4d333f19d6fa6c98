/- DrawTypeUnroll. -/
import Derived.Test.YtpokompplapkhaaGreatDoorMJ
namespace Go.Proofs.YtpokompplapkhaaGreatDoor
open Go.RowKit
set_option linter.unusedVariables false
set_option linter.unusedSimpArgs false


end Go.Proofs.YtpokompplapkhaaGreatDoor
