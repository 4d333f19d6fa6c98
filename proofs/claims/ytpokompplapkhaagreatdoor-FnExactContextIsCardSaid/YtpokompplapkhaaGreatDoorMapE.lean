/- The program's mapElements, with a closure that it is handed. -/
import Derived.Test.YtpokompplapkhaaGreatDoorVOf
import Derived.Test.YtpokompplapkhaaGreatDoorKp
import Derived.Test.YtpokompplapkhaaGreatDoorTk
import Derived.Test.YtpokompplapkhaaGreatDoorMapP
namespace Go.Proofs.YtpokompplapkhaaGreatDoor
open Go.RowKit
set_option linter.unusedVariables false
set_option linter.unusedSimpArgs false
end Go.Proofs.YtpokompplapkhaaGreatDoor

