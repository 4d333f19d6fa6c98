/- The reference's ValueOf. -/
import Derived.Test.YtpokompplapkhaaGreatDoorTurn
import Derived.Test.YtpokompplapkhaaGreatDoorVMapI
import Derived.Test.YtpokompplapkhaaGreatDoorVIs
import Derived.Test.YtpokompplapkhaaGreatDoorVTxt
import Derived.Test.YtpokompplapkhaaGreatDoorMH
namespace Go.Proofs.YtpokompplapkhaaGreatDoor
open Go.RowKit
set_option linter.unusedVariables false
set_option linter.unusedSimpArgs false
end Go.Proofs.YtpokompplapkhaaGreatDoor

