/- The program's ValueOf. -/
import Derived.Test.YtpokompplapkhaaGreatDoorMapE
import Derived.Test.YtpokompplapkhaaGreatDoorMF
import Derived.Test.YtpokompplapkhaaGreatDoorME
namespace Go.Proofs.YtpokompplapkhaaGreatDoor
open Go.RowKit
set_option linter.unusedVariables false
set_option linter.unusedSimpArgs false
end Go.Proofs.YtpokompplapkhaaGreatDoor

