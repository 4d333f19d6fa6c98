/- Changes of elements by numbers: the plain law. -/
import Derived.Test.YtpokompplapkhaaGreatDoorElN
import Derived.Test.YtpokompplapkhaaGreatDoorMF
import Derived.Test.YtpokompplapkhaaGreatDoorVOk
namespace Go.Proofs.YtpokompplapkhaaGreatDoor
open Go.RowKit
set_option linter.unusedVariables false
set_option linter.unusedSimpArgs false
end Go.Proofs.YtpokompplapkhaaGreatDoor

