/- Changes and labels of values, over named types. -/
import Derived.Test.YtpokompplapkhaaGreatDoorVTy
namespace Go.Proofs.YtpokompplapkhaaGreatDoor
open Go.RowKit
set_option linter.unusedVariables false
set_option linter.unusedSimpArgs false
end Go.Proofs.YtpokompplapkhaaGreatDoor

