/- DrawTypeUnroll. -/
import Derived.Test.YtcfecmlfcjgdbaaDoorMJ
namespace Go.Proofs.YtcfecmlfcjgdbaaDoor
open Go.RowKit
set_option linter.unusedVariables false
set_option linter.unusedSimpArgs false


end Go.Proofs.YtcfecmlfcjgdbaaDoor
