/- alike, and TypeAlike. TypeAlike of both. Lists of texts in the laws: sameTexts, hasText. -/
import Derived.Test.YtcfecmlfcjgdbaaGreatDoorMK
import Derived.Test.YtcfecmlfcjgdbaaGreatDoorMF
import Derived.Test.YtcfecmlfcjgdbaaGreatDoorMC
namespace Go.Proofs.YtcfecmlfcjgdbaaGreatDoor
open Go.RowKit
set_option linter.unusedVariables false
set_option linter.unusedSimpArgs false


end Go.Proofs.YtcfecmlfcjgdbaaGreatDoor

namespace Go.Proofs.YtcfecmlfcjgdbaaGreatDoor
open Go.RowKit
set_option linter.unusedVariables false
set_option linter.unusedSimpArgs false


/-- What the reference's TypeAlike tells: canonical texts are equal. -/
def sAlikeOf (o u : Option NT) : Bool := (canonOf o).isSome && (canonOf u).isSome && ((canonOf o).getD [] == (canonOf u).getD [])

end Go.Proofs.YtcfecmlfcjgdbaaGreatDoor

namespace Go.Proofs.YtcfecmlfcjgdbaaGreatDoor
open Go.RowKit
set_option linter.unusedVariables false
set_option linter.unusedSimpArgs false


end Go.Proofs.YtcfecmlfcjgdbaaGreatDoor
