/- TypeNames and TypeClosed, the exported functions of both. TypeEmpty, both. -/
import Derived.Test.YtpokompplapkhaaGreatDoorMF
import Derived.Test.YtpokompplapkhaaGreatDoorMC
import Derived.Test.YtpokompplapkhaaGreatDoorMG
namespace Go.Proofs.YtpokompplapkhaaGreatDoor
set_option maxHeartbeats 1000000
open Go.RowKit
set_option linter.unusedVariables false
set_option linter.unusedSimpArgs false
def CLPost (w : World) (o : Option NT) (e : Ending) (w' : World) : Prop :=
 Below w.heap.size w w' /\ ∃ x A n' c, e = .returned (.tuple #[.agg #[.string x, .slice A n' c], .bool (closedOf o)]) /\ (∀ n, o = some n -> TAt w' (fun k => w.heap.size < k) n.toTr (.agg #[.string x, .slice A n' c]))
theorem l1Closed_any (s : ByteArray) (w : World) (hs : s.size <= 9223372036854775807) : Calls Tryz.prog 48 #[.string s] w (CLPost w (rdTy s.data.toList)) := by
 cases h : rdTy s.data.toList with
 | none =>
  refine (l1Closed_none s w hs h).mono ?_
  rintro e w' ⟨hb, x, A, n, c, he⟩
  exact ⟨hb, x, A, n, c, he, fun n h => by cases h⟩
 | some n =>
  refine (l1Closed_some s w hs n h).mono ?_
  rintro e w' ⟨hb, x, A, n', c, he, ht⟩
  exact ⟨hb, x, A, n', c, he, fun m hm => by cases hm; exact ht⟩
end Go.Proofs.YtpokompplapkhaaGreatDoor
namespace Go.Proofs.YtpokompplapkhaaGreatDoor
set_option maxHeartbeats 1000000
open Go.RowKit
set_option linter.unusedVariables false
set_option linter.unusedSimpArgs false
end Go.Proofs.YtpokompplapkhaaGreatDoor

