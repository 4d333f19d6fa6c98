/- How long a canonical text is. -/
import Derived.Test.YtpokompplapkhaaGreatDoorMI
namespace Go.Proofs.YtpokompplapkhaaGreatDoor
open Go.RowKit

theorem told_len {n : NT} (hn : n.ok3) {c : List UInt8} (h : (n.db []).told = some c) : c.length ≤ 8000 := by
  obtain ⟨h1, _⟩ := told_rd hn h
  exact (rdTy_tr h1).2.2.2.1

end Go.Proofs.YtpokompplapkhaaGreatDoor
