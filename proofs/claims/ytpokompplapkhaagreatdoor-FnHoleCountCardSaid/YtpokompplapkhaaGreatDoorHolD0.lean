/- The holes of a value of a closed type. -/
import Derived.Test.YtpokompplapkhaaGreatDoorNE
import Derived.Test.YtpokompplapkhaaGreatDoorVOf
namespace Go.Proofs.YtpokompplapkhaaGreatDoor
open Go.RowKit
set_option linter.unusedVariables false
set_option linter.unusedSimpArgs false
def holB (l nm v : List UInt8) : Option (List (V × V)) := match valsOf l v 100 with
 | some (N, x) => if paramB nm = true then some (hol (N.db []) (.nm nm) x) else none
 | none => none
theorem holB_some {l nm v : List UInt8} {hs : List (V × V)} (h : holB l nm v = some hs) : ∃ N x, valsOf l v 100 = some (N, x) /\ paramB nm = true /\ hs = hol (N.db []) (.nm nm) x := by
 unfold holB at h
 cases ho : valsOf l v 100 with
 | none => rw [ho] at h; cases h
 | some q =>
  obtain ⟨N, x⟩ := q
  rw [ho] at h
  simp only at h
  split at h
  · rename_i hc
    cases h
    exact ⟨N, x, rfl, hc, rfl⟩
  · cases h
end Go.Proofs.YtpokompplapkhaaGreatDoor

