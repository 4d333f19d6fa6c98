/- Values with right elements. -/
import Derived.Test.YtpokompplapkhaaGreatDoorMC
import Derived.Test.YtpokompplapkhaaGreatDoorMB
namespace Go.Proofs.YtpokompplapkhaaGreatDoor
open Go.RowKit
set_option linter.unusedVariables false
set_option linter.unusedSimpArgs false

/-- Each element's name is one. -/
def V.ok : V → Prop
  | .u => True
  | .el s => elemB s = true
  | .l a => a.ok
  | .r a => a.ok
  | .f a => a.ok
  | .p a b => a.ok ∧ b.ok

theorem valTwo_ok {h : List UInt8} {x : Option V} {v : V} (hx : ∀ v, x = some v → v.ok) (hv : valTwo h x = some v) : v.ok := by
  unfold valTwo at hv
  cases x with
  | none => (repeat' split at hv) <;> simp at hv
  | some a =>
    have := hx a rfl
    (repeat' split at hv) <;> simp at hv <;> subst hv <;> exact this
theorem valThree_ok {h : List UInt8} {x y : Option V} {v : V} (hx : ∀ v, x = some v → v.ok) (hy : ∀ v, y = some v → v.ok) (hv : valThree h x y = some v) : v.ok := by
  unfold valThree at hv
  split at hv
  · cases x with
    | none => simp at hv
    | some a =>
      cases y with
      | none => simp at hv
      | some b =>
        simp at hv
        subst hv
        exact ⟨hx a rfl, hy b rfl⟩
  · simp at hv
theorem atomV_ok {s : List UInt8} {x : Option V} {v : V} (hx : ∀ v, x = some v → v.ok) (hv : atomV s x = some v) : v.ok := by
  unfold atomV at hv
  split at hv
  · simp at hv; subst hv; trivial
  · split at hv
    · rename_i he
      simp at hv; subst hv; exact he
    · exact hx v hv
theorem valOf_ok : ∀ (t : Tr) (v : V), valOf t = some v → v.ok
  | .mk s [.mk h q, a], v, hv => by
    simp only [valOf] at hv
    exact atomV_ok (fun v h => valTwo_ok (valOf_ok a) h) hv
  | .mk s [.mk h q, a, b], v, hv => by
    simp only [valOf] at hv
    exact atomV_ok (fun v h => valThree_ok (valOf_ok a) (valOf_ok b) h) hv
  | .mk s [], v, hv => by
    simp only [valOf] at hv
    exact atomV_ok (fun v h => by cases h) hv
  | .mk s [_], v, hv => by
    simp only [valOf] at hv
    exact atomV_ok (fun v h => by cases h) hv
  | .mk s (_ :: _ :: _ :: _ :: _), v, hv => by
    simp only [valOf] at hv
    exact atomV_ok (fun v h => by cases h) hv
theorem rdVal_ok {l : List UInt8} {v : V} (h : rdVal l = some v) : v.ok := by
  unfold rdVal at h
  split at h
  · cases h
  · split at h
    · cases h
    · rename_i hv
      split at h
      · cases h
      · simp at h; subst h; exact valOf_ok _ _ hv


end Go.Proofs.YtpokompplapkhaaGreatDoor
