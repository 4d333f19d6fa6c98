/- The program's isEmpty. -/
import Derived.Test.YtkciljcligohnaaDoorTy4
import Derived.Test.YtkciljcligohnaaDoorRow
namespace Go.Proofs.YtkciljcligohnaaDoor
open Go.RowKit
set_option linter.unusedVariables false
set_option linter.unusedSimpArgs false

def Ty.emp : Ty → Bool
  | .zero => true
  | .one => false
  | .name _ => false
  | .bound _ => true
  | .sum a b => a.emp && b.emp
  | .prod a b => a.emp || b.emp
  | .loop a => a.emp
/-- Bound names are ones of the recs around. -/
def Ty.scoped : Ty → Nat → Prop
  | .bound j, k => j < k
  | .sum a b, k => a.scoped k ∧ b.scoped k
  | .prod a b, k => a.scoped k ∧ b.scoped k
  | .loop a, k => a.scoped (k + 1)
  | _, _ => True
theorem look_lt {s : List UInt8} : ∀ {env : List (List UInt8)} {k : Nat}, look s env = some k → k < env.length
  | [], k, h => by simp [look] at h
  | e :: r, k, h => by
    rw [look] at h
    split at h
    · cases h; simp
    · cases hl : look s r with
      | none => rw [hl] at h; simp at h
      | some j =>
        rw [hl] at h
        simp at h
        have := look_lt hl
        simp
        omega
theorem db_scoped : ∀ (n : NT) (env : List (List UInt8)), (n.db env).scoped env.length
  | .zero, _ => trivial
  | .one, _ => trivial
  | .name s, env => by
    simp only [NT.db]
    split
    · trivial
    · cases hl : look s env with
      | none => trivial
      | some k => exact look_lt hl
  | .sum a b, env => ⟨db_scoped a env, db_scoped b env⟩
  | .prod a b, env => ⟨db_scoped a env, db_scoped b env⟩
  | .loop s a, env => db_scoped a (s :: env)

theorem Tryd.infoBool : (Tryd.prog.info? 4).map (fun i => (i.zero, i.size, i.bytes)) = some (some (.bool false), 1, 1) := by kernel_rfl

def trues (k : Nat) : List Value := List.replicate k (.bool true)

end Go.Proofs.YtkciljcligohnaaDoor
