/- visit with its closures; DerivPlaces, names. -/
import Derived.Test.YtkciljcligohnaaDoorTy4
namespace Go.Proofs.YtkciljcligohnaaDoor
open Go.RowKit
set_option linter.unusedVariables false
set_option linter.unusedSimpArgs false

/-- All parts, in the text's order. -/
def Ty.pre : Ty → List Ty
  | .sum a b => .sum a b :: (a.pre ++ b.pre)
  | .prod a b => .prod a b :: (a.pre ++ b.pre)
  | .loop a => .loop a :: a.pre
  | t => [t]


/-- How the count of a name goes on. -/
def cstep (nm : List UInt8) (n : Int) : Ty → Int
  | .name s => if s = nm then wrap64 (n + 1) else n
  | _ => n
/-- Where the count stands. -/
def CI (w0 : World) (b1 b2 : Nat) (nm : List UInt8) (n : Int) (w : World) : Prop :=
  Below w0.heap.size w0 w ∧ w.heap[b1]? = some (.cells #[.string (St nm)] 9 (0, 0)) ∧ w.heap[b2]? = some (.cells #[.int .i64 n] 3 (0, 0)) ∧ b1 ≠ b2 ∧ w0.heap.size ≤ b2


theorem cstep_fold (nm : List UInt8) : ∀ (l : List Ty) (n : Nat), n + l.length ≤ 1000000 → l.foldl (cstep nm) (n : Int) = ((n + (l.filter (· == .name nm)).length : Nat) : Int)
  | [], n, _ => by simp
  | t :: l, n, h => by
    simp only [List.length_cons] at h
    rw [List.foldl_cons]
    by_cases ht : t = .name nm
    · subst ht
      have : cstep nm n (.name nm) = ((n + 1 : Nat) : Int) := by simp only [cstep, if_true]; rw [w64 (by omega) (by omega)]; rfl
      rw [this, cstep_fold nm l (n + 1) (by omega)]
      simp
      omega
    · have : cstep nm n t = n := by
        unfold cstep
        split
        · rename_i s
          rw [if_neg (fun he => ht (by rw [he]))]
        · rfl
      rw [this, cstep_fold nm l n (by omega)]
      have : (t == .name nm) = false := by simpa using ht
      simp [this]
theorem pre_len : ∀ t : Ty, t.pre.length ≤ t.atoms
  | .sum a b => by have := pre_len a; have := pre_len b; simp only [Ty.pre, Ty.atoms, List.length_cons, List.length_append]; omega
  | .prod a b => by have := pre_len a; have := pre_len b; simp only [Ty.pre, Ty.atoms, List.length_cons, List.length_append]; omega
  | .loop a => by have := pre_len a; simp only [Ty.pre, Ty.atoms, List.length_cons]; omega
  | .zero => by simp [Ty.pre, Ty.atoms]
  | .one => by simp [Ty.pre, Ty.atoms]
  | .name _ => by simp [Ty.pre, Ty.atoms]
  | .bound _ => by simp [Ty.pre, Ty.atoms]

/-- How often a name stands free. -/
def NT.uses (nm : List UInt8) : NT → Nat
  | .name s => if s = nm then 1 else 0
  | .sum a b => a.uses nm + b.uses nm
  | .prod a b => a.uses nm + b.uses nm
  | .loop s a => if s = nm then 0 else a.uses nm
  | _ => 0
theorem param_ne_loop {a b : List UInt8} (ha : paramB a = true) (hb : loopB b = true) : b ≠ a := by
  rintro rfl
  cases b with
  | nil => simp [namedB] at ha
  | cons c r =>
    simp [namedB] at ha hb
    obtain ⟨⟨h1, _⟩, _⟩ := ha
    obtain ⟨⟨h2, _⟩, _⟩ := hb
    subst h2
    revert h1
    decide
theorem uses_db (nm : List UInt8) (hp : paramB nm = true) : ∀ (n : NT) (env : List (List UInt8)), n.ok → ((n.db env).pre.filter (· == .name nm)).length = n.uses nm
  | .zero, _, _ => by simp [NT.db, Ty.pre, NT.uses]
  | .one, _, _ => by simp [NT.db, Ty.pre, NT.uses]
  | .name s, env, h => by
    simp only [NT.db, NT.uses]
    by_cases hs : paramB s = true
    · rw [if_pos hs]
      by_cases hn : s = nm
      · subst hn; simp [Ty.pre]
      · rw [if_neg hn]; simp [Ty.pre, hn]
    · rw [if_neg hs]
      have hl : loopB s = true := by rcases h with h | h; exact absurd h hs; exact h
      have hne : s ≠ nm := param_ne_loop hp hl
      rw [if_neg hne]
      cases look s env with
      | none => simp [Ty.pre, hne]
      | some k => simp [Ty.pre]
  | .sum a b, env, h => by
    have h1 := uses_db nm hp a env h.1
    have h2 := uses_db nm hp b env h.2
    simp only [NT.db, NT.uses, Ty.pre, List.filter_cons, List.filter_append]
    simp [h1, h2]
  | .prod a b, env, h => by
    have h1 := uses_db nm hp a env h.1
    have h2 := uses_db nm hp b env h.2
    simp only [NT.db, NT.uses, Ty.pre, List.filter_cons, List.filter_append]
    simp [h1, h2]
  | .loop s a, env, h => by
    have h1 := uses_db nm hp a (s :: env) h.2
    simp only [NT.db, NT.uses, Ty.pre, List.filter_cons]
    rw [if_neg (param_ne_loop hp h.1)]
    simp [h1]

/-- What DerivPlaces gives. -/
def placesOf (o : Option NT) (nm : List UInt8) : Int := match o with
  | none => -1
  | some n => if paramB nm = true then n.uses nm else -1


end Go.Proofs.YtkciljcligohnaaDoor
