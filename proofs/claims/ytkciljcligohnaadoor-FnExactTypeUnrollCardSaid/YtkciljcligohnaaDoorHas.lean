/- Names of put and opened types, and emptiness: the plain law. -/
import Derived.Test.YtkciljcligohnaaDoorRound
namespace Go.Proofs.YtkciljcligohnaaDoor
open Go.RowKit
set_option linter.unusedVariables false
set_option linter.unusedSimpArgs false

/-- A free name stands in a type. -/
def Ty.has (s : List UInt8) : Ty → Prop
  | .name x => x = s
  | .sum a b => a.has s ∨ b.has s
  | .prod a b => a.has s ∨ b.has s
  | .loop a => a.has s
  | _ => False
theorem nstep_mem (s : List UInt8) (ls : List (List UInt8)) (u : Ty) : s ∈ nstep ls u ↔ s ∈ ls ∨ u = .name s := by
  cases u with
  | name x =>
    simp only [nstep]
    split
    · rename_i h
      constructor
      · exact .inl
      · rintro (h1 | h1)
        · exact h1
        · cases h1; exact h
    · simp only [List.mem_append, List.mem_singleton]
      constructor
      · rintro (h1 | rfl)
        · exact .inl h1
        · exact .inr rfl
      · rintro (h1 | h1)
        · exact .inl h1
        · cases h1; exact .inr rfl
  | _ => simp [nstep]
theorem fold_mem (s : List UInt8) : ∀ (l : List Ty) (ls : List (List UInt8)), s ∈ l.foldl nstep ls ↔ s ∈ ls ∨ Ty.name s ∈ l
  | [], ls => by simp
  | u :: l, ls => by
    rw [List.foldl_cons, fold_mem s l, nstep_mem]
    simp only [List.mem_cons]
    constructor
    · rintro ((h | rfl) | h)
      · exact .inl h
      · exact .inr (.inl rfl)
      · exact .inr (.inr h)
    · rintro (h | rfl | h)
      · exact .inl (.inl h)
      · exact .inl (.inr rfl)
      · exact .inr h
theorem pre_has (s : List UInt8) : ∀ (t : Ty), Ty.name s ∈ t.pre ↔ t.has s
  | .zero => by simp [Ty.pre, Ty.has]
  | .one => by simp [Ty.pre, Ty.has]
  | .bound _ => by simp [Ty.pre, Ty.has]
  | .name x => by
    simp only [Ty.pre, Ty.has, List.mem_singleton]
    constructor
    · intro h; cases h; rfl
    · rintro rfl; rfl
  | .sum a b => by simp [Ty.pre, Ty.has, pre_has s a, pre_has s b]
  | .prod a b => by simp [Ty.pre, Ty.has, pre_has s a, pre_has s b]
  | .loop a => by simp [Ty.pre, Ty.has, pre_has s a]
theorem fnames_has (s : List UInt8) (t : Ty) : s ∈ t.fnames ↔ t.has s := by
  rw [Ty.fnames, fold_mem, pre_has]
  simp
theorem names_has (s : List UInt8) (n : NT) (hn : n.ok3) : s ∈ n.names ↔ (n.db []).has s := by rw [← fnames_db n hn, fnames_has]
theorem nstep_nodup (u : Ty) {ls : List (List UInt8)} (h : ls.Nodup) : (nstep ls u).Nodup := by
  cases u with
  | name x =>
    simp only [nstep]
    split
    · exact h
    · rename_i hx
      rw [List.nodup_append]
      refine ⟨h, by simp, ?_⟩
      intro a ha b hb
      simp only [List.mem_singleton] at hb
      subst hb
      rintro rfl
      exact hx ha
  | _ => exact h
theorem fold_nodup : ∀ (l : List Ty) {ls : List (List UInt8)}, ls.Nodup → (l.foldl nstep ls).Nodup
  | [], _, h => h
  | u :: l, _, h => fold_nodup l (nstep_nodup u h)
theorem names_nodup (n : NT) (hn : n.ok3) : n.names.Nodup := by
  rw [← fnames_db n hn]
  exact fold_nodup _ (by simp)

theorem put_has (nm s : List UInt8) (u : Ty) : ∀ (t : Ty), (t.put nm u).has s ↔ (t.has s ∧ s ≠ nm) ∨ (t.has nm ∧ u.has s)
  | .zero => by simp [Ty.put, Ty.has]
  | .one => by simp [Ty.put, Ty.has]
  | .bound _ => by simp [Ty.put, Ty.has]
  | .name x => by
    simp only [Ty.put]
    split
    · rename_i h
      subst h
      simp only [Ty.has, true_and]
      constructor
      · exact .inr
      · rintro (⟨rfl, h⟩ | h)
        · exact absurd rfl h
        · exact h
    · rename_i h
      simp only [Ty.has]
      constructor
      · rintro rfl; exact .inl ⟨rfl, h⟩
      · rintro (⟨h1, _⟩ | ⟨h1, _⟩)
        · exact h1
        · exact absurd h1 h
  | .sum a b => by
    simp only [Ty.put, Ty.has, put_has nm s u a, put_has nm s u b]
    constructor
    · rintro ((⟨h1, h2⟩ | ⟨h1, h2⟩) | ⟨h1, h2⟩ | ⟨h1, h2⟩)
      · exact .inl ⟨.inl h1, h2⟩
      · exact .inr ⟨.inl h1, h2⟩
      · exact .inl ⟨.inr h1, h2⟩
      · exact .inr ⟨.inr h1, h2⟩
    · rintro (⟨h1 | h1, h2⟩ | ⟨h1 | h1, h2⟩)
      · exact .inl (.inl ⟨h1, h2⟩)
      · exact .inr (.inl ⟨h1, h2⟩)
      · exact .inl (.inr ⟨h1, h2⟩)
      · exact .inr (.inr ⟨h1, h2⟩)
  | .prod a b => by
    simp only [Ty.put, Ty.has, put_has nm s u a, put_has nm s u b]
    constructor
    · rintro ((⟨h1, h2⟩ | ⟨h1, h2⟩) | ⟨h1, h2⟩ | ⟨h1, h2⟩)
      · exact .inl ⟨.inl h1, h2⟩
      · exact .inr ⟨.inl h1, h2⟩
      · exact .inl ⟨.inr h1, h2⟩
      · exact .inr ⟨.inr h1, h2⟩
    · rintro (⟨h1 | h1, h2⟩ | ⟨h1 | h1, h2⟩)
      · exact .inl (.inl ⟨h1, h2⟩)
      · exact .inr (.inl ⟨h1, h2⟩)
      · exact .inl (.inr ⟨h1, h2⟩)
      · exact .inr (.inr ⟨h1, h2⟩)
  | .loop a => by simp only [Ty.put, Ty.has, put_has nm s u a]
theorem put_id (nm : List UInt8) (u : Ty) : ∀ (t : Ty), ¬ t.has nm → t.put nm u = t
  | .zero, _ => rfl
  | .one, _ => rfl
  | .bound _, _ => rfl
  | .name x, h => by
    simp only [Ty.put]
    rw [if_neg (show ¬ x = nm from h)]
  | .sum a b, h => by
    simp only [Ty.has, not_or] at h
    simp only [Ty.put, put_id nm u a h.1, put_id nm u b h.2]
  | .prod a b, h => by
    simp only [Ty.has, not_or] at h
    simp only [Ty.put, put_id nm u a h.1, put_id nm u b h.2]
  | .loop a, h => by simp only [Ty.put, put_id nm u a h]
/-- A type opened with one that has none but its names. -/
theorem opened_has (s : List UInt8) (u : Ty) : ∀ (t : Ty) (k : Nat), (t.has s → (t.opened u k).has s) ∧ ((t.opened u k).has s → t.has s ∨ u.has s)
  | .zero, _ => by simp [Ty.opened, Ty.has]
  | .one, _ => by simp [Ty.opened, Ty.has]
  | .name x, _ => by simp only [Ty.opened, Ty.has]; exact ⟨id, .inl⟩
  | .bound j, k => by
    simp only [Ty.opened, Ty.has, false_implies, true_and, false_or]
    split
    · exact id
    · simp [Ty.has]
  | .sum a b, k => by
    have h1 := opened_has s u a k
    have h2 := opened_has s u b k
    simp only [Ty.opened, Ty.has]
    refine ⟨?_, ?_⟩
    · rintro (h | h)
      · exact .inl (h1.1 h)
      · exact .inr (h2.1 h)
    · rintro (h | h)
      · rcases h1.2 h with h | h
        · exact .inl (.inl h)
        · exact .inr h
      · rcases h2.2 h with h | h
        · exact .inl (.inr h)
        · exact .inr h
  | .prod a b, k => by
    have h1 := opened_has s u a k
    have h2 := opened_has s u b k
    simp only [Ty.opened, Ty.has]
    refine ⟨?_, ?_⟩
    · rintro (h | h)
      · exact .inl (h1.1 h)
      · exact .inr (h2.1 h)
    · rintro (h | h)
      · rcases h1.2 h with h | h
        · exact .inl (.inl h)
        · exact .inr h
      · rcases h2.2 h with h | h
        · exact .inl (.inr h)
        · exact .inr h
  | .loop a, k => by
    simp only [Ty.opened, Ty.has]
    exact opened_has s u a (k + 1)
theorem unroll_has (s : List UInt8) (a : Ty) : (a.opened (.loop a) 0).has s ↔ a.has s := by
  have h := opened_has s (.loop a) a 0
  constructor
  · intro h1
    rcases h.2 h1 with h2 | h2
    · exact h2
    · exact h2
  · exact h.1

/-! ### emptiness -/
def Ty.empAt (x : Bool) : Ty → Nat → Bool
  | .zero, _ => true
  | .one, _ => false
  | .name _, _ => false
  | .bound j, k => if j = k then x else true
  | .sum a b, k => a.empAt x k && b.empAt x k
  | .prod a b, k => a.empAt x k || b.empAt x k
  | .loop a, k => a.empAt x (k + 1)
theorem empAt_true : ∀ (t : Ty) (k : Nat), t.empAt true k = t.emp
  | .zero, _ => rfl
  | .one, _ => rfl
  | .name _, _ => rfl
  | .bound j, k => by simp [Ty.empAt, Ty.emp]
  | .sum a b, k => by simp [Ty.empAt, Ty.emp, empAt_true a, empAt_true b]
  | .prod a b, k => by simp [Ty.empAt, Ty.emp, empAt_true a, empAt_true b]
  | .loop a, k => by simp [Ty.empAt, Ty.emp, empAt_true a]
theorem empAt_mono : ∀ (t : Ty) (k : Nat), t.empAt false k = true → t.empAt true k = true
  | .zero, _, _ => rfl
  | .one, _, h => h
  | .name _, _, h => h
  | .bound j, k, _ => by simp [Ty.empAt]
  | .sum a b, k, h => by
    simp only [Ty.empAt, Bool.and_eq_true] at h ⊢
    exact ⟨empAt_mono a k h.1, empAt_mono b k h.2⟩
  | .prod a b, k, h => by
    simp only [Ty.empAt, Bool.or_eq_true] at h ⊢
    exact h.imp (empAt_mono a k) (empAt_mono b k)
  | .loop a, k, h => empAt_mono a (k + 1) h
theorem opened_emp (u : Ty) : ∀ (t : Ty) (k : Nat), (t.opened u k).emp = t.empAt u.emp k
  | .zero, _ => rfl
  | .one, _ => rfl
  | .name _, _ => rfl
  | .bound j, k => by
    simp only [Ty.opened, Ty.empAt]
    split <;> rfl
  | .sum a b, k => by simp only [Ty.opened, Ty.empAt, Ty.emp, opened_emp u a, opened_emp u b]
  | .prod a b, k => by simp only [Ty.opened, Ty.empAt, Ty.emp, opened_emp u a, opened_emp u b]
  | .loop a, k => by simp only [Ty.opened, Ty.empAt, Ty.emp, opened_emp u a]
theorem unroll_emp (a : Ty) : (a.opened (.loop a) 0).emp = a.emp := by
  rw [opened_emp]
  simp only [Ty.emp]
  cases h : a.emp with
  | true => rw [empAt_true]; exact h
  | false =>
    cases h2 : a.empAt false 0 with
    | false => rfl
    | true => rw [← empAt_true a 0, empAt_mono a 0 h2] at h; cases h

end Go.Proofs.YtkciljcligohnaaDoor
