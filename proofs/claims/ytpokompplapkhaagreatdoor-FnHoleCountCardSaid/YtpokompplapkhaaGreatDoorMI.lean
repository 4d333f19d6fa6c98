/- Canonical texts, read back: the plain law. Names of put and opened types, and emptiness: the plain law. Whether a name is in a row; numbers' texts. -/
import Derived.Test.YtpokompplapkhaaGreatDoorMH
import Derived.Test.YtpokompplapkhaaGreatDoorMF
import Derived.Lib.AppendIntMem
import Derived.Lib.LaidTab
namespace Go.Proofs.YtpokompplapkhaaGreatDoor
open Go.RowKit
set_option linter.unusedVariables false
set_option linter.unusedSimpArgs false
mutual
theorem wf_okT : ∀ {t : Tr}, t.wf -> OkT t
 | .mk s ps, h => by
  rcases h with ⟨_, _, rfl⟩ | ⟨rfl, _, h⟩
  · exact ⟨fun _ => rfl, trivial⟩
  · exact ⟨fun h => absurd rfl h, wfs_okT h⟩
theorem wfs_okT : ∀ {ts : List Tr}, Tr.wfs ts -> OkTs ts
 | [], _ => trivial
 | _ :: _, h => ⟨wf_okT h.1, wfs_okT h.2⟩
end
end Go.Proofs.YtpokompplapkhaaGreatDoor
namespace Go.Proofs.YtpokompplapkhaaGreatDoor
open Go.RowKit
set_option linter.unusedVariables false
set_option linter.unusedSimpArgs false
def Ty.has (s : List UInt8) : Ty -> Prop
 | .name x => x = s
 | .sum a b => a.has s \/ b.has s
 | .prod a b => a.has s \/ b.has s
 | .loop a => a.has s
 | _ => False
theorem nstep_mem (s : List UInt8) (ls : List (List UInt8)) (u : Ty) : s ∈ nstep ls u ↔ s ∈ ls \/ u = .name s := by
 cases u with
 | name x =>
  simp only [nstep]
  split
  · rename_i h
    constructor
    · exact .inl
    · rintro (h1 | h1)
      · exact h1
      · cases h1; exact h
  · simp only [List.mem_append, List.mem_singleton]
    constructor
    · rintro (h1 | rfl)
      · exact .inl h1
      · exact .inr rfl
    · rintro (h1 | h1)
      · exact .inl h1
      · cases h1; exact .inr rfl
 | _ => simp [nstep]
theorem fold_mem (s : List UInt8) : ∀ (l : List Ty) (ls : List (List UInt8)), s ∈ l.foldl nstep ls ↔ s ∈ ls \/ Ty.name s ∈ l
 | [], ls => by simp
 | u :: l, ls => by
  rw [List.foldl_cons, fold_mem s l, nstep_mem]
  simp only [List.mem_cons]
  constructor
  · rintro ((h | rfl) | h)
    · exact .inl h
    · exact .inr (.inl rfl)
    · exact .inr (.inr h)
  · rintro (h | rfl | h)
    · exact .inl (.inl h)
    · exact .inl (.inr rfl)
    · exact .inr h
theorem pre_has (s : List UInt8) : ∀ (t : Ty), Ty.name s ∈ t.pre ↔ t.has s
 | .zero => by simp [Ty.pre, Ty.has]
 | .one => by simp [Ty.pre, Ty.has]
 | .bound _ => by simp [Ty.pre, Ty.has]
 | .name x => by
  simp only [Ty.pre, Ty.has, List.mem_singleton]
  constructor
  · intro h; cases h; rfl
  · rintro rfl; rfl
 | .sum a b => by simp [Ty.pre, Ty.has, pre_has s a, pre_has s b]
 | .prod a b => by simp [Ty.pre, Ty.has, pre_has s a, pre_has s b]
 | .loop a => by simp [Ty.pre, Ty.has, pre_has s a]
theorem fnames_has (s : List UInt8) (t : Ty) : s ∈ t.fnames ↔ t.has s := by
 rw [Ty.fnames, fold_mem, pre_has]
 simp
theorem names_has (s : List UInt8) (n : NT) (hn : n.ok3) : s ∈ n.names ↔ (n.db []).has s := by rw [<- fnames_db n hn, fnames_has]
theorem put_has (nm s : List UInt8) (u : Ty) : ∀ (t : Ty), (t.put nm u).has s ↔ (t.has s /\ s ≠ nm) \/ (t.has nm /\ u.has s)
 | .zero => by simp [Ty.put, Ty.has]
 | .one => by simp [Ty.put, Ty.has]
 | .bound _ => by simp [Ty.put, Ty.has]
 | .name x => by
  simp only [Ty.put]
  split
  · rename_i h
    subst h
    simp only [Ty.has, true_and]
    constructor
    · exact .inr
    · rintro (⟨rfl, h⟩ | h)
      · exact absurd rfl h
      · exact h
  · rename_i h
    simp only [Ty.has]
    constructor
    · rintro rfl; exact .inl ⟨rfl, h⟩
    · rintro (⟨h1, _⟩ | ⟨h1, _⟩)
      · exact h1
      · exact absurd h1 h
 | .sum a b => by
  simp only [Ty.put, Ty.has, put_has nm s u a, put_has nm s u b]
  constructor
  · rintro ((⟨h1, h2⟩ | ⟨h1, h2⟩) | ⟨h1, h2⟩ | ⟨h1, h2⟩)
    · exact .inl ⟨.inl h1, h2⟩
    · exact .inr ⟨.inl h1, h2⟩
    · exact .inl ⟨.inr h1, h2⟩
    · exact .inr ⟨.inr h1, h2⟩
  · rintro (⟨h1 | h1, h2⟩ | ⟨h1 | h1, h2⟩)
    · exact .inl (.inl ⟨h1, h2⟩)
    · exact .inr (.inl ⟨h1, h2⟩)
    · exact .inl (.inr ⟨h1, h2⟩)
    · exact .inr (.inr ⟨h1, h2⟩)
 | .prod a b => by
  simp only [Ty.put, Ty.has, put_has nm s u a, put_has nm s u b]
  constructor
  · rintro ((⟨h1, h2⟩ | ⟨h1, h2⟩) | ⟨h1, h2⟩ | ⟨h1, h2⟩)
    · exact .inl ⟨.inl h1, h2⟩
    · exact .inr ⟨.inl h1, h2⟩
    · exact .inl ⟨.inr h1, h2⟩
    · exact .inr ⟨.inr h1, h2⟩
  · rintro (⟨h1 | h1, h2⟩ | ⟨h1 | h1, h2⟩)
    · exact .inl (.inl ⟨h1, h2⟩)
    · exact .inr (.inl ⟨h1, h2⟩)
    · exact .inl (.inr ⟨h1, h2⟩)
    · exact .inr (.inr ⟨h1, h2⟩)
 | .loop a => by simp only [Ty.put, Ty.has, put_has nm s u a]
theorem opened_has (s : List UInt8) (u : Ty) : ∀ (t : Ty) (k : Nat), (t.has s -> (t.opened u k).has s) /\ ((t.opened u k).has s -> t.has s \/ u.has s)
 | .zero, _ => by simp [Ty.opened, Ty.has]
 | .one, _ => by simp [Ty.opened, Ty.has]
 | .name x, _ => by simp only [Ty.opened, Ty.has]; exact ⟨id, .inl⟩
 | .bound j, k => by
  simp only [Ty.opened, Ty.has, false_implies, true_and, false_or]
  split
  · exact id
  · simp [Ty.has]
 | .sum a b, k => by
  have h1 := opened_has s u a k
  have h2 := opened_has s u b k
  simp only [Ty.opened, Ty.has]
  refine ⟨?_, ?_⟩
  · rintro (h | h)
    · exact .inl (h1.1 h)
    · exact .inr (h2.1 h)
  · rintro (h | h)
    · rcases h1.2 h with h | h
      · exact .inl (.inl h)
      · exact .inr h
    · rcases h2.2 h with h | h
      · exact .inl (.inr h)
      · exact .inr h
 | .prod a b, k => by
  have h1 := opened_has s u a k
  have h2 := opened_has s u b k
  simp only [Ty.opened, Ty.has]
  refine ⟨?_, ?_⟩
  · rintro (h | h)
    · exact .inl (h1.1 h)
    · exact .inr (h2.1 h)
  · rintro (h | h)
    · rcases h1.2 h with h | h
      · exact .inl (.inl h)
      · exact .inr h
    · rcases h2.2 h with h | h
      · exact .inl (.inr h)
      · exact .inr h
 | .loop a, k => by
  simp only [Ty.opened, Ty.has]
  exact opened_has s u a (k + 1)
end Go.Proofs.YtpokompplapkhaaGreatDoor
namespace Go.Proofs.YtpokompplapkhaaGreatDoor
open Go.RowKit
set_option linter.unusedVariables false
set_option linter.unusedSimpArgs false
abbrev TabB (B : Nat) (w : World) : Prop := Lib.TabBelow Tryz.prog B w "internal/strconv.uint64pow10" .u64 Lib.pow10Tab
theorem TabB.below {B : Nat} {w w1 : World} (h : TabB B w) (hb : Below B w w1) : TabB B w1 := fun w2 hb2 => h w2 (hb.trans hb2)
end Go.Proofs.YtpokompplapkhaaGreatDoor

