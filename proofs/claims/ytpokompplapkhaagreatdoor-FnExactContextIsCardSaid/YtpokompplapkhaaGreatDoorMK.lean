/- TypeNames and TypeClosed, the exported functions of both. TypeEmpty, both. TypeCanon and TypePut of both. TypePut of the reference. TypeUnroll of both. -/
import Derived.Test.YtpokompplapkhaaGreatDoorMF
import Derived.Test.YtpokompplapkhaaGreatDoorMC
import Derived.Test.YtpokompplapkhaaGreatDoorMG
import Derived.Test.YtpokompplapkhaaGreatDoorMI
import Derived.Test.YtpokompplapkhaaGreatDoorMH
namespace Go.Proofs.YtpokompplapkhaaGreatDoor
open Go.RowKit
set_option linter.unusedVariables false
set_option linter.unusedSimpArgs false
/-- What l1Closed does. -/
def CLPost (w : World) (o : Option NT) (e : Ending) (w' : World) : Prop :=
  Below w.heap.size w w' ∧ ∃ x A n' c, e = .returned (.tuple #[.agg #[.string x, .slice A n' c], .bool (closedOf o)]) ∧ (∀ n, o = some n → TAt w' (fun k => w.heap.size < k) n.toTr (.agg #[.string x, .slice A n' c]))
theorem l1Closed_any (s : ByteArray) (w : World) (hs : s.size ≤ 9223372036854775807) : Calls Tryz.prog 48 #[.string s] w (CLPost w (rdTy s.data.toList)) := by
  cases h : rdTy s.data.toList with
  | none =>
    refine (l1Closed_none s w hs h).mono ?_
    rintro e w' ⟨hb, x, A, n, c, he⟩
    exact ⟨hb, x, A, n, c, he, fun n h => by cases h⟩
  | some n =>
    refine (l1Closed_some s w hs n h).mono ?_
    rintro e w' ⟨hb, x, A, n', c, he, ht⟩
    exact ⟨hb, x, A, n', c, he, fun m hm => by cases hm; exact ht⟩
end Go.Proofs.YtpokompplapkhaaGreatDoor
namespace Go.Proofs.YtpokompplapkhaaGreatDoor
open Go.RowKit
set_option linter.unusedVariables false
set_option linter.unusedSimpArgs false
end Go.Proofs.YtpokompplapkhaaGreatDoor
namespace Go.Proofs.YtpokompplapkhaaGreatDoor
open Go.RowKit
set_option linter.unusedVariables false
set_option linter.unusedSimpArgs false
theorem outT_eq (o : Option (List UInt8)) : outT o = .tuple #[.string (St (o.getD [])), .bool o.isSome] := by cases o <;> rfl
theorem outOf_eq (o : Option (List UInt8)) : outOf o = outT o := by cases o <;> rfl
theorem scoped_mono : ∀ (t : Ty) {k k' : Nat}, k ≤ k' → t.scoped k → t.scoped k'
  | .zero, _, _, _, _ => trivial
  | .one, _, _, _, _ => trivial
  | .name _, _, _, _, _ => trivial
  | .bound _, _, _, hk, h => Nat.lt_of_lt_of_le h hk
  | .sum a b, _, _, hk, h => ⟨scoped_mono a hk h.1, scoped_mono b hk h.2⟩
  | .prod a b, _, _, hk, h => ⟨scoped_mono a hk h.1, scoped_mono b hk h.2⟩
  | .loop a, _, _, hk, h => scoped_mono a (Nat.succ_le_succ hk) h
theorem put_scoped (nm : List UInt8) (u : Ty) (hu : u.scoped 0) : ∀ (t : Ty) (k : Nat), t.scoped k → (t.put nm u).scoped k
  | .zero, _, _ => trivial
  | .one, _, _ => trivial
  | .bound _, _, h => h
  | .name s, k, h => by
    simp only [Ty.put]
    split
    · exact scoped_mono u (Nat.zero_le _) hu
    · trivial
  | .sum a b, k, h => ⟨put_scoped nm u hu a k h.1, put_scoped nm u hu b k h.2⟩
  | .prod a b, k, h => ⟨put_scoped nm u hu a k h.1, put_scoped nm u hu b k h.2⟩
  | .loop a, k, h => put_scoped nm u hu a (k + 1) h
theorem opened_scoped (u : Ty) (hu : u.scoped 0) : ∀ (t : Ty) (k : Nat), t.scoped (k + 1) → (t.opened u k).scoped k
  | .zero, _, _ => trivial
  | .one, _, _ => trivial
  | .name _, _, _ => trivial
  | .bound j, k, h => by
    have h : j < k + 1 := h
    simp only [Ty.opened]
    split
    · exact scoped_mono u (Nat.zero_le _) hu
    · show j < k
      omega
  | .sum a b, k, h => ⟨opened_scoped u hu a k h.1, opened_scoped u hu b k h.2⟩
  | .prod a b, k, h => ⟨opened_scoped u hu a k h.1, opened_scoped u hu b k h.2⟩
  | .loop a, k, h => opened_scoped u hu a (k + 1) h
/-- told, its two results apart. -/
theorem told_two (t : Ty) (B : Nat) (w : World) (p : Option Addr) (hp : TyAt w t p) (ht : t.atoms ≤ 1000000000) (hsc : t.scoped 0) (hnm : t.nmle) (htab : TabB B w) (hB : B ≤ w.heap.size) :
    Calls Tryz.prog 83 #[.pointer p] w fun e w' => e = .returned (.tuple #[.string (St (t.told.getD [])), .bool t.told.isSome]) ∧ Below w.heap.size w w' :=
  (told_any t B w p hp ht hsc hnm htab hB).mono fun e w' ⟨h1, h2⟩ => ⟨by rw [h1, outT_eq], h2⟩
/-! ### TypeCanon -/
/-! ### TypePut -/
end Go.Proofs.YtpokompplapkhaaGreatDoor
namespace Go.Proofs.YtpokompplapkhaaGreatDoor
open Go.RowKit
set_option linter.unusedVariables false
set_option linter.unusedSimpArgs false
end Go.Proofs.YtpokompplapkhaaGreatDoor
namespace Go.Proofs.YtpokompplapkhaaGreatDoor
open Go.RowKit
set_option linter.unusedVariables false
set_option linter.unusedSimpArgs false
theorem un_drew {w w1 : World} (h : Below w.drew.heap.size w.drew w1) : Below w.heap.size w w1 := ⟨h.os, h.tape, h.output, h.size, h.block⟩
end Go.Proofs.YtpokompplapkhaaGreatDoor

