/- The trees of a type and of a value, read by the reference. -/
import Derived.Test.YtpokompplapkhaaGreatDoorVIs
namespace Go.Proofs.YtpokompplapkhaaGreatDoor
open Go.RowKit
set_option linter.unusedVariables false
set_option linter.unusedSimpArgs false
theorem l1Closed_tree {s : ByteArray} {N : NT} (w : World) (hs : s.size <= 9223372036854775807) (hc : clTy s.data.toList = some N) : Calls Tryz.prog 48 #[.string s] w fun e w' => Below w.heap.size w w' /\ ∃ x A n' c, e = .returned (.tuple #[.agg #[.string x, .slice A n' c], .bool true]) /\ TAt w' (fun _ => True) N.toTr (.agg #[.string x, .slice A n' c]) :=
 (l1Closed_any s w hs).mono fun e w' ⟨hb, x, A, n', c, he, ht⟩ => ⟨hb, x, A, n', c, by rw [he, clTy_closed hc], (ht N (clTy_some hc).1).weak fun _ _ => trivial⟩
theorem l1Closed_form (s : ByteArray) (w : World) (hs : s.size <= 9223372036854775807) : Calls Tryz.prog 48 #[.string s] w fun e w' => Below w.heap.size w w' /\ ∃ x A n' c b, e = .returned (.tuple #[.agg #[.string x, .slice A n' c], .bool b]) :=
 (l1Closed_any s w hs).mono fun e w' ⟨hb, x, A, n', c, he, ht⟩ => ⟨hb, x, A, n', c, _, he⟩
theorem l2Value_tree {v : ByteArray} {x : V} (w : World) (hv : v.size <= 9223372036854775807) (hr : rdVal v.data.toList = some x) : Calls Tryz.prog 54 #[.string v] w fun e w' => Below w.heap.size w w' /\ ∃ y A m c, e = .returned (.tuple #[.agg #[.string y, .slice A m c], .bool true]) /\ TAt w' (fun _ => True) x.toTr (.agg #[.string y, .slice A m c]) :=
 (l2Value_any v w hv).mono fun e w' h => by
  rw [hr] at h
  obtain ⟨hb, y, A, m, c, he, ht⟩ := h
  exact ⟨hb, y, A, m, c, he, ht.weak fun _ _ => trivial⟩
theorem l2Value_form (v : ByteArray) (w : World) (hv : v.size <= 9223372036854775807) : Calls Tryz.prog 54 #[.string v] w fun e w' => Below w.heap.size w w' /\ ∃ y A m c b, e = .returned (.tuple #[.agg #[.string y, .slice A m c], .bool b]) :=
 (l2Value_any v w hv).mono fun e w' h => by
  obtain ⟨hb, h⟩ := h
  cases hr : rdVal v.data.toList with
  | none => rw [hr] at h; obtain ⟨y, A, m, c, he⟩ := h; exact ⟨hb, y, A, m, c, _, he⟩
  | some x => rw [hr] at h; obtain ⟨y, A, m, c, he, _⟩ := h; exact ⟨hb, y, A, m, c, _, he⟩
end Go.Proofs.YtpokompplapkhaaGreatDoor

