/- TypeNames and TypeClosed, the exported functions of both. TypeEmpty, both. -/
import Derived.Test.YtcgccdhmenobkaaDoorMF
import Derived.Test.YtcgccdhmenobkaaDoorMC
import Derived.Test.YtcgccdhmenobkaaDoorMG
namespace Go.Proofs.YtcgccdhmenobkaaDoor
open Go.RowKit
set_option linter.unusedVariables false
set_option linter.unusedSimpArgs false
def CLPost (w : World) (o : Option NT) (e : Ending) (w' : World) : Prop :=
 Below w.heap.size w w' /\ ∃ x A n' c, e = .returned (.tuple #[.agg #[.string x, .slice A n' c], .bool (closedOf o)]) /\ (∀ n, o = some n -> TAt w' (fun k => w.heap.size < k) n.toTr (.agg #[.string x, .slice A n' c]))
theorem l1Closed_any (s : ByteArray) (w : World) (hs : s.size <= 9223372036854775807) : Calls Tryd.prog 26 #[.string s] w (CLPost w (rdTy s.data.toList)) := by
 cases h : rdTy s.data.toList with
 | none =>
  refine (l1Closed_none s w hs h).mono ?_
  rintro e w' ⟨hb, x, A, n, c, he⟩
  exact ⟨hb, x, A, n, c, he, fun n h => by cases h⟩
 | some n =>
  refine (l1Closed_some s w hs n h).mono ?_
  rintro e w' ⟨hb, x, A, n', c, he, ht⟩
  exact ⟨hb, x, A, n', c, he, fun m hm => by cases hm; exact ht⟩
def TNPost (w : World) (o : Option NT) (e : Ending) (w' : World) : Prop :=
 Below w.heap.size w w' /\ match o with
  | none => ∃ A c, e = .returned (.tuple #[.slice A 0 c, .bool false])
  | some v => ∃ g c, e = .returned (.tuple #[.slice (some ⟨g, 0, none⟩) v.names.length c, .bool true]) /\ SOwn w' w.heap.size v.names g c
end Go.Proofs.YtcgccdhmenobkaaDoor
namespace Go.Proofs.YtcgccdhmenobkaaDoor
open Go.RowKit
set_option linter.unusedVariables false
set_option linter.unusedSimpArgs false
def emptyOf : Option NT -> Bool
 | none => false
 | some n => (n.db []).emp
theorem TypeEmpty_any (s : ByteArray) (w : World) (hs : s.size <= 9223372036854775807) :
 Calls Tryd.prog 18 #[.string s] w fun e w' => e = .returned (.bool (emptyOf (rdTy s.data.toList))) /\ Below w.heap.size w w' := by
 have hv := readType_rt s w hs
 have hn := fun v h => rdTy_some (l := s.data.toList) (n := v) h
 clear hs
 generalize rdTy s.data.toList = o at *
 cases o with
 | none =>
  clear hn
  go_enter Tryd.func18, Tryd.ntmps18
  go_wp2_with (go_at_call 33; refine hv.mono ?_; rintro e w1 ⟨hb1, rfl⟩)
  go_ret
  exact ⟨rfl, hb1⟩
 | some n =>
  have HN : Hid (∀ (w : World) p, TyAt w (n.db []) p -> Calls Tryd.prog 34 #[.pointer p, .slice none 0 0] w fun e w' => e = .returned (.bool (n.db []).emp) /\ Below w.heap.size w w') := fun w p hp =>
   isEmpty_any (n.db []) w p none 0 0 hp (db_scoped n []) (.inl rfl) (by rw [NT.db_atoms]; have := (hn n rfl).2; omega)
  clear hn
  show Calls _ _ _ _ (fun e w' => e = .returned (.bool (n.db []).emp) /\ _)
  generalize (n.db []).emp = b at *
  go_enter Tryd.func18, Tryd.ntmps18
  go_wp2_with (first
   | (go_at_call 33; refine hv.mono ?_; rintro e w1 ⟨hb1, g, rfl, hp⟩; have HP := Lib.hid hp; have HB1 := Lib.hid hb1; clear hp hb1)
   | (go_at_call 34; refine (HN.out _ _ HP.out).mono ?_; rintro e w2 ⟨rfl, hb2⟩; have HB2 := Lib.hid (up_trans HB1.out hb2); clear hb2))
  go_ret
  exact ⟨rfl, HB2.out⟩
end Go.Proofs.YtcgccdhmenobkaaDoor
