/- ValueElements of the program. -/
import Derived.Test.YtcgccdhmenobkaaDoorMC
import Derived.Test.YtcgccdhmenobkaaDoorMB
namespace Go.Proofs.YtcgccdhmenobkaaDoor
set_option maxHeartbeats 1000000
open Go.RowKit
set_option linter.unusedVariables false
set_option linter.unusedSimpArgs false
def VEPost (w : World) (o : Option V) (e : Ending) (w' : World) : Prop :=
 Below w.heap.size w w' /\ match o with
  | none => ∃ A c, e = .returned (.tuple #[.slice A 0 c, .bool false])
  | some v => ∃ g c, e = .returned (.tuple #[.slice (some ⟨g, 0, none⟩) v.elems.length c, .bool true]) /\ SOwn w' w.heap.size v.elems g c
theorem ValueElements_any (s : ByteArray) (w : World) (hs : s.size <= 9223372036854775807) :
 Calls Tryd.prog 9 #[.string s] w (VEPost w (rdVal s.data.toList)) := by
 have hv := (readValue_any s w hs).mono fun _ _ h => h.vp
 have hn := fun v h => rdVal_nodes (l := s.data.toList) (v := v) h
 clear hs
 generalize rdVal s.data.toList = o at *
 cases o with
 | none =>
  clear hn
  go_enter Tryd.func9, Tryd.ntmps9
  go_wp2_with (go_at_call 22; refine hv.mono ?_; rintro e w1 ⟨hb1, p, rfl, hp⟩; obtain rfl : p = none := hp)
  go_ret2
  exact ⟨hb1, _, _, rfl⟩
 | some v =>
  have HN := Lib.hid fun w p h => elements_any v w p h (by have := hn v rfl; omega)
  clear hn
  go_enter Tryd.func9, Tryd.ntmps9
  go_wp2_with (first
   | (go_at_call 22; refine hv.mono ?_; rintro e w1 ⟨hb1, p, rfl, hp⟩; obtain ⟨g, rfl⟩ := VAt.some_ hp; have HP : Hid (VAt _ v _) := hp; have HB1 := Lib.hid hb1; clear hp hb1)
   | (go_at_call 24; refine (HN.out _ _ HP.out).mono ?_; rintro e w2 ⟨hb2, g2, c2, rfl, ho⟩; have HO := Lib.hid (ho.less HB1.out.size); have HB2 := Lib.hid (up_trans HB1.out hb2); clear hb2 ho))
  go_ret2
  exact ⟨HB2.out, _, _, rfl, HO.out⟩
end Go.Proofs.YtcgccdhmenobkaaDoor
