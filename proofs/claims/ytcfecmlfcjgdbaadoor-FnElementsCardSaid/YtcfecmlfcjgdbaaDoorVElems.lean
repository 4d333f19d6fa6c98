/- ValueElements, both. -/
import Derived.Test.YtcfecmlfcjgdbaaDoorSElems
import Derived.Test.YtcfecmlfcjgdbaaDoorMC
namespace Go.Proofs.YtcfecmlfcjgdbaaDoor
open Go.RowKit
set_option linter.unusedVariables false
set_option linter.unusedSimpArgs false

/-- What ValueElements gives. -/
def VEPost (w : World) (o : Option V) (e : Ending) (w' : World) : Prop :=
  Below w.heap.size w w' ∧ match o with
    | none => ∃ A c, e = .returned (.tuple #[.slice A 0 c, .bool false])
    | some v => ∃ g c, e = .returned (.tuple #[.slice (some ⟨g, 0, none⟩) v.elems.length c, .bool true]) ∧ SOwn w' w.heap.size v.elems g c

set_option maxHeartbeats 1000000 in
theorem ValueElements_any (s : ByteArray) (w : World) (hs : s.size ≤ 9223372036854775807) :
    Calls Tryd.prog 20 #[.string s] w (VEPost w (rdVal s.data.toList)) := by
  have hv := (readValue_any s w hs).mono fun _ _ h => h.vp
  have hn := fun v h => rdVal_nodes (l := s.data.toList) (v := v) h
  clear hs
  generalize rdVal s.data.toList = o at *
  cases o with
  | none =>
    clear hn
    go_enter Tryd.func20, Tryd.ntmps20
    go_wp2_with (go_at_call 43; refine hv.mono ?_; rintro e w1 ⟨hb1, p, rfl, hp⟩; obtain rfl : p = none := hp)
    go_ret2
    exact ⟨hb1, _, _, rfl⟩
  | some v =>
    have HN := Lib.hid fun w p h => elements_any v w p h (by have := hn v rfl; omega)
    clear hn
    go_enter Tryd.func20, Tryd.ntmps20
    go_wp2_with (first
      | (go_at_call 43; refine hv.mono ?_; rintro e w1 ⟨hb1, p, rfl, hp⟩; obtain ⟨g, rfl⟩ := VAt.some_ hp; have HP : Hid (VAt _ v _) := hp; have HB1 := Lib.hid hb1; clear hp hb1)
      | (go_at_call 44; refine (HN.out _ _ HP.out).mono ?_; rintro e w2 ⟨hb2, g2, c2, rfl, ho⟩; have HO := Lib.hid (ho.less HB1.out.size); have HB2 := Lib.hid (up_trans HB1.out hb2); clear hb2 ho))
    go_ret2
    exact ⟨HB2.out, _, _, rfl, HO.out⟩

set_option maxHeartbeats 1000000 in
theorem specValueElements_any (s : ByteArray) (w : World) (hs : s.size ≤ 9223372036854775807) :
    Calls Tryd.prog 21 #[.string s] w (VEPost w (rdVal s.data.toList)) := by
  have hv := fun w => l2Value_any s w hs
  have hn := fun v h => rdVal_nodes (l := s.data.toList) (v := v) h
  have hk := fun v h => rdVal_ok (l := s.data.toList) (v := v) h
  clear hs
  generalize rdVal s.data.toList = o at *
  cases o with
  | none =>
    have HV := Lib.hid hv
    clear hv hn hk
    go_enter Tryd.func21, Tryd.ntmps21
    go_wp2_with (go_at_call 45; refine (HV.out _).mono ?_; rintro e w1 ⟨hb1, x, A, n, c, rfl⟩; have HB1 := Lib.hid hb1; clear hb1)
    go_ret2
    exact ⟨up_alloc (up_alloc HB1.out _) _, _, _, rfl⟩
  | some v =>
    have HV := Lib.hid hv
    have hle := elems_len v
    have hnv := hn v rfl
    have HE := Lib.hid (l2Elements_any v (hk v rfl))
    have hl : v.elems.length ≤ 1000000 := by omega
    clear hv hn hk hle hnv
    go_enter Tryd.func21, Tryd.ntmps21
    go_wp2_with (first
      | (go_at_call 45; refine (HV.out _).mono ?_; rintro e w1 ⟨hb1, x, A, n, c, rfl, hp⟩; have HP := Lib.hid (hp.move (ok' := fun k => k < w1.heap.size) fun k hk _ => ⟨hk, rfl⟩); have HB1 := Lib.hid hb1; clear hb1 hp)
      | (go_at_call 46; refine (HE.out _ _ w1.heap.size (w1.heap.size + 1) 0 [] ((HP.out.up (up1 w1 (.cells #[.string x, .slice A n c] 42))).up (up1 _ (.cells #[] 9))) (SOwn.new0 w1 _ _ (Nat.le_refl _)) (by simp; omega) (by simpa using hl)).mono ?_; rintro e w2 ⟨hg, g2, c2, rfl, ho, _⟩; have HO := Lib.hid (ho.less HB1.out.size); have HB2 := Lib.hid (up_trans HB1.out ((up_alloc (up1 w1 (.cells #[.string x, .slice A n c] 42)) (.cells #[] 9)).trans (below_grown hg (Nat.le_succ _) (by simp; omega)))); clear hg ho))
    go_ret2
    exact ⟨HB2.out, _, _, rfl, HO.out⟩

end Go.Proofs.YtcfecmlfcjgdbaaDoor
