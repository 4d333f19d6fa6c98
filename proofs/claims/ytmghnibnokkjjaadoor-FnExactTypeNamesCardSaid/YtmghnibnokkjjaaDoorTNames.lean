/- TypeNames and TypeClosed, the exported functions of both. -/
import Derived.Test.YtmghnibnokkjjaaDoorClosed
import Derived.Test.YtmghnibnokkjjaaDoorLists
namespace Go.Proofs.YtmghnibnokkjjaaDoor
open Go.RowKit
set_option linter.unusedVariables false
set_option linter.unusedSimpArgs false

/-- What l1Closed does. -/
def CLPost (w : World) (o : Option NT) (e : Ending) (w' : World) : Prop :=
  Below w.heap.size w w' ∧ ∃ x A n' c, e = .returned (.tuple #[.agg #[.string x, .slice A n' c], .bool (closedOf o)]) ∧ (∀ n, o = some n → TAt w' (fun k => w.heap.size < k) n.toTr (.agg #[.string x, .slice A n' c]))
theorem l1Closed_any (s : ByteArray) (w : World) (hs : s.size ≤ 9223372036854775807) : Calls Tryd.prog 53 #[.string s] w (CLPost w (rdTy s.data.toList)) := by
  cases h : rdTy s.data.toList with
  | none =>
    refine (l1Closed_none s w hs h).mono ?_
    rintro e w' ⟨hb, x, A, n, c, he⟩
    exact ⟨hb, x, A, n, c, he, fun n h => by cases h⟩
  | some n =>
    refine (l1Closed_some s w hs n h).mono ?_
    rintro e w' ⟨hb, x, A, n', c, he, ht⟩
    exact ⟨hb, x, A, n', c, he, fun m hm => by cases hm; exact ht⟩

theorem specTypeClosed_any (s : ByteArray) (w : World) (hs : s.size ≤ 9223372036854775807) :
    Calls Tryd.prog 22 #[.string s] w fun e w' => e = .returned (.bool (closedOf (rdTy s.data.toList))) ∧ Below w.heap.size w w' := by
  have HV := Lib.hid fun w => l1Closed_any s w hs
  clear hs
  generalize rdTy s.data.toList = o at *
  generalize hb : closedOf o = b
  have HC := Lib.hid hb
  clear hb
  go_enter Tryd.func22, Tryd.ntmps22
  go_wp2_with (go_at_call 53; refine (HV.out _).mono ?_; rintro e w1 ⟨hb1, x, A, n, c, rfl, _⟩; rw [HC.out]; have HB1 := Lib.hid hb1; clear hb1)
  go_ret
  exact ⟨rfl, by repeat (first | exact HB1.out | refine up_alloc ?_ _)⟩

/-- What TypeNames gives. -/
def TNPost (w : World) (o : Option NT) (e : Ending) (w' : World) : Prop :=
  Below w.heap.size w w' ∧ match o with
    | none => ∃ A c, e = .returned (.tuple #[.slice A 0 c, .bool false])
    | some v => ∃ g c, e = .returned (.tuple #[.slice (some ⟨g, 0, none⟩) v.names.length c, .bool true]) ∧ SOwn w' w.heap.size v.names g c

set_option maxHeartbeats 1000000 in
theorem TypeNames_any (s : ByteArray) (w : World) (hs : s.size ≤ 9223372036854775807) :
    Calls Tryd.prog 27 #[.string s] w (TNPost w (rdTy s.data.toList)) := by
  have hv := readType_rt s w hs
  have hn := fun v h => rdTy_some (l := s.data.toList) (n := v) h
  clear hs
  generalize rdTy s.data.toList = o at *
  cases o with
  | none =>
    clear hn
    go_enter Tryd.func27, Tryd.ntmps27
    go_wp2_with (go_at_call 43; refine hv.mono ?_; rintro e w1 ⟨hb1, rfl⟩)
    go_ret2
    exact ⟨hb1, _, _, rfl⟩
  | some n =>
    have HN : Hid (∀ (w : World) p, TyAt w (n.db []) p → Calls Tryd.prog 59 #[.pointer p] w (LPost w n.names)) := fun w p hp => by
      have h := names_any (n.db []) w p hp (by rw [NT.db_atoms]; have := (hn n rfl).2; omega)
      rw [names_fr n [] [] (hn n rfl).1 (by simp)] at h
      exact h
    clear hn
    go_enter Tryd.func27, Tryd.ntmps27
    go_wp2_with (first
      | (go_at_call 43; refine hv.mono ?_; rintro e w1 ⟨hb1, g, rfl, hp⟩; have HP := Lib.hid hp; have HB1 := Lib.hid hb1; clear hp hb1)
      | (go_at_call 59; refine (HN.out _ _ HP.out).mono ?_; rintro e w2 ⟨hb2, g2, c2, rfl, ho⟩; have HO := Lib.hid (ho.less HB1.out.size); have HB2 := Lib.hid (up_trans HB1.out hb2); clear hb2 ho))
    go_ret2
    exact ⟨HB2.out, _, _, rfl, HO.out⟩

set_option maxHeartbeats 1000000 in
theorem specTypeNames_any (s : ByteArray) (w : World) (hs : s.size ≤ 9223372036854775807) :
    Calls Tryd.prog 26 #[.string s] w (TNPost w (rdTy s.data.toList)) := by
  have hv := fun w => l1Type_any s w hs
  have hn := fun v h => rdTy_some (l := s.data.toList) (n := v) h
  clear hs
  generalize rdTy s.data.toList = o at *
  cases o with
  | none =>
    have HV := Lib.hid hv
    clear hv hn
    go_enter Tryd.func26, Tryd.ntmps26
    go_wp2_with (go_at_call 42; refine (HV.out _).mono ?_; rintro e w1 ⟨hb1, x, A, n, c, rfl⟩; have HB1 := Lib.hid hb1; clear hb1)
    go_ret2
    exact ⟨up_alloc (up_alloc HB1.out _) _, _, _, rfl⟩
  | some n =>
    have HV := Lib.hid hv
    obtain ⟨hok, hat⟩ := hn n rfl
    have HF : Hid (∀ (w1 : World) (x : ByteArray) A n' c, TAt w1 (fun _ => True) n.toTr (.agg #[.string x, .slice A n' c]) → Calls Tryd.prog 58 #[.agg #[.string x, .slice A n' c], .slice (some ⟨w1.heap.size + 1, 0, none⟩) 0 0, .slice (some ⟨w1.heap.size + 2, 0, none⟩) 0 0] (((w1.alloc (.cells #[.string x, .slice A n' c] 38)).alloc (.cells #[] 9)).alloc (.cells #[] 9)) fun e w2 => ∃ g c3, e = .returned (.slice (some ⟨g, 0, none⟩) n.names.length c3) ∧ SOwn w2 w1.heap.size n.names g c3 ∧ Below w1.heap.size w1 w2) := fun w1 x A n' c ht => by
      refine (l1Free_any n hok _ _ (some ⟨w1.heap.size + 1, 0, none⟩) 0 [] w1.heap.size (w1.heap.size + 2) 0 [] (((ht.up (up1 _ _)).up (up1 _ _)).up (up1 _ _)) (.inl rfl) (own_new2 w1 _ _ (by omega)) (by simp; omega) (by simp; omega) (by simp; omega)).mono ?_
      rintro e w2 ⟨g, c2, he, ho, hg, _⟩
      refine ⟨g, c2, he, ho, ?_⟩
      exact (up_alloc (up_alloc (up1 w1 _) _) _).grown hg (by simp; omega) (fun k hk => by cases hk; omega)
    clear hv hn hok hat
    go_enter Tryd.func26, Tryd.ntmps26
    go_wp2_with (first
      | (go_at_call 42; refine (HV.out _).mono ?_; rintro e w1 ⟨hb1, x, A, n', c, rfl, hp⟩; have HP := Lib.hid hp; have HB1 := Lib.hid hb1; clear hb1 hp)
      | (go_at_call 58; refine (HF.out _ _ _ _ _ (HP.out.weak fun _ _ => trivial)).mono ?_; rintro e w2 ⟨g2, c2, rfl, ho, hb2⟩; have HO := Lib.hid (ho.less HB1.out.size); have HB2 := Lib.hid (up_trans HB1.out hb2); clear hb2 ho))
    go_ret2
    exact ⟨HB2.out, _, _, rfl, HO.out⟩

end Go.Proofs.YtmghnibnokkjjaaDoor
