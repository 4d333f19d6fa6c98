/- TypeNames and TypeClosed, the exported functions of both. TypeEmpty, both. -/
import Derived.Test.YtpokompplapkhaaGreatDoorMF
import Derived.Test.YtpokompplapkhaaGreatDoorMC
import Derived.Test.YtpokompplapkhaaGreatDoorMG
namespace Go.Proofs.YtpokompplapkhaaGreatDoor
open Go.RowKit
set_option linter.unusedVariables false
set_option linter.unusedSimpArgs false

/-- What l1Closed does. -/
def CLPost (w : World) (o : Option NT) (e : Ending) (w' : World) : Prop :=
  Below w.heap.size w w' ∧ ∃ x A n' c, e = .returned (.tuple #[.agg #[.string x, .slice A n' c], .bool (closedOf o)]) ∧ (∀ n, o = some n → TAt w' (fun k => w.heap.size < k) n.toTr (.agg #[.string x, .slice A n' c]))
theorem l1Closed_any (s : ByteArray) (w : World) (hs : s.size ≤ 9223372036854775807) : Calls Tryz.prog 48 #[.string s] w (CLPost w (rdTy s.data.toList)) := by
  cases h : rdTy s.data.toList with
  | none =>
    refine (l1Closed_none s w hs h).mono ?_
    rintro e w' ⟨hb, x, A, n, c, he⟩
    exact ⟨hb, x, A, n, c, he, fun n h => by cases h⟩
  | some n =>
    refine (l1Closed_some s w hs n h).mono ?_
    rintro e w' ⟨hb, x, A, n', c, he, ht⟩
    exact ⟨hb, x, A, n', c, he, fun m hm => by cases hm; exact ht⟩


/-- What TypeNames gives. -/
def TNPost (w : World) (o : Option NT) (e : Ending) (w' : World) : Prop :=
  Below w.heap.size w w' ∧ match o with
    | none => ∃ A c, e = .returned (.tuple #[.slice A 0 c, .bool false])
    | some v => ∃ g c, e = .returned (.tuple #[.slice (some ⟨g, 0, none⟩) v.names.length c, .bool true]) ∧ SOwn w' w.heap.size v.names g c

end Go.Proofs.YtpokompplapkhaaGreatDoor

namespace Go.Proofs.YtpokompplapkhaaGreatDoor
open Go.RowKit
set_option linter.unusedVariables false
set_option linter.unusedSimpArgs false

/-- What TypeEmpty gives. -/
def emptyOf : Option NT → Bool
  | none => false
  | some n => (n.db []).emp

theorem TypeEmpty_any (s : ByteArray) (w : World) (hs : s.size ≤ 9223372036854775807) :
    Calls Tryz.prog 35 #[.string s] w fun e w' => e = .returned (.bool (emptyOf (rdTy s.data.toList))) ∧ Below w.heap.size w w' := by
  have hv := readType_rt s w hs
  have hn := fun v h => rdTy_some (l := s.data.toList) (n := v) h
  clear hs
  generalize rdTy s.data.toList = o at *
  cases o with
  | none =>
    clear hn
    go_enter Tryz.func35, Tryz.ntmps35
    go_wp2_with (go_at_call 82; refine hv.mono ?_; rintro e w1 ⟨hb1, rfl⟩)
    go_ret
    exact ⟨rfl, hb1⟩
  | some n =>
    have HN : Hid (∀ (w : World) p, TyAt w (n.db []) p → Calls Tryz.prog 84 #[.pointer p, .slice none 0 0] w fun e w' => e = .returned (.bool (n.db []).emp) ∧ Below w.heap.size w w') := fun w p hp =>
      isEmpty_any (n.db []) w p none 0 0 hp (db_scoped n []) (.inl rfl) (by rw [NT.db_atoms]; have := (hn n rfl).2; omega)
    clear hn
    show Calls _ _ _ _ (fun e w' => e = .returned (.bool (n.db []).emp) ∧ _)
    generalize (n.db []).emp = b at *
    go_enter Tryz.func35, Tryz.ntmps35
    go_wp2_with (first
      | (go_at_call 82; refine hv.mono ?_; rintro e w1 ⟨hb1, g, rfl, hp⟩; have HP := Lib.hid hp; have HB1 := Lib.hid hb1; clear hp hb1)
      | (go_at_call 84; refine (HN.out _ _ HP.out).mono ?_; rintro e w2 ⟨rfl, hb2⟩; have HB2 := Lib.hid (up_trans HB1.out hb2); clear hb2))
    go_ret
    exact ⟨rfl, HB2.out⟩

set_option maxHeartbeats 1000000 in
theorem specTypeEmpty_any (s : ByteArray) (w : World) (hs : s.size ≤ 9223372036854775807) :
    Calls Tryz.prog 93 #[.string s] w fun e w' => e = .returned (.bool (emptyOf (rdTy s.data.toList))) ∧ Below w.heap.size w w' := by
  have hv := fun w => l1Type_any s w hs
  have hn := fun v h => rdTy_some (l := s.data.toList) (n := v) h
  clear hs
  generalize rdTy s.data.toList = o at *
  cases o with
  | none =>
    have HV := Lib.hid hv
    clear hv hn
    show Calls _ _ _ _ (fun e w' => e = .returned (.bool false) ∧ _)
    go_enter Tryz.func93, Tryz.ntmps93
    go_wp2_with (go_at_call 102; refine (HV.out _).mono ?_; rintro e w1 ⟨hb1, x, A, n, c, rfl⟩; have HB1 := Lib.hid hb1; clear hb1)
    go_ret
    exact ⟨rfl, up_alloc HB1.out _⟩
  | some n =>
    have HV := Lib.hid hv
    obtain ⟨hok, hat⟩ := hn n rfl
    have HA : Hid (∀ (w : World) (okT : Nat → Prop) v, TAt w okT n.toTr v → Calls Tryz.prog 139 #[v, .slice none 0 0] w fun e w' => (∃ x A n' c, e = .returned (.agg #[.string x, .slice A n' c]) ∧ TAt w' (fun k => w.heap.size ≤ k) n.apart.toTr (.agg #[.string x, .slice A n' c])) ∧ Below w.heap.size w w') := fun w okT v h => l1Apart_any n hok hat v w okT 0 h
    have hemp := l1Empty_any n.apart (ren_ok' n.names n [] 0 (ok_ok' hok) (by simp))
    have hval : n.apart.empS [] = (n.db []).emp := apart_emp n hok
    have hatt : n.apart.atoms = n.atoms := ren_atoms n.names n [] 0
    have HE : Hid (∀ (w : World) (v : Value), TAt w (fun _ => True) n.apart.toTr v → Calls Tryz.prog 149 #[v, .slice (some ⟨w.heap.size, 0, none⟩) 0 0] (w.alloc (.cells #[] 9)) fun e w' => e = .returned (.bool (n.db []).emp) ∧ Below w.heap.size w w') := fun w v h => by
      have := hemp v (w.alloc (.cells #[] 9)) (some ⟨w.heap.size, 0, none⟩) 0 [] (h.up (up1 w _)) (.inl rfl) (by simp; omega)
      rw [hval] at this
      exact this.mono fun e w' ⟨h1, h2⟩ => ⟨h1, up_trans (up1 w _) h2⟩
    clear hv hn hok hat hemp hval hatt
    show Calls _ _ _ _ (fun e w' => e = .returned (.bool (n.db []).emp) ∧ _)
    generalize (n.db []).emp = b at *
    go_enter Tryz.func93, Tryz.ntmps93
    go_wp2_with (first
      | (go_at_call 102; refine (HV.out _).mono ?_; rintro e w1 ⟨hb1, x, A, n', c, rfl, hp⟩; have HP := Lib.hid hp; have HB1 := Lib.hid hb1; clear hb1 hp)
      | (go_at_call 139; refine (HA.out _ _ _ (HP.out.up (up1 _ _))).mono ?_; rintro e w2 ⟨⟨x2, A2, n2, c2, rfl, ht⟩, hb2⟩; have HT := Lib.hid ht; have HB2 := Lib.hid (up_trans (up_alloc HB1.out _) hb2); clear ht hb2)
      | (go_at_call 149; refine (HE.out _ _ (HT.out.weak fun _ _ => trivial)).mono ?_; rintro e w3 ⟨rfl, hb3⟩; have HB3 := Lib.hid (up_trans HB2.out hb3); clear hb3))
    go_ret
    exact ⟨rfl, HB3.out⟩

end Go.Proofs.YtpokompplapkhaaGreatDoor
