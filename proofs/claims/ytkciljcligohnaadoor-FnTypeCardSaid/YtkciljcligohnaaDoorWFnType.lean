/- The law FnType, walked. -/
import Derived.Test.YtkciljcligohnaaDoorWFnCanon
import Derived.Test.YtkciljcligohnaaDoorMK
namespace Go.Proofs.YtkciljcligohnaaDoor
open Go.RowKit
set_option linter.unusedVariables false
set_option linter.unusedSimpArgs false


set_option maxHeartbeats 4000000 in
set_option maxRecDepth 100000 in
theorem lawFnType (a : Option Addr) (n c : Nat) (w : World) (h : CodeRow w a n c) (htab : Lib.TabIs Tryd.prog w "internal/strconv.uint64pow10" .u64 Lib.pow10Tab) :
    Calls Tryd.prog 7 #[.slice a n c] w fun e w' => e = .returned (.bool true) ∧ Below w.heap.size w w' := by
  have HD := Lib.hid (DrawTypeValid_any a n c w h)
  have HTB : Hid (TabB w.heap.size w) := Lib.tabBelow_of_tabIs htab
  clear h htab
  cases hc : decide ((n : Int) > 1048576) with
  | true =>
    have hc' : decide (1048576 < n) = true := by simp at hc ⊢; omega
    have hc2 : decide ((1048576 : Int) < (n : Int)) = true := by simp at hc ⊢; omega
    go_enter Tryd.func7, Tryd.ntmps7
    go_wp2_with fail
    go_ret
    exact ⟨rfl, Below.refl _ _⟩
  | false =>
    have hc' : decide (1048576 < n) = false := by simp at hc ⊢; omega
    have hc2 : decide ((1048576 : Int) < (n : Int)) = false := by simp at hc ⊢; omega
    go_enter Tryd.func7, Tryd.ntmps7
    go_wp2_with (go_at_call 24; refine HD.out.mono ?_; rintro e w1 ⟨s, hs, rfl, hb1⟩; have HB1 := Lib.hid hb1; have HS := Lib.hid hs; clear hb1 hs)
    have hs9 : s.size ≤ 9223372036854775807 := by have := HS.out; omega
    have H1 := Lib.hid fun w1 => TypeValid_any s w1 hs9
    have H2 := Lib.hid fun w1 => specTypeValid_any s w1 hs9
    cases ho : rdTy s.data.toList with
    | none =>
      rw [ho] at H1 H2
      replace H1 : Hid (∀ w1, Calls Tryd.prog 23 #[.string s] w1 fun e w' => e = .returned (.bool false) ∧ Below w1.heap.size w1 w') := H1
      replace H2 : Hid (∀ w1, Calls Tryd.prog 25 #[.string s] w1 fun e w' => e = .returned (.bool false) ∧ Below w1.heap.size w1 w') := H2
      go_wp2_with (first
        | (go_at_call 23; (with_reducible refine (H1.out _).mono ?_); rintro e w2 ⟨rfl, hb2⟩; have HB2 := Lib.hid (up_trans HB1.out hb2); clear hb2)
        | (go_at_call 25; (with_reducible refine (H2.out _).mono ?_); rintro e w3 ⟨rfl, hb3⟩; have HB3 := Lib.hid (up_trans HB2.out hb3); clear hb3))
      go_ret
      exact ⟨rfl, HB3.out⟩
    | some m =>
      have hok := rdTy_some ho
      have hnl := names_len m
      have H3 := Lib.hid fun w1 => TypeNames_any s w1 hs9
      have H4 := Lib.hid fun w1 (hw : Below w.heap.size w w1) => TypeCanon_any s w.heap.size w1 hs9 (HTB.out.below hw) hw.size
      have H5 := Lib.hid fun w1 => TypeSize_any s w1 hs9
      rw [ho] at H1 H2 H3 H4 H5
      replace H1 : Hid (∀ w1, Calls Tryd.prog 23 #[.string s] w1 fun e w' => e = .returned (.bool true) ∧ Below w1.heap.size w1 w') := H1
      replace H2 : Hid (∀ w1, Calls Tryd.prog 25 #[.string s] w1 fun e w' => e = .returned (.bool true) ∧ Below w1.heap.size w1 w') := H2
      replace H3 : Hid (∀ w1, Calls Tryd.prog 26 #[.string s] w1 fun e w' => Below w1.heap.size w1 w' ∧ ∃ g c, e = .returned (.tuple #[.slice (some ⟨g, 0, none⟩) m.names.length c, .bool true])) := fun w1 => (H3.out w1).mono fun e w' ⟨h1, g, c, h2, _⟩ => ⟨h1, g, c, h2⟩
      replace H5 : Hid (∀ w1, Calls Tryd.prog 27 #[.string s] w1 fun e w' => e = .returned (.int .i64 m.atoms) ∧ Below w1.heap.size w1 w') := H5
      cases hto : (m.db []).told with
      | none =>
        rw [show canonOf (some m) = none from hto] at H4
        replace H4 : Hid (∀ w1, Below w.heap.size w w1 → Calls Tryd.prog 15 #[.string s] w1 fun e w' => e = .returned (.tuple #[.string (St []), .bool false]) ∧ Below w1.heap.size w1 w') := H4
        have hok2 := hok.2
        clear ho hok hto
        generalize m.names.length = k at *
        generalize m.atoms = z at *
        have hkz : decide (k ≤ z) = true := decide_eq_true hnl
        have hkz2 : decide ((k : Int) ≤ (z : Int)) = true := decide_eq_true (by omega)
        clear hnl
        go_wp2_with (first
          | (go_at_call 23; (with_reducible refine (H1.out _).mono ?_); rintro e w2 ⟨rfl, hb2⟩; have HB2 := Lib.hid (up_trans HB1.out hb2); clear hb2)
          | (go_at_call 25; (with_reducible refine (H2.out _).mono ?_); rintro e w3 ⟨rfl, hb3⟩; have HB3 := Lib.hid (up_trans HB2.out hb3); clear hb3)
          | (go_at_call 26; (with_reducible refine (H3.out _).mono ?_); rintro e w4 ⟨hb4, g4, c4, rfl⟩; have HB4 := Lib.hid (up_trans HB3.out hb4); clear hb4)
          | (go_at_call 15; (with_reducible refine (H4.out _ HB4.out).mono ?_); rintro e w5 ⟨rfl, hb5⟩; have HB5 := Lib.hid (up_trans HB4.out hb5); clear hb5)
          | (go_at_call 27; (with_reducible refine (H5.out _).mono ?_); rintro e w6 ⟨rfl, hb6⟩; have HB6 := Lib.hid (up_trans HB5.out hb6); clear hb6))
        go_ret
        exact ⟨rfl, HB6.out⟩
      | some tc =>
        obtain ⟨m2, hm2, hok2, _, hat2, _, _⟩ := told_db (ok_ok3 hok.1) hto
        have hcl := told_len (ok_ok3 hok.1) hto
        have H6 : Hid (∀ w1, Calls Tryd.prog 27 #[.string (St tc)] w1 fun e w' => e = .returned (.int .i64 m.atoms) ∧ Below w1.heap.size w1 w') := fun w1 => by
          have := TypeSize_any (St tc) w1 (by show tc.length ≤ _; omega)
          rw [show sizeOfT (rdTy (St tc).data.toList) = m.atoms by show sizeOfT (rdTy tc) = _; rw [hm2, ← hat2]; rfl] at this
          exact this
        rw [show canonOf (some m) = some tc from hto] at H4
        replace H4 : Hid (∀ w1, Below w.heap.size w w1 → Calls Tryd.prog 15 #[.string s] w1 fun e w' => e = .returned (.tuple #[.string (St tc), .bool true]) ∧ Below w1.heap.size w1 w') := H4
        clear ho hok hto hm2 hok2 hat2 hcl
        generalize m.names.length = k at *
        generalize m.atoms = z at *
        have hkz : decide (k ≤ z) = true := decide_eq_true hnl
        have hkz2 : decide ((k : Int) ≤ (z : Int)) = true := decide_eq_true (by omega)
        clear hnl
        go_wp2_with (first
          | (go_at_call 23; (with_reducible refine (H1.out _).mono ?_); rintro e w2 ⟨rfl, hb2⟩; have HB2 := Lib.hid (up_trans HB1.out hb2); clear hb2)
          | (go_at_call 25; (with_reducible refine (H2.out _).mono ?_); rintro e w3 ⟨rfl, hb3⟩; have HB3 := Lib.hid (up_trans HB2.out hb3); clear hb3)
          | (go_at_call 26; (with_reducible refine (H3.out _).mono ?_); rintro e w4 ⟨hb4, g4, c4, rfl⟩; have HB4 := Lib.hid (up_trans HB3.out hb4); clear hb4)
          | (go_at_call 15; (with_reducible refine (H4.out _ HB4.out).mono ?_); rintro e w5 ⟨rfl, hb5⟩; have HB5 := Lib.hid (up_trans HB4.out hb5); clear hb5)
          | (go_at_call 27; first
            | (have HB6' := HB6.out; clear HB6'; (with_reducible refine (H6.out _).mono ?_); rintro e w7 ⟨rfl, hb7⟩; have HB7 := Lib.hid (up_trans HB6.out hb7); clear hb7)
            | ((with_reducible refine (H5.out _).mono ?_); rintro e w6 ⟨rfl, hb6⟩; have HB6 := Lib.hid (up_trans HB5.out hb6); clear hb6)))
        go_ret
        exact ⟨by first | rfl | simp, HB7.out⟩

end Go.Proofs.YtkciljcligohnaaDoor
