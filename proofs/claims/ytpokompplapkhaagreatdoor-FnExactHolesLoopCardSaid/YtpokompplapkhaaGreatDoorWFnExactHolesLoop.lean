/- The law FnExactHolesLoop, walked. -/
import Derived.Test.YtpokompplapkhaaGreatDoorHolK
namespace Go.Proofs.YtpokompplapkhaaGreatDoor
open Go.RowKit
set_option linter.unusedVariables false
set_option linter.unusedSimpArgs false

set_option maxHeartbeats 4000000 in
set_option maxRecDepth 100000 in
theorem lawFnExactHolesLoop (s0 s1 : ByteArray) (w : World) (h0 : s0.size ≤ maxLen) (h1 : s1.size ≤ maxLen) :
    Calls Tryz.prog 6 #[.string s0, .string s1] w fun e w' => e = .returned (.bool true) ∧ Below w.heap.size w w' := by
  have h0' : s0.size ≤ 9223372036854775807 := h0
  have h1' : s1.size ≤ 9223372036854775807 := h1
  have H1 := Lib.hid fun w => specHolesLoop_any s0 s1 w h0' h1'
  have H2 := Lib.hid fun w => HolesLoop_any s0 s1 w h0' h1'
  have hn := fun v h => hlB_ok (l := s0.data.toList) (v := s1.data.toList) (hs := v) h
  clear h0 h0' h1 h1'
  generalize hlB s0.data.toList s1.data.toList = o at *
  cases k0 : decide ((s0.size : Int) > 1048576) with
  | true =>
    have d0 : decide (1048576 < (s0.size : Int)) = true := k0
    clear hn
    go_enter Tryz.func6, Tryz.ntmps6
    go_wp2_with fail
    go_ret
    exact ⟨rfl, Below.refl _ _⟩
  | false =>
    have d0 : decide (1048576 < (s0.size : Int)) = false := k0
    cases k1 : decide ((s1.size : Int) > 1048576) with
    | true =>
      have d1 : decide (1048576 < (s1.size : Int)) = true := k1
      clear hn
      go_enter Tryz.func6, Tryz.ntmps6
      go_wp2_with fail
      go_ret
      exact ⟨rfl, Below.refl _ _⟩
    | false =>
      have d1 : decide (1048576 < (s1.size : Int)) = false := k1
      cases o with
      | none =>
        clear hn
        have HE : Hid (∀ A c B d w, Calls Tryz.prog 20 #[.slice A 0 c, .slice B 0 d] w fun e w' => e = .returned (.bool true) ∧ Below w.heap.size w w') := fun A c B d w => eqHoleS_same [] 0 A B c d w (by simp) rfl (.inl rfl) (.inl rfl)
        have HM : Hid (∀ A c w, Calls Tryz.prog 21 #[.slice A 0 c, .int .i64 1] w fun e w' => e = .returned (.int .i64 1) ∧ w' = w) := fun A c w => markHoleS_none A c 1 w
        have HH : Hid (∀ A c w, Calls Tryz.prog 22 #[.slice A 0 c, .int .i64 1] w fun e w' => e = .returned (.int .i64 1) ∧ Below w.heap.size w w') := fun A c w => heldHoleS_any A 0 c 1 w (by simp) (by simp) (.inl rfl)
        go_enter Tryz.func6, Tryz.ntmps6
        go_wp2_with (first
          | (go_at_call 23; refine (H1.out _).mono ?_; rintro e w1 ⟨hb1, A1, c1, rfl⟩; have HB1 := Lib.hid hb1; clear hb1)
          | (go_at_call 20; first
              | ((with_reducible refine (HE.out A3 c3 A1 c1 _).mono ?_); rintro e w7 ⟨rfl, hb7⟩; have HB7 := Lib.hid (up_trans HB6.out hb7); clear hb7)
              | ((with_reducible refine (HE.out A2 c2 A1 c1 _).mono ?_); rintro e w3 ⟨rfl, hb3⟩; have HB3 := Lib.hid (up_trans HB2.out hb3); clear hb3))
          | (go_at_call 21; refine (HM.out _ _ _).mono ?_; rintro e w4 ⟨rfl, rfl⟩; have HB4 := HB3)
          | (go_at_call 22; first
              | ((with_reducible refine (HH.out _ _ w7).mono ?_); rintro e w8 ⟨rfl, hb8⟩; have HB8 := Lib.hid (up_trans HB7.out hb8); clear hb8)
              | ((with_reducible refine (HH.out _ _ _).mono ?_); rintro e w5 ⟨rfl, hb5⟩; have HB5 := Lib.hid (up_trans HB4.out hb5); clear hb5))
          | (go_at_call 24; first
              | (have HB5' := HB5.out; clear HB5'; refine (H2.out _).mono ?_; rintro e w6 ⟨hb6, A3, c3, rfl⟩; have HB6 := Lib.hid (up_trans HB5.out hb6); clear hb6)
              | (refine (H2.out _).mono ?_; rintro e w2 ⟨hb2, A2, c2, rfl⟩; have HB2 := Lib.hid (up_trans HB1.out hb2); clear hb2)))
        go_ret
        exact ⟨rfl, HB8.out⟩
      | some v =>
        have hlen : v.length ≤ 200 := (hn v rfl).2
        clear hn
        have hfl := fl_len v
        replace H1 : Hid (∀ w, Calls Tryz.prog 23 #[.string s0, .string s1] w fun e w' => Below w.heap.size w w' ∧ ∃ g c, e = .returned (.tuple #[.slice (some ⟨g, 0, none⟩) v.length c, .bool true]) ∧ POwn w' w.heap.size (fl v) g v.length c) := H1
        replace H2 : Hid (∀ w, Calls Tryz.prog 24 #[.string s0, .string s1] w fun e w' => Below w.heap.size w w' ∧ ∃ g c, e = .returned (.tuple #[.slice (some ⟨g, 0, none⟩) v.length c, .bool true]) ∧ POwn w' w.heap.size (fl v) g v.length c) := H2
        have HM : Hid (∀ w B g c, POwn w B (fl v) g v.length c → Calls Tryz.prog 21 #[.slice (some ⟨g, 0, none⟩) v.length c, .int .i64 1] w fun e w' => e = .returned (.int .i64 (1 + 2 * (v.length : Int))) ∧ w.grownBy w' (some g) ∧ POwn w' B (marks 1 (2 * v.length)) g v.length c) := fun w B g c ho => (markHoleS_any (fl v) B g c v.length 1 w (by omega) (by simp) ho).mono fun e w' ⟨h1, h2⟩ => ⟨by rw [h1, show ((1 + 2 * v.length : Nat) : Int) = 1 + 2 * (v.length : Int) by omega], h2⟩
        have HE : Hid (∀ A c B d w, SCells w A (fl v) → SCells w B (fl v) → Calls Tryz.prog 20 #[.slice A v.length c, .slice B v.length d] w fun e w' => e = .returned (.bool true) ∧ Below w.heap.size w w') := fun A c B d w hx hy => eqHoleS_same (fl v) v.length A B c d w (by omega) hfl hx hy
        have HH : Hid (∀ A c w, SCells w A (marks 1 (2 * v.length)) → Calls Tryz.prog 22 #[.slice A v.length c, .int .i64 1] w fun e w' => e = .returned (.int .i64 (1 + 2 * (v.length : Int))) ∧ Below w.heap.size w w') := fun A c w ho => (heldHoleS_any A v.length c 1 w (by omega) (by simp) ho).mono fun e w' ⟨h1, h2⟩ => ⟨by rw [h1, show ((1 + 2 * v.length : Nat) : Int) = 1 + 2 * (v.length : Int) by omega], h2⟩
        clear hfl
        generalize fl v = el at *
        generalize v.length = n at *
        have q1 : decide ((1 : Int) + 2 * n < 0) = false := decide_eq_false (by omega)
        go_enter Tryz.func6, Tryz.ntmps6
        go_wp2_with (first
          | (go_at_call 23; refine (H1.out _).mono ?_; rintro e w1 ⟨hb1, g1, c1, rfl, ho1⟩; have HB1 := Lib.hid hb1; have HO1 := Lib.hid ho1; clear hb1 ho1)
          | (go_at_call 20; first
              | ((with_reducible refine (HE.out (some ⟨g6, 0, none⟩) c6 (some ⟨g1, 0, none⟩) c1 _ HO6.out.reads HO16.out.reads).mono ?_); rintro e w7 ⟨rfl, hb7⟩; have HB7 := Lib.hid (up_trans HB6.out hb7); have HO27 := Lib.hid (HO26.out.up hb7); clear hb7)
              | ((with_reducible refine (HE.out (some ⟨g2, 0, none⟩) c2 (some ⟨g1, 0, none⟩) c1 _ HO2.out.reads HO12.out.reads).mono ?_); rintro e w3 ⟨rfl, hb3⟩; have HB3 := Lib.hid (up_trans HB2.out hb3); have HO13 := Lib.hid (HO12.out.up hb3); have HO23 := Lib.hid (HO2.out.up hb3); clear hb3))
          | (go_at_call 21; refine (HM.out _ _ _ _ HO23.out).mono ?_; rintro e w4 ⟨rfl, hg4, ho4⟩; have HB4 := Lib.hid (HB3.out.grown hg4 HB3.out.size (fun k hk => by cases hk; have := HO23.out.lt.1; have := HB1.out.size; omega)); have HO24 := Lib.hid ho4; have HO14 := Lib.hid (HO13.out.kept hg4 (by have := HO23.out.lt.1; have := HO1.out.lt.2; omega)); clear hg4 ho4)
          | (go_at_call 22; first
              | ((with_reducible refine (HH.out _ _ w7 HO27.out.reads).mono ?_); rintro e w8 ⟨rfl, hb8⟩; have HB8 := Lib.hid (up_trans HB7.out hb8); clear hb8)
              | ((with_reducible refine (HH.out _ _ _ HO24.out.reads).mono ?_); rintro e w5 ⟨rfl, hb5⟩; have HB5 := Lib.hid (up_trans HB4.out hb5); have HO15 := Lib.hid (HO14.out.up hb5); have HO25 := Lib.hid (HO24.out.up hb5); clear hb5))
          | (go_at_call 24; first
              | (have HB5' := HB5.out; clear HB5'; refine (H2.out _).mono ?_; rintro e w6 ⟨hb6, g6, c6, rfl, ho6⟩; have HB6 := Lib.hid (up_trans HB5.out hb6); have HO6 := Lib.hid ho6; have HO16 := Lib.hid (HO15.out.up hb6); have HO26 := Lib.hid (HO25.out.up hb6); clear hb6 ho6)
              | (refine (H2.out _).mono ?_; rintro e w2 ⟨hb2, g2, c2, rfl, ho2⟩; have HB2 := Lib.hid (up_trans HB1.out hb2); have HO2 := Lib.hid ho2; have HO12 := Lib.hid (HO1.out.up hb2); clear hb2 ho2)))
        go_ret
        exact ⟨rfl, HB8.out⟩

end Go.Proofs.YtpokompplapkhaaGreatDoor
