/- The law FnExactValueOf, walked. -/
import Derived.Test.YtofbhdgccijbgaaGreatDoorVMapS
import Derived.Test.YtofbhdgccijbgaaGreatDoorMC
namespace Go.Proofs.YtofbhdgccijbgaaGreatDoor
open Go.RowKit
set_option linter.unusedVariables false
set_option linter.unusedSimpArgs false

theorem voB_len {l v nm : List UInt8} {o : List (List UInt8)} (h : voB l v nm = some o) : o.length ≤ 1000000 := by
  unfold voB at h
  cases hv : valsOf l v 100 with
  | none => rw [hv] at h; cases h
  | some q =>
    obtain ⟨N, x⟩ := q
    rw [hv] at h
    simp only at h
    split at h
    · cases h
      obtain ⟨_, hr, _, _, hty⟩ := valsOf_some hv
      have h1 := atE_len (nm := nm) hty
      have h2 := rdVal_nodes hr
      omega
    · cases h
set_option maxHeartbeats 4000000 in
set_option maxRecDepth 100000 in
theorem lawFnExactValueOf (s s1 s2 : ByteArray) (w : World) (hs : s.size ≤ maxLen) (hs1 : s1.size ≤ maxLen) (hs2 : s2.size ≤ maxLen) :
    Calls Tryz.prog 5 #[.string s, .string s1, .string s2] w fun e w' => e = .returned (.bool true) ∧ Below w.heap.size w w' := by
  have hs' : s.size ≤ 9223372036854775807 := hs
  have hs1' : s1.size ≤ 9223372036854775807 := hs1
  have hs2' : s2.size ≤ 9223372036854775807 := hs2
  have H1 := Lib.hid fun w => specValueOf_any s s1 s2 w hs' hs1'
  have H2 := Lib.hid fun w => ValueOf_any s s1 s2 w hs' hs1' hs2'
  have hn := fun v h => voB_len (l := s.data.toList) (v := s1.data.toList) (nm := s2.data.toList) (o := v) h
  clear hs hs' hs1 hs1' hs2 hs2'
  generalize voB s.data.toList s1.data.toList s2.data.toList = o at *
  cases hc : decide ((s.size : Int) > 1048576) with
  | true =>
    have hc' : decide (1048576 < (s.size : Int)) = true := hc
    clear hn
    go_enter Tryz.func5, Tryz.ntmps5
    go_wp2_with fail
    go_ret
    exact ⟨rfl, Below.refl _ _⟩
  | false =>
    have hc' : decide (1048576 < (s.size : Int)) = false := hc
    cases hd : decide ((s1.size : Int) > 1048576) with
    | true =>
      have hd' : decide (1048576 < (s1.size : Int)) = true := hd
      clear hn
      go_enter Tryz.func5, Tryz.ntmps5
      go_wp2_with fail
      go_ret
      exact ⟨rfl, Below.refl _ _⟩
    | false =>
      have hd' : decide (1048576 < (s1.size : Int)) = false := hd
      cases he : decide ((s2.size : Int) > 1048576) with
      | true =>
        have he' : decide (1048576 < (s2.size : Int)) = true := he
        clear hn
        go_enter Tryz.func5, Tryz.ntmps5
        go_wp2_with fail
        go_ret
        exact ⟨rfl, Below.refl _ _⟩
      | false =>
        have he' : decide (1048576 < (s2.size : Int)) = false := he
        cases o with
        | none =>
          clear hn
          have HE : Hid (∀ A c B d w, Calls Tryz.prog 21 #[.slice A 0 c, .slice B 0 d] w fun e w' => e = .returned (.bool true) ∧ Below w.heap.size w w') := fun A c B d w => eqStringS_same [] A B c d w (by simp) (.inl rfl) (.inl rfl)
          have HM := Lib.hid fun A c w => markStringS_none A c 1 w
          have HH : Hid (∀ A c w, Calls Tryz.prog 23 #[.slice A 0 c, .int .i64 1] w fun e w' => e = .returned (.int .i64 1) ∧ Below w.heap.size w w') := fun A c w => heldStringS_any A 0 c 1 w (by simp) (by simp) (.inl rfl)
          go_enter Tryz.func5, Tryz.ntmps5
          go_wp2_with (first
            | (go_at_call 19; refine (H1.out _).mono ?_; rintro e w1 ⟨hb1, A1, c1, rfl⟩; have HB1 := Lib.hid hb1; clear hb1)
            | (go_at_call 21; first
                | ((with_reducible refine (HE.out A3 c3 A1 c1 _).mono ?_); rintro e w7 ⟨rfl, hb7⟩; have HB7 := Lib.hid (up_trans HB6.out hb7); clear hb7)
                | ((with_reducible refine (HE.out A2 c2 A1 c1 _).mono ?_); rintro e w3 ⟨rfl, hb3⟩; have HB3 := Lib.hid (up_trans HB2.out hb3); clear hb3))
            | (go_at_call 22; refine (HM.out _ _ _).mono ?_; rintro e w4 ⟨rfl, rfl⟩; have HB4 := HB3)
            | (go_at_call 23; first
                | ((with_reducible refine (HH.out _ _ w7).mono ?_); rintro e w8 ⟨rfl, hb8⟩; have HB8 := Lib.hid (up_trans HB7.out hb8); clear hb8)
                | ((with_reducible refine (HH.out _ _ _).mono ?_); rintro e w5 ⟨rfl, hb5⟩; have HB5 := Lib.hid (up_trans HB4.out hb5); clear hb5))
            | (go_at_call 20; first
                | (have HB5' := HB5.out; clear HB5'; refine (H2.out _).mono ?_; rintro e w6 ⟨hb6, A3, c3, rfl⟩; have HB6 := Lib.hid (up_trans HB5.out hb6); clear hb6)
                | (refine (H2.out _).mono ?_; rintro e w2 ⟨hb2, A2, c2, rfl⟩; have HB2 := Lib.hid (up_trans HB1.out hb2); clear hb2)))
          go_ret
          exact ⟨rfl, HB8.out⟩
        | some v =>
          have hlen : v.length ≤ 1000000 := hn v rfl
          clear hn
          have HX : Hid (∀ (ls : List (List UInt8)), ls.length ≤ 1000000 → ∀ w B g c, SOwn w B ls g c → Calls Tryz.prog 22 #[.slice (some ⟨g, 0, none⟩) ls.length c, .int .i64 1] w fun e w' => e = .returned (.int .i64 (1 + (ls.length : Int))) ∧ w.grownBy w' (some g) ∧ SOwn w' B (marks 1 ls.length) g c) := fun ls hl w B g c ho => markStringS_any ls B g c 1 w hl (by simp) ho
          replace H1 : Hid (∀ w, Calls Tryz.prog 19 #[.string s, .string s1, .string s2] w fun e w' => Below w.heap.size w w' ∧ ∃ g c, e = .returned (.tuple #[.slice (some ⟨g, 0, none⟩) v.length c, .bool true]) ∧ SOwn w' w.heap.size v g c) := H1
          replace H2 : Hid (∀ w, Calls Tryz.prog 20 #[.string s, .string s1, .string s2] w fun e w' => Below w.heap.size w w' ∧ ∃ g c, e = .returned (.tuple #[.slice (some ⟨g, 0, none⟩) v.length c, .bool true]) ∧ SOwn w' w.heap.size v g c) := H2
          have HM := Lib.hid (HX.out v hlen)
          have HE := Lib.hid fun A c B d w hx hy => eqStringS_same v A B c d w hlen hx hy
          have HH : Hid (∀ A c w, SCells w A (marks 1 v.length) → Calls Tryz.prog 23 #[.slice A v.length c, .int .i64 1] w fun e w' => e = .returned (.int .i64 (1 + (v.length : Int))) ∧ Below w.heap.size w w') := fun A c w ho => heldStringS_any A v.length c 1 w hlen (by simp) ho
          clear HX
          generalize v = el at *
          generalize hN : el.length = n at *
          have HN := Lib.hid hN
          clear hN
          have h1 : decide ((1 : Int) + n < 0) = false := decide_eq_false (by omega)
          go_enter Tryz.func5, Tryz.ntmps5
          go_wp2_with (first
            | (go_at_call 19; refine (H1.out _).mono ?_; rintro e w1 ⟨hb1, g1, c1, rfl, ho1⟩; have HB1 := Lib.hid hb1; have HO1 := Lib.hid ho1; clear hb1 ho1)
            | (go_at_call 21; first
                | ((with_reducible refine (HE.out (some ⟨g6, 0, none⟩) c6 (some ⟨g1, 0, none⟩) c1 _ HO6.out.reads HO16.out.reads).mono ?_); rintro e w7 ⟨rfl, hb7⟩; have HB7 := Lib.hid (up_trans HB6.out hb7); have HO27 := Lib.hid (HO26.out.up hb7); clear hb7)
                | ((with_reducible refine (HE.out (some ⟨g2, 0, none⟩) c2 (some ⟨g1, 0, none⟩) c1 _ HO2.out.reads HO12.out.reads).mono ?_); rintro e w3 ⟨rfl, hb3⟩; have HB3 := Lib.hid (up_trans HB2.out hb3); have HO13 := Lib.hid (HO12.out.up hb3); have HO23 := Lib.hid (HO2.out.up hb3); clear hb3))
            | (go_at_call 22; refine (HM.out _ _ _ _ HO23.out).mono ?_; rintro e w4 ⟨rfl, hg4, ho4⟩; have HB4 := Lib.hid (HB3.out.grown hg4 HB3.out.size (fun k hk => by cases hk; have := HO23.out.lt.1; have := HB1.out.size; omega)); have HO24 := Lib.hid ho4; have HO14 := Lib.hid (HO13.out.kept hg4 (by have := HO23.out.lt.1; have := HO1.out.lt.2; omega)); clear hg4 ho4)
            | (go_at_call 23; first
                | ((with_reducible refine (HH.out _ _ w7 HO27.out.reads).mono ?_); rintro e w8 ⟨rfl, hb8⟩; have HB8 := Lib.hid (up_trans HB7.out hb8); clear hb8)
                | ((with_reducible refine (HH.out _ _ _ HO24.out.reads).mono ?_); rintro e w5 ⟨rfl, hb5⟩; have HB5 := Lib.hid (up_trans HB4.out hb5); have HO15 := Lib.hid (HO14.out.up hb5); have HO25 := Lib.hid (HO24.out.up hb5); clear hb5))
            | (go_at_call 20; first
                | (have HB5' := HB5.out; clear HB5'; refine (H2.out _).mono ?_; rintro e w6 ⟨hb6, g6, c6, rfl, ho6⟩; have HB6 := Lib.hid (up_trans HB5.out hb6); have HO6 := Lib.hid ho6; have HO16 := Lib.hid (HO15.out.up hb6); have HO26 := Lib.hid (HO25.out.up hb6); clear hb6 ho6)
                | (refine (H2.out _).mono ?_; rintro e w2 ⟨hb2, g2, c2, rfl, ho2⟩; have HB2 := Lib.hid (up_trans HB1.out hb2); have HO2 := Lib.hid ho2; have HO12 := Lib.hid (HO1.out.up hb2); clear hb2 ho2)))
          go_ret
          exact ⟨rfl, HB8.out⟩

end Go.Proofs.YtofbhdgccijbgaaGreatDoor
