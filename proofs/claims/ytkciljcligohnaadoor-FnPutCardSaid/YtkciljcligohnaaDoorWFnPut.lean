/- The law FnPut, walked. -/
import Derived.Test.YtkciljcligohnaaDoorWFnNames
import Derived.Test.YtkciljcligohnaaDoorMK
import Derived.Test.YtkciljcligohnaaDoorML
namespace Go.Proofs.YtkciljcligohnaaDoor
open Go.RowKit
set_option linter.unusedVariables false
set_option linter.unusedSimpArgs false

theorem putOf_some {o u : Option NT} {x tc : List UInt8} (h : putOf o u x = some tc) : ∃ n m, o = some n ∧ u = some m ∧ (paramB x = true ∨ loopB x = true) ∧ ((n.db []).put x (m.db [])).told = some tc := by
  cases o with
  | none => cases u <;> cases h
  | some n =>
    cases u with
    | none => cases h
    | some m =>
      have h' : (if paramB x = true ∨ loopB x = true then ((n.db []).put x (m.db [])).told else none) = some tc := h
      by_cases hx : paramB x = true ∨ loopB x = true
      · rw [if_pos hx] at h'
        exact ⟨n, m, rfl, rfl, hx, h'⟩
      · rw [if_neg hx] at h'
        cases h'
theorem put_told_db {n m : NT} (hn : n.ok) (hna : n.atoms ≤ 400) (hm : m.ok) (hma : m.atoms ≤ 400) {x tc : List UInt8} (h : ((n.db []).put x (m.db [])).told = some tc) :
    ∃ r, rdTy tc = some r ∧ r.ok ∧ r.db [] = (n.db []).put x (m.db []) ∧ tc.length ≤ 8000 := by
  have hfl : (frees [m, .name x]).length ≤ 500 := by
    rw [frees_two, List.length_append]
    have := names_len m
    simp
    omega
  have h3 := subN_ok3 x m n (ok_ok3 hn) (ok_ok3 hm) hna hfl
  rw [← subN_db x m n (ok_ok3 hn)] at h
  obtain ⟨r, hr, hrok, hdb, _⟩ := told_db h3 h
  exact ⟨r, hr, hrok, by rw [hdb, subN_db x m n (ok_ok3 hn)], told_len h3 h⟩
theorem put_names {n m r : NT} (hn : n.ok3) (hm : m.ok3) (hr : r.ok3) {x : List UInt8} (h : r.db [] = (n.db []).put x (m.db [])) : decide (x ∈ r.names) = (decide (x ∈ n.names) && decide (x ∈ m.names)) := by
  rw [Bool.eq_iff_iff, Bool.and_eq_true, decide_eq_true_iff, decide_eq_true_iff, decide_eq_true_iff, names_has x r hr, names_has x n hn, names_has x m hm, h, put_has]
  constructor
  · rintro (⟨_, h2⟩ | h2)
    · exact absurd rfl h2
    · exact h2
  · exact .inr

set_option maxHeartbeats 4000000 in
set_option maxRecDepth 100000 in
theorem lawFnPut (a : Option Addr) (n c : Nat) (w : World) (h : CodeRow w a n c) (htab : Lib.TabIs Tryd.prog w "internal/strconv.uint64pow10" .u64 Lib.pow10Tab) :
    Calls Tryd.prog 11 #[.slice a n c] w fun e w' => e = .returned (.bool true) ∧ Below w.heap.size w w' := by
  have HD := Lib.hid (DrawTypePut_any a n c w h)
  have HTB : Hid (TabB w.heap.size w) := Lib.tabBelow_of_tabIs htab
  clear h htab
  cases hc : decide ((n : Int) > 1048576) with
  | true =>
    have hc' : decide (1048576 < n) = true := by simp at hc ⊢; omega
    have hc2 : decide ((1048576 : Int) < (n : Int)) = true := by simp at hc ⊢; omega
    go_enter Tryd.func11, Tryd.ntmps11
    go_wp2_with fail
    go_ret
    exact ⟨rfl, Below.refl _ _⟩
  | false =>
    have hc' : decide (1048576 < n) = false := by simp at hc ⊢; omega
    have hc2 : decide ((1048576 : Int) < (n : Int)) = false := by simp at hc ⊢; omega
    go_enter Tryd.func11, Tryd.ntmps11
    go_wp2_with (go_at_call 36; refine HD.out.mono ?_; rintro e w1 ⟨s, nm, u, hs, hnm, hu, rfl, hb1⟩; have HB1 := Lib.hid hb1; have HS := Lib.hid hs; have HU := Lib.hid hu; have HNM := Lib.hid hnm; clear hb1 hs hu hnm)
    have hs9 : s.size ≤ 9223372036854775807 := by have := HS.out; omega
    have hu9 : u.size ≤ 9223372036854775807 := by have := HU.out; omega
    have H1 := Lib.hid fun w1 (hw : Below w.heap.size w w1) => TypePut_any s nm u w.heap.size w1 hs9 hu9 (HTB.out.below hw) hw.size
    have H2 := Lib.hid fun w1 => specTypePut_any s nm u w1 hs9 hu9
    cases ho : putOf (rdTy s.data.toList) (rdTy u.data.toList) nm.data.toList with
    | none =>
      rw [ho] at H1 H2
      replace H1 : Hid (∀ w1, Below w.heap.size w w1 → Calls Tryd.prog 17 #[.string s, .string nm, .string u] w1 fun e w' => e = .returned (.tuple #[.string (St []), .bool false]) ∧ Below w1.heap.size w1 w') := H1
      replace H2 : Hid (∀ w1, Calls Tryd.prog 16 #[.string s, .string nm, .string u] w1 fun e w' => e = .returned (.tuple #[.string (St []), .bool false]) ∧ Below w1.heap.size w1 w') := H2
      go_wp2_with (first
        | (go_at_call 17; (with_reducible refine (H1.out _ HB1.out).mono ?_); rintro e w2 ⟨rfl, hb2⟩; have HB2 := Lib.hid (up_trans HB1.out hb2); clear hb2)
        | (go_at_call 16; (with_reducible refine (H2.out _).mono ?_); rintro e w3 ⟨rfl, hb3⟩; have HB3 := Lib.hid (up_trans HB2.out hb3); clear hb3))
      go_ret
      exact ⟨rfl, HB3.out⟩
    | some tc =>
      obtain ⟨n1, m1, hn1, hm1, hx, hto⟩ := putOf_some ho
      have hok1 := rdTy_some hn1
      have hok2 := rdTy_some hm1
      obtain ⟨r, hr, hrok, hdb, hlen⟩ := put_told_db hok1.1 hok1.2 hok2.1 hok2.2 hto
      have hra := (rdTy_some hr).2
      have hpn := put_names (ok_ok3 hok1.1) (ok_ok3 hok2.1) (ok_ok3 hrok) hdb
      have hl1 := names_len n1
      have hl2 := names_len m1
      have hl3 := names_len r
      rw [ho] at H1 H2
      replace H1 : Hid (∀ w1, Below w.heap.size w w1 → Calls Tryd.prog 17 #[.string s, .string nm, .string u] w1 fun e w' => e = .returned (.tuple #[.string (St tc), .bool true]) ∧ Below w1.heap.size w1 w') := H1
      replace H2 : Hid (∀ w1, Calls Tryd.prog 16 #[.string s, .string nm, .string u] w1 fun e w' => e = .returned (.tuple #[.string (St tc), .bool true]) ∧ Below w1.heap.size w1 w') := H2
      have hnames : ∀ (z : ByteArray) (t : NT), z.size ≤ 9223372036854775807 → rdTy z.data.toList = some t → Hid (∀ w1, Calls Tryd.prog 26 #[.string z] w1 fun e w' => Below w1.heap.size w1 w' ∧ ∃ g c, e = .returned (.tuple #[.slice (some ⟨g, 0, none⟩) t.names.length c, .bool true]) ∧ SOwn w' w1.heap.size t.names g c) := fun z t hz ht w1 => by
        have := TypeNames_any z w1 hz
        rw [ht] at this
        exact this
      have HA := hnames s n1 hs9 hn1
      have HBY := hnames u m1 hu9 hm1
      have HCN := hnames (St tc) r (by show tc.length ≤ _; omega) hr
      have hhas : ∀ (t : NT), t.names.length ≤ 400 → Hid (∀ w1 A c, SCells w1 A t.names → Calls Tryd.prog 31 #[.slice A t.names.length c, .string nm] w1 fun e w' => e = .returned (.bool (decide (nm.data.toList ∈ t.names))) ∧ Below w1.heap.size w1 w') := fun t ht w1 A c hsc => hasText_any t.names A c nm.data.toList w1 (by omega) hsc
      have HHA := hhas n1 (by omega)
      have HHB := hhas m1 (by omega)
      have HHC := hhas r (by omega)
      have H3 := Lib.hid fun w1 (hw : Below w.heap.size w w1) => TypeCanon_any s w.heap.size w1 hs9 (HTB.out.below hw) hw.size
      have H4 : Hid (∀ w1, Below w.heap.size w w1 → ∃ b2 x2, ((canonOf (rdTy s.data.toList)).isSome = true → b2 = true ∧ x2 = tc) ∧ Calls Tryd.prog 17 #[.string (St ((canonOf (rdTy s.data.toList)).getD [])), .string nm, .string u] w1 fun e w' => e = .returned (.tuple #[.string (St x2), .bool b2]) ∧ Below w1.heap.size w1 w') := fun w1 hw => by
        have hcl : ((canonOf (rdTy s.data.toList)).getD []).length ≤ 8000 := by
          rw [hn1]
          cases hto2 : (n1.db []).told with
          | none => rw [show canonOf (some n1) = none from hto2]; simp
          | some cc => rw [show canonOf (some n1) = some cc from hto2]; exact told_len (ok_ok3 hok1.1) hto2
        have := TypePut_any (St ((canonOf (rdTy s.data.toList)).getD [])) nm u w.heap.size w1 (Nat.le_trans (show (St _).size ≤ 8000 from hcl) (by decide)) hu9 (HTB.out.below hw) hw.size
        refine ⟨_, _, fun hb => ?_, this⟩
        rw [hn1] at hb ⊢
        cases hto2 : (n1.db []).told with
        | none => rw [show canonOf (some n1) = none from hto2] at hb; cases hb
        | some cc =>
          rw [show canonOf (some n1) = some cc from hto2]
          obtain ⟨r2, hr2, _, hdb2, _⟩ := told_db (ok_ok3 hok1.1) hto2
          have hpo : putOf (rdTy (St ((some cc).getD [])).data.toList) (rdTy u.data.toList) nm.data.toList = some tc := by
            show putOf (rdTy cc) _ _ = _
            rw [hr2, hm1]
            show (if paramB nm.data.toList = true ∨ loopB nm.data.toList = true then ((r2.db []).put nm.data.toList (m1.db [])).told else none) = _
            rw [if_pos hx, hdb2, hto]
          rw [hpo]
          exact ⟨rfl, rfl⟩
      clear hnames hhas ho hn1 hm1 hx hto hok1 hok2 hr hrok hdb hlen hra hl1 hl2 hl3
      generalize decide (nm.data.toList ∈ n1.names) = da at *
      generalize decide (nm.data.toList ∈ m1.names) = db at *
      generalize decide (nm.data.toList ∈ r.names) = dc at *
      generalize n1.names = lsa at *
      generalize m1.names = lsb at *
      generalize r.names = lsc at *
      generalize (canonOf (rdTy s.data.toList)).getD [] = cx at *
      generalize (canonOf (rdTy s.data.toList)).isSome = cb at *
      subst hpn
      cases cb with
      | false =>
        cases da with
        | false =>
          go_wp2_with (first
            | (go_at_call 17; first
              | (have HB7' := HB7.out; clear HB7'; obtain ⟨b2, x2, hbx, h4⟩ := H4.out _ HB7.out; have HBX := Lib.hid hbx; refine h4.mono ?_; rintro e w8 ⟨rfl, hb8⟩; have HB8 := Lib.hid (up_trans HB7.out hb8); have HOA8 := Lib.hid (HOA7.out.up hb8); have HOB8 := Lib.hid (HOB7.out.up hb8); have HOC8 := Lib.hid (HOC7.out.up hb8); clear hb8 hbx h4)
              | ((with_reducible refine (H1.out _ HB1.out).mono ?_); rintro e w2 ⟨rfl, hb2⟩; have HB2 := Lib.hid (up_trans HB1.out hb2); clear hb2))
            | (go_at_call 16; (with_reducible refine (H2.out _).mono ?_); rintro e w3 ⟨rfl, hb3⟩; have HB3 := Lib.hid (up_trans HB2.out hb3); clear hb3)
            | (go_at_call 26; first
              | (have HB5' := HB5.out; clear HB5'; (with_reducible refine (HCN.out _).mono ?_); rintro e w6 ⟨hb6, gc, cc, rfl, hoc⟩; have HB6 := Lib.hid (up_trans HB5.out hb6); have HOA6 := Lib.hid (HOA5.out.up hb6); have HOB6 := Lib.hid (HOB5.out.up hb6); have HOC6 := Lib.hid hoc; clear hb6 hoc)
              | (have HB4' := HB4.out; clear HB4'; (with_reducible refine (HBY.out _).mono ?_); rintro e w5 ⟨hb5, gb, cbb, rfl, hob⟩; have HB5 := Lib.hid (up_trans HB4.out hb5); have HOA5 := Lib.hid (HOA4.out.up hb5); have HOB5 := Lib.hid hob; clear hb5 hob)
              | ((with_reducible refine (HA.out _).mono ?_); rintro e w4 ⟨hb4, ga, ca, rfl, hoa⟩; have HB4 := Lib.hid (up_trans HB3.out hb4); have HOA4 := Lib.hid hoa; clear hb4 hoa))
            | (go_at_call 15; (with_reducible refine (H3.out _ HB6.out).mono ?_); rintro e w7 ⟨rfl, hb7⟩; have HB7 := Lib.hid (up_trans HB6.out hb7); have HOA7 := Lib.hid (HOA6.out.up hb7); have HOB7 := Lib.hid (HOB6.out.up hb7); have HOC7 := Lib.hid (HOC6.out.up hb7); clear hb7)
            | (go_at_call 31; first
              | ((with_reducible refine (HHC.out _ (some ⟨gc, 0, none⟩) cc HOC8.out.reads).mono ?_); rintro e w9 ⟨rfl, hb9⟩; have HB9 := Lib.hid (up_trans HB8.out hb9); have HOA9 := Lib.hid (HOA8.out.up hb9); have HOB9 := Lib.hid (HOB8.out.up hb9); clear hb9)
              | ((with_reducible refine (HHA.out _ (some ⟨ga, 0, none⟩) ca HOA9.out.reads).mono ?_); rintro e w10 ⟨rfl, hb10⟩; have HB10 := Lib.hid (up_trans HB9.out hb10); have HOB10 := Lib.hid (HOB9.out.up hb10); clear hb10)
              | ((with_reducible refine (HHB.out _ (some ⟨gb, 0, none⟩) cbb HOB10.out.reads).mono ?_); rintro e w11 ⟨rfl, hb11⟩; have HB11 := Lib.hid (up_trans HB10.out hb11); clear hb11)))
          all_goals go_ret
          all_goals exact ⟨rfl, HB10.out⟩
        | true =>
          cases db with
          | false =>
            go_wp2_with (first
              | (go_at_call 17; first
                | (have HB7' := HB7.out; clear HB7'; obtain ⟨b2, x2, hbx, h4⟩ := H4.out _ HB7.out; have HBX := Lib.hid hbx; refine h4.mono ?_; rintro e w8 ⟨rfl, hb8⟩; have HB8 := Lib.hid (up_trans HB7.out hb8); have HOA8 := Lib.hid (HOA7.out.up hb8); have HOB8 := Lib.hid (HOB7.out.up hb8); have HOC8 := Lib.hid (HOC7.out.up hb8); clear hb8 hbx h4)
                | ((with_reducible refine (H1.out _ HB1.out).mono ?_); rintro e w2 ⟨rfl, hb2⟩; have HB2 := Lib.hid (up_trans HB1.out hb2); clear hb2))
              | (go_at_call 16; (with_reducible refine (H2.out _).mono ?_); rintro e w3 ⟨rfl, hb3⟩; have HB3 := Lib.hid (up_trans HB2.out hb3); clear hb3)
              | (go_at_call 26; first
                | (have HB5' := HB5.out; clear HB5'; (with_reducible refine (HCN.out _).mono ?_); rintro e w6 ⟨hb6, gc, cc, rfl, hoc⟩; have HB6 := Lib.hid (up_trans HB5.out hb6); have HOA6 := Lib.hid (HOA5.out.up hb6); have HOB6 := Lib.hid (HOB5.out.up hb6); have HOC6 := Lib.hid hoc; clear hb6 hoc)
                | (have HB4' := HB4.out; clear HB4'; (with_reducible refine (HBY.out _).mono ?_); rintro e w5 ⟨hb5, gb, cbb, rfl, hob⟩; have HB5 := Lib.hid (up_trans HB4.out hb5); have HOA5 := Lib.hid (HOA4.out.up hb5); have HOB5 := Lib.hid hob; clear hb5 hob)
                | ((with_reducible refine (HA.out _).mono ?_); rintro e w4 ⟨hb4, ga, ca, rfl, hoa⟩; have HB4 := Lib.hid (up_trans HB3.out hb4); have HOA4 := Lib.hid hoa; clear hb4 hoa))
              | (go_at_call 15; (with_reducible refine (H3.out _ HB6.out).mono ?_); rintro e w7 ⟨rfl, hb7⟩; have HB7 := Lib.hid (up_trans HB6.out hb7); have HOA7 := Lib.hid (HOA6.out.up hb7); have HOB7 := Lib.hid (HOB6.out.up hb7); have HOC7 := Lib.hid (HOC6.out.up hb7); clear hb7)
              | (go_at_call 31; first
                | ((with_reducible refine (HHC.out _ (some ⟨gc, 0, none⟩) cc HOC8.out.reads).mono ?_); rintro e w9 ⟨rfl, hb9⟩; have HB9 := Lib.hid (up_trans HB8.out hb9); have HOA9 := Lib.hid (HOA8.out.up hb9); have HOB9 := Lib.hid (HOB8.out.up hb9); clear hb9)
                | ((with_reducible refine (HHA.out _ (some ⟨ga, 0, none⟩) ca HOA9.out.reads).mono ?_); rintro e w10 ⟨rfl, hb10⟩; have HB10 := Lib.hid (up_trans HB9.out hb10); have HOB10 := Lib.hid (HOB9.out.up hb10); clear hb10)
                | ((with_reducible refine (HHB.out _ (some ⟨gb, 0, none⟩) cbb HOB10.out.reads).mono ?_); rintro e w11 ⟨rfl, hb11⟩; have HB11 := Lib.hid (up_trans HB10.out hb11); clear hb11)))
            all_goals go_ret
            all_goals exact ⟨rfl, HB11.out⟩
          | true =>
            go_wp2_with (first
              | (go_at_call 17; first
                | (have HB7' := HB7.out; clear HB7'; obtain ⟨b2, x2, hbx, h4⟩ := H4.out _ HB7.out; have HBX := Lib.hid hbx; refine h4.mono ?_; rintro e w8 ⟨rfl, hb8⟩; have HB8 := Lib.hid (up_trans HB7.out hb8); have HOA8 := Lib.hid (HOA7.out.up hb8); have HOB8 := Lib.hid (HOB7.out.up hb8); have HOC8 := Lib.hid (HOC7.out.up hb8); clear hb8 hbx h4)
                | ((with_reducible refine (H1.out _ HB1.out).mono ?_); rintro e w2 ⟨rfl, hb2⟩; have HB2 := Lib.hid (up_trans HB1.out hb2); clear hb2))
              | (go_at_call 16; (with_reducible refine (H2.out _).mono ?_); rintro e w3 ⟨rfl, hb3⟩; have HB3 := Lib.hid (up_trans HB2.out hb3); clear hb3)
              | (go_at_call 26; first
                | (have HB5' := HB5.out; clear HB5'; (with_reducible refine (HCN.out _).mono ?_); rintro e w6 ⟨hb6, gc, cc, rfl, hoc⟩; have HB6 := Lib.hid (up_trans HB5.out hb6); have HOA6 := Lib.hid (HOA5.out.up hb6); have HOB6 := Lib.hid (HOB5.out.up hb6); have HOC6 := Lib.hid hoc; clear hb6 hoc)
                | (have HB4' := HB4.out; clear HB4'; (with_reducible refine (HBY.out _).mono ?_); rintro e w5 ⟨hb5, gb, cbb, rfl, hob⟩; have HB5 := Lib.hid (up_trans HB4.out hb5); have HOA5 := Lib.hid (HOA4.out.up hb5); have HOB5 := Lib.hid hob; clear hb5 hob)
                | ((with_reducible refine (HA.out _).mono ?_); rintro e w4 ⟨hb4, ga, ca, rfl, hoa⟩; have HB4 := Lib.hid (up_trans HB3.out hb4); have HOA4 := Lib.hid hoa; clear hb4 hoa))
              | (go_at_call 15; (with_reducible refine (H3.out _ HB6.out).mono ?_); rintro e w7 ⟨rfl, hb7⟩; have HB7 := Lib.hid (up_trans HB6.out hb7); have HOA7 := Lib.hid (HOA6.out.up hb7); have HOB7 := Lib.hid (HOB6.out.up hb7); have HOC7 := Lib.hid (HOC6.out.up hb7); clear hb7)
              | (go_at_call 31; first
                | ((with_reducible refine (HHC.out _ (some ⟨gc, 0, none⟩) cc HOC8.out.reads).mono ?_); rintro e w9 ⟨rfl, hb9⟩; have HB9 := Lib.hid (up_trans HB8.out hb9); have HOA9 := Lib.hid (HOA8.out.up hb9); have HOB9 := Lib.hid (HOB8.out.up hb9); clear hb9)
                | ((with_reducible refine (HHA.out _ (some ⟨ga, 0, none⟩) ca HOA9.out.reads).mono ?_); rintro e w10 ⟨rfl, hb10⟩; have HB10 := Lib.hid (up_trans HB9.out hb10); have HOB10 := Lib.hid (HOB9.out.up hb10); clear hb10)
                | ((with_reducible refine (HHB.out _ (some ⟨gb, 0, none⟩) cbb HOB10.out.reads).mono ?_); rintro e w11 ⟨rfl, hb11⟩; have HB11 := Lib.hid (up_trans HB10.out hb11); clear hb11)))
            all_goals go_ret
            all_goals exact ⟨rfl, HB11.out⟩
      | true =>
        replace H4 : Hid (∀ w1, Below w.heap.size w w1 → Calls Tryd.prog 17 #[.string (St cx), .string nm, .string u] w1 fun e w' => e = .returned (.tuple #[.string (St tc), .bool true]) ∧ Below w1.heap.size w1 w') := fun w1 hw => by
          obtain ⟨b2, x2, hbx, h4⟩ := H4.out w1 hw
          obtain ⟨rfl, rfl⟩ := hbx rfl
          exact h4
        cases da with
        | false =>
          go_wp2_with (first
            | (go_at_call 17; first
              | (have HB7' := HB7.out; clear HB7'; (with_reducible refine (H4.out _ HB7.out).mono ?_); rintro e w8 ⟨rfl, hb8⟩; have HB8 := Lib.hid (up_trans HB7.out hb8); have HOA8 := Lib.hid (HOA7.out.up hb8); have HOB8 := Lib.hid (HOB7.out.up hb8); have HOC8 := Lib.hid (HOC7.out.up hb8); clear hb8)
              | ((with_reducible refine (H1.out _ HB1.out).mono ?_); rintro e w2 ⟨rfl, hb2⟩; have HB2 := Lib.hid (up_trans HB1.out hb2); clear hb2))
            | (go_at_call 16; (with_reducible refine (H2.out _).mono ?_); rintro e w3 ⟨rfl, hb3⟩; have HB3 := Lib.hid (up_trans HB2.out hb3); clear hb3)
            | (go_at_call 26; first
              | (have HB5' := HB5.out; clear HB5'; (with_reducible refine (HCN.out _).mono ?_); rintro e w6 ⟨hb6, gc, cc, rfl, hoc⟩; have HB6 := Lib.hid (up_trans HB5.out hb6); have HOA6 := Lib.hid (HOA5.out.up hb6); have HOB6 := Lib.hid (HOB5.out.up hb6); have HOC6 := Lib.hid hoc; clear hb6 hoc)
              | (have HB4' := HB4.out; clear HB4'; (with_reducible refine (HBY.out _).mono ?_); rintro e w5 ⟨hb5, gb, cbb, rfl, hob⟩; have HB5 := Lib.hid (up_trans HB4.out hb5); have HOA5 := Lib.hid (HOA4.out.up hb5); have HOB5 := Lib.hid hob; clear hb5 hob)
              | ((with_reducible refine (HA.out _).mono ?_); rintro e w4 ⟨hb4, ga, ca, rfl, hoa⟩; have HB4 := Lib.hid (up_trans HB3.out hb4); have HOA4 := Lib.hid hoa; clear hb4 hoa))
            | (go_at_call 15; (with_reducible refine (H3.out _ HB6.out).mono ?_); rintro e w7 ⟨rfl, hb7⟩; have HB7 := Lib.hid (up_trans HB6.out hb7); have HOA7 := Lib.hid (HOA6.out.up hb7); have HOB7 := Lib.hid (HOB6.out.up hb7); have HOC7 := Lib.hid (HOC6.out.up hb7); clear hb7)
            | (go_at_call 31; first
              | ((with_reducible refine (HHC.out _ (some ⟨gc, 0, none⟩) cc HOC8.out.reads).mono ?_); rintro e w9 ⟨rfl, hb9⟩; have HB9 := Lib.hid (up_trans HB8.out hb9); have HOA9 := Lib.hid (HOA8.out.up hb9); have HOB9 := Lib.hid (HOB8.out.up hb9); clear hb9)
              | ((with_reducible refine (HHA.out _ (some ⟨ga, 0, none⟩) ca HOA9.out.reads).mono ?_); rintro e w10 ⟨rfl, hb10⟩; have HB10 := Lib.hid (up_trans HB9.out hb10); have HOB10 := Lib.hid (HOB9.out.up hb10); clear hb10)
              | ((with_reducible refine (HHB.out _ (some ⟨gb, 0, none⟩) cbb HOB10.out.reads).mono ?_); rintro e w11 ⟨rfl, hb11⟩; have HB11 := Lib.hid (up_trans HB10.out hb11); clear hb11)))
          all_goals go_ret
          all_goals exact ⟨by first | rfl | simp, HB10.out⟩
        | true =>
          cases db with
          | false =>
            go_wp2_with (first
              | (go_at_call 17; first
                | (have HB7' := HB7.out; clear HB7'; (with_reducible refine (H4.out _ HB7.out).mono ?_); rintro e w8 ⟨rfl, hb8⟩; have HB8 := Lib.hid (up_trans HB7.out hb8); have HOA8 := Lib.hid (HOA7.out.up hb8); have HOB8 := Lib.hid (HOB7.out.up hb8); have HOC8 := Lib.hid (HOC7.out.up hb8); clear hb8)
                | ((with_reducible refine (H1.out _ HB1.out).mono ?_); rintro e w2 ⟨rfl, hb2⟩; have HB2 := Lib.hid (up_trans HB1.out hb2); clear hb2))
              | (go_at_call 16; (with_reducible refine (H2.out _).mono ?_); rintro e w3 ⟨rfl, hb3⟩; have HB3 := Lib.hid (up_trans HB2.out hb3); clear hb3)
              | (go_at_call 26; first
                | (have HB5' := HB5.out; clear HB5'; (with_reducible refine (HCN.out _).mono ?_); rintro e w6 ⟨hb6, gc, cc, rfl, hoc⟩; have HB6 := Lib.hid (up_trans HB5.out hb6); have HOA6 := Lib.hid (HOA5.out.up hb6); have HOB6 := Lib.hid (HOB5.out.up hb6); have HOC6 := Lib.hid hoc; clear hb6 hoc)
                | (have HB4' := HB4.out; clear HB4'; (with_reducible refine (HBY.out _).mono ?_); rintro e w5 ⟨hb5, gb, cbb, rfl, hob⟩; have HB5 := Lib.hid (up_trans HB4.out hb5); have HOA5 := Lib.hid (HOA4.out.up hb5); have HOB5 := Lib.hid hob; clear hb5 hob)
                | ((with_reducible refine (HA.out _).mono ?_); rintro e w4 ⟨hb4, ga, ca, rfl, hoa⟩; have HB4 := Lib.hid (up_trans HB3.out hb4); have HOA4 := Lib.hid hoa; clear hb4 hoa))
              | (go_at_call 15; (with_reducible refine (H3.out _ HB6.out).mono ?_); rintro e w7 ⟨rfl, hb7⟩; have HB7 := Lib.hid (up_trans HB6.out hb7); have HOA7 := Lib.hid (HOA6.out.up hb7); have HOB7 := Lib.hid (HOB6.out.up hb7); have HOC7 := Lib.hid (HOC6.out.up hb7); clear hb7)
              | (go_at_call 31; first
                | ((with_reducible refine (HHC.out _ (some ⟨gc, 0, none⟩) cc HOC8.out.reads).mono ?_); rintro e w9 ⟨rfl, hb9⟩; have HB9 := Lib.hid (up_trans HB8.out hb9); have HOA9 := Lib.hid (HOA8.out.up hb9); have HOB9 := Lib.hid (HOB8.out.up hb9); clear hb9)
                | ((with_reducible refine (HHA.out _ (some ⟨ga, 0, none⟩) ca HOA9.out.reads).mono ?_); rintro e w10 ⟨rfl, hb10⟩; have HB10 := Lib.hid (up_trans HB9.out hb10); have HOB10 := Lib.hid (HOB9.out.up hb10); clear hb10)
                | ((with_reducible refine (HHB.out _ (some ⟨gb, 0, none⟩) cbb HOB10.out.reads).mono ?_); rintro e w11 ⟨rfl, hb11⟩; have HB11 := Lib.hid (up_trans HB10.out hb11); clear hb11)))
            all_goals go_ret
            all_goals exact ⟨by first | rfl | simp, HB11.out⟩
          | true =>
            go_wp2_with (first
              | (go_at_call 17; first
                | (have HB7' := HB7.out; clear HB7'; (with_reducible refine (H4.out _ HB7.out).mono ?_); rintro e w8 ⟨rfl, hb8⟩; have HB8 := Lib.hid (up_trans HB7.out hb8); have HOA8 := Lib.hid (HOA7.out.up hb8); have HOB8 := Lib.hid (HOB7.out.up hb8); have HOC8 := Lib.hid (HOC7.out.up hb8); clear hb8)
                | ((with_reducible refine (H1.out _ HB1.out).mono ?_); rintro e w2 ⟨rfl, hb2⟩; have HB2 := Lib.hid (up_trans HB1.out hb2); clear hb2))
              | (go_at_call 16; (with_reducible refine (H2.out _).mono ?_); rintro e w3 ⟨rfl, hb3⟩; have HB3 := Lib.hid (up_trans HB2.out hb3); clear hb3)
              | (go_at_call 26; first
                | (have HB5' := HB5.out; clear HB5'; (with_reducible refine (HCN.out _).mono ?_); rintro e w6 ⟨hb6, gc, cc, rfl, hoc⟩; have HB6 := Lib.hid (up_trans HB5.out hb6); have HOA6 := Lib.hid (HOA5.out.up hb6); have HOB6 := Lib.hid (HOB5.out.up hb6); have HOC6 := Lib.hid hoc; clear hb6 hoc)
                | (have HB4' := HB4.out; clear HB4'; (with_reducible refine (HBY.out _).mono ?_); rintro e w5 ⟨hb5, gb, cbb, rfl, hob⟩; have HB5 := Lib.hid (up_trans HB4.out hb5); have HOA5 := Lib.hid (HOA4.out.up hb5); have HOB5 := Lib.hid hob; clear hb5 hob)
                | ((with_reducible refine (HA.out _).mono ?_); rintro e w4 ⟨hb4, ga, ca, rfl, hoa⟩; have HB4 := Lib.hid (up_trans HB3.out hb4); have HOA4 := Lib.hid hoa; clear hb4 hoa))
              | (go_at_call 15; (with_reducible refine (H3.out _ HB6.out).mono ?_); rintro e w7 ⟨rfl, hb7⟩; have HB7 := Lib.hid (up_trans HB6.out hb7); have HOA7 := Lib.hid (HOA6.out.up hb7); have HOB7 := Lib.hid (HOB6.out.up hb7); have HOC7 := Lib.hid (HOC6.out.up hb7); clear hb7)
              | (go_at_call 31; first
                | ((with_reducible refine (HHC.out _ (some ⟨gc, 0, none⟩) cc HOC8.out.reads).mono ?_); rintro e w9 ⟨rfl, hb9⟩; have HB9 := Lib.hid (up_trans HB8.out hb9); have HOA9 := Lib.hid (HOA8.out.up hb9); have HOB9 := Lib.hid (HOB8.out.up hb9); clear hb9)
                | ((with_reducible refine (HHA.out _ (some ⟨ga, 0, none⟩) ca HOA9.out.reads).mono ?_); rintro e w10 ⟨rfl, hb10⟩; have HB10 := Lib.hid (up_trans HB9.out hb10); have HOB10 := Lib.hid (HOB9.out.up hb10); clear hb10)
                | ((with_reducible refine (HHB.out _ (some ⟨gb, 0, none⟩) cbb HOB10.out.reads).mono ?_); rintro e w11 ⟨rfl, hb11⟩; have HB11 := Lib.hid (up_trans HB10.out hb11); clear hb11)))
            all_goals go_ret
            all_goals exact ⟨by first | rfl | simp, HB11.out⟩

end Go.Proofs.YtkciljcligohnaaDoor
