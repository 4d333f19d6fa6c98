/- The law FnDeriv, walked. -/
import Derived.Test.YtcfecmlfcjgdbaaGreatDoorTwice
import Derived.Test.YtcfecmlfcjgdbaaGreatDoorDraw7
import Derived.Test.YtcfecmlfcjgdbaaGreatDoorWFnClosed
import Derived.Test.YtcfecmlfcjgdbaaGreatDoorMK
namespace Go.Proofs.YtcfecmlfcjgdbaaGreatDoor
open Go.RowKit
set_option linter.unusedVariables false
set_option linter.unusedSimpArgs false

theorem deriv_canon {tc : List UInt8} {m : NT} {d : Ty} (hm : rdTy tc = some m) (hd : m.db [] = d) (ht : d.told = some tc) : canonOf (rdTy tc) = some tc := by
  rw [hm]
  show (m.db []).told = some tc
  rw [hd]
  exact ht
theorem deriv_closed {n m : NT} (hn : n.ok) (hm : m.ok) (h : ∀ s, (m.db []).has s → (n.db []).has s) (hc : closedOf (some n) = true) : closedOf (some m) = true := by
  rw [closedOf_iff _ (ok_ok3 hn)] at hc
  rw [closedOf_iff _ (ok_ok3 hm)]
  exact fun s hs hh => hc s hs (h s hh)

set_option maxHeartbeats 4000000 in
set_option maxRecDepth 100000 in
theorem lawFnDeriv (a : Option Addr) (n c : Nat) (w : World) (h : CodeRow w a n c) (htab : Lib.TabIs Tryz.prog w "internal/strconv.uint64pow10" .u64 Lib.pow10Tab) :
    Calls Tryz.prog 5 #[.slice a n c] w fun e w' => e = .returned (.bool true) ∧ Below w.heap.size w w' := by
  have HD := Lib.hid (DrawDerivOf_any a n c w h)
  have HTB : Hid (TabB w.heap.size w) := Lib.tabBelow_of_tabIs htab
  clear h htab
  cases hc : decide ((n : Int) > 1048576) with
  | true =>
    have hc' : decide (1048576 < n) = true := by simp at hc ⊢; omega
    have hc2 : decide ((1048576 : Int) < (n : Int)) = true := by simp at hc ⊢; omega
    go_enter Tryz.func5, Tryz.ntmps5
    go_wp2_with fail
    go_ret
    exact ⟨rfl, Below.refl _ _⟩
  | false =>
    have hc' : decide (1048576 < n) = false := by simp at hc ⊢; omega
    have hc2 : decide ((1048576 : Int) < (n : Int)) = false := by simp at hc ⊢; omega
    go_enter Tryz.func5, Tryz.ntmps5
    go_wp2_with (go_at_call 15; refine HD.out.mono ?_; rintro e w1 ⟨s, nm, hs, hnm, rfl, hb1⟩; have HB1 := Lib.hid hb1; have HS := Lib.hid hs; have HN := Lib.hid hnm; clear hb1 hs hnm)
    have hs9 : s.size ≤ 9223372036854775807 := by have := HS.out; omega
    have H1 := Lib.hid fun w1 (hw : Below w.heap.size w w1) => DerivOf_any s nm w.heap.size w1 hs9 (HTB.out.below hw) hw.size
    have H2 := Lib.hid fun w1 => specDerivOf_any s nm w1 hs9
    cases ho : derivOf (rdTy s.data.toList) nm.data.toList with
    | none =>
      rw [ho] at H1 H2
      replace H1 : Hid (∀ w1, Below w.heap.size w w1 → Calls Tryz.prog 16 #[.string s, .string nm] w1 fun e w' => e = .returned (.tuple #[.string (St []), .bool false]) ∧ Below w1.heap.size w1 w') := H1
      replace H2 : Hid (∀ w1, Calls Tryz.prog 17 #[.string s, .string nm] w1 fun e w' => e = .returned (.tuple #[.string (St []), .bool false]) ∧ Below w1.heap.size w1 w') := H2
      go_wp2_with (first
        | (go_at_call 16; (with_reducible refine (H1.out _ HB1.out).mono ?_); rintro e w2 ⟨rfl, hb2⟩; have HB2 := Lib.hid (up_trans HB1.out hb2); clear hb2)
        | (go_at_call 17; (with_reducible refine (H2.out _).mono ?_); rintro e w3 ⟨rfl, hb3⟩; have HB3 := Lib.hid (up_trans HB2.out hb3); clear hb3))
      go_ret
      exact ⟨rfl, HB3.out⟩
    | some tc =>
      obtain ⟨n, d, hn, hp, hD, ht, ⟨m, hm, hmok, hmd⟩, hlen⟩ := derivOf_some ho
      have hok := rdTy_some hn
      have hcl := deriv_closed hok.1 hmok fun s hs => hD.names d s rfl (by rw [← hmd]; exact hs)
      rw [← hn, ← hm] at hcl
      have H5 := Lib.hid fun w1 (hw : Below w.heap.size w w1) => TypeCanon_any (St tc) w.heap.size w1 (by show tc.length ≤ _; omega) (HTB.out.below hw) hw.size
      rw [show canonOf (rdTy (St tc).data.toList) = some tc from deriv_canon hm hmd ht] at H5
      have H6 := Lib.hid fun w1 => TypeClosed_any s w1 hs9
      have H7 := Lib.hid fun w1 => TypeClosed_any (St tc) w1 (by show tc.length ≤ _; omega)
      replace H7 : Hid (∀ w1, Calls Tryz.prog 19 #[.string (St tc)] w1 fun e w' => e = .returned (.bool (closedOf (rdTy tc))) ∧ Below w1.heap.size w1 w') := H7
      rw [ho] at H1 H2
      replace H1 : Hid (∀ w1, Below w.heap.size w w1 → Calls Tryz.prog 16 #[.string s, .string nm] w1 fun e w' => e = .returned (.tuple #[.string (St tc), .bool true]) ∧ Below w1.heap.size w1 w') := H1
      replace H2 : Hid (∀ w1, Calls Tryz.prog 17 #[.string s, .string nm] w1 fun e w' => e = .returned (.tuple #[.string (St tc), .bool true]) ∧ Below w1.heap.size w1 w') := H2
      replace H5 : Hid (∀ w1, Below w.heap.size w w1 → Calls Tryz.prog 18 #[.string (St tc)] w1 fun e w' => e = .returned (.tuple #[.string (St tc), .bool true]) ∧ Below w1.heap.size w1 w') := H5
      have H3 := Lib.hid fun w1 (hw : Below w.heap.size w w1) => TypeCanon_any s w.heap.size w1 hs9 (HTB.out.below hw) hw.size
      cases hc : canonOf (rdTy s.data.toList) with
      | none =>
        rw [hc] at H3
        replace H3 : Hid (∀ w1, Below w.heap.size w w1 → Calls Tryz.prog 18 #[.string s] w1 fun e w' => e = .returned (.tuple #[.string (St []), .bool false]) ∧ Below w1.heap.size w1 w') := H3
        have H4 : Hid (∀ w1, Below w.heap.size w w1 → Calls Tryz.prog 16 #[.string (St []), .string nm] w1 fun e w' => e = .returned (.tuple #[.string (St ((derivOf (rdTy []) nm.data.toList).getD [])), .bool (derivOf (rdTy []) nm.data.toList).isSome]) ∧ Below w1.heap.size w1 w') := fun w1 hw => DerivOf_any (St []) nm w.heap.size w1 (by show 0 ≤ _; omega) (HTB.out.below hw) hw.size
        generalize (derivOf (rdTy []) nm.data.toList).getD [] = tx at *
        generalize (derivOf (rdTy []) nm.data.toList).isSome = bx at *
        clear hc
        generalize closedOf (rdTy s.data.toList) = bs at *
        generalize closedOf (rdTy tc) = bt at *
        clear ho hn ht hm hmd hok hlen hD hmok hp
        cases bs with
        | false =>
          clear hcl H7
          go_wp2_with (first
            | (go_at_call 16; first
              | (have HB4' := HB4.out; clear HB4'; (with_reducible refine (H4.out _ HB4.out).mono ?_); rintro e w5 ⟨rfl, hb5⟩; have HB5 := Lib.hid (up_trans HB4.out hb5); clear hb5)
              | ((with_reducible refine (H1.out _ HB1.out).mono ?_); rintro e w2 ⟨rfl, hb2⟩; have HB2 := Lib.hid (up_trans HB1.out hb2); clear hb2))
            | (go_at_call 17; (with_reducible refine (H2.out _).mono ?_); rintro e w3 ⟨rfl, hb3⟩; have HB3 := Lib.hid (up_trans HB2.out hb3); clear hb3)
            | (go_at_call 18; first
              | (have HB5' := HB5.out; clear HB5'; (with_reducible refine (H5.out _ HB5.out).mono ?_); rintro e w6 ⟨rfl, hb6⟩; have HB6 := Lib.hid (up_trans HB5.out hb6); clear hb6)
              | ((with_reducible refine (H3.out _ HB3.out).mono ?_); rintro e w4 ⟨rfl, hb4⟩; have HB4 := Lib.hid (up_trans HB3.out hb4); clear hb4))
            | (go_at_call 19; first
              | (have HB7' := HB7.out; clear HB7'; (with_reducible refine (H7.out _).mono ?_); rintro e w8 ⟨rfl, hb8⟩; have HB8 := Lib.hid (up_trans HB7.out hb8); clear hb8)
              | ((with_reducible refine (H6.out _).mono ?_); rintro e w7 ⟨rfl, hb7⟩; have HB7 := Lib.hid (up_trans HB6.out hb7); clear hb7)))
          go_ret
          exact ⟨by first | rfl | simp, HB7.out⟩
        | true =>
          have hbt := hcl rfl
          subst hbt
          go_wp2_with (first
            | (go_at_call 16; first
              | (have HB4' := HB4.out; clear HB4'; (with_reducible refine (H4.out _ HB4.out).mono ?_); rintro e w5 ⟨rfl, hb5⟩; have HB5 := Lib.hid (up_trans HB4.out hb5); clear hb5)
              | ((with_reducible refine (H1.out _ HB1.out).mono ?_); rintro e w2 ⟨rfl, hb2⟩; have HB2 := Lib.hid (up_trans HB1.out hb2); clear hb2))
            | (go_at_call 17; (with_reducible refine (H2.out _).mono ?_); rintro e w3 ⟨rfl, hb3⟩; have HB3 := Lib.hid (up_trans HB2.out hb3); clear hb3)
            | (go_at_call 18; first
              | (have HB5' := HB5.out; clear HB5'; (with_reducible refine (H5.out _ HB5.out).mono ?_); rintro e w6 ⟨rfl, hb6⟩; have HB6 := Lib.hid (up_trans HB5.out hb6); clear hb6)
              | ((with_reducible refine (H3.out _ HB3.out).mono ?_); rintro e w4 ⟨rfl, hb4⟩; have HB4 := Lib.hid (up_trans HB3.out hb4); clear hb4))
            | (go_at_call 19; first
              | (have HB7' := HB7.out; clear HB7'; (with_reducible refine (H7.out _).mono ?_); rintro e w8 ⟨rfl, hb8⟩; have HB8 := Lib.hid (up_trans HB7.out hb8); clear hb8)
              | ((with_reducible refine (H6.out _).mono ?_); rintro e w7 ⟨rfl, hb7⟩; have HB7 := Lib.hid (up_trans HB6.out hb7); clear hb7)))
          go_ret
          exact ⟨by first | rfl | simp, HB8.out⟩
      | some c =>
        rw [hc] at H3
        replace H3 : Hid (∀ w1, Below w.heap.size w w1 → Calls Tryz.prog 18 #[.string s] w1 fun e w' => e = .returned (.tuple #[.string (St c), .bool true]) ∧ Below w1.heap.size w1 w') := H3
        have hc' : (n.db []).told = some c := by rw [hn] at hc; exact hc
        obtain ⟨m2, hm2, _, hm2d, _⟩ := told_db (ok_ok3 hok.1) hc'
        have hcl8 := told_len (ok_ok3 hok.1) hc'
        have hdc : derivOf (rdTy c) nm.data.toList = some tc := by rw [hm2, derivOf_db hm2d, ← hn, ho]
        have H4 : Hid (∀ w1, Below w.heap.size w w1 → Calls Tryz.prog 16 #[.string (St c), .string nm] w1 fun e w' => e = .returned (.tuple #[.string (St tc), .bool true]) ∧ Below w1.heap.size w1 w') := fun w1 hw => by
          have := DerivOf_any (St c) nm w.heap.size w1 (by show c.length ≤ _; omega) (HTB.out.below hw) hw.size
          rw [show derivOf (rdTy (St c).data.toList) nm.data.toList = some tc from hdc] at this
          exact this
        clear hc hc' hm2 hm2d hdc hcl8
        generalize closedOf (rdTy s.data.toList) = bs at *
        generalize closedOf (rdTy tc) = bt at *
        clear ho hn ht hm hmd hok hlen hD hmok hp
        cases bs with
        | false =>
          clear hcl H7
          go_wp2_with (first
            | (go_at_call 16; first
              | (have HB4' := HB4.out; clear HB4'; (with_reducible refine (H4.out _ HB4.out).mono ?_); rintro e w5 ⟨rfl, hb5⟩; have HB5 := Lib.hid (up_trans HB4.out hb5); clear hb5)
              | ((with_reducible refine (H1.out _ HB1.out).mono ?_); rintro e w2 ⟨rfl, hb2⟩; have HB2 := Lib.hid (up_trans HB1.out hb2); clear hb2))
            | (go_at_call 17; (with_reducible refine (H2.out _).mono ?_); rintro e w3 ⟨rfl, hb3⟩; have HB3 := Lib.hid (up_trans HB2.out hb3); clear hb3)
            | (go_at_call 18; first
              | (have HB5' := HB5.out; clear HB5'; (with_reducible refine (H5.out _ HB5.out).mono ?_); rintro e w6 ⟨rfl, hb6⟩; have HB6 := Lib.hid (up_trans HB5.out hb6); clear hb6)
              | ((with_reducible refine (H3.out _ HB3.out).mono ?_); rintro e w4 ⟨rfl, hb4⟩; have HB4 := Lib.hid (up_trans HB3.out hb4); clear hb4))
            | (go_at_call 19; first
              | (have HB7' := HB7.out; clear HB7'; (with_reducible refine (H7.out _).mono ?_); rintro e w8 ⟨rfl, hb8⟩; have HB8 := Lib.hid (up_trans HB7.out hb8); clear hb8)
              | ((with_reducible refine (H6.out _).mono ?_); rintro e w7 ⟨rfl, hb7⟩; have HB7 := Lib.hid (up_trans HB6.out hb7); clear hb7)))
          go_ret
          exact ⟨by first | rfl | simp, HB7.out⟩
        | true =>
          have hbt := hcl rfl
          subst hbt
          go_wp2_with (first
            | (go_at_call 16; first
              | (have HB4' := HB4.out; clear HB4'; (with_reducible refine (H4.out _ HB4.out).mono ?_); rintro e w5 ⟨rfl, hb5⟩; have HB5 := Lib.hid (up_trans HB4.out hb5); clear hb5)
              | ((with_reducible refine (H1.out _ HB1.out).mono ?_); rintro e w2 ⟨rfl, hb2⟩; have HB2 := Lib.hid (up_trans HB1.out hb2); clear hb2))
            | (go_at_call 17; (with_reducible refine (H2.out _).mono ?_); rintro e w3 ⟨rfl, hb3⟩; have HB3 := Lib.hid (up_trans HB2.out hb3); clear hb3)
            | (go_at_call 18; first
              | (have HB5' := HB5.out; clear HB5'; (with_reducible refine (H5.out _ HB5.out).mono ?_); rintro e w6 ⟨rfl, hb6⟩; have HB6 := Lib.hid (up_trans HB5.out hb6); clear hb6)
              | ((with_reducible refine (H3.out _ HB3.out).mono ?_); rintro e w4 ⟨rfl, hb4⟩; have HB4 := Lib.hid (up_trans HB3.out hb4); clear hb4))
            | (go_at_call 19; first
              | (have HB7' := HB7.out; clear HB7'; (with_reducible refine (H7.out _).mono ?_); rintro e w8 ⟨rfl, hb8⟩; have HB8 := Lib.hid (up_trans HB7.out hb8); clear hb8)
              | ((with_reducible refine (H6.out _).mono ?_); rintro e w7 ⟨rfl, hb7⟩; have HB7 := Lib.hid (up_trans HB6.out hb7); clear hb7)))
          go_ret
          exact ⟨by first | rfl | simp, HB8.out⟩

end Go.Proofs.YtcfecmlfcjgdbaaGreatDoor
