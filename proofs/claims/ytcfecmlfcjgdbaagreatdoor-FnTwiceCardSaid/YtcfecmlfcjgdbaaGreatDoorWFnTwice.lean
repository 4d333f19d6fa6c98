/- The law FnTwice, walked. -/
import Derived.Test.YtcfecmlfcjgdbaaGreatDoorTwice
import Derived.Test.YtcfecmlfcjgdbaaGreatDoorDraw8
import Derived.Test.YtcfecmlfcjgdbaaGreatDoorTwQ
namespace Go.Proofs.YtcfecmlfcjgdbaaGreatDoor
open Go.RowKit
set_option linter.unusedVariables false
set_option linter.unusedSimpArgs false

theorem twiceOf_some {l x y c : List UInt8} (h : twiceOf l x y = some c) : c.length ≤ 8000 ∧ ∃ n d1 d2 m, rdTy l = some n ∧ Der (n.db []) x (some d1) ∧ Der d1 y (some d2) ∧ rdTy c = some m ∧ m.db [] = d2 := by
  unfold twiceOf at h
  cases h1 : derivOf (rdTy l) x with
  | none => rw [h1] at h; cases h
  | some c1 =>
    rw [h1] at h
    have h : derivOf (rdTy c1) y = some c := h
    obtain ⟨n, d1, hn, _, hD1, _, ⟨m1, hm1, _, hmd1⟩, _⟩ := derivOf_some h1
    obtain ⟨n2, d2, hn2, _, hD2, _, ⟨m2, hm2, _, hmd2⟩, hl⟩ := derivOf_some h
    rw [hm1] at hn2
    cases hn2
    rw [hmd1] at hD2
    exact ⟨hl, n, d1, d2, m2, hn, hD1, hD2, hm2, hmd2⟩
theorem twice_same {l x y c e : List UInt8} (h1 : twiceOf l x y = some c) (h2 : twiceOf l y x = some e) : emptyOf (rdTy e) = emptyOf (rdTy c) := by
  obtain ⟨_, n, d1, d2, m, hn, hD1, hD2, hm, hd⟩ := twiceOf_some h1
  obtain ⟨_, n', e1, e2, m', hn', hE1, hE2, hm', he⟩ := twiceOf_some h2
  rw [hn] at hn'
  cases hn'
  rw [hm, hm']
  show (m'.db []).emp = (m.db []).emp
  rw [hd, he]
  exact (twice_emp (db_scoped n []) hD1 hD2 hE1 hE2).symm

set_option maxHeartbeats 4000000 in
set_option maxRecDepth 100000 in
theorem lawFnTwice (a : Option Addr) (n c : Nat) (w : World) (h : CodeRow w a n c) (htab : Lib.TabIs Tryz.prog w "internal/strconv.uint64pow10" .u64 Lib.pow10Tab) :
    Calls Tryz.prog 4 #[.slice a n c] w fun e w' => e = .returned (.bool true) ∧ Below w.heap.size w w' := by
  have HD := Lib.hid (DrawDerivTwice_any a n c w h)
  have HTB : Hid (TabB w.heap.size w) := Lib.tabBelow_of_tabIs htab
  clear h htab
  cases hc : decide ((n : Int) > 1048576) with
  | true =>
    have hc' : decide (1048576 < n) = true := by simp at hc ⊢; omega
    have hc2 : decide ((1048576 : Int) < (n : Int)) = true := by simp at hc ⊢; omega
    go_enter Tryz.func4, Tryz.ntmps4
    go_wp2_with fail
    go_ret
    exact ⟨rfl, Below.refl _ _⟩
  | false =>
    have hc' : decide (1048576 < n) = false := by simp at hc ⊢; omega
    have hc2 : decide ((1048576 : Int) < (n : Int)) = false := by simp at hc ⊢; omega
    go_enter Tryz.func4, Tryz.ntmps4
    go_wp2_with (go_at_call 11; refine HD.out.mono ?_; rintro e w1 ⟨s, a, b, hs, ha, hb, rfl, hb1⟩; have HB1 := Lib.hid hb1; have HS := Lib.hid hs; have HNA := Lib.hid ha; have HNB := Lib.hid hb; clear hb1 hs ha hb)
    have hs9 : s.size ≤ 9223372036854775807 := by have := HS.out; omega
    have H1 := Lib.hid fun w1 (hw : Below w.heap.size w w1) => DerivTwice_any s a b w.heap.size w1 hs9 (HTB.out.below hw) hw.size
    have H2 := Lib.hid fun w1 => specDerivTwice_any s a b w1 hs9
    cases ho : twiceOf s.data.toList a.data.toList b.data.toList with
    | none =>
      rw [ho] at H1 H2
      replace H1 : Hid (∀ w1, Below w.heap.size w w1 → Calls Tryz.prog 12 #[.string s, .string a, .string b] w1 fun e w' => e = .returned (.tuple #[.string (St []), .bool false]) ∧ Below w1.heap.size w1 w') := H1
      replace H2 : Hid (∀ w1, Calls Tryz.prog 13 #[.string s, .string a, .string b] w1 fun e w' => e = .returned (.tuple #[.string (St []), .bool false]) ∧ Below w1.heap.size w1 w') := H2
      go_wp2_with (first
        | (go_at_call 12; (with_reducible refine (H1.out _ HB1.out).mono ?_); rintro e w2 ⟨rfl, hb2⟩; have HB2 := Lib.hid (up_trans HB1.out hb2); clear hb2)
        | (go_at_call 13; (with_reducible refine (H2.out _).mono ?_); rintro e w3 ⟨rfl, hb3⟩; have HB3 := Lib.hid (up_trans HB2.out hb3); clear hb3))
      go_ret
      exact ⟨rfl, HB3.out⟩
    | some tc =>
      obtain ⟨hl1, _⟩ := twiceOf_some ho
      have hle := fun e => twiceOf_some (l := s.data.toList) (x := b.data.toList) (y := a.data.toList) (c := e)
      have hsame := fun e => twice_same (e := e) ho
      rw [ho] at H1 H2
      replace H1 : Hid (∀ w1, Below w.heap.size w w1 → Calls Tryz.prog 12 #[.string s, .string a, .string b] w1 fun e w' => e = .returned (.tuple #[.string (St tc), .bool true]) ∧ Below w1.heap.size w1 w') := H1
      replace H2 : Hid (∀ w1, Calls Tryz.prog 13 #[.string s, .string a, .string b] w1 fun e w' => e = .returned (.tuple #[.string (St tc), .bool true]) ∧ Below w1.heap.size w1 w') := H2
      have H3 := Lib.hid fun w1 (hw : Below w.heap.size w w1) => DerivTwice_any s b a w.heap.size w1 hs9 (HTB.out.below hw) hw.size
      have H4 := Lib.hid fun w1 => TypeEmpty_any (St tc) w1 (by show tc.length ≤ _; omega)
      replace H4 : Hid (∀ w1, Calls Tryz.prog 14 #[.string (St tc)] w1 fun e w' => e = .returned (.bool (emptyOf (rdTy tc))) ∧ Below w1.heap.size w1 w') := H4
      cases ho2 : twiceOf s.data.toList b.data.toList a.data.toList with
      | none =>
        rw [ho2] at H3
        replace H3 : Hid (∀ w1, Below w.heap.size w w1 → Calls Tryz.prog 12 #[.string s, .string b, .string a] w1 fun e w' => e = .returned (.tuple #[.string (St []), .bool false]) ∧ Below w1.heap.size w1 w') := H3
        clear H4 ho ho2 hsame hle
        go_wp2_with (first
          | (go_at_call 12; first
            | (have HB3' := HB3.out; clear HB3'; (with_reducible refine (H3.out _ HB3.out).mono ?_); rintro e w4 ⟨rfl, hb4⟩; have HB4 := Lib.hid (up_trans HB3.out hb4); clear hb4)
            | ((with_reducible refine (H1.out _ HB1.out).mono ?_); rintro e w2 ⟨rfl, hb2⟩; have HB2 := Lib.hid (up_trans HB1.out hb2); clear hb2))
          | (go_at_call 13; (with_reducible refine (H2.out _).mono ?_); rintro e w3 ⟨rfl, hb3⟩; have HB3 := Lib.hid (up_trans HB2.out hb3); clear hb3))
        go_ret
        exact ⟨by first | rfl | simp, HB4.out⟩
      | some te =>
        obtain ⟨hl2, _⟩ := hle te ho2
        have hem := hsame te ho2
        have H5 := Lib.hid fun w1 => TypeEmpty_any (St te) w1 (by show te.length ≤ _; omega)
        replace H5 : Hid (∀ w1, Calls Tryz.prog 14 #[.string (St te)] w1 fun e w' => e = .returned (.bool (emptyOf (rdTy tc))) ∧ Below w1.heap.size w1 w') := by rw [← hem]; exact H5
        rw [ho2] at H3
        replace H3 : Hid (∀ w1, Below w.heap.size w w1 → Calls Tryz.prog 12 #[.string s, .string b, .string a] w1 fun e w' => e = .returned (.tuple #[.string (St te), .bool true]) ∧ Below w1.heap.size w1 w') := H3
        generalize emptyOf (rdTy tc) = be at *
        clear ho ho2 hsame hle hem
        go_wp2_with (first
          | (go_at_call 12; first
            | (have HB3' := HB3.out; clear HB3'; (with_reducible refine (H3.out _ HB3.out).mono ?_); rintro e w4 ⟨rfl, hb4⟩; have HB4 := Lib.hid (up_trans HB3.out hb4); clear hb4)
            | ((with_reducible refine (H1.out _ HB1.out).mono ?_); rintro e w2 ⟨rfl, hb2⟩; have HB2 := Lib.hid (up_trans HB1.out hb2); clear hb2))
          | (go_at_call 13; (with_reducible refine (H2.out _).mono ?_); rintro e w3 ⟨rfl, hb3⟩; have HB3 := Lib.hid (up_trans HB2.out hb3); clear hb3)
          | (go_at_call 14; first
            | (have HB5' := HB5.out; clear HB5'; (with_reducible refine (H4.out _).mono ?_); rintro e w6 ⟨rfl, hb6⟩; have HB6 := Lib.hid (up_trans HB5.out hb6); clear hb6)
            | ((with_reducible refine (H5.out _).mono ?_); rintro e w5 ⟨rfl, hb5⟩; have HB5 := Lib.hid (up_trans HB4.out hb5); clear hb5)))
        go_ret
        exact ⟨by first | rfl | simp, HB6.out⟩

end Go.Proofs.YtcfecmlfcjgdbaaGreatDoor
