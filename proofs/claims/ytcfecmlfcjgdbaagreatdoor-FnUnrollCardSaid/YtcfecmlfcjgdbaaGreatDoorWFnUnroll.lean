/- The law FnUnroll, walked. -/
import Derived.Test.YtcfecmlfcjgdbaaGreatDoorWFnClosed
import Derived.Test.YtcfecmlfcjgdbaaGreatDoorMK
import Derived.Test.YtcfecmlfcjgdbaaGreatDoorDraw6
namespace Go.Proofs.YtcfecmlfcjgdbaaGreatDoor
open Go.RowKit
set_option linter.unusedVariables false
set_option linter.unusedSimpArgs false

theorem unrollOf_some {o : Option NT} {tc : List UInt8} (h : unrollOf o = some tc) : ∃ x a, o = some (.loop x a) ∧ ((NT.loop x a).db []).unrl = some tc := by
  cases o with
  | none => cases h
  | some n =>
    have h' : (n.db []).unrl = some tc := h
    cases n with
    | loop x a => exact ⟨x, a, rfl, h'⟩
    | zero => cases h'
    | one => cases h'
    | name s =>
      simp only [NT.db] at h'
      split at h' <;> cases h'
    | sum a b => cases h'
    | prod a b => cases h'
theorem unr_told_db {x : List UInt8} {a : NT} (hok : (NT.loop x a).ok) (hna : (NT.loop x a).atoms ≤ 400) {tc : List UInt8} (h : ((NT.loop x a).db []).unrl = some tc) :
    ∃ r, rdTy tc = some r ∧ r.ok ∧ r.db [] = (a.db [x]).opened ((NT.loop x a).db []) 0 ∧ tc.length ≤ 8000 := by
  have h1 : ((subN x (.loop x a) a).db []).told = some tc := by
    rw [unroll_db x a (ok_ok3 hok)]
    exact h
  simp only [NT.atoms] at hna
  have hfl : (frees [NT.loop x a, .name x]).length ≤ 500 := by
    rw [frees_two, List.length_append]
    have := names_len (NT.loop x a)
    simp only [NT.atoms] at this
    simp
    omega
  have h3 := subN_ok3 x (.loop x a) a (ok_ok3 hok).2 (ok_ok3 hok) (by omega) hfl
  obtain ⟨r, hr, hrok, hdb, _⟩ := told_db h3 h1
  exact ⟨r, hr, hrok, by rw [hdb, unroll_db x a (ok_ok3 hok)], told_len h3 h1⟩
theorem unr_emp {x : List UInt8} {a r : NT} (h : r.db [] = (a.db [x]).opened ((NT.loop x a).db []) 0) : emptyOf (some r) = emptyOf (some (.loop x a)) := by
  show (r.db []).emp = ((NT.loop x a).db []).emp
  rw [h]
  exact unroll_emp (a.db [x])
theorem unr_closed {x : List UInt8} {a r : NT} (hok : (NT.loop x a).ok) (hr : r.ok) (h : r.db [] = (a.db [x]).opened ((NT.loop x a).db []) 0) : closedOf (some r) = closedOf (some (.loop x a)) := by
  rw [Bool.eq_iff_iff, closedOf_iff _ (ok_ok3 hr), closedOf_iff _ (ok_ok3 hok), h]
  constructor
  · intro hh s hs hm
    exact hh s hs ((unroll_has s (a.db [x])).2 hm)
  · intro hh s hs hm
    exact hh s hs ((unroll_has s (a.db [x])).1 hm)

set_option maxHeartbeats 4000000 in
set_option maxRecDepth 100000 in
theorem lawFnUnroll (a : Option Addr) (n c : Nat) (w : World) (h : CodeRow w a n c) (htab : Lib.TabIs Tryz.prog w "internal/strconv.uint64pow10" .u64 Lib.pow10Tab) :
    Calls Tryz.prog 7 #[.slice a n c] w fun e w' => e = .returned (.bool true) ∧ Below w.heap.size w w' := by
  have HD := Lib.hid (DrawTypeUnroll_any a n c w h)
  have HTB : Hid (TabB w.heap.size w) := Lib.tabBelow_of_tabIs htab
  clear h htab
  cases hc : decide ((n : Int) > 1048576) with
  | true =>
    have hc' : decide (1048576 < n) = true := by simp at hc ⊢; omega
    have hc2 : decide ((1048576 : Int) < (n : Int)) = true := by simp at hc ⊢; omega
    go_enter Tryz.func7, Tryz.ntmps7
    go_wp2_with fail
    go_ret
    exact ⟨rfl, Below.refl _ _⟩
  | false =>
    have hc' : decide (1048576 < n) = false := by simp at hc ⊢; omega
    have hc2 : decide ((1048576 : Int) < (n : Int)) = false := by simp at hc ⊢; omega
    go_enter Tryz.func7, Tryz.ntmps7
    go_wp2_with (go_at_call 23; refine HD.out.mono ?_; rintro e w1 ⟨s, hs, rfl, hb1⟩; have HB1 := Lib.hid hb1; have HS := Lib.hid hs; clear hb1 hs)
    have hs9 : s.size ≤ 9223372036854775807 := by have := HS.out; omega
    have H1 := Lib.hid fun w1 (hw : Below w.heap.size w w1) => TypeUnroll_any s w.heap.size w1 hs9 (HTB.out.below hw) hw.size
    have H2 := Lib.hid fun w1 => specTypeUnroll_any s w1 hs9
    cases ho : unrollOf (rdTy s.data.toList) with
    | none =>
      rw [ho] at H1 H2
      replace H1 : Hid (∀ w1, Below w.heap.size w w1 → Calls Tryz.prog 24 #[.string s] w1 fun e w' => e = .returned (.tuple #[.string (St []), .bool false]) ∧ Below w1.heap.size w1 w') := H1
      replace H2 : Hid (∀ w1, Calls Tryz.prog 25 #[.string s] w1 fun e w' => e = .returned (.tuple #[.string (St []), .bool false]) ∧ Below w1.heap.size w1 w') := H2
      go_wp2_with (first
        | (go_at_call 24; (with_reducible refine (H1.out _ HB1.out).mono ?_); rintro e w2 ⟨rfl, hb2⟩; have HB2 := Lib.hid (up_trans HB1.out hb2); clear hb2)
        | (go_at_call 25; (with_reducible refine (H2.out _).mono ?_); rintro e w3 ⟨rfl, hb3⟩; have HB3 := Lib.hid (up_trans HB2.out hb3); clear hb3))
      go_ret
      exact ⟨rfl, HB3.out⟩
    | some tc =>
      obtain ⟨x, a1, hx, hto⟩ := unrollOf_some ho
      have hok := rdTy_some hx
      obtain ⟨r, hr, hrok, hdb, hlen⟩ := unr_told_db hok.1 hok.2 hto
      have H3 := Lib.hid fun w1 => TypeEmpty_any s w1 hs9
      have H4 := Lib.hid fun w1 => TypeEmpty_any (St tc) w1 (by show tc.length ≤ _; omega)
      have H5 := Lib.hid fun w1 => TypeClosed_any s w1 hs9
      have H6 := Lib.hid fun w1 => TypeClosed_any (St tc) w1 (by show tc.length ≤ _; omega)
      rw [show emptyOf (rdTy (St tc).data.toList) = emptyOf (rdTy s.data.toList) by show emptyOf (rdTy tc) = _; rw [hr, hx, unr_emp hdb]] at H4
      rw [show closedOf (rdTy (St tc).data.toList) = closedOf (rdTy s.data.toList) by show closedOf (rdTy tc) = _; rw [hr, hx, unr_closed hok.1 hrok hdb]] at H6
      rw [ho] at H1 H2
      replace H1 : Hid (∀ w1, Below w.heap.size w w1 → Calls Tryz.prog 24 #[.string s] w1 fun e w' => e = .returned (.tuple #[.string (St tc), .bool true]) ∧ Below w1.heap.size w1 w') := H1
      replace H2 : Hid (∀ w1, Calls Tryz.prog 25 #[.string s] w1 fun e w' => e = .returned (.tuple #[.string (St tc), .bool true]) ∧ Below w1.heap.size w1 w') := H2
      generalize emptyOf (rdTy s.data.toList) = be at *
      generalize closedOf (rdTy s.data.toList) = bc at *
      clear ho hx hto hok hr hrok hdb hlen
      go_wp2_with (first
        | (go_at_call 24; (with_reducible refine (H1.out _ HB1.out).mono ?_); rintro e w2 ⟨rfl, hb2⟩; have HB2 := Lib.hid (up_trans HB1.out hb2); clear hb2)
        | (go_at_call 25; (with_reducible refine (H2.out _).mono ?_); rintro e w3 ⟨rfl, hb3⟩; have HB3 := Lib.hid (up_trans HB2.out hb3); clear hb3)
        | (go_at_call 14; first
          | (have HB4' := HB4.out; clear HB4'; (with_reducible refine (H3.out _).mono ?_); rintro e w5 ⟨rfl, hb5⟩; have HB5 := Lib.hid (up_trans HB4.out hb5); clear hb5)
          | ((with_reducible refine (H4.out _).mono ?_); rintro e w4 ⟨rfl, hb4⟩; have HB4 := Lib.hid (up_trans HB3.out hb4); clear hb4))
        | (go_at_call 19; first
          | (have HB6' := HB6.out; clear HB6'; (with_reducible refine (H5.out _).mono ?_); rintro e w7 ⟨rfl, hb7⟩; have HB7 := Lib.hid (up_trans HB6.out hb7); clear hb7)
          | ((with_reducible refine (H6.out _).mono ?_); rintro e w6 ⟨rfl, hb6⟩; have HB6 := Lib.hid (up_trans HB5.out hb6); clear hb6)))
      all_goals go_ret
      all_goals exact ⟨by first | rfl | simp, HB7.out⟩

end Go.Proofs.YtcfecmlfcjgdbaaGreatDoor
