/- The law FnCanon, walked. -/
import Derived.Test.YtkciljcligohnaaDoorML
import Derived.Test.YtkciljcligohnaaDoorMJ
namespace Go.Proofs.YtkciljcligohnaaDoor
open Go.RowKit
set_option linter.unusedVariables false
set_option linter.unusedSimpArgs false

theorem canonOf_some {o : Option NT} {c : List UInt8} (h : canonOf o = some c) : ∃ n, o = some n ∧ (n.db []).told = some c := by
  cases o with
  | none => cases h
  | some n => exact ⟨n, rfl, h⟩
theorem told_len {n : NT} (hn : n.ok3) {c : List UInt8} (h : (n.db []).told = some c) : c.length ≤ 8000 := by
  obtain ⟨h1, _⟩ := told_rd hn h
  exact (rdTy_tr h1).2.2.2.1

set_option maxHeartbeats 4000000 in
set_option maxRecDepth 100000 in
theorem lawFnCanon (a : Option Addr) (n c : Nat) (w : World) (h : CodeRow w a n c) (htab : Lib.TabIs Tryd.prog w "internal/strconv.uint64pow10" .u64 Lib.pow10Tab) :
    Calls Tryd.prog 10 #[.slice a n c] w fun e w' => e = .returned (.bool true) ∧ Below w.heap.size w w' := by
  have HD := Lib.hid (DrawTypeCanon_any a n c w h)
  have HTB : Hid (TabB w.heap.size w) := Lib.tabBelow_of_tabIs htab
  clear h htab
  cases hc : decide ((n : Int) > 1048576) with
  | true =>
    have hc' : decide (1048576 < n) = true := by simp at hc ⊢; omega
    have hc2 : decide ((1048576 : Int) < (n : Int)) = true := by simp at hc ⊢; omega
    go_enter Tryd.func10, Tryd.ntmps10
    go_wp2_with fail
    go_ret
    exact ⟨rfl, Below.refl _ _⟩
  | false =>
    have hc' : decide (1048576 < n) = false := by simp at hc ⊢; omega
    have hc2 : decide ((1048576 : Int) < (n : Int)) = false := by simp at hc ⊢; omega
    go_enter Tryd.func10, Tryd.ntmps10
    go_wp2_with (go_at_call 35; refine HD.out.mono ?_; rintro e w1 ⟨s, hs, rfl, hb1⟩; have HB1 := Lib.hid hb1; have HS := Lib.hid hs; clear hb1 hs)
    have hs9 : s.size ≤ 9223372036854775807 := by have := HS.out; omega
    have H1 := Lib.hid fun w1 (hw : Below w.heap.size w w1) => TypeCanon_any s w.heap.size w1 hs9 (HTB.out.below hw) hw.size
    have H2 := Lib.hid fun w1 => specTypeCanon_any s w1 hs9
    cases ho : canonOf (rdTy s.data.toList) with
    | none =>
      rw [ho] at H1 H2
      replace H1 : Hid (∀ w1, Below w.heap.size w w1 → Calls Tryd.prog 15 #[.string s] w1 fun e w' => e = .returned (.tuple #[.string (St []), .bool false]) ∧ Below w1.heap.size w1 w') := H1
      replace H2 : Hid (∀ w1, Calls Tryd.prog 14 #[.string s] w1 fun e w' => e = .returned (.tuple #[.string (St []), .bool false]) ∧ Below w1.heap.size w1 w') := H2
      clear ho
      go_wp2_with (first
        | (go_at_call 15; (with_reducible refine (H1.out _ HB1.out).mono ?_); rintro e w2 ⟨rfl, hb2⟩; have HB2 := Lib.hid (up_trans HB1.out hb2); clear hb2)
        | (go_at_call 14; (with_reducible refine (H2.out _).mono ?_); rintro e w3 ⟨rfl, hb3⟩; have HB3 := Lib.hid (up_trans HB2.out hb3); clear hb3))
      go_ret
      exact ⟨rfl, HB3.out⟩
    | some c =>
      obtain ⟨m, hm, ht⟩ := canonOf_some ho
      have hok := ok_ok3 (rdTy_some hm).1
      obtain ⟨m2, hm2, hok2, hdb, _, _, ht2⟩ := told_db hok ht
      have hcl := told_len hok ht
      have H3 : Hid (∀ w1, Below w.heap.size w w1 → Calls Tryd.prog 15 #[.string (St c)] w1 fun e w' => e = .returned (.tuple #[.string (St c), .bool true]) ∧ Below w1.heap.size w1 w') := fun w1 hw => by
        have := TypeCanon_any (St c) w.heap.size w1 (by show c.length ≤ _; omega) (HTB.out.below hw) hw.size
        rw [show canonOf (rdTy (St c).data.toList) = some c by show canonOf (rdTy c) = _; rw [hm2]; exact ht2] at this
        exact this
      have H4 : Hid (∀ w1, Calls Tryd.prog 21 #[.string s, .string (St c)] w1 fun e w' => e = .returned (.bool true) ∧ Below w1.heap.size w1 w') := fun w1 => by
        have := TypeAlike_any s (St c) w1 hs9 (by show c.length ≤ _; omega)
        rw [show alikeOf (rdTy s.data.toList) (rdTy (St c).data.toList) = true by
          show alikeOf _ (rdTy c) = _
          rw [hm, hm2]
          exact decide_eq_true hdb.symm] at this
        exact this
      rw [ho] at H1 H2
      replace H1 : Hid (∀ w1, Below w.heap.size w w1 → Calls Tryd.prog 15 #[.string s] w1 fun e w' => e = .returned (.tuple #[.string (St c), .bool true]) ∧ Below w1.heap.size w1 w') := H1
      replace H2 : Hid (∀ w1, Calls Tryd.prog 14 #[.string s] w1 fun e w' => e = .returned (.tuple #[.string (St c), .bool true]) ∧ Below w1.heap.size w1 w') := H2
      clear ho hm ht hok hm2 hok2 hdb ht2 hcl
      go_wp2_with (first
        | (go_at_call 15; first
          | (have HB3' := HB3.out; clear HB3'; (with_reducible refine (H3.out _ HB3.out).mono ?_); rintro e w4 ⟨rfl, hb4⟩; have HB4 := Lib.hid (up_trans HB3.out hb4); clear hb4)
          | ((with_reducible refine (H1.out _ HB1.out).mono ?_); rintro e w2 ⟨rfl, hb2⟩; have HB2 := Lib.hid (up_trans HB1.out hb2); clear hb2))
        | (go_at_call 14; (with_reducible refine (H2.out _).mono ?_); rintro e w3 ⟨rfl, hb3⟩; have HB3 := Lib.hid (up_trans HB2.out hb3); clear hb3)
        | (go_at_call 21; (with_reducible refine (H4.out _).mono ?_); rintro e w5 ⟨rfl, hb5⟩; have HB5 := Lib.hid (up_trans HB4.out hb5); clear hb5))
      go_ret
      exact ⟨rfl, HB5.out⟩

end Go.Proofs.YtkciljcligohnaaDoor
