/- The law FnExactHoleCount, walked. -/
import Derived.Test.YtpokompplapkhaaGreatDoorHolF
namespace Go.Proofs.YtpokompplapkhaaGreatDoor
open Go.RowKit
set_option linter.unusedVariables false
set_option linter.unusedSimpArgs false

set_option maxHeartbeats 4000000 in
set_option maxRecDepth 100000 in
theorem lawFnExactHoleCount (s0 : ByteArray) (s1 : ByteArray) (s2 : ByteArray) (w : World) (h0 : s0.size ≤ maxLen) (h1 : s1.size ≤ maxLen) (h2 : s2.size ≤ maxLen) :
    Calls Tryz.prog 4 #[.string s0, .string s1, .string s2] w fun e w' => e = .returned (.bool true) ∧ Below w.heap.size w w' := by
  have h0' : s0.size ≤ 9223372036854775807 := h0
  have h1' : s1.size ≤ 9223372036854775807 := h1
  have h2' : s2.size ≤ 9223372036854775807 := h2
  have H1 : Hid (∀ w1, Below w.heap.size w w1 → Calls Tryz.prog 16 #[.string s0, .string s1, .string s2] w1 fun e w' => e = .returned (.int .i64 (hcB s0.data.toList s1.data.toList s2.data.toList)) ∧ Below w1.heap.size w1 w') := fun w1 hw => specHoleCount_any s0 s1 s2 w1 h0' h2'
  have H2 : Hid (∀ w1, Below w.heap.size w w1 → Calls Tryz.prog 17 #[.string s0, .string s1, .string s2] w1 fun e w' => e = .returned (.int .i64 (hcB s0.data.toList s1.data.toList s2.data.toList)) ∧ Below w1.heap.size w1 w') := fun w1 hw => HoleCount_any s0 s1 s2 w1 h0' h2' h1'
  generalize hcB s0.data.toList s1.data.toList s2.data.toList = B at *
  clear h0' h1' h2'
  cases c0 : decide ((s0.size : Int) > 1048576) with
  | true =>
    have d0 : decide (1048576 < (s0.size : Int)) = true := c0
    go_enter Tryz.func4, Tryz.ntmps4
    go_wp2_with fail
    go_ret
    exact ⟨rfl, Below.refl _ _⟩
  | false =>
    have d0 : decide (1048576 < (s0.size : Int)) = false := c0
    cases c1 : decide ((s1.size : Int) > 1048576) with
    | true =>
      have d1 : decide (1048576 < (s1.size : Int)) = true := c1
      go_enter Tryz.func4, Tryz.ntmps4
      go_wp2_with fail
      go_ret
      exact ⟨rfl, Below.refl _ _⟩
    | false =>
      have d1 : decide (1048576 < (s1.size : Int)) = false := c1
      cases c2 : decide ((s2.size : Int) > 1048576) with
      | true =>
        have d2 : decide (1048576 < (s2.size : Int)) = true := c2
        go_enter Tryz.func4, Tryz.ntmps4
        go_wp2_with fail
        go_ret
        exact ⟨rfl, Below.refl _ _⟩
      | false =>
        have d2 : decide (1048576 < (s2.size : Int)) = false := c2
        go_enter Tryz.func4, Tryz.ntmps4
        go_wp2_with (first
          | (go_at_call 16; (with_reducible refine (H1.out _ (Below.refl _ _)).mono ?_); rintro e w1 ⟨rfl, hb1⟩; have HB1 := Lib.hid hb1; clear hb1)
          | (go_at_call 17; (with_reducible refine (H2.out _ HB1.out).mono ?_); rintro e w2 ⟨rfl, hb2⟩; have HB2 := Lib.hid (up_trans HB1.out hb2); clear hb2))
        go_ret
        exact ⟨rfl, HB2.out⟩

end Go.Proofs.YtpokompplapkhaaGreatDoor
