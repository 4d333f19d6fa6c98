/- The law FnExactTypeCanon, walked. -/
import Derived.Test.YtkciljcligohnaaDoorTCan
namespace Go.Proofs.YtkciljcligohnaaDoor
open Go.RowKit
set_option linter.unusedVariables false
set_option linter.unusedSimpArgs false

set_option maxHeartbeats 4000000 in
set_option maxRecDepth 100000 in
theorem lawFnExactTypeCanon (s0 : ByteArray) (w : World) (h0 : s0.size ≤ maxLen) (htab : Lib.TabIs Tryd.prog w "internal/strconv.uint64pow10" .u64 Lib.pow10Tab) :
    Calls Tryd.prog 3 #[.string s0] w fun e w' => e = .returned (.bool true) ∧ Below w.heap.size w w' := by
  have h0' : s0.size ≤ 9223372036854775807 := h0
  have HB : TabB w.heap.size w := Lib.tabBelow_of_tabIs htab
  have H1 : Hid (∀ w1, Below w.heap.size w w1 → Calls Tryd.prog 14 #[.string s0] w1 fun e w' => e = .returned (.tuple #[.string (St ((canonOf (rdTy s0.data.toList)).getD [])), .bool ((canonOf (rdTy s0.data.toList)).isSome)]) ∧ Below w1.heap.size w1 w') := fun w1 hw => specTypeCanon_any s0 w1 h0'
  have H2 : Hid (∀ w1, Below w.heap.size w w1 → Calls Tryd.prog 15 #[.string s0] w1 fun e w' => e = .returned (.tuple #[.string (St ((canonOf (rdTy s0.data.toList)).getD [])), .bool ((canonOf (rdTy s0.data.toList)).isSome)]) ∧ Below w1.heap.size w1 w') := fun w1 hw => TypeCanon_any s0 w.heap.size w1 h0' (HB.below hw) hw.size
  generalize (canonOf (rdTy s0.data.toList)).getD [] = X at *
  generalize (canonOf (rdTy s0.data.toList)).isSome = B at *
  clear h0' HB htab
  cases c0 : decide ((s0.size : Int) > 1048576) with
  | true =>
    have d0 : decide (1048576 < (s0.size : Int)) = true := c0
    go_enter Tryd.func3, Tryd.ntmps3
    go_wp2_with fail
    go_ret
    exact ⟨rfl, Below.refl _ _⟩
  | false =>
    have d0 : decide (1048576 < (s0.size : Int)) = false := c0
    go_enter Tryd.func3, Tryd.ntmps3
    go_wp2_with (first
      | (go_at_call 14; (with_reducible refine (H1.out _ (Below.refl _ _)).mono ?_); rintro e w1 ⟨rfl, hb1⟩; have HB1 := Lib.hid hb1; clear hb1)
      | (go_at_call 15; (with_reducible refine (H2.out _ HB1.out).mono ?_); rintro e w2 ⟨rfl, hb2⟩; have HB2 := Lib.hid (up_trans HB1.out hb2); clear hb2))
    go_ret
    exact ⟨rfl, HB2.out⟩

end Go.Proofs.YtkciljcligohnaaDoor
