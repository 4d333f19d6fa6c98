/- The law FnExactDerivLoop, walked. -/
import Derived.Test.YtcfecmlfcjgdbaaDoorSDrvL
namespace Go.Proofs.YtcfecmlfcjgdbaaDoor
open Go.RowKit
set_option linter.unusedVariables false
set_option linter.unusedSimpArgs false

set_option maxHeartbeats 4000000 in
set_option maxRecDepth 100000 in
theorem lawFnExactDerivLoop (s0 : ByteArray) (w : World) (h0 : s0.size ≤ maxLen) (htab : Lib.TabIs Tryd.prog w "internal/strconv.uint64pow10" .u64 Lib.pow10Tab) :
    Calls Tryd.prog 4 #[.string s0] w fun e w' => e = .returned (.bool true) ∧ Below w.heap.size w w' := by
  have h0' : s0.size ≤ 9223372036854775807 := h0
  have HB : TabB w.heap.size w := Lib.tabBelow_of_tabIs htab
  have H1 : Hid (∀ w1, Below w.heap.size w w1 → Calls Tryd.prog 11 #[.string s0] w1 fun e w' => e = .returned (.tuple #[.string (St ((derivLoopOf (rdTy s0.data.toList)).getD [])), .bool ((derivLoopOf (rdTy s0.data.toList)).isSome)]) ∧ Below w1.heap.size w1 w') := fun w1 hw => specDerivLoop_any s0 w1 h0'
  have H2 : Hid (∀ w1, Below w.heap.size w w1 → Calls Tryd.prog 12 #[.string s0] w1 fun e w' => e = .returned (.tuple #[.string (St ((derivLoopOf (rdTy s0.data.toList)).getD [])), .bool ((derivLoopOf (rdTy s0.data.toList)).isSome)]) ∧ Below w1.heap.size w1 w') := fun w1 hw => DerivLoop_any s0 w.heap.size w1 h0' (HB.below hw) hw.size
  generalize (derivLoopOf (rdTy s0.data.toList)).getD [] = X at *
  generalize (derivLoopOf (rdTy s0.data.toList)).isSome = B at *
  clear h0' HB htab
  cases c0 : decide ((s0.size : Int) > 1048576) with
  | true =>
    have d0 : decide (1048576 < (s0.size : Int)) = true := c0
    go_enter Tryd.func4, Tryd.ntmps4
    go_wp2_with fail
    go_ret
    exact ⟨rfl, Below.refl _ _⟩
  | false =>
    have d0 : decide (1048576 < (s0.size : Int)) = false := c0
    go_enter Tryd.func4, Tryd.ntmps4
    go_wp2_with (first
      | (go_at_call 11; (with_reducible refine (H1.out _ (Below.refl _ _)).mono ?_); rintro e w1 ⟨rfl, hb1⟩; have HB1 := Lib.hid hb1; clear hb1)
      | (go_at_call 12; (with_reducible refine (H2.out _ HB1.out).mono ?_); rintro e w2 ⟨rfl, hb2⟩; have HB2 := Lib.hid (up_trans HB1.out hb2); clear hb2))
    go_ret
    exact ⟨rfl, HB2.out⟩

end Go.Proofs.YtcfecmlfcjgdbaaDoor
