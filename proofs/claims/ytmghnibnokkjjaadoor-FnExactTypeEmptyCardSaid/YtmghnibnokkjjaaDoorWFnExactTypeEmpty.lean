/- The law FnExactTypeEmpty, walked. -/
import Derived.Test.YtmghnibnokkjjaaDoorTEmp
import Derived.Test.YtmghnibnokkjjaaDoorSTy3
namespace Go.Proofs.YtmghnibnokkjjaaDoor
open Go.RowKit
set_option linter.unusedVariables false
set_option linter.unusedSimpArgs false

theorem lawFnExactTypeEmpty (s : ByteArray) (w : World) (hs : s.size ≤ maxLen) :
    Calls Tryd.prog 8 #[.string s] w fun e w' => e = .returned (.bool true) ∧ Below w.heap.size w w' := by
  have hs' : s.size ≤ 9223372036854775807 := hs
  have H1 := Lib.hid fun w => specTypeEmpty_any s w hs'
  have H2 := Lib.hid fun w => TypeEmpty_any s w hs'
  clear hs hs'
  generalize emptyOf (rdTy s.data.toList) = b at *
  cases hc : decide ((s.size : Int) > 1048576) with
  | true =>
    have hc' : decide (1048576 < (s.size : Int)) = true := hc
    go_enter Tryd.func8, Tryd.ntmps8
    go_wp2_with fail
    go_ret
    exact ⟨rfl, Below.refl _ _⟩
  | false =>
    have hc' : decide (1048576 < (s.size : Int)) = false := hc
    have hb : (b != b) = false := by cases b <;> rfl
    go_enter Tryd.func8, Tryd.ntmps8
    go_wp2_with (first
      | (go_at_call 24; refine (H1.out _).mono ?_; rintro e w1 ⟨rfl, hb1⟩; have HB1 := Lib.hid hb1; clear hb1)
      | (go_at_call 25; refine (H2.out _).mono ?_; rintro e w2 ⟨rfl, hb2⟩; have HB2 := Lib.hid (up_trans HB1.out hb2); clear hb2))
    go_ret
    exact ⟨rfl, HB2.out⟩

end Go.Proofs.YtmghnibnokkjjaaDoor
