/- The law FnExactDerivPlaces, walked. -/
import Derived.Test.YtmghnibnokkjjaaDoorSUse
namespace Go.Proofs.YtmghnibnokkjjaaDoor
open Go.RowKit
set_option linter.unusedVariables false
set_option linter.unusedSimpArgs false

theorem lawFnExactDerivPlaces (s t : ByteArray) (w : World) (hs : s.size ≤ maxLen) (ht : t.size ≤ maxLen) :
    Calls Tryd.prog 5 #[.string s, .string t] w fun e w' => e = .returned (.bool true) ∧ Below w.heap.size w w' := by
  have hs' : s.size ≤ 9223372036854775807 := hs
  have H1 : Hid (∀ w, Calls Tryd.prog 19 #[.string s, .string t] w fun e w' => e = .returned (.int .i64 (placesOf (rdTy s.data.toList) t.data.toList)) ∧ Below w.heap.size w w') := fun w => specDerivPlaces_any s t.data.toList w hs'
  have H2 : Hid (∀ w, Calls Tryd.prog 20 #[.string s, .string t] w fun e w' => e = .returned (.int .i64 (placesOf (rdTy s.data.toList) t.data.toList)) ∧ Below w.heap.size w w') := fun w => DerivPlaces_any s t.data.toList w hs'
  clear hs hs' ht
  generalize placesOf (rdTy s.data.toList) t.data.toList = b at *
  cases hc : decide ((s.size : Int) > 1048576) with
  | true =>
    have hc' : decide (1048576 < (s.size : Int)) = true := hc
    go_enter Tryd.func5, Tryd.ntmps5
    go_wp2_with fail
    go_ret
    exact ⟨rfl, Below.refl _ _⟩
  | false =>
    have hc' : decide (1048576 < (s.size : Int)) = false := hc
    cases hd : decide ((t.size : Int) > 1048576) with
    | true =>
      have hd' : decide (1048576 < (t.size : Int)) = true := hd
      go_enter Tryd.func5, Tryd.ntmps5
      go_wp2_with fail
      go_ret
      exact ⟨rfl, Below.refl _ _⟩
    | false =>
      have hd' : decide (1048576 < (t.size : Int)) = false := hd
      have hb : (b != b) = false := by simp
      go_enter Tryd.func5, Tryd.ntmps5
      go_wp2_with (first
        | (go_at_call 19; refine (H1.out _).mono ?_; rintro e w1 ⟨rfl, hb1⟩; have HB1 := Lib.hid hb1; clear hb1)
        | (go_at_call 20; refine (H2.out _).mono ?_; rintro e w2 ⟨rfl, hb2⟩; have HB2 := Lib.hid (up_trans HB1.out hb2); clear hb2))
      go_ret
      exact ⟨rfl, HB2.out⟩

end Go.Proofs.YtmghnibnokkjjaaDoor
