/- The law FnSize, walked. -/
import Derived.Test.YtmghnibnokkjjaaDoorCode
import Derived.Test.YtmghnibnokkjjaaDoorTxt
import Derived.Test.YtmghnibnokkjjaaDoorTy4
namespace Go.Proofs.YtmghnibnokkjjaaDoor
open Go.RowKit
set_option linter.unusedVariables false
set_option linter.unusedSimpArgs false

theorem plus_data (s : ByteArray) : ((⟨#[40, 43, 32]⟩ : ByteArray) ++ s ++ ⟨#[32, 49, 41]⟩).data.toList = [40, 43, 32] ++ s.data.toList ++ [32, 49, 41] := by
  simp [ByteArray.data_append]

theorem atoms_pos : ∀ n : NT, 1 ≤ n.atoms
  | .zero => by simp [NT.atoms]
  | .one => by simp [NT.atoms]
  | .name _ => by simp [NT.atoms]
  | .sum a b => by simp only [NT.atoms]; omega
  | .prod a b => by simp only [NT.atoms]; omega
  | .loop s a => by simp only [NT.atoms]; omega

set_option maxHeartbeats 4000000 in
set_option maxRecDepth 100000 in
theorem lawFnSize (a : Option Addr) (n c : Nat) (w : World) (h : CodeRow w a n c) :
    Calls Tryd.prog 6 #[.slice a n c] w fun e w' => e = .returned (.bool true) ∧ Below w.heap.size w w' := by
  have HD := Lib.hid (DrawTypeSize_any a n c w h)
  have HX : Hid (∀ s : ByteArray, s.size ≤ 100000 → ∃ x y : Int, (x = -1 ∨ (1 ≤ x ∧ (y = -1 ∨ y = x + 2))) ∧ x ≤ 400 ∧ -1 ≤ x ∧ Hid (∀ w, Calls Tryd.prog 18 #[.string s] w fun e w' => e = .returned (.int .i64 x) ∧ Below w.heap.size w w') ∧ Hid (∀ w, Calls Tryd.prog 17 #[.string s] w fun e w' => e = .returned (.int .i64 x) ∧ Below w.heap.size w w') ∧
      Hid (∀ w, Calls Tryd.prog 18 #[.string (⟨#[40, 43, 32]⟩ ++ s ++ ⟨#[32, 49, 41]⟩)] w fun e w' => e = .returned (.int .i64 y) ∧ Below w.heap.size w w')) := fun s hs => by
    refine ⟨sizeOfT (rdTy s.data.toList), sizeOfT (rdTy ([40, 43, 32] ++ s.data.toList ++ [32, 49, 41])), ?_, ?_, ?_, fun w => TypeSize_any s w (by omega), fun w => specTypeSize_any s w (by omega), fun w => ?_⟩
    · cases hr : rdTy s.data.toList with
      | none => exact .inl rfl
      | some n =>
        right
        refine ⟨?_, ?_⟩
        · have := atoms_pos n
          simp only [sizeOfT]
          omega
        · rcases rdTy_plus hr with h | h
          · left; rw [h]; rfl
          · right; rw [h]; simp only [sizeOfT, NT.atoms]; omega
    · cases hr : rdTy s.data.toList with
      | none => simp [sizeOfT]
      | some n =>
        have := (rdTy_some hr).2
        simp only [sizeOfT]
        omega
    · cases hr : rdTy s.data.toList with
      | none => simp [sizeOfT]
      | some n => simp only [sizeOfT]; omega
    · have := TypeSize_any (⟨#[40, 43, 32]⟩ ++ s ++ ⟨#[32, 49, 41]⟩) w (by simp only [ByteArray.size_append, zsz, List.size_toArray, List.length_cons, List.length_nil]; omega)
      rw [plus_data] at this
      exact this
  clear h
  cases hc : decide ((n : Int) > 1048576) with
  | true =>
    have hc' : decide (1048576 < n) = true := by simp at hc ⊢; omega
    have hc2 : decide ((1048576 : Int) < (n : Int)) = true := by simp at hc ⊢; omega
    go_enter Tryd.func6, Tryd.ntmps6
    go_wp2_with fail
    go_ret
    exact ⟨rfl, Below.refl _ _⟩
  | false =>
    have hc' : decide (1048576 < n) = false := by simp at hc ⊢; omega
    have hc2 : decide ((1048576 : Int) < (n : Int)) = false := by simp at hc ⊢; omega
    go_enter Tryd.func6, Tryd.ntmps6
    go_wp2_with (first
      | (go_at_call 21; refine HD.out.mono ?_; rintro e w1 ⟨s, hs, rfl, hb1⟩; obtain ⟨x, y, hxy, hx1, hx2, H1, H2, H3⟩ := HX.out s hs; have HXY := Lib.hid hxy; have HB1 := Lib.hid hb1; clear hb1 hxy)
      | (go_at_call 17; (with_reducible refine (H2.out _).mono ?_); rintro e w1 ⟨rfl, hb2⟩; have HB1 := Lib.hid (up_trans HB1.out hb2); clear hb2)
      | (go_at_call 18; first
        | ((with_reducible refine (H1.out _).mono ?_); rintro e w1 ⟨rfl, hb2⟩; have HB1 := Lib.hid (up_trans HB1.out hb2); clear hb2)
        | ((with_reducible refine (H3.out _).mono ?_); rintro e w1 ⟨rfl, hb2⟩; have HB1 := Lib.hid (up_trans HB1.out hb2); clear hb2)))
    all_goals go_ret
    all_goals have hxy := HXY.out
    all_goals first
      | exact ⟨rfl, HB1.out⟩
      | (exfalso; simp at *; omega)
      | (refine ⟨congrArg (fun z => Ending.returned (.bool z)) ?_, HB1.out⟩; simp; omega)

end Go.Proofs.YtmghnibnokkjjaaDoor
