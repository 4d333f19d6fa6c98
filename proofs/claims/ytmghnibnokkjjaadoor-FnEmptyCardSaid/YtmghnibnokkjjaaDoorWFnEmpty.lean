/- The law FnEmpty, walked. -/
import Derived.Test.YtmghnibnokkjjaaDoorDraw4
import Derived.Test.YtmghnibnokkjjaaDoorTEmp
namespace Go.Proofs.YtmghnibnokkjjaaDoor
open Go.RowKit
set_option linter.unusedVariables false
set_option linter.unusedSimpArgs false

theorem mul_data (s : ByteArray) : ((⟨#[40, 42, 32]⟩ : ByteArray) ++ s ++ ⟨#[32, 120, 41]⟩).data.toList = [40, 42, 32] ++ s.data.toList ++ [32] ++ [120] ++ [41] := by
  simp [ByteArray.data_append]
theorem sum0_data (s : ByteArray) : ((⟨#[40, 43, 32, 48, 32]⟩ : ByteArray) ++ s ++ ⟨#[41]⟩).data.toList = [40, 43, 32] ++ [48] ++ [32] ++ s.data.toList ++ [41] := by
  simp [ByteArray.data_append]

theorem empty_mul {l : List UInt8} (h : emptyOf (rdTy l) = true) : (rdTy ([40, 42, 32] ++ l ++ [32] ++ [120] ++ [41])).isSome = true → emptyOf (rdTy ([40, 42, 32] ++ l ++ [32] ++ [120] ++ [41])) = true := by
  cases hr : rdTy l with
  | none => rw [hr] at h; cases h
  | some n =>
    rw [hr] at h
    obtain ⟨t, rfl, hw, ht⟩ := rdTy_tree hr
    have := rdTy_bin false t (.mk [120] []) n (.name [120]) hw (.inl ⟨by simp, by decide, rfl⟩) ht (tyOf_name (.inl (by decide)) [])
    simp only [show (Tr.mk [120] []).txt = [120] from by simp [Tr.txt], Bool.false_eq_true, if_false] at this
    intro hs
    rcases this with h2 | h2
    · rw [h2] at hs; cases hs
    · rw [h2]
      have h3 : (n.db []).emp = true := h
      simp [emptyOf, NT.db, Ty.emp, h3]
theorem empty_sum {l : List UInt8} (h : emptyOf (rdTy l) = true) : (rdTy ([40, 43, 32] ++ [48] ++ [32] ++ l ++ [41])).isSome = true → emptyOf (rdTy ([40, 43, 32] ++ [48] ++ [32] ++ l ++ [41])) = true := by
  cases hr : rdTy l with
  | none => rw [hr] at h; cases h
  | some n =>
    rw [hr] at h
    obtain ⟨t, rfl, hw, ht⟩ := rdTy_tree hr
    have := rdTy_bin true (.mk [48] []) t .zero n (.inl ⟨by simp, by decide, rfl⟩) hw (tyOf_zero []) ht
    simp only [show (Tr.mk [48] []).txt = [48] from by simp [Tr.txt], if_true] at this
    intro hs
    rcases this with h2 | h2
    · rw [h2] at hs; cases hs
    · rw [h2]
      have h3 : (n.db []).emp = true := h
      simp [emptyOf, NT.db, Ty.emp, h3]

set_option maxHeartbeats 4000000 in
set_option maxRecDepth 100000 in
theorem lawFnEmpty (a : Option Addr) (n c : Nat) (w : World) (h : CodeRow w a n c) :
    Calls Tryd.prog 11 #[.slice a n c] w fun e w' => e = .returned (.bool true) ∧ Below w.heap.size w w' := by
  have HD := Lib.hid (DrawTypeEmpty_any a n c w h)
  have HX : Hid (∀ s : ByteArray, s.size ≤ 100000 → ∃ b va ea vb eb : Bool, (b = true → (va = true → ea = true) ∧ (vb = true → eb = true)) ∧ Hid (∀ w, Calls Tryd.prog 25 #[.string s] w fun e w' => e = .returned (.bool b) ∧ Below w.heap.size w w') ∧ Hid (∀ w, Calls Tryd.prog 24 #[.string s] w fun e w' => e = .returned (.bool b) ∧ Below w.heap.size w w') ∧
      Hid (∀ w, Calls Tryd.prog 16 #[.string (⟨#[40, 42, 32]⟩ ++ s ++ ⟨#[32, 120, 41]⟩)] w fun e w' => e = .returned (.bool va) ∧ Below w.heap.size w w') ∧ Hid (∀ w, Calls Tryd.prog 25 #[.string (⟨#[40, 42, 32]⟩ ++ s ++ ⟨#[32, 120, 41]⟩)] w fun e w' => e = .returned (.bool ea) ∧ Below w.heap.size w w') ∧
      Hid (∀ w, Calls Tryd.prog 16 #[.string (⟨#[40, 43, 32, 48, 32]⟩ ++ s ++ ⟨#[41]⟩)] w fun e w' => e = .returned (.bool vb) ∧ Below w.heap.size w w') ∧ Hid (∀ w, Calls Tryd.prog 25 #[.string (⟨#[40, 43, 32, 48, 32]⟩ ++ s ++ ⟨#[41]⟩)] w fun e w' => e = .returned (.bool eb) ∧ Below w.heap.size w w')) := fun s hs => by
    have s1 : ((⟨#[40, 42, 32]⟩ : ByteArray) ++ s ++ ⟨#[32, 120, 41]⟩).size ≤ 9223372036854775807 := by simp only [ByteArray.size_append, zsz, List.size_toArray, List.length_cons, List.length_nil]; omega
    have s2 : ((⟨#[40, 43, 32, 48, 32]⟩ : ByteArray) ++ s ++ ⟨#[41]⟩).size ≤ 9223372036854775807 := by simp only [ByteArray.size_append, zsz, List.size_toArray, List.length_cons, List.length_nil]; omega
    refine ⟨emptyOf (rdTy s.data.toList), _, _, _, _, fun hb => ⟨empty_mul hb, empty_sum hb⟩, fun w => TypeEmpty_any s w (by omega), fun w => specTypeEmpty_any s w (by omega), fun w => ?_, fun w => ?_, fun w => ?_, fun w => ?_⟩
    · have := TypeValid_any _ w s1
      rwa [mul_data] at this
    · have := TypeEmpty_any _ w s1
      rwa [mul_data] at this
    · have := TypeValid_any _ w s2
      rwa [sum0_data] at this
    · have := TypeEmpty_any _ w s2
      rwa [sum0_data] at this
  clear h
  cases hc : decide ((n : Int) > 1048576) with
  | true =>
    have hc' : decide (1048576 < n) = true := by simp at hc ⊢; omega
    have hc2 : decide ((1048576 : Int) < (n : Int)) = true := by simp at hc ⊢; omega
    go_enter Tryd.func11, Tryd.ntmps11
    go_wp2_with fail
    go_ret
    exact ⟨rfl, Below.refl _ _⟩
  | false =>
    have hc' : decide (1048576 < n) = false := by simp at hc ⊢; omega
    have hc2 : decide ((1048576 : Int) < (n : Int)) = false := by simp at hc ⊢; omega
    go_enter Tryd.func11, Tryd.ntmps11
    go_wp2_with (first
      | (go_at_call 33; refine HD.out.mono ?_; rintro e w1 ⟨s, hs, rfl, hb1⟩; obtain ⟨b, va, ea, vb, eb, hf, H1, H2, H3, H4, H5, H6⟩ := HX.out s hs; have HF := Lib.hid hf; have HB1 := Lib.hid hb1; clear hb1 hf)
      | (go_at_call 24; (with_reducible refine (H2.out _).mono ?_); rintro e w1 ⟨rfl, hb2⟩; have HB1 := Lib.hid (up_trans HB1.out hb2); clear hb2)
      | (go_at_call 16; first
        | ((with_reducible refine (H3.out _).mono ?_); rintro e w1 ⟨rfl, hb2⟩; have HB1 := Lib.hid (up_trans HB1.out hb2); clear hb2)
        | ((with_reducible refine (H5.out _).mono ?_); rintro e w1 ⟨rfl, hb2⟩; have HB1 := Lib.hid (up_trans HB1.out hb2); clear hb2))
      | (go_at_call 25; first
        | ((with_reducible refine (H1.out _).mono ?_); rintro e w1 ⟨rfl, hb2⟩; have HB1 := Lib.hid (up_trans HB1.out hb2); clear hb2)
        | ((with_reducible refine (H4.out _).mono ?_); rintro e w1 ⟨rfl, hb2⟩; have HB1 := Lib.hid (up_trans HB1.out hb2); clear hb2)
        | ((with_reducible refine (H6.out _).mono ?_); rintro e w1 ⟨rfl, hb2⟩; have HB1 := Lib.hid (up_trans HB1.out hb2); clear hb2)))
    all_goals go_ret
    all_goals have hf := HF.out
    all_goals first
      | exact ⟨rfl, HB1.out⟩
      | (exfalso; simp_all; done)
      | (refine ⟨congrArg (fun z => Ending.returned (.bool z)) ?_, HB1.out⟩; simp_all; done)
      | (refine ⟨congrArg (fun z => Ending.returned (.bool z)) ?_, HB1.out⟩; revert hf; cases b <;> cases va <;> cases ea <;> cases vb <;> cases eb <;> simp_all)

end Go.Proofs.YtmghnibnokkjjaaDoor
