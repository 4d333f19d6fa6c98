/- The law FnValueSize, walked. -/
import Derived.Test.YtcfecmlfcjgdbaaDoorVDraw
import Derived.Test.YtcfecmlfcjgdbaaDoorMB
import Derived.Test.YtcfecmlfcjgdbaaDoorMJ
namespace Go.Proofs.YtcfecmlfcjgdbaaDoor
open Go.RowKit
set_option linter.unusedVariables false
set_option linter.unusedSimpArgs false

theorem rdVal_tree {l : List UInt8} {v : V} (h : rdVal l = some v) : ∃ t, l = t.txt ∧ t.wf ∧ valOf t = some v := by
  unfold rdVal at h
  split at h
  · cases h
  · rename_i t ht
    obtain ⟨h1, hw, _, _⟩ := rdText_inv ht
    split at h
    · cases h
    · rename_i m hm
      split at h
      · cases h
      · cases h
        exact ⟨t, h1, hw, hm⟩
/-- A pair's text: read as the pair, or too great. -/
theorem rdVal_pair {l : List UInt8} {v : V} (h : rdVal l = some v) (s2 : List UInt8) (v2 : V) (hs2 : (Tr.mk s2 []).wf) (hv2 : valOf (.mk s2 []) = some v2) (htx : (Tr.mk s2 []).txt = s2) :
    rdVal ([40, 112, 32] ++ l ++ [32] ++ s2 ++ [41]) = none ∨ rdVal ([40, 112, 32] ++ l ++ [32] ++ s2 ++ [41]) = some (.p v v2) := by
  obtain ⟨t, rfl, hw, hv⟩ := rdVal_tree h
  have hT : (Tr.mk [] [.mk [112] [], t, .mk s2 []]).wf := wf2 ⟨by simp, by decide⟩ hw hs2
  have ht : [40, 112, 32] ++ t.txt ++ [32] ++ s2 ++ [41] = (Tr.mk [] [.mk [112] [], t, .mk s2 []]).txt := by
    rw [txt_three [112] (by simp), htx]
    simp
  have hty : valOf (Tr.mk [] [.mk [112] [], t, .mk s2 []]) = some (.p v v2) := by
    rw [valOf_three (by simp) elemB_nil, hv, hv2]
    rfl
  rw [ht]
  unfold rdVal
  rw [rdText_txt hT]
  split
  · exact .inl rfl
  · rename_i u hu
    split at hu
    · cases hu
      rw [hty]
      simp only
      split
      · exact .inl rfl
      · exact .inr rfl
    · cases hu
theorem vnodes_pos : ∀ v : V, 1 ≤ v.nodes
  | .u => by simp [V.nodes]
  | .el _ => by simp [V.nodes]
  | .l a => by simp only [V.nodes]; omega
  | .r a => by simp only [V.nodes]; omega
  | .f a => by simp only [V.nodes]; omega
  | .p a b => by simp only [V.nodes]; omega
theorem pu_data (s : ByteArray) : ((⟨#[40, 112, 32]⟩ : ByteArray) ++ s ++ ⟨#[32, 117, 41]⟩).data.toList = [40, 112, 32] ++ s.data.toList ++ [32] ++ [117] ++ [41] := by
  simp [ByteArray.data_append]
theorem pe_data (s : ByteArray) : ((⟨#[40, 112, 32]⟩ : ByteArray) ++ s ++ ⟨#[32, 101, 55, 41]⟩).data.toList = [40, 112, 32] ++ s.data.toList ++ [32] ++ [101, 55] ++ [41] := by
  simp [ByteArray.data_append]

set_option maxHeartbeats 4000000 in
set_option maxRecDepth 100000 in
theorem lawFnValueSize (a : Option Addr) (n c : Nat) (w : World) (h : CodeRow w a n c) :
    Calls Tryd.prog 8 #[.slice a n c] w fun e w' => e = .returned (.bool true) ∧ Below w.heap.size w w' := by
  have HD := Lib.hid (DrawValueSize_any a n c w h)
  have HX : Hid (∀ s : ByteArray, s.size ≤ 100000000000 → ∃ x y : Int, (x = -1 ∨ (1 ≤ x ∧ (y = -1 ∨ y = x + 2))) ∧ x ≤ 200 ∧ -1 ≤ x ∧ Hid (∀ w, Calls Tryd.prog 24 #[.string s] w fun e w' => e = .returned (.int .i64 x) ∧ Below w.heap.size w w') ∧ Hid (∀ w, Calls Tryd.prog 25 #[.string s] w fun e w' => e = .returned (.int .i64 x) ∧ Below w.heap.size w w') ∧
      Hid (∀ w, Calls Tryd.prog 24 #[.string (⟨#[40, 112, 32]⟩ ++ s ++ ⟨#[32, 117, 41]⟩)] w fun e w' => e = .returned (.int .i64 y) ∧ Below w.heap.size w w')) := fun s hs => by
    refine ⟨sizeOfV (rdVal s.data.toList), sizeOfV (rdVal ([40, 112, 32] ++ s.data.toList ++ [32] ++ [117] ++ [41])), ?_, ?_, ?_, fun w => ValueSize_any s w (by omega), fun w => specValueSize_any s w (by omega), fun w => ?_⟩
    · cases hr : rdVal s.data.toList with
      | none => exact .inl rfl
      | some n =>
        right
        refine ⟨?_, ?_⟩
        · have := vnodes_pos n
          simp only [sizeOfV]
          omega
        · rcases rdVal_pair hr [117] .u (.inl ⟨by simp, by decide, rfl⟩) (valOf_u []) (by simp [Tr.txt]) with h | h
          · left; rw [h]; rfl
          · right; rw [h]; simp only [sizeOfV, V.nodes]; omega
    · cases hr : rdVal s.data.toList with
      | none => simp [sizeOfV]
      | some n =>
        have := rdVal_nodes hr
        simp only [sizeOfV]
        omega
    · cases hr : rdVal s.data.toList with
      | none => simp [sizeOfV]
      | some n => simp only [sizeOfV]; omega
    · have := ValueSize_any (⟨#[40, 112, 32]⟩ ++ s ++ ⟨#[32, 117, 41]⟩) w (by simp only [ByteArray.size_append, zsz, List.size_toArray, List.length_cons, List.length_nil]; omega)
      rw [pu_data] at this
      exact this
  clear h
  cases hc : decide ((n : Int) > 1048576) with
  | true =>
    have hc' : decide (1048576 < n) = true := by simp at hc ⊢; omega
    have hc2 : decide ((1048576 : Int) < (n : Int)) = true := by simp at hc ⊢; omega
    go_enter Tryd.func8, Tryd.ntmps8
    go_wp2_with fail
    go_ret
    exact ⟨rfl, Below.refl _ _⟩
  | false =>
    have hc' : decide (1048576 < n) = false := by simp at hc ⊢; omega
    have hc2 : decide ((1048576 : Int) < (n : Int)) = false := by simp at hc ⊢; omega
    go_enter Tryd.func8, Tryd.ntmps8
    go_wp2_with (first
      | (go_at_call 23; refine HD.out.mono ?_; rintro e w1 ⟨s, hs, rfl, hb1⟩; obtain ⟨x, y, hxy, hx1, hx2, H1, H2, H3⟩ := HX.out s hs; have HXY := Lib.hid hxy; have HB1 := Lib.hid hb1; clear hb1 hxy)
      | (go_at_call 25; (with_reducible refine (H2.out _).mono ?_); rintro e w1 ⟨rfl, hb2⟩; have HB1 := Lib.hid (up_trans HB1.out hb2); clear hb2)
      | (go_at_call 24; first
        | ((with_reducible refine (H1.out _).mono ?_); rintro e w1 ⟨rfl, hb2⟩; have HB1 := Lib.hid (up_trans HB1.out hb2); clear hb2)
        | ((with_reducible refine (H3.out _).mono ?_); rintro e w1 ⟨rfl, hb2⟩; have HB1 := Lib.hid (up_trans HB1.out hb2); clear hb2)))
    all_goals go_ret
    all_goals have hxy := HXY.out
    all_goals first
      | exact ⟨rfl, HB1.out⟩
      | (exfalso; simp at *; omega)
      | (refine ⟨congrArg (fun z => Ending.returned (.bool z)) ?_, HB1.out⟩; simp; omega)


end Go.Proofs.YtcfecmlfcjgdbaaDoor
