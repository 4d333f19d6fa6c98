/- The law FnValue, walked. -/
import Derived.Test.YtcgccdhmenobkaaDoorND
import Derived.Test.YtcgccdhmenobkaaDoorMB
import Derived.Test.YtcgccdhmenobkaaDoorVElemI
import Derived.Test.YtcgccdhmenobkaaDoorMJ
namespace Go.Proofs.YtcgccdhmenobkaaDoor
set_option maxHeartbeats 4000000
set_option maxRecDepth 100000
open Go.RowKit
set_option linter.unusedVariables false
set_option linter.unusedSimpArgs false
theorem rdVal_tree1 {l : List UInt8} {v : V} (h : rdVal l = some v) : ∃ t, l = t.txt /\ t.wf /\ valOf t = some v := by
 unfold rdVal at h
 split at h
 · cases h
 · rename_i t ht
   obtain ⟨h1, hw, _, _⟩ := rdText_inv ht
   split at h
   · cases h
   · rename_i m hm
     split at h
     · cases h
     · cases h
       exact ⟨t, h1, hw, hm⟩
theorem rdVal_left {l : List UInt8} {v : V} (h : rdVal l = some v) : rdVal ([40, 108, 32] ++ l ++ [41]) = none \/ rdVal ([40, 108, 32] ++ l ++ [41]) = some (.l v) := by
 obtain ⟨t, rfl, hw, hv⟩ := rdVal_tree1 h
 have hT : (Tr.mk [] [.mk [108] [], t]).wf := wf1 ⟨by simp, by decide⟩ hw
 have ht : [40, 108, 32] ++ t.txt ++ [41] = (Tr.mk [] [.mk [108] [], t]).txt := by
  simp [Tr.txt, Tr.txts]
 have hty : valOf (Tr.mk [] [.mk [108] [], t]) = some (.l v) := by
  rw [valOf_two (by simp) elemB_nil, hv]
  rfl
 rw [ht]
 unfold rdVal
 rw [rdText_txt hT]
 split
 · exact .inl rfl
 · rename_i u hu
   split at hu
   · cases hu
     rw [hty]
     simp only
     split
     · exact .inl rfl
     · exact .inr rfl
   · cases hu
theorem lp_data (s : ByteArray) : ((⟨#[40, 108, 32]⟩ : ByteArray) ++ s ++ ⟨#[41]⟩).data.toList = [40, 108, 32] ++ s.data.toList ++ [41] := by
 simp [ByteArray.data_append]
theorem lawFnValue (a : Option Addr) (n c : Nat) (w : World) (h : CodeRow w a n c) :
 Calls Tryd.prog 3 #[.slice a n c] w fun e w' => e = .returned (.bool true) /\ Below w.heap.size w w' := by
 have HD := Lib.hid (DrawValueValid_any a n c w h)
 clear h
 cases hc : decide ((n : Int) > 1048576) with
 | true =>
  have hc' : decide (1048576 < n) = true := by simp at hc ⊢; omega
  have hc2 : decide ((1048576 : Int) < (n : Int)) = true := by simp at hc ⊢; omega
  go_enter Tryd.func3, Tryd.ntmps3
  go_wp2_with fail
  go_ret
  exact ⟨rfl, Below.refl _ _⟩
 | false =>
  have hc' : decide (1048576 < n) = false := by simp at hc ⊢; omega
  have hc2 : decide ((1048576 : Int) < (n : Int)) = false := by simp at hc ⊢; omega
  go_enter Tryd.func3, Tryd.ntmps3
  go_wp2_with (go_at_call 6; refine HD.out.mono ?_; rintro e w1 ⟨s, hs, rfl, hb1⟩; have HB1 := Lib.hid hb1; have HS := Lib.hid hs; clear hb1 hs)
  have hs9 : s.size <= 9223372036854775807 := by have := HS.out; omega
  have q1 : ¬ 9223372036854775807 < 3 + s.size := by have := HS.out; omega
  have q2 : ¬ 9223372036854775807 < 3 + s.size + 1 := by have := HS.out; omega
  have s1 : ((⟨#[40, 108, 32]⟩ : ByteArray) ++ s ++ ⟨#[41]⟩).size <= 9223372036854775807 := by have := HS.out; simp only [ByteArray.size_append, zsz, List.size_toArray, List.length_cons, List.length_nil]; omega
  have H1 := Lib.hid fun w1 => ValueValid_any s w1 hs9
  have H2 := Lib.hid fun w1 => specValueValid_any s w1 hs9
  have H3 := Lib.hid fun w1 => ValueElements_any s w1 hs9
  have H4 := Lib.hid fun w1 => ValueSize_any s w1 hs9
  have H5 := Lib.hid fun w1 => ValueSize_any _ w1 s1
  rw [lp_data] at H5
  cases ho : rdVal s.data.toList with
  | none =>
   rw [ho] at H1 H2
   replace H1 : Hid (∀ w1, Calls Tryd.prog 7 #[.string s] w1 fun e w' => e = .returned (.bool false) /\ Below w1.heap.size w1 w') := H1
   replace H2 : Hid (∀ w1, Calls Tryd.prog 8 #[.string s] w1 fun e w' => e = .returned (.bool false) /\ Below w1.heap.size w1 w') := H2
   clear ho s1
   go_wp2_with (first
    | (go_at_call 7; (with_reducible refine (H1.out _).mono ?_); rintro e w2 ⟨rfl, hb2⟩; have HB2 := Lib.hid (up_trans HB1.out hb2); clear hb2)
    | (go_at_call 8; (with_reducible refine (H2.out _).mono ?_); rintro e w3 ⟨rfl, hb3⟩; have HB3 := Lib.hid (up_trans HB2.out hb3); clear hb3))
   go_ret
   exact ⟨rfl, HB3.out⟩
  | some x =>
   have hle := elems_len x
   have hnd := rdVal_nodes ho
   rw [ho] at H1 H2 H3 H4
   replace H1 : Hid (∀ w1, Calls Tryd.prog 7 #[.string s] w1 fun e w' => e = .returned (.bool true) /\ Below w1.heap.size w1 w') := H1
   replace H2 : Hid (∀ w1, Calls Tryd.prog 8 #[.string s] w1 fun e w' => e = .returned (.bool true) /\ Below w1.heap.size w1 w') := H2
   replace H3 : Hid (∀ w1, Calls Tryd.prog 9 #[.string s] w1 fun e w' => Below w1.heap.size w1 w' /\ ∃ g c, e = .returned (.tuple #[.slice (some ⟨g, 0, none⟩) x.elems.length c, .bool true])) := Lib.hid fun w1 => (H3.out w1).mono fun e w' ⟨h1, g, c, h2, _⟩ => ⟨h1, g, c, h2⟩
   replace H4 : Hid (∀ w1, Calls Tryd.prog 10 #[.string s] w1 fun e w' => e = .returned (.int .i64 (x.nodes : Nat)) /\ Below w1.heap.size w1 w') := H4
   have k1 : decide ((x.elems.length : Int) <= (x.nodes : Int)) = true := decide_eq_true (by omega)
   have k2 : decide (x.elems.length <= x.nodes) = true := decide_eq_true (by omega)
   have hq : ∃ y : Int, (y = -1 \/ y = (x.nodes : Int) + 1) /\ Hid (∀ w1, Calls Tryd.prog 10 #[.string (⟨#[40, 108, 32]⟩ ++ s ++ ⟨#[41]⟩)] w1 fun e w' => e = .returned (.int .i64 y) /\ Below w1.heap.size w1 w') := by
    rcases rdVal_left ho with h3 | h3
    · rw [h3] at H5
      exact ⟨-1, .inl rfl, H5⟩
    · rw [h3] at H5
      exact ⟨_, .inr rfl, Lib.hid fun w1 => by have := H5.out w1; simp only [sizeOfV, V.nodes] at this; rw [show ((1 + x.nodes : Nat) : Int) = (x.nodes : Int) + 1 by omega] at this; exact this⟩
   obtain ⟨y, hy, H6⟩ := hq
   have hnn : (x.nodes : Int) <= 200 := by omega
   generalize x.elems.length = ne at *
   generalize x.nodes = nd at *
   clear ho s1 H5
   rcases hy with rfl | rfl <;>
   · go_wp2_with (first
      | (go_at_call 7; (with_reducible refine (H1.out _).mono ?_); rintro e w2 ⟨rfl, hb2⟩; have HB2 := Lib.hid (up_trans HB1.out hb2); clear hb2)
      | (go_at_call 8; (with_reducible refine (H2.out _).mono ?_); rintro e w3 ⟨rfl, hb3⟩; have HB3 := Lib.hid (up_trans HB2.out hb3); clear hb3)
      | (go_at_call 9; (with_reducible refine (H3.out _).mono ?_); rintro e w4 ⟨hb4, g4, c4, rfl⟩; have HB4 := Lib.hid (up_trans HB3.out hb4); clear hb4)
      | (go_at_call 10; first
       | ((with_reducible refine (H4.out _).mono ?_); rintro e w5 ⟨rfl, hb5⟩; have HB5 := Lib.hid (up_trans HB4.out hb5); clear hb5)
       | ((with_reducible refine (H6.out _).mono ?_); rintro e w6 ⟨rfl, hb6⟩; have HB6 := Lib.hid (up_trans HB5.out hb6); clear hb6)))
     go_ret
     exact ⟨by first | rfl | simp [of_decide_eq_true k1] | (simp; omega), HB6.out⟩
end Go.Proofs.YtcgccdhmenobkaaDoor
