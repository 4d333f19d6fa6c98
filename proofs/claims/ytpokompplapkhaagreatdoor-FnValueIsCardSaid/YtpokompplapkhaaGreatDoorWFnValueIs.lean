/- The law FnValueIs, walked. -/
import Derived.Test.YtpokompplapkhaaGreatDoorVIs
import Derived.Test.YtpokompplapkhaaGreatDoorVDraw3
import Derived.Test.YtpokompplapkhaaGreatDoorMQ
import Derived.Test.YtpokompplapkhaaGreatDoorMK
import Derived.Test.YtpokompplapkhaaGreatDoorMB
import Derived.Test.YtpokompplapkhaaGreatDoorTLen
import Derived.Test.YtpokompplapkhaaGreatDoorCtx
namespace Go.Proofs.YtpokompplapkhaaGreatDoor
open Go.RowKit
set_option linter.unusedVariables false
set_option linter.unusedSimpArgs false

/-- What FnValueIs asks. -/
theorem is_facts {l v : List UInt8} {n : Int} (h : isB l v n = true) : emptyOf (rdTy l) = false ∧ isB l v 100 = true ∧ (rdVal v).isSome = true ∧ ∀ c, canonOf (rdTy l) = some c → c.length ≤ 8000 ∧ isB c v n = true := by
  unfold isB at h
  obtain ⟨⟨N, x⟩, ho⟩ := Option.isSome_iff_exists.1 h
  obtain ⟨hc, hr, h0, h1, hty⟩ := valsOf_some ho
  obtain ⟨hrd, hNo, hNa, hpb, hno⟩ := clTy_some hc
  refine ⟨?_, ?_, by rw [hr]; rfl, ?_⟩
  · rw [hrd]
    show (N.db []).emp = false
    cases he : (N.db []).emp with
    | false => rfl
    | true =>
      have := emp_none (rhoN n) x [] (N.db []) he (fun k a r h => by simp at h)
      rw [← isOf_ofR, hty] at this
      cases this
  · unfold isB valsOf
    rw [hc, hr]
    simp [isOf_mono h1 x [] (N.db []) hty]
  · intro c hcan
    rw [hrd] at hcan
    have hcan : (N.db []).told = some c := hcan
    obtain ⟨m, e1, e2, e3, _, e5, _⟩ := told_db (ok_ok3 hNo) hcan
    refine ⟨told_len (ok_ok3 hNo) hcan, ?_⟩
    have hcc : clTy c = some m := by
      unfold clTy
      rw [e1]
      simp only
      rw [if_neg (by rw [e5, hno]; simp)]
    unfold isB valsOf
    rw [hcc, hr]
    simp [e3, h0, h1, hty]

set_option maxHeartbeats 4000000 in
set_option maxRecDepth 100000 in
theorem lawFnValueIs (a : Option Addr) (n c : Nat) (w : World) (h : CodeRow w a n c) (htab : Lib.TabIs Tryz.prog w "internal/strconv.uint64pow10" .u64 Lib.pow10Tab) :
    Calls Tryz.prog 10 #[.slice a n c] w fun e w' => e = .returned (.bool true) ∧ Below w.heap.size w w' := by
  have HD := Lib.hid (DrawValueIs_any a n c w h)
  have HTB : Hid (TabB w.heap.size w) := Lib.tabBelow_of_tabIs htab
  clear h htab
  cases hc : decide ((n : Int) > 1048576) with
  | true =>
    have hc' : decide (1048576 < n) = true := by simp at hc ⊢; omega
    have hc2 : decide ((1048576 : Int) < (n : Int)) = true := by simp at hc ⊢; omega
    go_enter Tryz.func10, Tryz.ntmps10
    go_wp2_with fail
    go_ret
    exact ⟨rfl, Below.refl _ _⟩
  | false =>
    have hc' : decide (1048576 < n) = false := by simp at hc ⊢; omega
    have hc2 : decide ((1048576 : Int) < (n : Int)) = false := by simp at hc ⊢; omega
    go_enter Tryz.func10, Tryz.ntmps10
    go_wp2_with (go_at_call 31; refine HD.out.mono ?_; rintro e w1 ⟨s, v, n1, hs, hv, hn1, hn2, rfl, hb1⟩; have HB1 := Lib.hid hb1; have HS := Lib.hid hs; have HV := Lib.hid hv; clear hb1 hs hv hn1 hn2)
    have hs9 : s.size ≤ 9223372036854775807 := by have := HS.out; omega
    have hv9 : v.size ≤ 9223372036854775807 := by have := HV.out; omega
    have H1 := Lib.hid fun w1 => ValueIs_any s v n1 w1 hs9 hv9
    have H2 := Lib.hid fun w1 => specValueIs_any s v n1 w1 hs9 hv9
    cases ho : isB s.data.toList v.data.toList n1 with
    | false =>
      rw [ho] at H1 H2
      clear ho
      go_wp2_with (first
        | (go_at_call 32; (with_reducible refine (H1.out _).mono ?_); rintro e w2 ⟨rfl, hb2⟩; have HB2 := Lib.hid (up_trans HB1.out hb2); clear hb2)
        | (go_at_call 33; (with_reducible refine (H2.out _).mono ?_); rintro e w3 ⟨rfl, hb3⟩; have HB3 := Lib.hid (up_trans HB2.out hb3); clear hb3))
      go_ret
      exact ⟨rfl, HB3.out⟩
    | true =>
      obtain ⟨f1, f2, f3, f4⟩ := is_facts ho
      have H3 := Lib.hid fun w1 (hw : Below w.heap.size w w1) => TypeCanon_any s w.heap.size w1 hs9 (HTB.out.below hw) hw.size
      have H4 := Lib.hid fun w1 => TypeEmpty_any s w1 hs9
      have H6 := Lib.hid fun w1 => ValueIs_any s v 100 w1 hs9 hv9
      have H7 := Lib.hid fun w1 => ValueValid_any v w1 hv9
      rw [ho] at H1 H2
      rw [f1] at H4
      rw [f2] at H6
      rw [f3] at H7
      cases hc : canonOf (rdTy s.data.toList) with
      | none =>
        rw [hc] at H3
        replace H3 : Hid (∀ w1, Below w.heap.size w w1 → Calls Tryz.prog 34 #[.string s] w1 fun e w' => e = .returned (.tuple #[.string (St []), .bool false]) ∧ Below w1.heap.size w1 w') := H3
        clear ho f1 f2 f3 f4 hc
        go_wp2_with (first
          | (go_at_call 34; (with_reducible refine (H3.out _ HB3.out).mono ?_); rintro e w4 ⟨rfl, hb4⟩; have HB4 := Lib.hid (up_trans HB3.out hb4); clear hb4)
          | (go_at_call 35; (with_reducible refine (H4.out _).mono ?_); rintro e w5 ⟨rfl, hb5⟩; have HB5 := Lib.hid (up_trans HB4.out hb5); clear hb5)
          | (go_at_call 32; first
            | ((with_reducible refine (H6.out _).mono ?_); rintro e w7 ⟨rfl, hb7⟩; have HB7 := Lib.hid (up_trans HB5.out hb7); clear hb7)
            | ((with_reducible refine (H1.out _).mono ?_); rintro e w2 ⟨rfl, hb2⟩; have HB2 := Lib.hid (up_trans HB1.out hb2); clear hb2))
          | (go_at_call 36; (with_reducible refine (H7.out _).mono ?_); rintro e w8 ⟨rfl, hb8⟩; have HB8 := Lib.hid (up_trans HB7.out hb8); clear hb8)
          | (go_at_call 33; (with_reducible refine (H2.out _).mono ?_); rintro e w3 ⟨rfl, hb3⟩; have HB3 := Lib.hid (up_trans HB2.out hb3); clear hb3))
        go_ret
        exact ⟨by first | rfl | simp, HB8.out⟩
      | some cc =>
        obtain ⟨g1, g2⟩ := f4 cc hc
        have H5 := Lib.hid fun w1 => ValueIs_any (St cc) v n1 w1 (by show cc.length ≤ _; omega) hv9
        rw [show (St cc).data.toList = cc from rfl, g2] at H5
        rw [hc] at H3
        replace H3 : Hid (∀ w1, Below w.heap.size w w1 → Calls Tryz.prog 34 #[.string s] w1 fun e w' => e = .returned (.tuple #[.string (St cc), .bool true]) ∧ Below w1.heap.size w1 w') := H3
        generalize St cc = cb at *
        clear ho f1 f2 f3 f4 hc g1 g2
        go_wp2_with (first
          | (go_at_call 34; (with_reducible refine (H3.out _ HB3.out).mono ?_); rintro e w4 ⟨rfl, hb4⟩; have HB4 := Lib.hid (up_trans HB3.out hb4); clear hb4)
          | (go_at_call 35; (with_reducible refine (H4.out _).mono ?_); rintro e w5 ⟨rfl, hb5⟩; have HB5 := Lib.hid (up_trans HB4.out hb5); clear hb5)
          | (go_at_call 32; first
            | ((with_reducible refine (H5.out _).mono ?_); rintro e w6 ⟨rfl, hb6⟩; have HB6 := Lib.hid (up_trans HB5.out hb6); clear hb6)
            | ((with_reducible refine (H6.out _).mono ?_); rintro e w7 ⟨rfl, hb7⟩; have HB7 := Lib.hid (up_trans HB6.out hb7); clear hb7)
            | ((with_reducible refine (H1.out _).mono ?_); rintro e w2 ⟨rfl, hb2⟩; have HB2 := Lib.hid (up_trans HB1.out hb2); clear hb2))
          | (go_at_call 36; (with_reducible refine (H7.out _).mono ?_); rintro e w8 ⟨rfl, hb8⟩; have HB8 := Lib.hid (up_trans HB7.out hb8); clear hb8)
          | (go_at_call 33; (with_reducible refine (H2.out _).mono ?_); rintro e w3 ⟨rfl, hb3⟩; have HB3 := Lib.hid (up_trans HB2.out hb3); clear hb3))
        go_ret
        exact ⟨by first | rfl | simp, HB8.out⟩

end Go.Proofs.YtpokompplapkhaaGreatDoor
