/- The law FnMapTwice, walked. -/
import Derived.Test.YtpokompplapkhaaGreatDoorVMapT
import Derived.Test.YtpokompplapkhaaGreatDoorVDraw2
namespace Go.Proofs.YtpokompplapkhaaGreatDoor
open Go.RowKit
set_option linter.unusedVariables false
set_option linter.unusedSimpArgs false

theorem vmV_some2 {l v nm : List UInt8} {a b : Int} {y : V} (h : vmV l v nm a b = some y) : ∃ N x, valsOf l v 100 = some (N, x) ∧ paramB nm = true ∧ (0 ≤ a ∧ a ≤ 99 ∧ 0 ≤ b ∧ b ≤ 99) ∧ y = x.turn (mapF nm a.toNat b.toNat) [] (N.db []) := by
  unfold vmV at h
  cases ho : valsOf l v 100 with
  | none => rw [ho] at h; cases h
  | some q =>
    obtain ⟨N, x⟩ := q
    rw [ho] at h
    simp only at h
    split at h
    · rename_i hc
      cases h
      exact ⟨N, x, rfl, hc.1, hc.2, rfl⟩
    · cases h
theorem valsOf_mk2 {l v : List UInt8} {N : NT} {x : V} (hc : clTy l = some N) (hr : rdVal v = some x) (hty : x.isOf 100 [] (N.db []) = true) : valsOf l v 100 = some (N, x) := by
  unfold valsOf
  rw [hc, hr]
  simp [hty]
/-- What FnMapTwice asks. -/
theorem twice_facts {l v nm : List UInt8} {a b : Int} {out : List UInt8} (h : vmB l v nm a b = some out) :
    0 ≤ b ∧ b ≤ 99 ∧ out.length ≤ 1000 ∧ ∃ y, vmB l out nm 1 1 = some y ∧ vmB l v nm a ((b + 1) % 100) = some y := by
  unfold vmB at h
  cases hy : vmV l v nm a b with
  | none => rw [hy] at h; cases h
  | some y =>
    rw [hy] at h
    cases h
    obtain ⟨N, x, ho, hp, hab, rfl⟩ := vmV_some2 hy
    obtain ⟨hc, hr, _, _, hty⟩ := valsOf_some ho
    obtain ⟨hvt, hok, hnd⟩ := rdVal_tr hr
    have hyok : (x.turn (mapF nm a.toNat b.toNat) [] (N.db [])).ok := turn_ok (fun p s h => mapF_ok nm a.toNat b.toNat p h) x [] (N.db []) hok
    have hyn := turn_nodes (mapF nm a.toNat b.toNat) x [] (N.db [])
    have hyty : (x.turn (mapF nm a.toNat b.toNat) [] (N.db [])).isOf 100 [] (N.db []) = true := turn_isOf (n := 100) (m := 100) (fun p s h => mapF_lt nm a.toNat b.toNat p s h) x [] (N.db []) hty
    have hrd : rdVal (x.turn (mapF nm a.toNat b.toNat) [] (N.db [])).toTr.txt = some (x.turn (mapF nm a.toNat b.toNat) [] (N.db [])) := by
      rw [rdVal_txt hyok, if_neg (by omega)]
    have ho2 := valsOf_mk2 hc hrd hyty
    have hyl := V.len_nodes hyok
    have e1 : ((b + 1) % 100).toNat = (b.toNat + 1) % 100 := by omega
    have e2 : (x.turn (mapF nm a.toNat b.toNat) [] (N.db [])).turn (mapF nm 1 1) [] (N.db []) = x.turn (mapF nm a.toNat ((b.toNat + 1) % 100)) [] (N.db []) := by
      rw [turn_turn]
      congr 1
      funext p s
      exact mapF_two nm a.toNat b.toNat p s
    refine ⟨hab.2.2.1, hab.2.2.2, by simp only; omega, (x.turn (mapF nm a.toNat ((b.toNat + 1) % 100)) [] (N.db [])).toTr.txt, ?_, ?_⟩
    · unfold vmB vmV
      simp only [ho2]
      rw [if_pos ⟨hp, by omega, by omega, by omega, by omega⟩, show ((1 : Int).toNat) = 1 from rfl, e2]
      rfl
    · unfold vmB vmV
      rw [ho]
      simp only
      rw [if_pos ⟨hp, by omega, by omega, by omega, by omega⟩, e1]
      rfl

set_option maxHeartbeats 4000000 in
set_option maxRecDepth 100000 in
theorem lawFnMapTwice (a : Option Addr) (n c : Nat) (w : World) (h : CodeRow w a n c) (htab : Lib.TabIs Tryz.prog w "internal/strconv.uint64pow10" .u64 Lib.pow10Tab) :
    Calls Tryz.prog 11 #[.slice a n c] w fun e w' => e = .returned (.bool true) ∧ Below w.heap.size w w' := by
  have HD := Lib.hid (DrawValueMap_any a n c w h)
  have HTB : Hid (TabB w.heap.size w) := Lib.tabBelow_of_tabIs htab
  clear h htab
  cases hc : decide ((n : Int) > 1048576) with
  | true =>
    have hc' : decide (1048576 < n) = true := by simp at hc ⊢; omega
    have hc2 : decide ((1048576 : Int) < (n : Int)) = true := by simp at hc ⊢; omega
    go_enter Tryz.func11, Tryz.ntmps11
    go_wp2_with fail
    go_ret
    exact ⟨rfl, Below.refl _ _⟩
  | false =>
    have hc' : decide (1048576 < n) = false := by simp at hc ⊢; omega
    have hc2 : decide ((1048576 : Int) < (n : Int)) = false := by simp at hc ⊢; omega
    go_enter Tryz.func11, Tryz.ntmps11
    go_wp2_with (go_at_call 37; refine HD.out.mono ?_; rintro e w1 ⟨s, v, nm, a, b, hs, hv, hnm, rfl, hb1⟩; have HB1 := Lib.hid hb1; have HS := Lib.hid hs; have HV := Lib.hid hv; have HNM := Lib.hid hnm; clear hb1 hs hv hnm)
    have hs9 : s.size ≤ 9223372036854775807 := by have := HS.out; omega
    have hv9 : v.size ≤ 9223372036854775807 := by have := HV.out; omega
    have hn9 : nm.size ≤ 9223372036854775807 := by have := HNM.out; omega
    have H1 := Lib.hid fun w1 (hw : Below w.heap.size w w1) => ValueMap_any s v nm a b w.heap.size w1 hs9 hv9 hn9 (HTB.out.below hw) hw.size
    have H2 := Lib.hid fun w1 => specValueMap_any s v nm a b w1 hs9 hv9
    cases ho : vmB s.data.toList v.data.toList nm.data.toList a b with
    | none =>
      rw [ho] at H1 H2
      replace H1 : Hid (∀ w1, Below w.heap.size w w1 → Calls Tryz.prog 38 #[.string s, .string v, .string nm, .int .i64 a, .int .i64 b] w1 fun e w' => e = .returned (.tuple #[.string (St []), .bool false]) ∧ Below w1.heap.size w1 w') := H1
      replace H2 : Hid (∀ w1, Calls Tryz.prog 39 #[.string s, .string v, .string nm, .int .i64 a, .int .i64 b] w1 fun e w' => e = .returned (.tuple #[.string (St []), .bool false]) ∧ Below w1.heap.size w1 w') := H2
      clear ho
      go_wp2_with (first
        | (go_at_call 38; (with_reducible refine (H1.out _ HB1.out).mono ?_); rintro e w2 ⟨rfl, hb2⟩; have HB2 := Lib.hid (up_trans HB1.out hb2); clear hb2)
        | (go_at_call 39; (with_reducible refine (H2.out _).mono ?_); rintro e w3 ⟨rfl, hb3⟩; have HB3 := Lib.hid (up_trans HB2.out hb3); clear hb3))
      go_ret
      exact ⟨rfl, HB3.out⟩
    | some out =>
      obtain ⟨f1, f2, f3, y, f4, f5⟩ := twice_facts ho
      have H3 := Lib.hid fun w1 (hw : Below w.heap.size w w1) => ValueMap_any s (St out) nm 1 1 w.heap.size w1 hs9 (by show out.length ≤ _; omega) hn9 (HTB.out.below hw) hw.size
      have H4 := Lib.hid fun w1 (hw : Below w.heap.size w w1) => ValueMap_any s v nm a ((b + 1) % 100) w.heap.size w1 hs9 hv9 hn9 (HTB.out.below hw) hw.size
      rw [ho] at H1 H2
      rw [show (St out).data.toList = out from rfl, f4] at H3
      rw [f5] at H4
      replace H1 : Hid (∀ w1, Below w.heap.size w w1 → Calls Tryz.prog 38 #[.string s, .string v, .string nm, .int .i64 a, .int .i64 b] w1 fun e w' => e = .returned (.tuple #[.string (St out), .bool true]) ∧ Below w1.heap.size w1 w') := H1
      replace H2 : Hid (∀ w1, Calls Tryz.prog 39 #[.string s, .string v, .string nm, .int .i64 a, .int .i64 b] w1 fun e w' => e = .returned (.tuple #[.string (St out), .bool true]) ∧ Below w1.heap.size w1 w') := H2
      replace H3 : Hid (∀ w1, Below w.heap.size w w1 → Calls Tryz.prog 38 #[.string s, .string (St out), .string nm, .int .i64 1, .int .i64 1] w1 fun e w' => e = .returned (.tuple #[.string (St y), .bool true]) ∧ Below w1.heap.size w1 w') := H3
      replace H4 : Hid (∀ w1, Below w.heap.size w w1 → ∀ b', b' = (b + 1) % 100 → Calls Tryz.prog 38 #[.string s, .string v, .string nm, .int .i64 a, .int .i64 b'] w1 fun e w' => e = .returned (.tuple #[.string (St y), .bool true]) ∧ Below w1.heap.size w1 w') := Lib.hid fun w1 hw b' hb' => by subst hb'; exact H4.out w1 hw
      generalize St out = ob at *
      generalize St y = yb at *
      clear ho f3 f4 f5 hs9 hv9 hn9
      go_wp2_with (first
        | (go_at_call 38; first
          | (have HB4' := HB4.out; clear HB4'; (with_reducible refine (H4.out _ HB4.out _ ?_).mono ?_); (first | rfl | (unfold wrap64; omega) | (rw [Int.tmod_eq_emod_of_nonneg (by first | omega | (unfold wrap64; omega))]; unfold wrap64; omega) | (rw [Int.tmod_eq_emod_of_nonneg (by first | omega | (unfold wrap64; omega))])); rintro e w5 ⟨rfl, hb5⟩; have HB5 := Lib.hid (up_trans HB4.out hb5); clear hb5)
          | (have HB3' := HB3.out; clear HB3'; (with_reducible refine (H3.out _ HB3.out).mono ?_); rintro e w4 ⟨rfl, hb4⟩; have HB4 := Lib.hid (up_trans HB3.out hb4); clear hb4)
          | ((with_reducible refine (H1.out _ HB1.out).mono ?_); rintro e w2 ⟨rfl, hb2⟩; have HB2 := Lib.hid (up_trans HB1.out hb2); clear hb2))
        | (go_at_call 39; (with_reducible refine (H2.out _).mono ?_); rintro e w3 ⟨rfl, hb3⟩; have HB3 := Lib.hid (up_trans HB2.out hb3); clear hb3))
      go_ret
      exact ⟨by first | rfl | simp, HB5.out⟩

end Go.Proofs.YtpokompplapkhaaGreatDoor
