/- The law FnMap, walked. -/
import Derived.Test.YtofbhdgccijbgaaGreatDoorVMapT
import Derived.Test.YtofbhdgccijbgaaGreatDoorVDraw2
import Derived.Test.YtofbhdgccijbgaaGreatDoorVMapI
import Derived.Test.YtofbhdgccijbgaaGreatDoorMB
namespace Go.Proofs.YtofbhdgccijbgaaGreatDoor
open Go.RowKit
set_option linter.unusedVariables false
set_option linter.unusedSimpArgs false

theorem vmV_some {l v nm : List UInt8} {a b : Int} {y : V} (h : vmV l v nm a b = some y) : ∃ N x, valsOf l v 100 = some (N, x) ∧ paramB nm = true ∧ (0 ≤ a ∧ a ≤ 99 ∧ 0 ≤ b ∧ b ≤ 99) ∧ y = x.turn (mapF nm a.toNat b.toNat) [] (N.db []) := by
  unfold vmV at h
  cases ho : valsOf l v 100 with
  | none => rw [ho] at h; cases h
  | some q =>
    obtain ⟨N, x⟩ := q
    rw [ho] at h
    simp only at h
    split at h
    · rename_i hc
      cases h
      exact ⟨N, x, rfl, hc.1, hc.2, rfl⟩
    · cases h
theorem valsOf_mk {l v : List UInt8} {N : NT} {x : V} (hc : clTy l = some N) (hr : rdVal v = some x) (hty : x.isOf 100 [] (N.db []) = true) : valsOf l v 100 = some (N, x) := by
  unfold valsOf
  rw [hc, hr]
  simp [hty]
/-- What FnMap asks. -/
theorem map_facts {l v nm : List UInt8} {a b : Int} {out : List UInt8} (h : vmB l v nm a b = some out) :
    vmB l v nm 1 0 = some v ∧ out.length ≤ 1000 ∧ isB l out 100 = true ∧ sizeOfV (rdVal out) = sizeOfV (rdVal v) ∧ ∃ L1 L2, voB l v nm = some L1 ∧ voB l out nm = some L2 ∧ L1.length = L2.length ∧ L1.length ≤ 1000 := by
  unfold vmB at h
  cases hy : vmV l v nm a b with
  | none => rw [hy] at h; cases h
  | some y =>
    rw [hy] at h
    cases h
    obtain ⟨N, x, ho, hp, hab, rfl⟩ := vmV_some hy
    obtain ⟨hc, hr, _, _, hty⟩ := valsOf_some ho
    obtain ⟨hvt, hok, hnd⟩ := rdVal_tr hr
    have hyok : (x.turn (mapF nm a.toNat b.toNat) [] (N.db [])).ok := turn_ok (fun p s h => mapF_ok nm a.toNat b.toNat p h) x [] (N.db []) hok
    have hyn := turn_nodes (mapF nm a.toNat b.toNat) x [] (N.db [])
    have hyty : (x.turn (mapF nm a.toNat b.toNat) [] (N.db [])).isOf 100 [] (N.db []) = true := turn_isOf (n := 100) (m := 100) (fun p s h => mapF_lt nm a.toNat b.toNat p s h) x [] (N.db []) hty
    have hrd : rdVal (x.turn (mapF nm a.toNat b.toNat) [] (N.db [])).toTr.txt = some (x.turn (mapF nm a.toNat b.toNat) [] (N.db [])) := by
      rw [rdVal_txt hyok, if_neg (by omega)]
    have ho2 := valsOf_mk hc hrd hyty
    have hid : x.turn (mapF nm 1 0) [] (N.db []) = x := turn_id x [] (N.db []) fun p hpm => mapF_id nm p.1 (labs_ok x [] (N.db []) hok p hpm)
    have hyl := V.len_nodes hyok
    refine ⟨?_, by simp only; omega, ?_, ?_, x.atE [] (N.db []) nm, (x.turn (mapF nm a.toNat b.toNat) [] (N.db [])).atE [] (N.db []) nm, ?_, ?_, ?_, ?_⟩
    · unfold vmB vmV
      rw [ho]
      simp only
      rw [if_pos ⟨hp, by omega, by omega, by omega, by omega⟩, show ((1 : Int).toNat) = 1 from rfl, show ((0 : Int).toNat) = 0 from rfl, hid, hvt]
      rfl
    · unfold isB
      simp only [ho2, Option.isSome_some]
    · simp only [hrd, hr, sizeOfV, hyn]
    · unfold voB
      rw [ho]
      simp only
      rw [if_pos hp]
    · unfold voB
      simp only [ho2]
      rw [if_pos hp]
    · unfold V.atE
      rw [List.length_map, List.length_map, turn_labs, List.filter_map, List.length_map]
      rfl
    · have := atE_len (nm := nm) hty
      omega

set_option maxHeartbeats 4000000 in
set_option maxRecDepth 100000 in
theorem lawFnMap (a : Option Addr) (n c : Nat) (w : World) (h : CodeRow w a n c) (htab : Lib.TabIs Tryz.prog w "internal/strconv.uint64pow10" .u64 Lib.pow10Tab) :
    Calls Tryz.prog 14 #[.slice a n c] w fun e w' => e = .returned (.bool true) ∧ Below w.heap.size w w' := by
  have HD := Lib.hid (DrawValueMap_any a n c w h)
  have HTB : Hid (TabB w.heap.size w) := Lib.tabBelow_of_tabIs htab
  clear h htab
  cases hc : decide ((n : Int) > 1048576) with
  | true =>
    have hc' : decide (1048576 < n) = true := by simp at hc ⊢; omega
    have hc2 : decide ((1048576 : Int) < (n : Int)) = true := by simp at hc ⊢; omega
    go_enter Tryz.func14, Tryz.ntmps14
    go_wp2_with fail
    go_ret
    exact ⟨rfl, Below.refl _ _⟩
  | false =>
    have hc' : decide (1048576 < n) = false := by simp at hc ⊢; omega
    have hc2 : decide ((1048576 : Int) < (n : Int)) = false := by simp at hc ⊢; omega
    go_enter Tryz.func14, Tryz.ntmps14
    go_wp2_with (go_at_call 44; refine HD.out.mono ?_; rintro e w1 ⟨s, v, nm, a, b, hs, hv, hnm, rfl, hb1⟩; have HB1 := Lib.hid hb1; have HS := Lib.hid hs; have HV := Lib.hid hv; have HNM := Lib.hid hnm; clear hb1 hs hv hnm)
    have hs9 : s.size ≤ 9223372036854775807 := by have := HS.out; omega
    have hv9 : v.size ≤ 9223372036854775807 := by have := HV.out; omega
    have hn9 : nm.size ≤ 9223372036854775807 := by have := HNM.out; omega
    have H1 := Lib.hid fun w1 (hw : Below w.heap.size w w1) => ValueMap_any s v nm a b w.heap.size w1 hs9 hv9 hn9 (HTB.out.below hw) hw.size
    have H2 := Lib.hid fun w1 => specValueMap_any s v nm a b w1 hs9 hv9
    cases ho : vmB s.data.toList v.data.toList nm.data.toList a b with
    | none =>
      rw [ho] at H1 H2
      replace H1 : Hid (∀ w1, Below w.heap.size w w1 → Calls Tryz.prog 18 #[.string s, .string v, .string nm, .int .i64 a, .int .i64 b] w1 fun e w' => e = .returned (.tuple #[.string (St []), .bool false]) ∧ Below w1.heap.size w1 w') := H1
      replace H2 : Hid (∀ w1, Calls Tryz.prog 17 #[.string s, .string v, .string nm, .int .i64 a, .int .i64 b] w1 fun e w' => e = .returned (.tuple #[.string (St []), .bool false]) ∧ Below w1.heap.size w1 w') := H2
      clear ho
      go_wp2_with (first
        | (go_at_call 18; (with_reducible refine (H1.out _ HB1.out).mono ?_); rintro e w2 ⟨rfl, hb2⟩; have HB2 := Lib.hid (up_trans HB1.out hb2); clear hb2)
        | (go_at_call 17; (with_reducible refine (H2.out _).mono ?_); rintro e w3 ⟨rfl, hb3⟩; have HB3 := Lib.hid (up_trans HB2.out hb3); clear hb3))
      go_ret
      exact ⟨rfl, HB3.out⟩
    | some out =>
      obtain ⟨f1, f2, f3, f4, L1, L2, f5, f6, f7, f8⟩ := map_facts ho
      have H3 := Lib.hid fun w1 (hw : Below w.heap.size w w1) => ValueMap_any s v nm 1 0 w.heap.size w1 hs9 hv9 hn9 (HTB.out.below hw) hw.size
      have H4 := Lib.hid fun w1 => ValueOf_any s v nm w1 hs9 hv9 hn9
      have H5 := Lib.hid fun w1 => ValueOf_any s (St out) nm w1 hs9 (by show out.length ≤ _; omega) hn9
      have H6 := Lib.hid fun w1 => ValueIs_any s (St out) 100 w1 hs9 (by show out.length ≤ _; omega)
      have H7 := Lib.hid fun w1 => ValueSize_any (St out) w1 (by show out.length ≤ _; omega)
      have H8 := Lib.hid fun w1 => ValueSize_any v w1 hv9
      rw [ho] at H1 H2
      rw [f1] at H3
      rw [f5] at H4
      rw [show (St out).data.toList = out from rfl, f6] at H5
      rw [show (St out).data.toList = out from rfl, f3] at H6
      rw [show (St out).data.toList = out from rfl, f4] at H7
      have hvs : St v.data.toList = v := rfl
      replace H1 : Hid (∀ w1, Below w.heap.size w w1 → Calls Tryz.prog 18 #[.string s, .string v, .string nm, .int .i64 a, .int .i64 b] w1 fun e w' => e = .returned (.tuple #[.string (St out), .bool true]) ∧ Below w1.heap.size w1 w') := H1
      replace H2 : Hid (∀ w1, Calls Tryz.prog 17 #[.string s, .string v, .string nm, .int .i64 a, .int .i64 b] w1 fun e w' => e = .returned (.tuple #[.string (St out), .bool true]) ∧ Below w1.heap.size w1 w') := H2
      replace H3 : Hid (∀ w1, Below w.heap.size w w1 → Calls Tryz.prog 18 #[.string s, .string v, .string nm, .int .i64 1, .int .i64 0] w1 fun e w' => e = .returned (.tuple #[.string v, .bool true]) ∧ Below w1.heap.size w1 w') := H3
      replace H4 : Hid (∀ w1, Calls Tryz.prog 20 #[.string s, .string v, .string nm] w1 fun e w' => ∃ g c, e = .returned (.tuple #[.slice (some ⟨g, 0, none⟩) L2.length c, .bool true]) ∧ Below w1.heap.size w1 w') := Lib.hid fun w1 => (H4.out w1).mono fun e w' ⟨h1, g, c, h2, _⟩ => ⟨g, c, by rw [h2, f7], h1⟩
      replace H5 : Hid (∀ w1, Calls Tryz.prog 20 #[.string s, .string (St out), .string nm] w1 fun e w' => ∃ g c, e = .returned (.tuple #[.slice (some ⟨g, 0, none⟩) L2.length c, .bool true]) ∧ Below w1.heap.size w1 w') := Lib.hid fun w1 => (H5.out w1).mono fun e w' ⟨h1, g, c, h2, _⟩ => ⟨g, c, h2, h1⟩
      generalize sizeOfV (rdVal v.data.toList) = sz at *
      generalize L2.length = n2 at *
      generalize St out = ob at *
      clear ho f1 f2 f3 f4 f5 f6 f7 f8 hvs hs9 hv9 hn9
      go_wp2_with (first
        | (go_at_call 18; first
          | (have HB3' := HB3.out; clear HB3'; (with_reducible refine (H3.out _ HB3.out).mono ?_); rintro e w4 ⟨rfl, hb4⟩; have HB4 := Lib.hid (up_trans HB3.out hb4); clear hb4)
          | ((with_reducible refine (H1.out _ HB1.out).mono ?_); rintro e w2 ⟨rfl, hb2⟩; have HB2 := Lib.hid (up_trans HB1.out hb2); clear hb2))
        | (go_at_call 17; (with_reducible refine (H2.out _).mono ?_); rintro e w3 ⟨rfl, hb3⟩; have HB3 := Lib.hid (up_trans HB2.out hb3); clear hb3)
        | (go_at_call 20; first
          | (have HB5' := HB5.out; clear HB5'; (with_reducible refine (H5.out _).mono ?_); rintro e w6 ⟨g6, c6, rfl, hb6⟩; have HB6 := Lib.hid (up_trans HB5.out hb6); clear hb6)
          | ((with_reducible refine (H4.out _).mono ?_); rintro e w5 ⟨g5, c5, rfl, hb5⟩; have HB5 := Lib.hid (up_trans HB4.out hb5); clear hb5))
        | (go_at_call 16; (with_reducible refine (H6.out _).mono ?_); rintro e w7 ⟨rfl, hb7⟩; have HB7 := Lib.hid (up_trans HB6.out hb7); clear hb7)
        | (go_at_call 45; first
          | (have HB8' := HB8.out; clear HB8'; (with_reducible refine (H8.out _).mono ?_); rintro e w9 ⟨rfl, hb9⟩; have HB9 := Lib.hid (up_trans HB8.out hb9); clear hb9)
          | ((with_reducible refine (H7.out _).mono ?_); rintro e w8 ⟨rfl, hb8⟩; have HB8 := Lib.hid (up_trans HB7.out hb8); clear hb8)))
      go_ret
      exact ⟨by first | rfl | simp, HB9.out⟩

end Go.Proofs.YtofbhdgccijbgaaGreatDoor
