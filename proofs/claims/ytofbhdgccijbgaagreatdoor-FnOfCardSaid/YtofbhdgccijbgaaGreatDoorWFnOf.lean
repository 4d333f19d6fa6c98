/- The law FnOf, walked. -/
import Derived.Test.YtofbhdgccijbgaaGreatDoorVMapS
import Derived.Test.YtofbhdgccijbgaaGreatDoorLate
import Derived.Test.YtofbhdgccijbgaaGreatDoorVDraw2
import Derived.Test.YtofbhdgccijbgaaGreatDoorVMapI
import Derived.Test.YtofbhdgccijbgaaGreatDoorVElemI
import Derived.Test.YtofbhdgccijbgaaGreatDoorMK
import Derived.Test.YtofbhdgccijbgaaGreatDoorML
import Derived.Test.YtofbhdgccijbgaaGreatDoorMapP
namespace Go.Proofs.YtofbhdgccijbgaaGreatDoor
open Go.RowKit
set_option linter.unusedVariables false
set_option linter.unusedSimpArgs false

theorem param_len : ∀ {s : List UInt8}, paramB s = true → s.length ≤ 3
  | [], _ => by simp
  | c :: r, h => by
    simp only [namedB, Bool.and_eq_true, decide_eq_true_eq] at h
    simp only [List.length_cons]
    omega
theorem voB_some {l v nm : List UInt8} {o : List (List UInt8)} (h : voB l v nm = some o) : ∃ N x, valsOf l v 100 = some (N, x) ∧ o = x.atE [] (N.db []) nm := by
  unfold voB at h
  cases ho : valsOf l v 100 with
  | none => rw [ho] at h; cases h
  | some q =>
    obtain ⟨N, x⟩ := q
    rw [ho] at h
    simp only at h
    split at h
    · cases h
      exact ⟨N, x, rfl, rfl⟩
    · cases h
/-- What FnOf asks. -/
theorem of_facts {l v nm : List UInt8} {out : List (List UInt8)} (h : voB l v nm = some out) :
    ∃ (N : NT) (x : V) (F : List UInt8 → List (List UInt8)), rdTy l = some N ∧ rdVal v = some x ∧ N.names.length ≤ 400 ∧ x.elems.length ≤ 1000 ∧ out.length ≤ x.elems.length ∧ (∀ s ∈ N.names, paramB s = true ∧ voB l v s = some (F s)) ∧ (N.names.map fun s => (F s).length).sum = x.elems.length := by
  obtain ⟨N, x, ho, rfl⟩ := voB_some h
  obtain ⟨hc, hr, _, _, hty⟩ := valsOf_some ho
  obtain ⟨hrd, hNo, hNa, hpb, _⟩ := clTy_some hc
  have hnd := rdVal_nodes hr
  have hel := elems_len x
  have hll := congrArg List.length (labs_elems 100 x [] (N.db []) hty)
  rw [List.length_map] at hll
  have hnl := names_len N
  refine ⟨N, x, fun s => x.atE [] (N.db []) s, hrd, hr, by omega, by omega, ?_, fun s hs => ?_, ?_⟩
  · unfold V.atE
    rw [List.length_map, ← hll]
    exact List.length_filter_le _ _
  · have hp := hpb s ((names_has s N (ok_ok3 hNo)).1 hs)
    refine ⟨hp, ?_⟩
    unfold voB
    rw [ho]
    simp only
    rw [if_pos hp]
  · have := sum_places N.names (x.labs [] (N.db [])) (names_nodup N (ok_ok3 hNo)) (fun p hp => by
      rcases labs_has x [] (N.db []) p hp with h1 | ⟨T, hT, _⟩
      · exact (names_has p.1 N (ok_ok3 hNo)).2 h1
      · cases hT)
    rw [← hll, ← this]
    congr 1
    apply List.map_congr_left
    intro s _
    simp [V.atE]

set_option maxHeartbeats 4000000 in
set_option maxRecDepth 100000 in
theorem lawFnOf (a : Option Addr) (n c : Nat) (w : World) (h : CodeRow w a n c) :
    Calls Tryz.prog 13 #[.slice a n c] w fun e w' => e = .returned (.bool true) ∧ Below w.heap.size w w' := by
  have HD := Lib.hid (DrawValueOf_any a n c w h)
  clear h
  cases hc : decide ((n : Int) > 1048576) with
  | true =>
    have hc' : decide (1048576 < n) = true := by simp at hc ⊢; omega
    have hc2 : decide ((1048576 : Int) < (n : Int)) = true := by simp at hc ⊢; omega
    go_enter Tryz.func13, Tryz.ntmps13
    go_wp2_with fail
    go_ret
    exact ⟨rfl, Below.refl _ _⟩
  | false =>
    have hc' : decide (1048576 < n) = false := by simp at hc ⊢; omega
    have hc2 : decide ((1048576 : Int) < (n : Int)) = false := by simp at hc ⊢; omega
    go_enter Tryz.func13, Tryz.ntmps13
    go_wp2_with (go_at_call 40; refine HD.out.mono ?_; rintro e w1 ⟨s, v, nm, hs, hv, hnm, rfl, hb1⟩; have HB1 := Lib.hid hb1; have HS := Lib.hid hs; have HV := Lib.hid hv; have HNM := Lib.hid hnm; clear hb1 hs hv hnm)
    have hs9 : s.size ≤ 9223372036854775807 := by have := HS.out; omega
    have hv9 : v.size ≤ 9223372036854775807 := by have := HV.out; omega
    have hn9 : nm.size ≤ 9223372036854775807 := by have := HNM.out; omega
    have H1 := Lib.hid fun w1 => ValueOf_any s v nm w1 hs9 hv9 hn9
    have H2 := Lib.hid fun w1 => specValueOf_any s v nm w1 hs9 hv9
    cases ho : voB s.data.toList v.data.toList nm.data.toList with
    | none =>
      rw [ho] at H1 H2
      replace H1 : Hid (∀ w1, Calls Tryz.prog 20 #[.string s, .string v, .string nm] w1 fun e w' => Below w1.heap.size w1 w' ∧ ∃ A c, e = .returned (.tuple #[.slice A 0 c, .bool false])) := H1
      replace H2 : Hid (∀ w1, Calls Tryz.prog 19 #[.string s, .string v, .string nm] w1 fun e w' => Below w1.heap.size w1 w' ∧ ∃ A c, e = .returned (.tuple #[.slice A 0 c, .bool false])) := H2
      have HSAME : Hid (∀ A B c d w, Calls Tryz.prog 41 #[.slice A 0 c, .slice B 0 d] w fun e w' => e = .returned (.bool true) ∧ Below w.heap.size w w') := fun A B c d w => sameTexts_same [] A B c d w (by simp) (.inl rfl) (.inl rfl)
      clear ho
      go_wp2_with (first
        | (go_at_call 20; (with_reducible refine (H1.out _).mono ?_); rintro e w2 ⟨hb2, A2, c2, rfl⟩; have HB2 := Lib.hid (up_trans HB1.out hb2); clear hb2)
        | (go_at_call 19; (with_reducible refine (H2.out _).mono ?_); rintro e w3 ⟨hb3, A3, c3, rfl⟩; have HB3 := Lib.hid (up_trans HB2.out hb3); clear hb3)
        | (go_at_call 41; first
          | (have HB4' := HB4.out; clear HB4'; (with_reducible refine (HSAME.out _ _ _ _ _).mono ?_); rintro e w5 ⟨rfl, hb5⟩; have HB5 := Lib.hid (up_trans HB4.out hb5); clear hb5)
          | ((with_reducible refine (HSAME.out _ _ _ _ _).mono ?_); rintro e w4 ⟨rfl, hb4⟩; have HB4 := Lib.hid (up_trans HB3.out hb4); clear hb4)))
      go_ret
      exact ⟨rfl, HB5.out⟩
    | some out =>
      obtain ⟨N, x, F, hrd, hrv, hnl, hel, hol, hF, hsum⟩ := of_facts ho
      have H3 := Lib.hid fun w1 => TypeNames_any s w1 hs9
      have H4 := Lib.hid fun w1 => ValueElements_any v w1 hv9
      have HSAME : Hid (∀ A B c d w, SCells w A out → SCells w B out → Calls Tryz.prog 41 #[.slice A out.length c, .slice B out.length d] w fun e w' => e = .returned (.bool true) ∧ Below w.heap.size w w') := fun A B c d w hx hy => sameTexts_same out A B c d w (by omega) hx hy
      have H5 : Hid (∀ y ∈ N.names, ∀ w1, Calls Tryz.prog 20 #[.string s, .string v, .string (St y)] w1 fun e w' => ∃ g c, e = .returned (.tuple #[.slice (some ⟨g, 0, none⟩) (F y).length c, .bool true]) ∧ Below w1.heap.size w1 w') := fun y hy w1 => by
        have hyl : (St y).size ≤ 9223372036854775807 := by
          have := param_len (hF y hy).1
          show y.length ≤ _
          omega
        have := ValueOf_any s v (St y) w1 hs9 hv9 hyl
        rw [show (St y).data.toList = y from rfl, (hF y hy).2] at this
        exact this.mono fun e w' ⟨h1, g, c, h2, _⟩ => ⟨g, c, h2, h1⟩
      rw [ho] at H1 H2
      rw [hrd] at H3
      rw [hrv] at H4
      replace H1 : Hid (∀ w1, Calls Tryz.prog 20 #[.string s, .string v, .string nm] w1 fun e w' => Below w1.heap.size w1 w' ∧ ∃ g c, e = .returned (.tuple #[.slice (some ⟨g, 0, none⟩) out.length c, .bool true]) ∧ SOwn w' w1.heap.size out g c) := H1
      replace H2 : Hid (∀ w1, Calls Tryz.prog 19 #[.string s, .string v, .string nm] w1 fun e w' => Below w1.heap.size w1 w' ∧ ∃ g c, e = .returned (.tuple #[.slice (some ⟨g, 0, none⟩) out.length c, .bool true]) ∧ SOwn w' w1.heap.size out g c) := H2
      replace H3 : Hid (∀ w1, Calls Tryz.prog 42 #[.string s] w1 fun e w' => Below w1.heap.size w1 w' ∧ ∃ g c, e = .returned (.tuple #[.slice (some ⟨g, 0, none⟩) N.names.length c, .bool true]) ∧ SOwn w' w1.heap.size N.names g c) := H3
      replace H4 : Hid (∀ w1, Calls Tryz.prog 43 #[.string v] w1 fun e w' => Below w1.heap.size w1 w' ∧ ∃ g c, e = .returned (.tuple #[.slice (some ⟨g, 0, none⟩) x.elems.length c, .bool true])) := Lib.hid fun w1 => (H4.out w1).mono fun e w' ⟨h1, g, c, h2, _⟩ => ⟨h1, g, c, h2⟩
      have hle : decide ((out.length : Int) ≤ (x.elems.length : Int)) = true := decide_eq_true (by omega)
      have hle2 : decide (out.length ≤ x.elems.length) = true := decide_eq_true (by omega)
      generalize hm : x.elems.length = m at *
      generalize hol' : out.length = ol at *
      have HOL := Lib.hid hol'
      generalize N.names = ls at *
      have HLEN : Hid (ls.length ≤ 400) := hnl
      have HSUM : Hid ((ls.map fun s => (F s).length).sum = m) := hsum
      have HM : Hid (m ≤ 1000) := hel
      clear ho hrd hrv hnl hel hol hF hsum hm hol' hs9 hv9 hn9
      go_wp2_with (first
        | (go_at_call 20; (with_reducible refine (H1.out _).mono ?_); rintro e w2 ⟨hb2, g2, c2, rfl, ho2⟩; have HB2 := Lib.hid (up_trans HB1.out hb2); have HO2 := Lib.hid ho2; clear hb2 ho2)
        | (go_at_call 19; (with_reducible refine (H2.out _).mono ?_); rintro e w3 ⟨hb3, g3, c3, rfl, ho3⟩; have HB3 := Lib.hid (up_trans HB2.out hb3); have HO3 := Lib.hid (HO2.out.up hb3); have HP3 := Lib.hid ho3; clear hb3 ho3)
        | (go_at_call 41; (with_reducible refine (HSAME.out _ _ _ _ _ HO3.out.reads HP3.out.reads).mono ?_); rintro e w4 ⟨rfl, hb4⟩; have HB4 := Lib.hid (up_trans HB3.out hb4); clear hb4)
        | (go_at_call 42; (with_reducible refine (H3.out _).mono ?_); rintro e w5 ⟨hb5, g1, c1, rfl, ho5⟩; have HB5 := Lib.hid (up_trans HB4.out hb5); have HO5 := Lib.hid ho5; clear hb5 ho5))
      have hcap : ls.length ≤ c1 := HO5.out.len_cap
      generalize hN : ls.length = k at *
      have HN := Lib.hid hN
      have hk9 : k ≤ 1000 := by have := HLEN.out; omega
      clear hN
      go_loopg [12, 13] k (fun mm v12 v13 wr => ∃ i : Nat, v13 = .int .i64 i ∧ v12 = .int .i64 (((ls.take i).map fun s => (F s).length).sum : Nat) ∧ Hid (mm + i = k) ∧ Hid (Below w.heap.size w wr) ∧ Hid (SOwn wr w4.heap.size ls g1 c1))
      case atStart => exact ⟨0, rfl, rfl, rfl, HB5.out, HO5.out⟩
      case round =>
        obtain ⟨i, rfl, rfl, HK, HBR, HOR⟩ := hrel
        have hki := HK.out
        cases gk with
        | zero =>
          have h1 : decide (i < k) = false := decide_eq_false (by omega)
          have h2 : decide ((i : Int) < (k : Int)) = false := decide_eq_false (by omega)
          have hsm : ((ls.take i).map fun s => (F s).length).sum = m := by rw [List.take_of_length_le (by rw [HN.out]; omega)]; exact HSUM.out
          rw [hsm]
          clear hsm
          clear hki HK
          go_wp2_with (go_at_call 43; (with_reducible refine (H4.out _).mono ?_); rintro e w7 ⟨hb7, g7, c7, rfl⟩; have HB7 := Lib.hid (up_trans HBR.out hb7); clear hb7)
          go_ret
          exact ⟨by have := of_decide_eq_true hle2; first | rfl | simp [this], HB7.out⟩
        | succ m' =>
          have h1 : decide (i < k) = true := decide_eq_true (by omega)
          have h2 : decide ((i : Int) < (k : Int)) = true := decide_eq_true (by omega)
          have hik : i < k := by omega
          have hic : i ≤ c1 := by omega
          have hxl : i < ls.length := by rw [HN.out]; exact hik
          obtain ⟨y, hy⟩ : ∃ y, ls[i]? = some y := ⟨_, List.getElem?_eq_getElem hxl⟩
          have d1 := HOR.out.cell i y hy
          have hym : y ∈ ls := List.mem_of_getElem? hy
          have H6 := Lib.hid (H5.out y hym)
          have hst : ((ls.take (i + 1)).map fun s => (F s).length).sum = ((ls.take i).map fun s => (F s).length).sum + (F y).length := by
            rw [List.take_add_one, hy]
            simp
          have hbd : ((ls.take i).map fun s => (F s).length).sum + (F y).length ≤ 1000 := by
            rw [← hst]
            have h9 := HSUM.out
            rw [← List.take_append_drop (i + 1) ls, List.map_append, List.sum_append] at h9
            have := HM.out
            omega
          have HST := Lib.hid hst
          generalize ((ls.take i).map fun s => (F s).length).sum = S at *
          generalize (F y).length = fy at *
          have HK2 : Hid (m' + (i + 1) = k) := by show _ = _; omega
          have hS9 : S ≤ 1000 := by omega
          have hf9 : fy ≤ 1000 := by omega
          clear hki HK hxl hy hym hst hbd
          go_wp2_with (go_at_call 20; (with_reducible refine (H6.out _).mono ?_); rintro e w6 ⟨g6, c6, rfl, hb6⟩; have HB6 := Lib.hid hb6; clear hb6)
          all_goals go_roundg m'
          case measure => omega
          case rel => exact ⟨i + 1, rfl, by rw [HST.out]; first | rfl | (congr 1; omega) | simp, HK2, up_trans HBR.out HB6.out, HOR.out.up HB6.out⟩

end Go.Proofs.YtofbhdgccijbgaaGreatDoor
