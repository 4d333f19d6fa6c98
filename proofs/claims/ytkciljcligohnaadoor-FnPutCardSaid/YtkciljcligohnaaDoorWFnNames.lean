/- The law FnNames, walked. -/
import Derived.Test.YtkciljcligohnaaDoorWFnCanon
import Derived.Test.YtkciljcligohnaaDoorMK
import Derived.Test.YtkciljcligohnaaDoorML
namespace Go.Proofs.YtkciljcligohnaaDoor
open Go.RowKit
set_option linter.unusedVariables false
set_option linter.unusedSimpArgs false

theorem rdTy_nil : rdTy [] = none := by
  unfold rdTy rdText
  rw [if_neg (by simp)]
  simp [rd]
theorem nodup_take {ls : List (List UInt8)} (h : ls.Nodup) {i : Nat} {x : List UInt8} (hx : ls[i]? = some x) : x ∉ ls.take i := by
  intro hm
  obtain ⟨j, hj, he⟩ := List.mem_take_iff_getElem.1 hm
  obtain ⟨hi, hxe⟩ := List.getElem?_eq_some_iff.1 hx
  exact List.pairwise_iff_getElem.1 h j i (by omega) hi (by omega) (he.trans hxe.symm)

set_option maxHeartbeats 4000000 in
set_option maxRecDepth 100000 in
theorem lawFnNames (a : Option Addr) (n c : Nat) (w : World) (h : CodeRow w a n c) (htab : Lib.TabIs Tryd.prog w "internal/strconv.uint64pow10" .u64 Lib.pow10Tab) :
    Calls Tryd.prog 8 #[.slice a n c] w fun e w' => e = .returned (.bool true) ∧ Below w.heap.size w w' := by
  have HD := Lib.hid (DrawTypeNames_any a n c w h)
  have HTB : Hid (TabB w.heap.size w) := Lib.tabBelow_of_tabIs htab
  clear h htab
  cases hc : decide ((n : Int) > 1048576) with
  | true =>
    have hc' : decide (1048576 < n) = true := by simp at hc ⊢; omega
    have hc2 : decide ((1048576 : Int) < (n : Int)) = true := by simp at hc ⊢; omega
    go_enter Tryd.func8, Tryd.ntmps8
    go_wp2_with fail
    go_ret
    exact ⟨rfl, Below.refl _ _⟩
  | false =>
    have hc' : decide (1048576 < n) = false := by simp at hc ⊢; omega
    have hc2 : decide ((1048576 : Int) < (n : Int)) = false := by simp at hc ⊢; omega
    go_enter Tryd.func8, Tryd.ntmps8
    go_wp2_with (go_at_call 28; refine HD.out.mono ?_; rintro e w1 ⟨s, hs, rfl, hb1⟩; have HB1 := Lib.hid hb1; have HS := Lib.hid hs; clear hb1 hs)
    have hs9 : s.size ≤ 9223372036854775807 := by have := HS.out; omega
    have H1 := Lib.hid fun w1 => TypeNames_any s w1 hs9
    have H2 := Lib.hid fun w1 => specTypeNames_any s w1 hs9
    cases ho : rdTy s.data.toList with
    | none =>
      rw [ho] at H1 H2
      replace H1 : Hid (∀ w1, Calls Tryd.prog 26 #[.string s] w1 fun e w' => Below w1.heap.size w1 w' ∧ ∃ A c, e = .returned (.tuple #[.slice A 0 c, .bool false])) := H1
      replace H2 : Hid (∀ w1, Calls Tryd.prog 29 #[.string s] w1 fun e w' => Below w1.heap.size w1 w' ∧ ∃ A c, e = .returned (.tuple #[.slice A 0 c, .bool false])) := H2
      have HSAME : Hid (∀ A B c d w, Calls Tryd.prog 30 #[.slice A 0 c, .slice B 0 d] w fun e w' => e = .returned (.bool true) ∧ Below w.heap.size w w') := fun A B c d w => sameTexts_same [] A B c d w (by simp) (.inl rfl) (.inl rfl)
      go_wp2_with (first
        | (go_at_call 26; (with_reducible refine (H1.out _).mono ?_); rintro e w2 ⟨hb2, A2, c2, rfl⟩; have HB2 := Lib.hid (up_trans HB1.out hb2); clear hb2)
        | (go_at_call 29; (with_reducible refine (H2.out _).mono ?_); rintro e w3 ⟨hb3, A3, c3, rfl⟩; have HB3 := Lib.hid (up_trans HB2.out hb3); clear hb3)
        | (go_at_call 30; first
          | (have HB4' := HB4.out; clear HB4'; (with_reducible refine (HSAME.out _ _ _ _ _).mono ?_); rintro e w5 ⟨rfl, hb5⟩; have HB5 := Lib.hid (up_trans HB4.out hb5); clear hb5)
          | ((with_reducible refine (HSAME.out _ _ _ _ _).mono ?_); rintro e w4 ⟨rfl, hb4⟩; have HB4 := Lib.hid (up_trans HB3.out hb4); clear hb4)))
      go_ret
      exact ⟨rfl, HB5.out⟩
    | some m =>
      have hok := rdTy_some ho
      have hnl := names_len m
      have HND : Hid (m.names.Nodup) := names_nodup m (ok_ok3 hok.1)
      have HLEN : Hid (m.names.length ≤ 400) := by show _ ≤ _; omega
      have HSAME : Hid (∀ A B c d w, SCells w A m.names → SCells w B m.names → Calls Tryd.prog 30 #[.slice A m.names.length c, .slice B m.names.length d] w fun e w' => e = .returned (.bool true) ∧ Below w.heap.size w w') := fun A B c d w hx hy => sameTexts_same m.names A B c d w (by omega) hx hy
      have H3 := Lib.hid fun w1 (hw : Below w.heap.size w w1) => TypeCanon_any s w.heap.size w1 hs9 (HTB.out.below hw) hw.size
      rw [ho] at H1 H2 H3
      replace H1 : Hid (∀ w1, Calls Tryd.prog 26 #[.string s] w1 fun e w' => Below w1.heap.size w1 w' ∧ ∃ g c, e = .returned (.tuple #[.slice (some ⟨g, 0, none⟩) m.names.length c, .bool true]) ∧ SOwn w' w1.heap.size m.names g c) := H1
      replace H2 : Hid (∀ w1, Calls Tryd.prog 29 #[.string s] w1 fun e w' => Below w1.heap.size w1 w' ∧ ∃ g c, e = .returned (.tuple #[.slice (some ⟨g, 0, none⟩) m.names.length c, .bool true]) ∧ SOwn w' w1.heap.size m.names g c) := H2
      cases hto : (m.db []).told with
      | none =>
        rw [show canonOf (some m) = none from hto] at H3
        replace H3 : Hid (∀ w1, Below w.heap.size w w1 → Calls Tryd.prog 15 #[.string s] w1 fun e w' => e = .returned (.tuple #[.string (St []), .bool false]) ∧ Below w1.heap.size w1 w') := H3
        have H4 : Hid (∀ w1, Calls Tryd.prog 26 #[.string (St [])] w1 fun e w' => Below w1.heap.size w1 w' ∧ ∃ A c, e = .returned (.tuple #[.slice A 0 c, .bool false])) := fun w1 => by
          have := TypeNames_any (St []) w1 (by decide)
          rw [show rdTy (St []).data.toList = none from rdTy_nil] at this
          exact this
        clear ho hok hto hnl
        generalize m.names = ls at *
        go_wp2_with (first
          | (go_at_call 26; (with_reducible refine (H1.out _).mono ?_); rintro e w2 ⟨hb2, g1, c1, rfl, ho1⟩; have HB2 := Lib.hid (up_trans HB1.out hb2); have HO2 := Lib.hid ho1; clear hb2 ho1)
          | (go_at_call 29; (with_reducible refine (H2.out _).mono ?_); rintro e w3 ⟨hb3, g2, c2, rfl, ho2⟩; have HB3 := Lib.hid (up_trans HB2.out hb3); have HO3 := Lib.hid (HO2.out.up hb3); have HP3 := Lib.hid ho2; clear hb3 ho2)
          | (go_at_call 30; (with_reducible refine (HSAME.out _ _ _ _ _ HO3.out.reads HP3.out.reads).mono ?_); rintro e w4 ⟨rfl, hb4⟩; have HB4 := Lib.hid (up_trans HB3.out hb4); have HO4 := Lib.hid (HO3.out.up hb4); clear hb4))
        have hcap : ls.length ≤ c1 := HO4.out.len_cap
        generalize hN : ls.length = k at *
        have HN := Lib.hid hN
        have hk9 : k ≤ 1000 := by have := HLEN.out; omega
        clear hN
        go_loopg [8] k (fun mm v8 wr => ∃ i : Nat, v8 = .int .i64 i ∧ Hid (mm + i = k) ∧ Hid (Below w.heap.size w wr) ∧ Hid (SOwn wr w1.heap.size ls g1 c1))
        case atStart => exact ⟨0, rfl, rfl, HB4.out, HO4.out⟩
        case round =>
          obtain ⟨i, rfl, HK, HBR, HOR⟩ := hrel
          have hki := HK.out
          cases gk with
          | zero =>
            have h1 : decide (i < k) = false := decide_eq_false (by omega)
            have h2 : decide ((i : Int) < (k : Int)) = false := decide_eq_false (by omega)
            clear hki HK
            go_wp2_with (first
              | (go_at_call 15; (with_reducible refine (H3.out _ HBR.out).mono ?_); rintro e w6 ⟨rfl, hb6⟩; have HB6 := Lib.hid (up_trans HBR.out hb6); clear hb6)
              | (go_at_call 26; (with_reducible refine (H4.out _).mono ?_); rintro e w7 ⟨hb7, A7, c7, rfl⟩; have HB7 := Lib.hid (up_trans HB6.out hb7); clear hb7))
            go_ret
            exact ⟨rfl, HB7.out⟩
          | succ m' =>
            have h1 : decide (i < k) = true := decide_eq_true (by omega)
            have h2 : decide ((i : Int) < (k : Int)) = true := decide_eq_true (by omega)
            have hik : i < k := by omega
            have hic : i ≤ c1 := by omega
            have hxl : i < ls.length := by rw [HN.out]; exact hik
            obtain ⟨x, hx⟩ : ∃ x, ls[i]? = some x := ⟨_, List.getElem?_eq_getElem hxl⟩
            have d1 := HOR.out.cell i x hx
            have hno : decide (x ∈ ls.take i) = false := decide_eq_false (nodup_take HND.out hx)
            have HH : Hid (∀ w5, Below wr.heap.size wr w5 → Calls Tryd.prog 31 #[.slice (some ⟨g1, 0, none⟩) i c1, .string (St x)] w5 fun e w' => e = .returned (.bool false) ∧ Below w5.heap.size w5 w') := fun w5 hb => by
              have hsc : SCells w5 (some ⟨g1, 0, none⟩) (ls.take i) := .inr ⟨g1, 0, rfl, fun j l hl => by
                rw [Nat.zero_add]
                rw [List.getElem?_take] at hl
                split at hl
                · exact cell_up hb (HOR.out.cell j l hl)
                · cases hl⟩
              have hlen : (ls.take i).length = i := by rw [List.length_take]; omega
              have := hasText_any (ls.take i) _ c1 x w5 (by rw [hlen]; omega) hsc
              rw [hlen, hno] at this
              exact this
            have HK2 : Hid (m' + (i + 1) = k) := by show _ = _; omega
            clear hki HK hno hxl hx
            go_wp2
            go_region_held3 (fun w' => w'.cell? ⟨g1, i, none⟩ = some (.string (St x)))
              (first | exact d5 | exact d1 | go_keep)
              ((go_at_call 31; (refine (HH.out _ (by first | exact Below.refl _ _ | exact up_drew (Below.refl _ _))).mono ?_); rintro e w5 ⟨rfl, hb5⟩; have HB5 : Hid (Below wr.heap.size wr w5) := (by first | exact hb5 | exact un_drew hb5); have d5 := cell_up HB5.out d1; clear hb5))
            all_goals go_wp2
            all_goals go_roundg m'
            case measure => omega
            case rel => exact ⟨i + 1, rfl, HK2, up_trans HBR.out HB5.out, HOR.out.up HB5.out⟩
      | some tc =>
        obtain ⟨m2, hm2, hok2, _, _, hnm2, _⟩ := told_db (ok_ok3 hok.1) hto
        have hcl := told_len (ok_ok3 hok.1) hto
        rw [show canonOf (some m) = some tc from hto] at H3
        replace H3 : Hid (∀ w1, Below w.heap.size w w1 → Calls Tryd.prog 15 #[.string s] w1 fun e w' => e = .returned (.tuple #[.string (St tc), .bool true]) ∧ Below w1.heap.size w1 w') := H3
        have H4 : Hid (∀ w1, Calls Tryd.prog 26 #[.string (St tc)] w1 fun e w' => Below w1.heap.size w1 w' ∧ ∃ g c, e = .returned (.tuple #[.slice (some ⟨g, 0, none⟩) m.names.length c, .bool true]) ∧ SOwn w' w1.heap.size m.names g c) := fun w1 => by
          have := TypeNames_any (St tc) w1 (by show tc.length ≤ _; omega)
          rw [show rdTy (St tc).data.toList = some m2 from hm2] at this
          have h2 : Calls Tryd.prog 26 #[.string (St tc)] w1 fun e w' => Below w1.heap.size w1 w' ∧ ∃ g c, e = .returned (.tuple #[.slice (some ⟨g, 0, none⟩) m2.names.length c, .bool true]) ∧ SOwn w' w1.heap.size m2.names g c := this
          rw [hnm2] at h2
          exact h2
        clear ho hok hto hnl hm2 hok2 hnm2 hcl
        generalize m.names = ls at *
        go_wp2_with (first
          | (go_at_call 26; (with_reducible refine (H1.out _).mono ?_); rintro e w2 ⟨hb2, g1, c1, rfl, ho1⟩; have HB2 := Lib.hid (up_trans HB1.out hb2); have HO2 := Lib.hid ho1; clear hb2 ho1)
          | (go_at_call 29; (with_reducible refine (H2.out _).mono ?_); rintro e w3 ⟨hb3, g2, c2, rfl, ho2⟩; have HB3 := Lib.hid (up_trans HB2.out hb3); have HO3 := Lib.hid (HO2.out.up hb3); have HP3 := Lib.hid ho2; clear hb3 ho2)
          | (go_at_call 30; (with_reducible refine (HSAME.out _ _ _ _ _ HO3.out.reads HP3.out.reads).mono ?_); rintro e w4 ⟨rfl, hb4⟩; have HB4 := Lib.hid (up_trans HB3.out hb4); have HO4 := Lib.hid (HO3.out.up hb4); clear hb4))
        have hcap : ls.length ≤ c1 := HO4.out.len_cap
        generalize hN : ls.length = k at *
        have HN := Lib.hid hN
        have hk9 : k ≤ 1000 := by have := HLEN.out; omega
        clear hN
        go_loopg [8] k (fun mm v8 wr => ∃ i : Nat, v8 = .int .i64 i ∧ Hid (mm + i = k) ∧ Hid (Below w.heap.size w wr) ∧ Hid (SOwn wr w1.heap.size ls g1 c1))
        case atStart => exact ⟨0, rfl, rfl, HB4.out, HO4.out⟩
        case round =>
          obtain ⟨i, rfl, HK, HBR, HOR⟩ := hrel
          have hki := HK.out
          cases gk with
          | zero =>
            have h1 : decide (i < k) = false := decide_eq_false (by omega)
            have h2 : decide ((i : Int) < (k : Int)) = false := decide_eq_false (by omega)
            clear hki HK
            go_wp2_with (first
              | (go_at_call 15; (with_reducible refine (H3.out _ HBR.out).mono ?_); rintro e w6 ⟨rfl, hb6⟩; have HB6 := Lib.hid (up_trans HBR.out hb6); have HO6 := Lib.hid (HOR.out.up hb6); clear hb6)
              | (go_at_call 26; (with_reducible refine (H4.out _).mono ?_); rintro e w7 ⟨hb7, g7, c7, rfl, ho7⟩; have HB7 := Lib.hid (up_trans HB6.out hb7); have HO7 := Lib.hid (HO6.out.up hb7); have HP7 := Lib.hid ho7; clear hb7 ho7)
              | (go_at_call 30; (with_reducible refine (HSAME.out _ _ _ _ _ HP7.out.reads HO7.out.reads).mono ?_); rintro e w8 ⟨rfl, hb8⟩; have HB8 := Lib.hid (up_trans HB7.out hb8); clear hb8))
            go_ret
            exact ⟨rfl, HB8.out⟩
          | succ m' =>
            have h1 : decide (i < k) = true := decide_eq_true (by omega)
            have h2 : decide ((i : Int) < (k : Int)) = true := decide_eq_true (by omega)
            have hik : i < k := by omega
            have hic : i ≤ c1 := by omega
            have hxl : i < ls.length := by rw [HN.out]; exact hik
            obtain ⟨x, hx⟩ : ∃ x, ls[i]? = some x := ⟨_, List.getElem?_eq_getElem hxl⟩
            have d1 := HOR.out.cell i x hx
            have hno : decide (x ∈ ls.take i) = false := decide_eq_false (nodup_take HND.out hx)
            have HH : Hid (∀ w5, Below wr.heap.size wr w5 → Calls Tryd.prog 31 #[.slice (some ⟨g1, 0, none⟩) i c1, .string (St x)] w5 fun e w' => e = .returned (.bool false) ∧ Below w5.heap.size w5 w') := fun w5 hb => by
              have hsc : SCells w5 (some ⟨g1, 0, none⟩) (ls.take i) := .inr ⟨g1, 0, rfl, fun j l hl => by
                rw [Nat.zero_add]
                rw [List.getElem?_take] at hl
                split at hl
                · exact cell_up hb (HOR.out.cell j l hl)
                · cases hl⟩
              have hlen : (ls.take i).length = i := by rw [List.length_take]; omega
              have := hasText_any (ls.take i) _ c1 x w5 (by rw [hlen]; omega) hsc
              rw [hlen, hno] at this
              exact this
            have HK2 : Hid (m' + (i + 1) = k) := by show _ = _; omega
            clear hki HK hno hxl hx
            go_wp2
            go_region_held3 (fun w' => w'.cell? ⟨g1, i, none⟩ = some (.string (St x)))
              (first | exact d5 | exact d1 | go_keep)
              ((go_at_call 31; (refine (HH.out _ (by first | exact Below.refl _ _ | exact up_drew (Below.refl _ _))).mono ?_); rintro e w5 ⟨rfl, hb5⟩; have HB5 : Hid (Below wr.heap.size wr w5) := (by first | exact hb5 | exact un_drew hb5); have d5 := cell_up HB5.out d1; clear hb5))
            all_goals go_wp2
            all_goals go_roundg m'
            case measure => omega
            case rel => exact ⟨i + 1, rfl, HK2, up_trans HBR.out HB5.out, HOR.out.up HB5.out⟩


end Go.Proofs.YtkciljcligohnaaDoor
