/- The law FnElements, walked. -/
import Derived.Test.YtcfecmlfcjgdbaaDoorWFnValueSize
import Derived.Test.YtcfecmlfcjgdbaaDoorVElems
import Derived.Test.YtcfecmlfcjgdbaaDoorML
namespace Go.Proofs.YtcfecmlfcjgdbaaDoor
open Go.RowKit
set_option linter.unusedVariables false
set_option linter.unusedSimpArgs false

theorem take_cells {w : World} {A : Option Addr} {ls rs : List (List UInt8)} (h : SCells w A (ls ++ rs)) : SCells w A ls := by
  rcases h with h | ⟨g, o, rfl, h⟩
  · exact .inl (List.append_eq_nil_iff.1 h).1
  · refine .inr ⟨g, o, rfl, fun i l hl => h i l ?_⟩
    rw [List.getElem?_append_left (List.getElem?_eq_some_iff.1 hl).1]
    exact hl
set_option maxHeartbeats 4000000 in
set_option maxRecDepth 100000 in
theorem lawFnElements (a : Option Addr) (n c : Nat) (w : World) (h : CodeRow w a n c) :
    Calls Tryd.prog 7 #[.slice a n c] w fun e w' => e = .returned (.bool true) ∧ Below w.heap.size w w' := by
  have HD := Lib.hid (DrawValueElements_any a n c w h)
  clear h
  cases hc : decide ((n : Int) > 1048576) with
  | true =>
    have hc' : decide (1048576 < n) = true := by simp at hc ⊢; omega
    have hc2 : decide ((1048576 : Int) < (n : Int)) = true := by simp at hc ⊢; omega
    go_enter Tryd.func7, Tryd.ntmps7
    go_wp2_with fail
    go_ret
    exact ⟨rfl, Below.refl _ _⟩
  | false =>
    have hc' : decide (1048576 < n) = false := by simp at hc ⊢; omega
    have hc2 : decide ((1048576 : Int) < (n : Int)) = false := by simp at hc ⊢; omega
    go_enter Tryd.func7, Tryd.ntmps7
    go_wp2_with (go_at_call 19; refine HD.out.mono ?_; rintro e w1 ⟨s, hs, rfl, hb1⟩; have HB1 := Lib.hid hb1; have HS := Lib.hid hs; clear hb1 hs)
    have hs9 : s.size ≤ 9223372036854775807 := by have := HS.out; omega
    have q1 : ¬ 9223372036854775807 < 3 + s.size := by have := HS.out; omega
    have q2 : ¬ 9223372036854775807 < 3 + s.size + 4 := by have := HS.out; omega
    have s1 : ((⟨#[40, 112, 32]⟩ : ByteArray) ++ s ++ ⟨#[32, 101, 55, 41]⟩).size ≤ 9223372036854775807 := by have := HS.out; simp only [ByteArray.size_append, zsz, List.size_toArray, List.length_cons, List.length_nil]; omega
    have H1 := Lib.hid fun w1 => ValueElements_any s w1 hs9
    have H2 := Lib.hid fun w1 => specValueElements_any s w1 hs9
    have H3 := Lib.hid fun w1 => ValueElements_any _ w1 s1
    rw [pe_data] at H3
    cases ho : rdVal s.data.toList with
    | none =>
      rw [ho] at H1 H2
      replace H1 : Hid (∀ w1, Calls Tryd.prog 20 #[.string s] w1 fun e w' => Below w1.heap.size w1 w' ∧ ∃ A c, e = .returned (.tuple #[.slice A 0 c, .bool false])) := H1
      replace H2 : Hid (∀ w1, Calls Tryd.prog 21 #[.string s] w1 fun e w' => Below w1.heap.size w1 w' ∧ ∃ A c, e = .returned (.tuple #[.slice A 0 c, .bool false])) := H2
      have HSAME : Hid (∀ A B c d w, Calls Tryd.prog 22 #[.slice A 0 c, .slice B 0 d] w fun e w' => e = .returned (.bool true) ∧ Below w.heap.size w w') := fun A B c d w => sameTexts_same [] A B c d w (by simp) (.inl rfl) (.inl rfl)
      go_wp2_with (first
        | (go_at_call 20; (with_reducible refine (H1.out _).mono ?_); rintro e w2 ⟨hb2, A2, c2, rfl⟩; have HB2 := Lib.hid (up_trans HB1.out hb2); clear hb2)
        | (go_at_call 21; (with_reducible refine (H2.out _).mono ?_); rintro e w3 ⟨hb3, A3, c3, rfl⟩; have HB3 := Lib.hid (up_trans HB2.out hb3); clear hb3)
        | (go_at_call 22; first
          | (have HB4' := HB4.out; clear HB4'; (with_reducible refine (HSAME.out _ _ _ _ _).mono ?_); rintro e w5 ⟨rfl, hb5⟩; have HB5 := Lib.hid (up_trans HB4.out hb5); clear hb5)
          | ((with_reducible refine (HSAME.out _ _ _ _ _).mono ?_); rintro e w4 ⟨rfl, hb4⟩; have HB4 := Lib.hid (up_trans HB3.out hb4); clear hb4)))
      go_ret
      exact ⟨rfl, HB5.out⟩
    | some v =>
      have hle := elems_len v
      have hnv := rdVal_nodes ho
      have HLEN : Hid (v.elems.length ≤ 200) := by show _ ≤ _; omega
      have HSAME : Hid (∀ A B c d w, SCells w A v.elems → SCells w B v.elems → Calls Tryd.prog 22 #[.slice A v.elems.length c, .slice B v.elems.length d] w fun e w' => e = .returned (.bool true) ∧ Below w.heap.size w w') := fun A B c d w hx hy => sameTexts_same v.elems A B c d w (by omega) hx hy
      rw [ho] at H1 H2
      replace H1 : Hid (∀ w1, Calls Tryd.prog 20 #[.string s] w1 fun e w' => Below w1.heap.size w1 w' ∧ ∃ g c, e = .returned (.tuple #[.slice (some ⟨g, 0, none⟩) v.elems.length c, .bool true]) ∧ SOwn w' w1.heap.size v.elems g c) := H1
      replace H2 : Hid (∀ w1, Calls Tryd.prog 21 #[.string s] w1 fun e w' => Below w1.heap.size w1 w' ∧ ∃ g c, e = .returned (.tuple #[.slice (some ⟨g, 0, none⟩) v.elems.length c, .bool true]) ∧ SOwn w' w1.heap.size v.elems g c) := H2
      rcases rdVal_pair ho [101, 55] (.el [101, 55]) (.inl ⟨by simp, by decide, rfl⟩) (valOf_el (by decide) (by decide) []) (by simp [Tr.txt]) with h3 | h3
      · rw [h3] at H3
        replace H3 : Hid (∀ w1, Calls Tryd.prog 20 #[.string (⟨#[40, 112, 32]⟩ ++ s ++ ⟨#[32, 101, 55, 41]⟩)] w1 fun e w' => Below w1.heap.size w1 w' ∧ ∃ A c, e = .returned (.tuple #[.slice A 0 c, .bool false])) := H3
        clear ho h3 hle hnv s1
        generalize v.elems = ls at *
        generalize ls.length = k at *
        go_wp2_with (first
          | (go_at_call 20; first
            | (have HB4' := HB4.out; clear HB4'; (with_reducible refine (H3.out _).mono ?_); rintro e w5 ⟨hb5, A5, c5, rfl⟩; have HB5 := Lib.hid (up_trans HB4.out hb5); clear hb5)
            | ((with_reducible refine (H1.out _).mono ?_); rintro e w2 ⟨hb2, g1, c1, rfl, ho1⟩; have HB2 := Lib.hid (up_trans HB1.out hb2); have HO2 := Lib.hid ho1; clear hb2 ho1))
          | (go_at_call 21; (with_reducible refine (H2.out _).mono ?_); rintro e w3 ⟨hb3, g2, c2, rfl, ho2⟩; have HB3 := Lib.hid (up_trans HB2.out hb3); have HO3 := Lib.hid (HO2.out.up hb3); have HP3 := Lib.hid ho2; clear hb3 ho2)
          | (go_at_call 22; (with_reducible refine (HSAME.out _ _ _ _ _ HO3.out.reads HP3.out.reads).mono ?_); rintro e w4 ⟨rfl, hb4⟩; have HB4 := Lib.hid (up_trans HB3.out hb4); clear hb4))
        go_ret
        exact ⟨rfl, HB5.out⟩
      · rw [h3] at H3
        have h3' : Hid (∀ w1, Calls Tryd.prog 20 #[.string (⟨#[40, 112, 32]⟩ ++ s ++ ⟨#[32, 101, 55, 41]⟩)] w1 fun e w' => Below w1.heap.size w1 w' ∧ ∃ g c, e = .returned (.tuple #[.slice (some ⟨g, 0, none⟩) (v.elems.length + 1) c, .bool true]) ∧ SOwn w' w1.heap.size (v.elems ++ [[101, 55]]) g c) := fun w1 => by
          have h4 : Calls Tryd.prog 20 #[.string (⟨#[40, 112, 32]⟩ ++ s ++ ⟨#[32, 101, 55, 41]⟩)] w1 fun e w' => Below w1.heap.size w1 w' ∧ ∃ g c, e = .returned (.tuple #[.slice (some ⟨g, 0, none⟩) (v.elems ++ [[101, 55]]).length c, .bool true]) ∧ SOwn w' w1.heap.size (v.elems ++ [[101, 55]]) g c := H3.out w1
          rw [List.length_append] at h4
          exact h4
        clear ho h3 hle hnv s1 H3
        generalize v.elems = ls at *
        have HN : Hid (ls.length = ls.length) := rfl
        obtain ⟨k, hk⟩ : ∃ k, ls.length = k := ⟨_, rfl⟩
        have HK := Lib.hid hk
        have hk9 : k ≤ 200 := by have := HLEN.out; omega
        rw [hk] at h3' H1 H2 HSAME
        clear hk HN HLEN
        have kk : (((k + 1 : Nat) : Int) == (k : Int) + 1) = true := by simp
        have kw : IntKind.i64.wrap ((k : Int) + 1) = (k : Int) + 1 := by rw [IntKind.wrap_i64]; omega
        go_upto_region 9 with (first
          | (go_at_call 20; first
            | (have HB4' := HB4.out; clear HB4'; (with_reducible refine (h3'.out _).mono ?_); rintro e w5 ⟨hb5, g5, c5, rfl, ho5⟩; have HB5 := Lib.hid (up_trans HB4.out hb5); have HO5 := Lib.hid ho5; have HX5 := Lib.hid (HO4.out.up hb5); clear hb5 ho5)
            | ((with_reducible refine (H1.out _).mono ?_); rintro e w2 ⟨hb2, g1, c1, rfl, ho1⟩; have HB2 := Lib.hid (up_trans HB1.out hb2); have HO2 := Lib.hid ho1; clear hb2 ho1))
          | (go_at_call 21; (with_reducible refine (H2.out _).mono ?_); rintro e w3 ⟨hb3, g2, c2, rfl, ho2⟩; have HB3 := Lib.hid (up_trans HB2.out hb3); have HO3 := Lib.hid (HO2.out.up hb3); have HP3 := Lib.hid ho2; clear hb3 ho2)
          | (go_at_call 22; (with_reducible refine (HSAME.out _ _ _ _ _ HO3.out.reads HP3.out.reads).mono ?_); rintro e w4 ⟨rfl, hb4⟩; have HB4 := Lib.hid (up_trans HB3.out hb4); have HO4 := Lib.hid (HO3.out.up hb4); clear hb4))
        have hcap : k ≤ c5 := by have := HO5.out.len_cap; rw [List.length_append, HK.out] at this; omega
        have hcap2 : k + 1 ≤ c5 := by have := HO5.out.len_cap; rw [List.length_append, HK.out] at this; simpa using this
        have HCE : Hid (∀ w6, Below w5.heap.size w5 w6 → w6.cell? ⟨g5, k, none⟩ = some (.string (St [101, 55]))) := fun w6 hb => by
          have := (HO5.out.up hb).cell k [101, 55] (by rw [← HK.out]; simp)
          exact this
        go_wp2_with (go_at_call 22; (refine (HSAME.out _ _ _ _ _ (take_cells HO5.out.reads) HX5.out.reads).mono ?_); rintro e w6 ⟨rfl, hb6⟩; have HB6 := Lib.hid (up_trans HB5.out hb6); have d6 := HCE.out w6 hb6; clear hb6)
        go_ret
        exact ⟨by first | rfl | simp, HB6.out⟩

end Go.Proofs.YtcfecmlfcjgdbaaDoor
