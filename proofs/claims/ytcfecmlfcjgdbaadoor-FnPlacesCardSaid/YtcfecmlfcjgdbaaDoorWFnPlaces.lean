/- The law FnPlaces, walked. -/
import Derived.Test.YtcfecmlfcjgdbaaDoorTwice
import Derived.Test.YtcfecmlfcjgdbaaDoorMH
import Derived.Test.YtcfecmlfcjgdbaaDoorMJ
import Derived.Test.YtcfecmlfcjgdbaaDoorDraw7
namespace Go.Proofs.YtcfecmlfcjgdbaaDoor
open Go.RowKit
set_option linter.unusedVariables false
set_option linter.unusedSimpArgs false

theorem put_emp (l : List UInt8) (u : Ty) : ∀ (t : Ty), t.emp = true → (t.put l u).emp = true
  | .zero, _ => rfl
  | .one, h => h
  | .bound _, _ => rfl
  | .name _, h => by cases h
  | .sum a b, h => by
    simp only [Ty.emp, Bool.and_eq_true] at h
    simp only [Ty.put, Ty.emp, Bool.and_eq_true]
    exact ⟨put_emp l u a h.1, put_emp l u b h.2⟩
  | .prod a b, h => by
    simp only [Ty.emp, Bool.or_eq_true] at h
    simp only [Ty.put, Ty.emp, Bool.or_eq_true]
    exact h.elim (fun h => .inl (put_emp l u a h)) (fun h => .inr (put_emp l u b h))
  | .loop a, h => put_emp l u a h
/-- What does not stand in a type has an empty derivative. -/
theorem Der.emp {t : Ty} {x : List UInt8} {o : Option Ty} (h : Der t x o) : ¬ t.has x → ∀ d, o = some d → d.emp = true := by
  induction h with
  | zero x => rintro _ d h; cases h; rfl
  | one x => rintro _ d h; cases h; rfl
  | bound k x => rintro _ d h; cases h; rfl
  | hit x => intro h; exact absurd rfl h
  | miss s x h => rintro _ d h; cases h; rfl
  | sum a b x oa ob _ _ iha ihb =>
    intro hn d h
    obtain ⟨h, _⟩ := chkO_some h
    cases oa with
    | none => cases h
    | some a' =>
      cases ob with
      | none => cases h
      | some b' =>
        cases h
        simp only [Ty.emp, Bool.and_eq_true]
        exact ⟨iha (fun h => hn (.inl h)) a' rfl, ihb (fun h => hn (.inr h)) b' rfl⟩
  | prod a b x oa ob _ _ iha ihb =>
    intro hn d h
    obtain ⟨h, _⟩ := chkO_some h
    cases oa with
    | none => cases h
    | some a' =>
      cases ob with
      | none => cases h
      | some b' =>
        cases h
        simp only [Ty.emp, Bool.and_eq_true, Bool.or_eq_true]
        exact ⟨.inl (iha (fun h => hn (.inl h)) a' rfl), .inr (ihb (fun h => hn (.inr h)) b' rfl)⟩
  | loop a x l oc od hl hla _ _ ihc ihd =>
    intro hn d h
    obtain ⟨h, _⟩ := chkO_some h
    cases oc with
    | none => cases h
    | some c =>
      cases od with
      | none => cases h
      | some e =>
        cases h
        have hc := ihc (fun h => ((opened_has x (.name l) a 0).2 h).elim hn fun h => hl h) c rfl
        simp only [Ty.emp, Bool.and_eq_true, Bool.or_eq_true]
        exact ⟨put_emp l _ c hc, .inr trivial⟩
theorem usesT_has (nm : List UInt8) : ∀ (t : Ty), t.usesT nm = 0 → ¬ t.has nm
  | .zero, _ => fun h => h
  | .one, _ => fun h => h
  | .bound _, _ => fun h => h
  | .name s, h => fun hh => by
    have hh : s = nm := hh
    simp only [Ty.usesT] at h
    rw [if_pos hh] at h
    cases h
  | .sum a b, h => fun hh => by
    simp only [Ty.usesT] at h
    exact hh.elim (usesT_has nm a (by omega)) (usesT_has nm b (by omega))
  | .prod a b, h => fun hh => by
    simp only [Ty.usesT] at h
    exact hh.elim (usesT_has nm a (by omega)) (usesT_has nm b (by omega))
  | .loop a, h => usesT_has nm a h
theorem two_data (s : ByteArray) : ((⟨#[40, 43, 32]⟩ : ByteArray) ++ s ++ ⟨#[32]⟩ ++ s ++ ⟨#[41]⟩).data.toList = [40, 43, 32] ++ s.data.toList ++ [32] ++ s.data.toList ++ [41] := by
  simp [ByteArray.data_append]
theorem places_some {l x : List UInt8} {k : Int} (h : placesOf (rdTy l) x = k) (hk : 0 ≤ k) : ∃ n, rdTy l = some n ∧ paramB x = true ∧ k = (n.uses x : Nat) := by
  cases hr : rdTy l with
  | none => rw [hr] at h; simp only [placesOf] at h; omega
  | some n =>
    rw [hr] at h
    simp only [placesOf] at h
    split at h
    · rename_i hp
      exact ⟨n, rfl, hp, h.symm⟩
    · omega
theorem places_two {l x : List UInt8} {k : Int} (h : placesOf (rdTy l) x = k) (hk : 0 ≤ k) : placesOf (rdTy ([40, 43, 32] ++ l ++ [32] ++ l ++ [41])) x = -1 ∨ placesOf (rdTy ([40, 43, 32] ++ l ++ [32] ++ l ++ [41])) x = 2 * k := by
  obtain ⟨n, hn, hp, rfl⟩ := places_some h hk
  obtain ⟨t, rfl, hw, ht⟩ := rdTy_tree hn
  have := rdTy_bin true t t n n hw hw ht ht
  rcases this with h1 | h1
  · left
    have h1 : rdTy ([40, 43, 32] ++ t.txt ++ [32] ++ t.txt ++ [41]) = none := h1
    rw [h1]
    rfl
  · right
    have h1 : rdTy ([40, 43, 32] ++ t.txt ++ [32] ++ t.txt ++ [41]) = some (.sum n n) := h1
    rw [h1]
    simp only [placesOf, NT.uses]
    rw [if_pos hp]
    omega
theorem places_none {l x c : List UInt8} (h : placesOf (rdTy l) x = 0) (hd : derivOf (rdTy l) x = some c) : noneOf l x = true := by
  obtain ⟨n, hn, hp, hu⟩ := places_some h (by omega)
  obtain ⟨n', d, hn', _, hD, _, ⟨m, hm, _, hmd⟩, _⟩ := derivOf_some hd
  rw [hn] at hn'
  cases hn'
  unfold noneOf
  rw [hd]
  show emptyOf (rdTy c) = true
  rw [hm]
  show (m.db []).emp = true
  rw [hmd]
  refine hD.emp (usesT_has x _ ?_) d rfl
  rw [usesT_out x n [] (ok_ok3 (rdTy_some hn).1) (by simp) (by simp)]
  omega

set_option maxHeartbeats 4000000 in
set_option maxRecDepth 100000 in
theorem lawFnPlaces (a : Option Addr) (n c : Nat) (w : World) (h : CodeRow w a n c) (htab : Lib.TabIs Tryd.prog w "internal/strconv.uint64pow10" .u64 Lib.pow10Tab) :
    Calls Tryd.prog 6 #[.slice a n c] w fun e w' => e = .returned (.bool true) ∧ Below w.heap.size w w' := by
  have HD := Lib.hid (DrawDerivPlaces_any a n c w h)
  have HTB : Hid (TabB w.heap.size w) := Lib.tabBelow_of_tabIs htab
  clear h htab
  cases hc : decide ((n : Int) > 1048576) with
  | true =>
    have hc' : decide (1048576 < n) = true := by simp at hc ⊢; omega
    have hc2 : decide ((1048576 : Int) < (n : Int)) = true := by simp at hc ⊢; omega
    go_enter Tryd.func6, Tryd.ntmps6
    go_wp2_with fail
    go_ret
    exact ⟨rfl, Below.refl _ _⟩
  | false =>
    have hc' : decide (1048576 < n) = false := by simp at hc ⊢; omega
    have hc2 : decide ((1048576 : Int) < (n : Int)) = false := by simp at hc ⊢; omega
    go_enter Tryd.func6, Tryd.ntmps6
    go_wp2_with (go_at_call 15; refine HD.out.mono ?_; rintro e w1 ⟨s, nm, hs, hnm, rfl, hb1⟩; have HB1 := Lib.hid hb1; have HS := Lib.hid hs; have HN := Lib.hid hnm; clear hb1 hs hnm)
    have hs9 : s.size ≤ 9223372036854775807 := by have := HS.out; omega
    have H1 := Lib.hid fun w1 => DerivPlaces_any s nm.data.toList w1 hs9
    have H2 := Lib.hid fun w1 => specDerivPlaces_any s nm.data.toList w1 hs9
    have hk2 := fun hk => places_two (l := s.data.toList) (x := nm.data.toList) rfl hk
    have hk3 := fun h c => places_none (l := s.data.toList) (x := nm.data.toList) (c := c) h
    have hle : placesOf (rdTy s.data.toList) nm.data.toList ≤ 400 := by
      by_cases hk : 0 ≤ placesOf (rdTy s.data.toList) nm.data.toList
      · obtain ⟨n, hn, _, hu⟩ := places_some rfl hk
        have := uses_atoms nm.data.toList n
        have := (rdTy_some hn).2
        omega
      · omega
    have s1 : ((⟨#[40, 43, 32]⟩ : ByteArray) ++ s ++ ⟨#[32]⟩ ++ s ++ ⟨#[41]⟩).size ≤ 9223372036854775807 := by have := HS.out; simp only [ByteArray.size_append, zsz, List.size_toArray, List.length_cons, List.length_nil]; omega
    have H3 := Lib.hid fun w1 => DerivPlaces_any _ nm.data.toList w1 s1
    rw [two_data] at H3
    have H4 := Lib.hid fun w1 (hw : Below w.heap.size w w1) => DerivOf_any s nm w.heap.size w1 hs9 (HTB.out.below hw) hw.size
    have H5 := Lib.hid fun w1 (hw : Below w.heap.size w w1) => DerivNone_any s nm w.heap.size w1 hs9 (HTB.out.below hw) hw.size
    have q1 : ¬ 9223372036854775807 < 3 + s.size := by have := HS.out; omega
    have q2 : ¬ 9223372036854775807 < 3 + s.size + 1 := by have := HS.out; omega
    have q3 : ¬ 9223372036854775807 < 3 + s.size + 1 + s.size := by have := HS.out; omega
    have q4 : ¬ 9223372036854775807 < 3 + s.size + 1 + s.size + 1 := by have := HS.out; omega
    generalize placesOf (rdTy ([40, 43, 32] ++ s.data.toList ++ [32] ++ s.data.toList ++ [41])) nm.data.toList = y at *
    generalize placesOf (rdTy s.data.toList) nm.data.toList = x at *
    have e0 : (St nm.data.toList) = nm := rfl
    rw [e0] at H1 H2 H3
    have k0 : (x != x) = false := by simp
    cases hneg : decide (x < 0) with
    | true =>
      clear hk2 hk3 H3 H4 H5 hle s1
      go_wp2_with (first
        | (go_at_call 16; (with_reducible refine (H1.out _).mono ?_); rintro e w2 ⟨rfl, hb2⟩; have HB2 := Lib.hid (up_trans HB1.out hb2); clear hb2)
        | (go_at_call 17; (with_reducible refine (H2.out _).mono ?_); rintro e w3 ⟨rfl, hb3⟩; have HB3 := Lib.hid (up_trans HB2.out hb3); clear hb3))
      go_ret
      exact ⟨by first | rfl | simp, HB3.out⟩
    | false =>
      have hx0 : 0 ≤ x := by simpa using hneg
      have hy : y = -1 ∨ (y ≠ -1 ∧ y = 2 * x) := by
        rcases hk2 hx0 with h | h
        · exact .inl h
        · exact .inr ⟨by omega, h⟩
      have hwr : IntKind.i64.wrap (2 * x) = 2 * x := by rw [IntKind.wrap_i64]; omega
      obtain ⟨od, hod⟩ : ∃ od, od = derivOf (rdTy s.data.toList) nm.data.toList := ⟨_, rfl⟩
      have hfin : 0 < x ∨ ((¬ 0 < x ∧ od.isSome = false) ∨ (¬ 0 < x ∧ od.isSome = true ∧ noneOf s.data.toList nm.data.toList = true)) := by
        by_cases hx : 0 < x
        · exact .inl hx
        · right
          cases od with
          | none => exact .inl ⟨hx, rfl⟩
          | some c => exact .inr ⟨hx, rfl, hk3 (by omega) c hod.symm⟩
      rw [← hod] at H4
      generalize noneOf s.data.toList nm.data.toList = bn at *
      generalize od.getD [] = tx at *
      generalize od.isSome = bo at *
      clear hk2 hk3 hle s1 hod
      have n1 : decide (x < 0) = false := hneg
      rcases hy with h2 | ⟨h2, h3⟩
      · have k2 : (y == -1) = true := by rw [h2]; rfl
        clear h2
        rcases hfin with h1 | ⟨h1, rfl⟩ | ⟨h1, rfl, rfl⟩
        · have k1 : decide (0 < x) = true := decide_eq_true h1
          have k1' : decide (x > 0) = true := k1
          clear h1
          go_wp2_with (first
        | (go_at_call 16; first
          | (have HB4' := HB4.out; clear HB4'; (with_reducible refine (H3.out _).mono ?_); rintro e w5 ⟨rfl, hb5⟩; have HB5 := Lib.hid (up_trans HB4.out hb5); clear hb5)
          | ((with_reducible refine (H1.out _).mono ?_); rintro e w2 ⟨rfl, hb2⟩; have HB2 := Lib.hid (up_trans HB1.out hb2); clear hb2))
        | (go_at_call 17; (with_reducible refine (H2.out _).mono ?_); rintro e w3 ⟨rfl, hb3⟩; have HB3 := Lib.hid (up_trans HB2.out hb3); clear hb3)
        | (go_at_call 10; (with_reducible refine (H4.out _ HB3.out).mono ?_); rintro e w4 ⟨rfl, hb4⟩; have HB4 := Lib.hid (up_trans HB3.out hb4); clear hb4)
        | (go_at_call 18; (with_reducible refine (H5.out _ HB5.out).mono ?_); rintro e w6 ⟨rfl, hb6⟩; have HB6 := Lib.hid (up_trans HB5.out hb6); clear hb6))
          go_ret
          exact ⟨by first | rfl | simp, HB5.out⟩
        · have k1 : decide (0 < x) = false := decide_eq_false h1
          have k1' : decide (x > 0) = false := k1
          clear h1
          go_wp2_with (first
        | (go_at_call 16; first
          | (have HB4' := HB4.out; clear HB4'; (with_reducible refine (H3.out _).mono ?_); rintro e w5 ⟨rfl, hb5⟩; have HB5 := Lib.hid (up_trans HB4.out hb5); clear hb5)
          | ((with_reducible refine (H1.out _).mono ?_); rintro e w2 ⟨rfl, hb2⟩; have HB2 := Lib.hid (up_trans HB1.out hb2); clear hb2))
        | (go_at_call 17; (with_reducible refine (H2.out _).mono ?_); rintro e w3 ⟨rfl, hb3⟩; have HB3 := Lib.hid (up_trans HB2.out hb3); clear hb3)
        | (go_at_call 10; (with_reducible refine (H4.out _ HB3.out).mono ?_); rintro e w4 ⟨rfl, hb4⟩; have HB4 := Lib.hid (up_trans HB3.out hb4); clear hb4)
        | (go_at_call 18; (with_reducible refine (H5.out _ HB5.out).mono ?_); rintro e w6 ⟨rfl, hb6⟩; have HB6 := Lib.hid (up_trans HB5.out hb6); clear hb6))
          go_ret
          exact ⟨by first | rfl | simp, HB5.out⟩
        · have k1 : decide (0 < x) = false := decide_eq_false h1
          have k1' : decide (x > 0) = false := k1
          clear h1
          go_wp2_with (first
        | (go_at_call 16; first
          | (have HB4' := HB4.out; clear HB4'; (with_reducible refine (H3.out _).mono ?_); rintro e w5 ⟨rfl, hb5⟩; have HB5 := Lib.hid (up_trans HB4.out hb5); clear hb5)
          | ((with_reducible refine (H1.out _).mono ?_); rintro e w2 ⟨rfl, hb2⟩; have HB2 := Lib.hid (up_trans HB1.out hb2); clear hb2))
        | (go_at_call 17; (with_reducible refine (H2.out _).mono ?_); rintro e w3 ⟨rfl, hb3⟩; have HB3 := Lib.hid (up_trans HB2.out hb3); clear hb3)
        | (go_at_call 10; (with_reducible refine (H4.out _ HB3.out).mono ?_); rintro e w4 ⟨rfl, hb4⟩; have HB4 := Lib.hid (up_trans HB3.out hb4); clear hb4)
        | (go_at_call 18; (with_reducible refine (H5.out _ HB5.out).mono ?_); rintro e w6 ⟨rfl, hb6⟩; have HB6 := Lib.hid (up_trans HB5.out hb6); clear hb6))
          go_ret
          exact ⟨by first | rfl | simp, HB6.out⟩
      · have k2 : (y == -1) = false := by simpa using h2
        have k3 : (y == 2 * x) = true := by rw [h3]; simp
        clear h2 h3
        rcases hfin with h1 | ⟨h1, rfl⟩ | ⟨h1, rfl, rfl⟩
        · have k1 : decide (0 < x) = true := decide_eq_true h1
          have k1' : decide (x > 0) = true := k1
          clear h1
          go_wp2_with (first
        | (go_at_call 16; first
          | (have HB4' := HB4.out; clear HB4'; (with_reducible refine (H3.out _).mono ?_); rintro e w5 ⟨rfl, hb5⟩; have HB5 := Lib.hid (up_trans HB4.out hb5); clear hb5)
          | ((with_reducible refine (H1.out _).mono ?_); rintro e w2 ⟨rfl, hb2⟩; have HB2 := Lib.hid (up_trans HB1.out hb2); clear hb2))
        | (go_at_call 17; (with_reducible refine (H2.out _).mono ?_); rintro e w3 ⟨rfl, hb3⟩; have HB3 := Lib.hid (up_trans HB2.out hb3); clear hb3)
        | (go_at_call 10; (with_reducible refine (H4.out _ HB3.out).mono ?_); rintro e w4 ⟨rfl, hb4⟩; have HB4 := Lib.hid (up_trans HB3.out hb4); clear hb4)
        | (go_at_call 18; (with_reducible refine (H5.out _ HB5.out).mono ?_); rintro e w6 ⟨rfl, hb6⟩; have HB6 := Lib.hid (up_trans HB5.out hb6); clear hb6))
          go_ret
          exact ⟨by first | rfl | simp, HB5.out⟩
        · have k1 : decide (0 < x) = false := decide_eq_false h1
          have k1' : decide (x > 0) = false := k1
          clear h1
          go_wp2_with (first
        | (go_at_call 16; first
          | (have HB4' := HB4.out; clear HB4'; (with_reducible refine (H3.out _).mono ?_); rintro e w5 ⟨rfl, hb5⟩; have HB5 := Lib.hid (up_trans HB4.out hb5); clear hb5)
          | ((with_reducible refine (H1.out _).mono ?_); rintro e w2 ⟨rfl, hb2⟩; have HB2 := Lib.hid (up_trans HB1.out hb2); clear hb2))
        | (go_at_call 17; (with_reducible refine (H2.out _).mono ?_); rintro e w3 ⟨rfl, hb3⟩; have HB3 := Lib.hid (up_trans HB2.out hb3); clear hb3)
        | (go_at_call 10; (with_reducible refine (H4.out _ HB3.out).mono ?_); rintro e w4 ⟨rfl, hb4⟩; have HB4 := Lib.hid (up_trans HB3.out hb4); clear hb4)
        | (go_at_call 18; (with_reducible refine (H5.out _ HB5.out).mono ?_); rintro e w6 ⟨rfl, hb6⟩; have HB6 := Lib.hid (up_trans HB5.out hb6); clear hb6))
          go_ret
          exact ⟨by first | rfl | simp, HB5.out⟩
        · have k1 : decide (0 < x) = false := decide_eq_false h1
          have k1' : decide (x > 0) = false := k1
          clear h1
          go_wp2_with (first
        | (go_at_call 16; first
          | (have HB4' := HB4.out; clear HB4'; (with_reducible refine (H3.out _).mono ?_); rintro e w5 ⟨rfl, hb5⟩; have HB5 := Lib.hid (up_trans HB4.out hb5); clear hb5)
          | ((with_reducible refine (H1.out _).mono ?_); rintro e w2 ⟨rfl, hb2⟩; have HB2 := Lib.hid (up_trans HB1.out hb2); clear hb2))
        | (go_at_call 17; (with_reducible refine (H2.out _).mono ?_); rintro e w3 ⟨rfl, hb3⟩; have HB3 := Lib.hid (up_trans HB2.out hb3); clear hb3)
        | (go_at_call 10; (with_reducible refine (H4.out _ HB3.out).mono ?_); rintro e w4 ⟨rfl, hb4⟩; have HB4 := Lib.hid (up_trans HB3.out hb4); clear hb4)
        | (go_at_call 18; (with_reducible refine (H5.out _ HB5.out).mono ?_); rintro e w6 ⟨rfl, hb6⟩; have HB6 := Lib.hid (up_trans HB5.out hb6); clear hb6))
          go_ret
          exact ⟨by first | rfl | simp, HB6.out⟩


end Go.Proofs.YtcfecmlfcjgdbaaDoor
