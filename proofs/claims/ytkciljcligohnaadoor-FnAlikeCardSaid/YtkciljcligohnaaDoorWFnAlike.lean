/- The law FnAlike, walked. -/
import Derived.Test.YtkciljcligohnaaDoorWFnCanon
import Derived.Test.YtkciljcligohnaaDoorSmall
import Derived.Test.YtkciljcligohnaaDoorDrawT
namespace Go.Proofs.YtkciljcligohnaaDoor
open Go.RowKit
set_option linter.unusedVariables false
set_option linter.unusedSimpArgs false

/-- What DrawTypeAlike gives. -/
def Text2Post (w : World) (e : Ending) (w' : World) : Prop := ∃ s u : ByteArray, s.size ≤ 200 ∧ (u.size ≤ 200 ∨ ∃ c, canonOf (rdTy s.data.toList) = some c ∧ u = St c) ∧ e = .returned (.tuple #[.string s, .string u]) ∧ Below w.heap.size w w'
set_option maxHeartbeats 2000000 in
theorem DrawTypeAlike_any (a : Option Addr) (n c : Nat) (w : World) (h : CodeRow w a n c) : Calls Tryd.prog 20 #[.slice a n c] w (Text2Post w) := by
  have HO := Lib.hid (l6Open_any a n c w h.1 h.2)
  have HT : Hid (∀ (w : World) (r : Nat) (B : Option Addr) (n c : Nat), RB w r B n c 0 → Calls Tryd.prog 59 #[.pointer (some ⟨r, 0, none⟩)] w (DPost w r B n c (0 + 10000) 200)) := fun w r B n c h => l91TypeT_any r B n c 0 w h (by omega)
  have HPK : Hid (∀ (w : World) (r : Nat) (B : Option Addr) (n c : Nat), RB w r B n c (0 + 10000) → Calls Tryd.prog 60 #[.pointer (some ⟨r, 0, none⟩), .int .i64 2] w fun e w' => ∃ x : Int, 0 ≤ x ∧ x < 2 ∧ e = .returned (.int .i64 x) ∧ RB w' r B n c (0 + 10000 + 1) ∧ w.grownBy w' (some r)) := fun w r B n c h => pick_rb r B n c _ 2 w h (by omega) (by omega) (by omega)
  have HT1 : Hid (∀ (w : World) (r : Nat) (B : Option Addr) (n c : Nat), RB w r B n c (0 + 10000 + 1) → Calls Tryd.prog 59 #[.pointer (some ⟨r, 0, none⟩)] w (DPost w r B n c (0 + 10000 + 1 + 10000) 200)) := fun w r B n c h => l91TypeT_any r B n c _ w h (by omega)
  have HC : Hid (∀ (w : World) (s : ByteArray), s.size ≤ 200 → Calls Tryd.prog 14 #[.string s] w fun e w' => ∃ x b, e = .returned (.tuple #[.string (St x), .bool b]) ∧ (b = true → canonOf (rdTy s.data.toList) = some x) ∧ Below w.heap.size w w') := fun w s hs => (specTypeCanon_any s w (by omega)).mono fun e w' ⟨h1, h2⟩ => ⟨_, _, h1, fun hb => by
    cases hc : canonOf (rdTy s.data.toList) with
    | none => rw [hc] at hb; cases hb
    | some c => rfl, h2⟩
  have HT2 : Hid (∀ (w : World) (r : Nat) (B : Option Addr) (n c : Nat), RB w r B n c (0 + 10000) → Calls Tryd.prog 59 #[.pointer (some ⟨r, 0, none⟩)] w (DPost w r B n c (0 + 10000 + 10000) 200)) := fun w r B n c h => l91TypeT_any r B n c _ w h (by omega)
  clear h
  go_enter Tryd.func20, Tryd.ntmps20
  go_wp2_with (first
    | (go_at_call 58; refine HO.out.mono ?_; rintro e w1 ⟨r, B', n', c', rfl, hr, hb, hlt⟩; have HR := Lib.hid hr; have HB := Lib.hid hb; have HL := Lib.hid hlt; clear hr hb hlt)
    | (go_at_call 59; first
      | (have HR4' := HR4.out; clear HR4'; (with_reducible refine (HT1.out _ _ _ _ _ HR4.out).mono ?_); rintro e w5 ⟨s2, hs2, rfl, _, hg⟩; have HS2 := Lib.hid hs2; have HB5 := Lib.hid (up_grown HB4.out hg HL.out); clear hs2 hg)
      | (have HR3' := HR3.out; clear HR3'; (with_reducible refine (HT2.out _ _ _ _ _ HR3.out).mono ?_); rintro e w5 ⟨s2, hs2, rfl, _, hg⟩; have HS2 := Lib.hid hs2; have HB5 := Lib.hid (up_grown HB3.out hg HL.out); clear hs2 hg)
      | ((with_reducible refine (HT.out _ _ _ _ _ HR.out).mono ?_); rintro e w2 ⟨s, hs, rfl, hr, hg⟩; have HS := Lib.hid hs; have HR2 := Lib.hid hr; have HB2 := Lib.hid (up_grown HB.out hg HL.out); clear hs hr hg))
    | (go_at_call 14; (with_reducible refine (HC.out _ s HS.out).mono ?_); rintro e w3 ⟨cx, b, rfl, hcx, hb3⟩; have HCX := Lib.hid hcx; have HR3 := Lib.hid (HR2.out.up hb3); have HB3 := Lib.hid (up_trans HB2.out hb3); clear hcx hb3)
    | (go_at_call 60; (with_reducible refine (HPK.out _ _ _ _ _ HR3.out).mono ?_); rintro e w4 ⟨x, hx0, hx1, rfl, hr, hg⟩; have HR4 := Lib.hid hr; have HB4 := Lib.hid (up_grown HB3.out hg HL.out); clear hr hg))
  all_goals go_ret2
  all_goals first
    | exact ⟨s, s2, HS.out, .inl HS2.out, rfl, HB5.out⟩
    | exact ⟨s, St cx, HS.out, .inr ⟨cx, HCX.out (by first | rfl | assumption), rfl⟩, rfl, HB4.out⟩

theorem alike_eq {o u : Option NT} (ho : ∀ n, o = some n → n.ok ∧ n.atoms ≤ 100) (hu : ∀ n, u = some n → n.ok ∧ n.atoms ≤ 100) : sAlikeOf o u = alikeOf o u := by
  cases o with
  | none => cases u <;> rfl
  | some n =>
    obtain ⟨hn, hna⟩ := ho n rfl
    obtain ⟨c1, h1⟩ := small_told n hn hna
    have e1 : canonOf (some n) = some c1 := h1
    cases u with
    | none =>
      unfold sAlikeOf
      rw [e1]
      rfl
    | some m =>
      obtain ⟨hm, hma⟩ := hu m rfl
      obtain ⟨c2, h2⟩ := small_told m hm hma
      have e2 : canonOf (some m) = some c2 := h2
      unfold sAlikeOf
      rw [e1, e2]
      show (true && true && (c1 == c2)) = decide (n.db [] = m.db [])
      rw [Bool.and_true, Bool.true_and, Bool.eq_iff_iff, beq_iff_eq, decide_eq_true_iff]
      constructor
      · intro hc
        subst hc
        obtain ⟨r1, hr1, _, hd1, _⟩ := told_db (ok_ok3 hn) h1
        obtain ⟨r2, hr2, _, hd2, _⟩ := told_db (ok_ok3 hm) h2
        rw [hr1] at hr2
        cases hr2
        exact hd1.symm.trans hd2
      · intro hd
        rw [hd] at h1
        rw [h1] at h2
        exact Option.some.inj h2
theorem sumx_data (s : ByteArray) : ((⟨#[40, 43, 32, 120, 32]⟩ : ByteArray) ++ s ++ ⟨#[41]⟩).data.toList = [40, 43, 32] ++ [120] ++ [32] ++ s.data.toList ++ [41] := by
  simp [ByteArray.data_append]
theorem rdTy_sumx {l : List UInt8} {n : NT} (h : rdTy l = some n) (ha : n.atoms ≤ 100) : rdTy ([40, 43, 32] ++ [120] ++ [32] ++ l ++ [41]) = some (.sum (.name [120]) n) := by
  obtain ⟨rfl, hw, _, _, hok, _⟩ := rdTy_tr h
  have hok2 : (NT.sum (.name [120]) n).ok := ⟨.inl (by decide), hok⟩
  have htx : [40, 43, 32] ++ [120] ++ [32] ++ n.toTr.txt ++ [41] = (NT.sum (.name [120]) n).toTr.txt := by
    simp only [NT.toTr]
    rw [txt_three [43] (by simp), txt_leaf (by simp)]
    simp
  have hlen := ok3_len (ok_ok3 hok2)
  have hdep := toTr_dep _ (ok_ok3 hok2)
  simp only [NT.atoms] at hlen hdep
  rw [htx]
  exact rdTy_of hok2 (by simp only [NT.atoms]; omega) (by omega) (by omega)

set_option maxHeartbeats 4000000 in
set_option maxRecDepth 100000 in
theorem lawFnAlike (a : Option Addr) (n c : Nat) (w : World) (h : CodeRow w a n c) :
    Calls Tryd.prog 6 #[.slice a n c] w fun e w' => e = .returned (.bool true) ∧ Below w.heap.size w w' := by
  have HD := Lib.hid (DrawTypeAlike_any a n c w h)
  clear h
  cases hc : decide ((n : Int) > 1048576) with
  | true =>
    have hc' : decide (1048576 < n) = true := by simp at hc ⊢; omega
    have hc2 : decide ((1048576 : Int) < (n : Int)) = true := by simp at hc ⊢; omega
    go_enter Tryd.func6, Tryd.ntmps6
    go_wp2_with fail
    go_ret
    exact ⟨rfl, Below.refl _ _⟩
  | false =>
    have hc' : decide (1048576 < n) = false := by simp at hc ⊢; omega
    have hc2 : decide ((1048576 : Int) < (n : Int)) = false := by simp at hc ⊢; omega
    go_enter Tryd.func6, Tryd.ntmps6
    go_wp2_with (go_at_call 20; refine HD.out.mono ?_; rintro e w1 ⟨s, u, hs, hu, rfl, hb1⟩; have HB1 := Lib.hid hb1; have HS := Lib.hid hs; have HU := Lib.hid hu; clear hb1 hs hu)
    have hs9 : s.size ≤ 9223372036854775807 := by have := HS.out; omega
    have hno : ∀ n, rdTy s.data.toList = some n → n.ok ∧ n.atoms ≤ 100 := fun n hn => ⟨(rdTy_some hn).1, short_atoms hn HS.out⟩
    have hun : u.size ≤ 8000 ∧ ∀ n, rdTy u.data.toList = some n → n.ok ∧ n.atoms ≤ 100 := by
      rcases HU.out with hu | ⟨cx, hcx, rfl⟩
      · exact ⟨by omega, fun n hn => ⟨(rdTy_some hn).1, short_atoms hn hu⟩⟩
      · obtain ⟨n1, hn1, ht1⟩ := canonOf_some hcx
        obtain ⟨h1, h2⟩ := hno n1 hn1
        obtain ⟨r, hr, hrok, _, hra, _⟩ := told_db (ok_ok3 h1) ht1
        refine ⟨told_len (ok_ok3 h1) ht1, fun n hn => ?_⟩
        have hn : rdTy cx = some n := hn
        rw [hr] at hn
        cases hn
        exact ⟨hrok, by omega⟩
    have hu8 := hun.1
    have hu9 : u.size ≤ 9223372036854775807 := by omega
    have hal := alike_eq hno hun.2
    have H1 := Lib.hid fun w1 => TypeAlike_any s u w1 hs9 hu9
    have H2 := Lib.hid fun w1 => specTypeAlike_any s u w1 hs9 hu9
    rw [hal] at H2
    cases hb : alikeOf (rdTy s.data.toList) (rdTy u.data.toList) with
    | false =>
      rw [hb] at H1 H2
      go_wp2_with (first
        | (go_at_call 21; (with_reducible refine (H1.out _).mono ?_); rintro e w2 ⟨rfl, hb2⟩; have HB2 := Lib.hid (up_trans HB1.out hb2); clear hb2)
        | (go_at_call 22; (with_reducible refine (H2.out _).mono ?_); rintro e w3 ⟨rfl, hb3⟩; have HB3 := Lib.hid (up_trans HB2.out hb3); clear hb3))
      go_ret
      exact ⟨rfl, HB3.out⟩
    | true =>
      obtain ⟨n1, n2, hn1, hn2, hdb⟩ : ∃ n1 n2, rdTy s.data.toList = some n1 ∧ rdTy u.data.toList = some n2 ∧ n1.db [] = n2.db [] := by
        cases h1 : rdTy s.data.toList with
        | none => rw [h1] at hb; cases h2 : rdTy u.data.toList <;> rw [h2] at hb <;> cases hb
        | some n1 =>
          cases h2 : rdTy u.data.toList with
          | none => rw [h1, h2] at hb; cases hb
          | some n2 =>
            rw [h1, h2] at hb
            exact ⟨n1, n2, rfl, rfl, of_decide_eq_true hb⟩
      have hx := rdTy_sumx hn1 (hno n1 hn1).2
      have hy := rdTy_sumx hn2 (hun.2 n2 hn2).2
      have s1 : ((⟨#[40, 43, 32, 120, 32]⟩ : ByteArray) ++ s ++ ⟨#[41]⟩).size ≤ 9223372036854775807 := by have := HS.out; simp only [ByteArray.size_append, zsz, List.size_toArray, List.length_cons, List.length_nil]; omega
      have s2 : ((⟨#[40, 43, 32, 120, 32]⟩ : ByteArray) ++ u ++ ⟨#[41]⟩).size ≤ 9223372036854775807 := by simp only [ByteArray.size_append, zsz, List.size_toArray, List.length_cons, List.length_nil]; omega
      have H3 := Lib.hid fun w1 => TypeAlike_any u s w1 hu9 hs9
      rw [show alikeOf (rdTy u.data.toList) (rdTy s.data.toList) = true by rw [hn1, hn2]; exact decide_eq_true hdb.symm] at H3
      have H4 := Lib.hid fun w1 => TypeValid_any _ w1 s1
      rw [sumx_data, hx] at H4
      replace H4 : Hid (∀ w1, Calls Tryd.prog 23 #[.string (⟨#[40, 43, 32, 120, 32]⟩ ++ s ++ ⟨#[41]⟩)] w1 fun e w' => e = .returned (.bool true) ∧ Below w1.heap.size w1 w') := H4
      have H5 := Lib.hid fun w1 => TypeAlike_any _ _ w1 s1 s2
      rw [sumx_data, sumx_data, hx, hy, show alikeOf (some (.sum (.name [120]) n1)) (some (.sum (.name [120]) n2)) = true from decide_eq_true (by simp only [NT.db]; rw [hdb])] at H5
      rw [hb] at H1 H2
      have q1 : ¬ 9223372036854775807 < 5 + s.size := by have := HS.out; omega
      have q2 : ¬ 9223372036854775807 < 5 + s.size + 1 := by have := HS.out; omega
      have q3 : ¬ 9223372036854775807 < 5 + u.size := by omega
      have q4 : ¬ 9223372036854775807 < 5 + u.size + 1 := by omega
      clear hno hun hal hb hn1 hn2 hdb hx hy s1 s2
      go_wp2_with (first
        | (go_at_call 21; first
          | (have HB5' := HB5.out; clear HB5'; (with_reducible refine (H5.out _).mono ?_); rintro e w6 ⟨rfl, hb6⟩; have HB6 := Lib.hid (up_trans HB5.out hb6); clear hb6)
          | (have HB3' := HB3.out; clear HB3'; (with_reducible refine (H3.out _).mono ?_); rintro e w4 ⟨rfl, hb4⟩; have HB4 := Lib.hid (up_trans HB3.out hb4); clear hb4)
          | ((with_reducible refine (H1.out _).mono ?_); rintro e w2 ⟨rfl, hb2⟩; have HB2 := Lib.hid (up_trans HB1.out hb2); clear hb2))
        | (go_at_call 22; (with_reducible refine (H2.out _).mono ?_); rintro e w3 ⟨rfl, hb3⟩; have HB3 := Lib.hid (up_trans HB2.out hb3); clear hb3)
        | (go_at_call 23; (with_reducible refine (H4.out _).mono ?_); rintro e w5 ⟨rfl, hb5⟩; have HB5 := Lib.hid (up_trans HB4.out hb5); clear hb5))
      go_ret
      exact ⟨by first | rfl | simp, HB6.out⟩

end Go.Proofs.YtkciljcligohnaaDoor
