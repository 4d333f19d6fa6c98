/- The law FnClosed, walked. -/
import Derived.Test.YtkciljcligohnaaDoorWFnCanon
import Derived.Test.YtkciljcligohnaaDoorMK
namespace Go.Proofs.YtkciljcligohnaaDoor
open Go.RowKit
set_option linter.unusedVariables false
set_option linter.unusedSimpArgs false

theorem has_far (s : List UInt8) : ∀ (n : NT) (bd env : List (List UInt8)), (n.db (bd ++ env)).has s → (n.db bd).has s
  | .zero, _, _, h => h
  | .one, _, _, h => h
  | .name x, bd, env, h => by
    simp only [NT.db] at h ⊢
    split at h
    · rename_i hp
      rw [if_pos hp]
      exact h
    · rename_i hp
      rw [if_neg hp]
      cases hl : look x (bd ++ env) with
      | some k => rw [hl] at h; exact h.elim
      | none =>
        rw [hl] at h
        have := look_none.1 hl
        rw [look_none.2 (fun hm => this (by simp [hm]))]
        exact h
  | .sum a b, bd, env, h => h.imp (has_far s a bd env) (has_far s b bd env)
  | .prod a b, bd, env, h => h.imp (has_far s a bd env) (has_far s b bd env)
  | .loop x a, bd, env, h => has_far s a (x :: bd) env h
theorem closedOf_iff (n : NT) (hn : n.ok3) : closedOf (some n) = true ↔ ∀ s, loopB s = true → ¬ (n.db []).has s := by
  show (!(n.names.any loopB)) = true ↔ _
  rw [Bool.not_eq_true', List.any_eq_false]
  constructor
  · intro h s hs hh
    exact h s ((names_has s n hn).2 hh) hs
  · intro h s hs hl
    exact h s hl ((names_has s n hn).1 hs)
theorem closed_loop (x : List UInt8) (n : NT) (hn : (NT.loop x n).ok3) (h : closedOf (some n) = true) : closedOf (some (.loop x n)) = true := by
  rw [closedOf_iff _ hn]
  intro s hs hh
  exact (closedOf_iff n hn.2).1 h s hs (has_far s n [] [x] hh)
theorem rdTy_rec (x : List UInt8) (hx : loopB x = true) {l : List UInt8} {n : NT} (h : rdTy l = some n) :
    rdTy ([40, 114, 101, 99, 32] ++ x ++ [32] ++ l ++ [41]) = none ∨ rdTy ([40, 114, 101, 99, 32] ++ x ++ [32] ++ l ++ [41]) = some (.loop x n) := by
  obtain ⟨rfl, hw, _, _, hok, _⟩ := rdTy_tr h
  have hx3 := name_ok (.inr hx)
  have hok2 : (NT.loop x n).ok := ⟨hx, hok⟩
  have htx : [40, 114, 101, 99, 32] ++ x ++ [32] ++ n.toTr.txt ++ [41] = (NT.loop x n).toTr.txt := by
    simp only [NT.toTr]
    rw [txt_three [114, 101, 99] (by simp), txt_leaf hx3.1]
    simp
  rw [htx]
  unfold rdTy
  rw [rdText_txt (ok3_wf (ok_ok3 hok2))]
  split
  · exact .inl rfl
  · rename_i t ht
    split at ht
    · cases ht
      rw [tyOf_ok hok2]
      simp only
      split
      · exact .inl rfl
      · exact .inr rfl
    · cases ht
theorem rec9_data (s : ByteArray) : ((⟨#[40, 114, 101, 99, 32, 116, 57, 32]⟩ : ByteArray) ++ s ++ ⟨#[41]⟩).data.toList = [40, 114, 101, 99, 32] ++ [116, 57] ++ [32] ++ s.data.toList ++ [41] := by
  simp [ByteArray.data_append]
theorem rdTy_one : rdTy [49] = some .one := by
  have := rdTy_of (n := .one) trivial (by simp [NT.atoms]) (by simp [NT.toTr, Tr.dep]) (by simp [NT.toTr, Tr.txt])
  simpa [NT.toTr, Tr.txt] using this

set_option maxHeartbeats 4000000 in
set_option maxRecDepth 100000 in
theorem lawFnClosed (a : Option Addr) (n c : Nat) (w : World) (h : CodeRow w a n c) (htab : Lib.TabIs Tryd.prog w "internal/strconv.uint64pow10" .u64 Lib.pow10Tab) :
    Calls Tryd.prog 9 #[.slice a n c] w fun e w' => e = .returned (.bool true) ∧ Below w.heap.size w w' := by
  have HD := Lib.hid (DrawTypeClosed_any a n c w h)
  have HTB : Hid (TabB w.heap.size w) := Lib.tabBelow_of_tabIs htab
  clear h htab
  cases hc : decide ((n : Int) > 1048576) with
  | true =>
    have hc' : decide (1048576 < n) = true := by simp at hc ⊢; omega
    have hc2 : decide ((1048576 : Int) < (n : Int)) = true := by simp at hc ⊢; omega
    go_enter Tryd.func9, Tryd.ntmps9
    go_wp2_with fail
    go_ret
    exact ⟨rfl, Below.refl _ _⟩
  | false =>
    have hc' : decide (1048576 < n) = false := by simp at hc ⊢; omega
    have hc2 : decide ((1048576 : Int) < (n : Int)) = false := by simp at hc ⊢; omega
    go_enter Tryd.func9, Tryd.ntmps9
    go_wp2_with (go_at_call 32; refine HD.out.mono ?_; rintro e w1 ⟨s, hs, rfl, hb1⟩; have HB1 := Lib.hid hb1; have HS := Lib.hid hs; clear hb1 hs)
    have hs9 : s.size ≤ 9223372036854775807 := by have := HS.out; omega
    have H1 := Lib.hid fun w1 => TypeClosed_any s w1 hs9
    have H2 := Lib.hid fun w1 => specTypeClosed_any s w1 hs9
    cases hcl : closedOf (rdTy s.data.toList) with
    | false =>
      rw [hcl] at H1 H2
      go_wp2_with (first
        | (go_at_call 33; (with_reducible refine (H1.out _).mono ?_); rintro e w2 ⟨rfl, hb2⟩; have HB2 := Lib.hid (up_trans HB1.out hb2); clear hb2)
        | (go_at_call 34; (with_reducible refine (H2.out _).mono ?_); rintro e w3 ⟨rfl, hb3⟩; have HB3 := Lib.hid (up_trans HB2.out hb3); clear hb3))
      go_ret
      exact ⟨rfl, HB3.out⟩
    | true =>
      rw [hcl] at H1 H2
      obtain ⟨m, ho⟩ : ∃ m, rdTy s.data.toList = some m := by
        cases ho : rdTy s.data.toList with
        | none => rw [ho] at hcl; cases hcl
        | some m => exact ⟨m, rfl⟩
      have hok := rdTy_some ho
      have hcl0 : closedOf (some m) = true := by rw [← ho]; exact hcl
      have hno : ¬ (m.db []).has [116, 57] := (closedOf_iff m (ok_ok3 hok.1)).1 hcl0 _ (by decide)
      have hput : putOf (rdTy s.data.toList) (rdTy (⟨#[49]⟩ : ByteArray).data.toList) (⟨#[116, 57]⟩ : ByteArray).data.toList = canonOf (rdTy s.data.toList) := by
        rw [ho]
        show putOf (some m) (rdTy [49]) [116, 57] = canonOf (some m)
        rw [rdTy_one]
        show (if paramB [116, 57] = true ∨ loopB [116, 57] = true then ((m.db []).put [116, 57] (NT.one.db [])).told else none) = (m.db []).told
        rw [if_pos (by decide), put_id _ _ _ hno]
      have s1 : ((⟨#[40, 114, 101, 99, 32, 116, 57, 32]⟩ : ByteArray) ++ s ++ ⟨#[41]⟩).size ≤ 9223372036854775807 := by have := HS.out; simp only [ByteArray.size_append, zsz, List.size_toArray, List.length_cons, List.length_nil]; omega
      have H3 := Lib.hid fun w1 (hw : Below w.heap.size w w1) => TypeCanon_any s w.heap.size w1 hs9 (HTB.out.below hw) hw.size
      have H4 := Lib.hid fun w1 (hw : Below w.heap.size w w1) => TypePut_any s ⟨#[116, 57]⟩ ⟨#[49]⟩ w.heap.size w1 hs9 (by decide) (HTB.out.below hw) hw.size
      rw [hput] at H4
      have H5 := Lib.hid fun w1 => TypeValid_any _ w1 s1
      have H6 := Lib.hid fun w1 => TypeClosed_any _ w1 s1
      rw [rec9_data] at H5 H6
      have hvc : (rdTy ([40, 114, 101, 99, 32] ++ [116, 57] ++ [32] ++ s.data.toList ++ [41])).isSome = true → closedOf (rdTy ([40, 114, 101, 99, 32] ++ [116, 57] ++ [32] ++ s.data.toList ++ [41])) = true := by
        intro hv
        rcases rdTy_rec [116, 57] (by decide) ho with h2 | h2
        · rw [h2] at hv; cases hv
        · rw [h2]
          exact closed_loop _ m ⟨⟨name_ok (.inr (by decide)), by decide⟩, ok_ok3 hok.1⟩ hcl0
      have q1 : ¬ 9223372036854775807 < 8 + s.size := by have := HS.out; omega
      have q2 : ¬ 9223372036854775807 < 8 + s.size + 1 := by have := HS.out; omega
      generalize (rdTy ([40, 114, 101, 99, 32] ++ [116, 57] ++ [32] ++ s.data.toList ++ [41])).isSome = v at *
      generalize closedOf (rdTy ([40, 114, 101, 99, 32] ++ [116, 57] ++ [32] ++ s.data.toList ++ [41])) = cb at *
      generalize (canonOf (rdTy s.data.toList)).getD [] = x at *
      generalize (canonOf (rdTy s.data.toList)).isSome = b at *
      clear hput hno hcl0 hok ho hcl s1
      cases v with
      | false =>
        clear hvc
        go_wp2_with (first
          | (go_at_call 33; (with_reducible refine (H1.out _).mono ?_); rintro e w2 ⟨rfl, hb2⟩; have HB2 := Lib.hid (up_trans HB1.out hb2); clear hb2)
          | (go_at_call 34; (with_reducible refine (H2.out _).mono ?_); rintro e w3 ⟨rfl, hb3⟩; have HB3 := Lib.hid (up_trans HB2.out hb3); clear hb3)
          | (go_at_call 15; (with_reducible refine (H3.out _ HB3.out).mono ?_); rintro e w4 ⟨rfl, hb4⟩; have HB4 := Lib.hid (up_trans HB3.out hb4); clear hb4)
          | (go_at_call 17; (with_reducible refine (H4.out _ HB4.out).mono ?_); rintro e w5 ⟨rfl, hb5⟩; have HB5 := Lib.hid (up_trans HB4.out hb5); clear hb5)
          | (go_at_call 23; (with_reducible refine (H5.out _).mono ?_); rintro e w6 ⟨rfl, hb6⟩; have HB6 := Lib.hid (up_trans HB5.out hb6); clear hb6))
        all_goals go_ret
        all_goals exact ⟨by first | rfl | simp, HB6.out⟩
      | true =>
        have hcb := hvc rfl
        clear hvc
        rw [hcb] at H6
        go_wp2_with (first
          | (go_at_call 33; first
            | (have HB6' := HB6.out; clear HB6'; (with_reducible refine (H6.out _).mono ?_); rintro e w7 ⟨rfl, hb7⟩; have HB7 := Lib.hid (up_trans HB6.out hb7); clear hb7)
            | ((with_reducible refine (H1.out _).mono ?_); rintro e w2 ⟨rfl, hb2⟩; have HB2 := Lib.hid (up_trans HB1.out hb2); clear hb2))
          | (go_at_call 34; (with_reducible refine (H2.out _).mono ?_); rintro e w3 ⟨rfl, hb3⟩; have HB3 := Lib.hid (up_trans HB2.out hb3); clear hb3)
          | (go_at_call 15; (with_reducible refine (H3.out _ HB3.out).mono ?_); rintro e w4 ⟨rfl, hb4⟩; have HB4 := Lib.hid (up_trans HB3.out hb4); clear hb4)
          | (go_at_call 17; (with_reducible refine (H4.out _ HB4.out).mono ?_); rintro e w5 ⟨rfl, hb5⟩; have HB5 := Lib.hid (up_trans HB4.out hb5); clear hb5)
          | (go_at_call 23; (with_reducible refine (H5.out _).mono ?_); rintro e w6 ⟨rfl, hb6⟩; have HB6 := Lib.hid (up_trans HB5.out hb6); clear hb6))
        all_goals go_ret
        all_goals exact ⟨by first | rfl | simp, HB7.out⟩

end Go.Proofs.YtkciljcligohnaaDoor
