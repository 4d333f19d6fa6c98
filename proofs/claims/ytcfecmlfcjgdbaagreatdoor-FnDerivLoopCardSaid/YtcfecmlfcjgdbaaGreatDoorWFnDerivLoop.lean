/- The law FnDerivLoop, walked. -/
import Derived.Test.YtcfecmlfcjgdbaaGreatDoorSDrvL
import Derived.Test.YtcfecmlfcjgdbaaGreatDoorDraw7
import Derived.Test.YtcfecmlfcjgdbaaGreatDoorWFnClosed
import Derived.Test.YtcfecmlfcjgdbaaGreatDoorWFnCanon
import Derived.Test.YtcfecmlfcjgdbaaGreatDoorMK
namespace Go.Proofs.YtcfecmlfcjgdbaaGreatDoor
open Go.RowKit
set_option linter.unusedVariables false
set_option linter.unusedSimpArgs false

theorem derivL_canon {tc : List UInt8} {m : NT} {d : Ty} (hm : rdTy tc = some m) (hd : m.db [] = d) (ht : d.told = some tc) : canonOf (rdTy tc) = some tc := by
  rw [hm]
  show (m.db []).told = some tc
  rw [hd]
  exact ht
theorem derivL_closed {n m : NT} (hn : n.ok) (hm : m.ok) (h : ∀ s, (m.db []).has s → (n.db []).has s) (hc : closedOf (some n) = true) : closedOf (some m) = true := by
  rw [closedOf_iff _ (ok_ok3 hn)] at hc
  rw [closedOf_iff _ (ok_ok3 hm)]
  exact fun s hs hh => hc s hs (h s hh)
theorem ldO_some {a : Ty} {d : Ty} (h : ldO a = some d) : LDer a (some d) := by
  unfold ldO at h
  split at h
  · rename_i he
    have := Classical.choose_spec he
    rw [h] at this
    exact this
  · cases h
theorem derivLoopOf_some {l c : List UInt8} (h : derivLoopOf (rdTy l) = some c) :
    ∃ x a d, rdTy l = some (.loop x a) ∧ LDer (a.db [x]) (some d) ∧ d.told = some c ∧ (∃ m, rdTy c = some m ∧ m.ok ∧ m.db [] = d) ∧ c.length ≤ 8000 := by
  cases hr : rdTy l with
  | none => rw [hr] at h; cases h
  | some n =>
    rw [hr] at h
    have h : (n.db []).ld = some c := h
    obtain ⟨hok, hat⟩ := rdTy_some hr
    cases n with
    | zero => cases h
    | one => cases h
    | name s => rw [name_db0] at h; cases h
    | sum a b => cases h
    | prod a b => cases h
    | loop x a =>
      have h : (ldO (a.db [x])).bind Ty.told = some c := h
      cases hd : ldO (a.db [x]) with
      | none => rw [hd] at h; cases h
      | some d =>
        rw [hd] at h
        have h : d.told = some c := h
        have hD := ldO_some hd
        have hsc := hD.scoped (db_scoped (NT.loop x a) []) d rfl
        have hnm : ∀ s, d.has s → nmOk s := fun s hs => db_ok (NT.loop x a) [] s (ok_ok3 hok) (hD.names d s rfl hs)
        obtain ⟨m0, h3, hdb⟩ := named d hsc hnm (by have := hD.atoms d rfl; omega)
        have ht : (m0.db []).told = some c := by rw [hdb]; exact h
        obtain ⟨m, h1, h2, h4, _⟩ := told_db h3 ht
        exact ⟨x, a, d, rfl, hD, h, ⟨m, h1, h2, h4.trans hdb⟩, told_len h3 ht⟩

set_option maxHeartbeats 4000000 in
set_option maxRecDepth 100000 in
theorem lawFnDerivLoop (a : Option Addr) (n c : Nat) (w : World) (h : CodeRow w a n c) (htab : Lib.TabIs Tryz.prog w "internal/strconv.uint64pow10" .u64 Lib.pow10Tab) :
    Calls Tryz.prog 6 #[.slice a n c] w fun e w' => e = .returned (.bool true) ∧ Below w.heap.size w w' := by
  have HD := Lib.hid (DrawDerivLoop_any a n c w h)
  have HTB : Hid (TabB w.heap.size w) := Lib.tabBelow_of_tabIs htab
  clear h htab
  cases hc : decide ((n : Int) > 1048576) with
  | true =>
    have hc' : decide (1048576 < n) = true := by simp at hc ⊢; omega
    have hc2 : decide ((1048576 : Int) < (n : Int)) = true := by simp at hc ⊢; omega
    go_enter Tryz.func6, Tryz.ntmps6
    go_wp2_with fail
    go_ret
    exact ⟨rfl, Below.refl _ _⟩
  | false =>
    have hc' : decide (1048576 < n) = false := by simp at hc ⊢; omega
    have hc2 : decide ((1048576 : Int) < (n : Int)) = false := by simp at hc ⊢; omega
    go_enter Tryz.func6, Tryz.ntmps6
    go_wp2_with (go_at_call 20; refine HD.out.mono ?_; rintro e w1 ⟨s, hs, rfl, hb1⟩; have HB1 := Lib.hid hb1; have HS := Lib.hid hs; clear hb1 hs)
    have hs9 : s.size ≤ 9223372036854775807 := by have := HS.out; omega
    have H1 := Lib.hid fun w1 (hw : Below w.heap.size w w1) => DerivLoop_any s w.heap.size w1 hs9 (HTB.out.below hw) hw.size
    have H2 := Lib.hid fun w1 => specDerivLoop_any s w1 hs9
    cases ho : derivLoopOf (rdTy s.data.toList) with
    | none =>
      rw [ho] at H1 H2
      replace H1 : Hid (∀ w1, Below w.heap.size w w1 → Calls Tryz.prog 21 #[.string s] w1 fun e w' => e = .returned (.tuple #[.string (St []), .bool false]) ∧ Below w1.heap.size w1 w') := H1
      replace H2 : Hid (∀ w1, Calls Tryz.prog 22 #[.string s] w1 fun e w' => e = .returned (.tuple #[.string (St []), .bool false]) ∧ Below w1.heap.size w1 w') := H2
      go_wp2_with (first
        | (go_at_call 21; (with_reducible refine (H1.out _ HB1.out).mono ?_); rintro e w2 ⟨rfl, hb2⟩; have HB2 := Lib.hid (up_trans HB1.out hb2); clear hb2)
        | (go_at_call 22; (with_reducible refine (H2.out _).mono ?_); rintro e w3 ⟨rfl, hb3⟩; have HB3 := Lib.hid (up_trans HB2.out hb3); clear hb3))
      go_ret
      exact ⟨rfl, HB3.out⟩
    | some tc =>
      obtain ⟨y, a1, d, hn, hD, ht, ⟨m, hm, hmok, hmd⟩, hlen⟩ := derivLoopOf_some ho
      have hok := rdTy_some hn
      have hcl := derivL_closed hok.1 hmok fun s hs => hD.names d s rfl (by rw [← hmd]; exact hs)
      rw [← hn, ← hm] at hcl
      have H5 := Lib.hid fun w1 (hw : Below w.heap.size w w1) => TypeCanon_any (St tc) w.heap.size w1 (by show tc.length ≤ _; omega) (HTB.out.below hw) hw.size
      rw [show canonOf (rdTy (St tc).data.toList) = some tc from derivL_canon hm hmd ht] at H5
      have H6 := Lib.hid fun w1 => TypeClosed_any s w1 hs9
      have H7 := Lib.hid fun w1 => TypeClosed_any (St tc) w1 (by show tc.length ≤ _; omega)
      replace H7 : Hid (∀ w1, Calls Tryz.prog 19 #[.string (St tc)] w1 fun e w' => e = .returned (.bool (closedOf (rdTy tc))) ∧ Below w1.heap.size w1 w') := H7
      rw [ho] at H1 H2
      replace H1 : Hid (∀ w1, Below w.heap.size w w1 → Calls Tryz.prog 21 #[.string s] w1 fun e w' => e = .returned (.tuple #[.string (St tc), .bool true]) ∧ Below w1.heap.size w1 w') := H1
      replace H2 : Hid (∀ w1, Calls Tryz.prog 22 #[.string s] w1 fun e w' => e = .returned (.tuple #[.string (St tc), .bool true]) ∧ Below w1.heap.size w1 w') := H2
      replace H5 : Hid (∀ w1, Below w.heap.size w w1 → Calls Tryz.prog 18 #[.string (St tc)] w1 fun e w' => e = .returned (.tuple #[.string (St tc), .bool true]) ∧ Below w1.heap.size w1 w') := H5
      generalize closedOf (rdTy s.data.toList) = bs at *
      generalize closedOf (rdTy tc) = bt at *
      clear ho hn ht hm hmd hok hlen hD hmok
      cases bs with
      | false =>
        clear hcl H7
        go_wp2_with (first
          | (go_at_call 21; (with_reducible refine (H1.out _ HB1.out).mono ?_); rintro e w2 ⟨rfl, hb2⟩; have HB2 := Lib.hid (up_trans HB1.out hb2); clear hb2)
          | (go_at_call 22; (with_reducible refine (H2.out _).mono ?_); rintro e w3 ⟨rfl, hb3⟩; have HB3 := Lib.hid (up_trans HB2.out hb3); clear hb3)
          | (go_at_call 18; (with_reducible refine (H5.out _ HB3.out).mono ?_); rintro e w4 ⟨rfl, hb4⟩; have HB4 := Lib.hid (up_trans HB3.out hb4); clear hb4)
          | (go_at_call 19; first
            | (have HB5' := HB5.out; clear HB5'; (with_reducible refine (H7.out _).mono ?_); rintro e w6 ⟨rfl, hb6⟩; have HB6 := Lib.hid (up_trans HB5.out hb6); clear hb6)
            | ((with_reducible refine (H6.out _).mono ?_); rintro e w5 ⟨rfl, hb5⟩; have HB5 := Lib.hid (up_trans HB4.out hb5); clear hb5)))
        go_ret
        exact ⟨by first | rfl | simp, HB5.out⟩
      | true =>
        have hbt := hcl rfl
        subst hbt
        go_wp2_with (first
          | (go_at_call 21; (with_reducible refine (H1.out _ HB1.out).mono ?_); rintro e w2 ⟨rfl, hb2⟩; have HB2 := Lib.hid (up_trans HB1.out hb2); clear hb2)
          | (go_at_call 22; (with_reducible refine (H2.out _).mono ?_); rintro e w3 ⟨rfl, hb3⟩; have HB3 := Lib.hid (up_trans HB2.out hb3); clear hb3)
          | (go_at_call 18; (with_reducible refine (H5.out _ HB3.out).mono ?_); rintro e w4 ⟨rfl, hb4⟩; have HB4 := Lib.hid (up_trans HB3.out hb4); clear hb4)
          | (go_at_call 19; first
            | (have HB5' := HB5.out; clear HB5'; (with_reducible refine (H7.out _).mono ?_); rintro e w6 ⟨rfl, hb6⟩; have HB6 := Lib.hid (up_trans HB5.out hb6); clear hb6)
            | ((with_reducible refine (H6.out _).mono ?_); rintro e w5 ⟨rfl, hb5⟩; have HB5 := Lib.hid (up_trans HB4.out hb5); clear hb5)))
        go_ret
        exact ⟨by first | rfl | simp, HB6.out⟩

end Go.Proofs.YtcfecmlfcjgdbaaGreatDoor
