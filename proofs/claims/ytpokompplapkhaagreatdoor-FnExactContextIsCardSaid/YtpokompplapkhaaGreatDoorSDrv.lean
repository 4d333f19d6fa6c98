/- The reference's DerivOf. -/
import Derived.Test.YtpokompplapkhaaGreatDoorSDer4
import Derived.Test.YtpokompplapkhaaGreatDoorDrv
namespace Go.Proofs.YtpokompplapkhaaGreatDoor
open Go.RowKit
set_option linter.unusedVariables false
set_option linter.unusedSimpArgs false

theorem DRes.canon {n : NT} {x : List UInt8} {out : NT} (h : DRes n x out true) (v : Value) (w : World) (hp : TAt w (fun _ => True) out.toTr v) :
    Calls Tryz.prog 106 #[v] w fun e w' => e = .returned (.tuple #[.string (St ((out.db []).told.getD [])), .bool (out.db []).told.isSome]) ∧ Below w.heap.size w w' :=
  (l1Canon_any out h.1 (by have := h.small; omega) v w hp).mono fun e w' ⟨h1, h2⟩ => ⟨by rw [h1, outOf_eq, outT_eq], h2⟩
theorem DRes.yes {n : NT} {x : List UInt8} {out : NT} (hp : paramB x = true) (h : DRes n x out true) : derivOf (some n) x = (out.db []).told := by
  unfold derivOf
  rw [if_pos hp, Option.bind_some, derO_eq (h.2.2.1 rfl)]
  rfl
theorem DRes.no {n : NT} {x : List UInt8} {out : NT} (hp : paramB x = true) (h : DRes n x out false) : derivOf (some n) x = none := by
  unfold derivOf
  rw [if_pos hp, Option.bind_some, derO_eq (h.2.2.2 rfl)]
  rfl

set_option maxHeartbeats 4000000 in
set_option maxRecDepth 100000 in
theorem specDerivOf_any (s nm : ByteArray) (w : World) (hs : s.size ≤ 9223372036854775807) :
    Calls Tryz.prog 49 #[.string s, .string nm] w fun e w' => e = .returned (.tuple #[.string (St ((derivOf (rdTy s.data.toList) nm.data.toList).getD [])), .bool (derivOf (rdTy s.data.toList) nm.data.toList).isSome]) ∧ Below w.heap.size w w' := by
  have hv := fun w => l1Type_any s w hs
  have hn := fun v h => rdTy_some (l := s.data.toList) (n := v) h
  have HP : Hid (∀ w, Calls Tryz.prog 55 #[.string nm] w fun e w' => e = .returned (.bool (paramB nm.data.toList)) ∧ w = w') := fun w => l1Param_any nm w
  have HDV : Hid (∀ n : NT, n.ok3 → n.atoms ≤ 400 → paramB nm.data.toList = true → ∀ w1 v, TAt w1 (fun _ => True) n.toTr v → Calls Tryz.prog 105 #[v, .string nm] w1 (DvPost w1 (fun _ => True) n nm.data.toList)) := fun n h1 h2 h3 w1 v hp => l3Deriv_any n h1 h2 nm.data.toList (name_ok (.inl h3)) v w1 _ (fun _ _ => trivial) hp
  generalize nm.data.toList = x at *
  generalize rdTy s.data.toList = o at *
  clear hs
  have HV := Lib.hid hv
  clear hv
  cases o with
  | none =>
    rw [show derivOf none x = none by unfold derivOf; split <;> rfl]
    clear hn HP HDV
    show Calls _ _ _ _ (fun e w' => e = .returned (.tuple #[.string (St []), .bool false]) ∧ _)
    go_enter Tryz.func49, Tryz.ntmps49
    go_wp2_with (go_at_call 102; refine (HV.out _).mono ?_; rintro e w1 ⟨hb1, y, A, n, c, rfl⟩; have HB1 := Lib.hid hb1; clear hb1)
    go_ret2
    exact ⟨rfl, up_alloc HB1.out _⟩
  | some n =>
    obtain ⟨hok, hat⟩ := hn n rfl
    clear hn
    replace HV : Hid (∀ w, Calls Tryz.prog 102 #[.string s] w fun e w' => Below w.heap.size w w' ∧ ∃ x A n' c, e = .returned (.tuple #[.agg #[.string x, .slice A n' c], .bool true]) ∧ TAt w' (fun k => w.heap.size ≤ k) n.toTr (.agg #[.string x, .slice A n' c])) := HV
    cases hp : paramB x with
    | false =>
      rw [hp] at HP
      rw [show derivOf (some n) x = none by unfold derivOf; rw [hp]; rfl]
      clear HDV hok hat hp
      show Calls _ _ _ _ (fun e w' => e = .returned (.tuple #[.string (St []), .bool false]) ∧ _)
      go_enter Tryz.func49, Tryz.ntmps49
      go_wp2_with (first
        | (go_at_call 102; refine (HV.out _).mono ?_; rintro e w1 ⟨hb1, y, A, n', c, rfl, hpt⟩; have HB1 := Lib.hid hb1; clear hb1 hpt)
        | (go_at_call 55; (with_reducible refine (HP.out _).mono ?_); rintro e w2 ⟨rfl, rfl⟩))
      go_ret2
      exact ⟨rfl, up_alloc HB1.out _⟩
    | true =>
      rw [hp] at HP
      have HD2 : Hid (∀ w1 v, TAt w1 (fun _ => True) n.toTr v → Calls Tryz.prog 105 #[v, .string nm] w1 (DvPost w1 (fun _ => True) n x)) := HDV.out n (ok_ok3 hok) hat hp
      have HC : Hid (∀ out, DRes n x out true → ∀ w1 v, TAt w1 (fun _ => True) out.toTr v → Calls Tryz.prog 106 #[v] w1 fun e w' => e = .returned (.tuple #[.string (St ((out.db []).told.getD [])), .bool (out.db []).told.isSome]) ∧ Below w1.heap.size w1 w') := fun out h w1 v hp => h.canon v w1 hp
      have HY : Hid (∀ out, DRes n x out true → derivOf (some n) x = (out.db []).told) := fun out h => h.yes hp
      have HN : Hid (∀ out, DRes n x out false → derivOf (some n) x = none) := fun out h => h.no hp
      generalize derivOf (some n) x = res at *
      clear HDV hok hat hp
      go_enter Tryz.func49, Tryz.ntmps49
      go_upto_region 5 with (first
        | (go_at_call 102; refine (HV.out _).mono ?_; rintro e w1 ⟨hb1, y, A, n', c, rfl, hpt⟩; have HB1 := Lib.hid hb1; have HPT := Lib.hid (TAt.weak (fun _ _ => trivial) hpt); clear hb1 hpt)
        | (go_at_call 55; (with_reducible refine (HP.out _).mono ?_); rintro e w2 ⟨rfl, rfl⟩)
        | (go_at_call 105; (refine (HD2.out _ _ (TAt.up (up1 _ _) HPT.out)).mono ?_); rintro e w3 ⟨out, ok, hd, ⟨y3, A3, n3, c3, rfl, ht3⟩, hb3⟩; have HB3 := Lib.hid (up_trans (up_alloc HB1.out _) hb3); have HT3 := Lib.hid ht3; have HDR := Lib.hid hd; clear hb3 ht3 hd))
      cases ok with
      | false =>
        obtain rfl : res = none := HN.out out HDR.out
        go_wp2
        go_ret2
        exact ⟨rfl, up_alloc HB3.out _⟩
      | true =>
        obtain rfl : res = (out.db []).told := HY.out out HDR.out
        have HC2 := Lib.hid (HC.out out HDR.out)
        clear HC HY HN
        go_wp2_with (go_at_call 106; (refine (HC2.out _ _ (TAt.up (up1 _ _) HT3.out)).mono ?_); rintro e w4 ⟨rfl, hb4⟩; have HB4 := Lib.hid (up_trans (up_alloc HB3.out _) hb4); clear hb4)
        go_ret2
        exact ⟨rfl, HB4.out⟩

end Go.Proofs.YtpokompplapkhaaGreatDoor
