/- The reference's DerivLoop. -/
import Derived.Test.YtcfecmlfcjgdbaaGreatDoorSDer5
import Derived.Test.YtcfecmlfcjgdbaaGreatDoorDrvL
import Derived.Test.YtcfecmlfcjgdbaaGreatDoorSDrv
import Derived.Test.YtcfecmlfcjgdbaaGreatDoorMK
namespace Go.Proofs.YtcfecmlfcjgdbaaGreatDoor
open Go.RowKit
set_option linter.unusedVariables false
set_option linter.unusedSimpArgs false

theorem dl_yes {s : List UInt8} {a out : NT} (h : LDer (a.db [s]) (some (out.db []))) : derivLoopOf (some (.loop s a)) = (out.db []).told := by
  show (ldO (a.db [s])).bind Ty.told = _
  rw [ldO_eq h]
  rfl
theorem dl_no {s : List UInt8} {a : NT} (h : LDer (a.db [s]) none) : derivLoopOf (some (.loop s a)) = none := by
  show (ldO (a.db [s])).bind Ty.told = _
  rw [ldO_eq h]
  rfl
set_option maxHeartbeats 4000000 in
set_option maxRecDepth 100000 in
theorem specDerivLoop_any (s : ByteArray) (w : World) (hs : s.size ≤ 9223372036854775807) :
    Calls Tryz.prog 22 #[.string s] w fun e w' => e = .returned (.tuple #[.string (St ((derivLoopOf (rdTy s.data.toList)).getD [])), .bool (derivLoopOf (rdTy s.data.toList)).isSome]) ∧ Below w.heap.size w w' := by
  have hv := fun w => l1Type_any s w hs
  have hn := fun v h => rdTy_some (l := s.data.toList) (n := v) h
  clear hs
  generalize rdTy s.data.toList = o at *
  have HV := Lib.hid hv
  clear hv
  cases o with
  | none =>
    clear hn
    show Calls _ _ _ _ (fun e w' => e = .returned (.tuple #[.string (St []), .bool false]) ∧ _)
    go_enter Tryz.func22, Tryz.ntmps22
    go_wp2_with (go_at_call 43; refine (HV.out _).mono ?_; rintro e w1 ⟨hb1, x, A, n, c, rfl⟩; have HB1 := Lib.hid hb1; clear hb1)
    go_ret2
    exact ⟨rfl, up_alloc HB1.out _⟩
  | some n =>
    obtain ⟨hok, hat⟩ := hn n rfl
    clear hn
    replace HV : Hid (∀ w, Calls Tryz.prog 43 #[.string s] w fun e w' => Below w.heap.size w w' ∧ ∃ x A n' c, e = .returned (.tuple #[.agg #[.string x, .slice A n' c], .bool true]) ∧ TAt w' (fun k => w.heap.size ≤ k) n.toTr (.agg #[.string x, .slice A n' c])) := HV
    have hno : ∀ (h : List UInt8), headOf n.toTr = h → h ≠ [114, 101, 99] → derivLoopOf (some n) = none → Calls Tryz.prog 22 #[.string s] w fun e w' => e = .returned (.tuple #[.string (St ((derivLoopOf (some n)).getD [])), .bool (derivLoopOf (some n)).isSome]) ∧ Below w.heap.size w w' := fun h hh hne hu => by
      rw [hu]
      have HH : Hid (∀ w1 v, TAt w1 (fun _ => True) n.toTr v → Calls Tryz.prog 49 #[v] w1 fun e w' => e = .returned (.string (St h)) ∧ Below w1.heap.size w1 w') := fun w1 v hp => by
        have := l1Head_any n.toTr v w1 hp
        rw [hh] at this
        exact this
      have q : (h != [114, 101, 99]) = true := bne_iff_ne.2 hne
      have q2 : (h == [114, 101, 99]) = false := St_ne hne
      clear hh hne hu hok hat
      show Calls _ _ _ _ (fun e w' => e = .returned (.tuple #[.string (St []), .bool false]) ∧ _)
      go_enter Tryz.func22, Tryz.ntmps22
      go_wp2_with (first
        | (go_at_call 43; refine (HV.out _).mono ?_; rintro e w1 ⟨hb1, x, A, n', c, rfl, hp⟩; have HB1 := Lib.hid hb1; have HP := Lib.hid (TAt.weak (fun _ _ => trivial) hp); clear hb1 hp)
        | (go_at_call 49; refine (HH.out _ _ (TAt.up (up1 _ _) HP.out)).mono ?_; rintro e w2 ⟨rfl, hb2⟩; have HB2 := Lib.hid (up_trans (up_alloc HB1.out _) hb2); clear hb2))
      go_ret2
      exact ⟨rfl, HB2.out⟩
    cases n with
    | zero => exact hno [] rfl (by decide) rfl
    | one => exact hno [] rfl (by decide) rfl
    | name x =>
      refine hno [] ?_ (by decide) ?_
      · simp only [NT.toTr, headOf]
        split <;> rfl
      · show ((NT.name x).db []).ld = none
        rw [name_db0]
        rfl
    | sum a b => exact hno [43] rfl (by decide) rfl
    | prod a b => exact hno [42] rfl (by decide) rfl
    | loop x a =>
      clear hno
      have HH : Hid (∀ w1 v, TAt w1 (fun _ => True) (NT.loop x a).toTr v → Calls Tryz.prog 49 #[v] w1 fun e w' => e = .returned (.string (St [114, 101, 99])) ∧ Below w1.heap.size w1 w') := fun w1 v hp => l1Head_any (NT.loop x a).toTr v w1 hp
      have HU : Hid (∀ w1 v, TAt w1 (fun _ => True) (NT.loop x a).toTr v → Calls Tryz.prog 50 #[v] w1 (ArPost w1 x a)) := fun w1 v hp => l3Around_any x a (ok_ok3 hok) hat v w1 hp
      have HC : Hid (∀ (out : NT) (w : World) (v : Value), out.ok3 → out.atoms ≤ 400 → TAt w (fun _ => True) out.toTr v → Calls Tryz.prog 46 #[v] w fun e w' => e = .returned (.tuple #[.string (St ((out.db []).told.getD [])), .bool (out.db []).told.isSome]) ∧ Below w.heap.size w w') := fun out w v h1 h2 h => (l1Canon_any out h1 (by omega) v w h).mono fun e w' ⟨h1, h2⟩ => ⟨by rw [h1, outOf_eq, outT_eq], h2⟩
      have HY : Hid (∀ out : NT, LDer (a.db [x]) (some (out.db [])) → derivLoopOf (some (.loop x a)) = (out.db []).told) := fun out h => dl_yes h
      have HN : Hid (LDer (a.db [x]) none → derivLoopOf (some (.loop x a)) = none) := fun h => dl_no h
      generalize derivLoopOf (some (.loop x a)) = res at *
      clear hok hat
      go_enter Tryz.func22, Tryz.ntmps22
      go_upto_region 5 with (first
        | (go_at_call 43; refine (HV.out _).mono ?_; rintro e w1 ⟨hb1, x1, A, n', c, rfl, hp⟩; have HB1 := Lib.hid hb1; have HP := Lib.hid (TAt.weak (fun _ _ => trivial) hp); have X1 := Lib.hid (block_new w1 (.cells #[.string x1, .slice A n' c] 56)); clear hb1 hp)
        | (go_at_call 49; refine (HH.out _ _ (TAt.up (up1 _ _) HP.out)).mono ?_; rintro e w2 ⟨rfl, hb2⟩; have HB2 := Lib.hid (up_trans (up_alloc HB1.out _) hb2); have HP2 := Lib.hid (TAt.up hb2 (TAt.up (up1 _ _) HP.out)); have e0 := block_cell (block_up hb2 X1.out) 0; have e1 := block_cell (block_up hb2 X1.out) 1; clear hb2)
        | (go_at_call 50; refine (HU.out _ _ HP2.out).mono ?_; rintro e w3 ⟨ok, x3, A3, n3, c3, rfl, hno, hyes, hb3⟩; have HB3 := Lib.hid (up_trans HB2.out hb3); have HNO := Lib.hid hno; have HYE := Lib.hid hyes; clear hb3 hno hyes))
      cases ok with
      | false =>
        obtain rfl : res = none := HN.out (HNO.out rfl)
        go_wp2
        go_ret2
        exact ⟨rfl, up_alloc HB3.out _⟩
      | true =>
        obtain ⟨out, ht, ho3, hoa, hld⟩ := HYE.out rfl
        obtain rfl : res = (out.db []).told := HY.out out hld
        have HC2 := Lib.hid (fun w v => HC.out out w v ho3 hoa)
        have HT3 := Lib.hid ht
        clear HC HY HN HNO HYE ht ho3 hoa hld
        go_wp2_with (go_at_call 46; (refine (HC2.out _ _ (TAt.up (up1 _ _) HT3.out)).mono ?_); rintro e w4 ⟨rfl, hb4⟩; have HB4 := Lib.hid (up_trans (up_alloc HB3.out _) hb4); clear hb4)
        go_ret2
        exact ⟨rfl, HB4.out⟩

end Go.Proofs.YtcfecmlfcjgdbaaGreatDoor
