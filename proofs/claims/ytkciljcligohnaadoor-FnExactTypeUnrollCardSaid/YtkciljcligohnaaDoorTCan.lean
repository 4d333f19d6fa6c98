/- TypeCanon and TypePut of both. -/
import Derived.Test.YtkciljcligohnaaDoorCan2
import Derived.Test.YtkciljcligohnaaDoorSCan
import Derived.Test.YtkciljcligohnaaDoorIPut
import Derived.Test.YtkciljcligohnaaDoorHas
namespace Go.Proofs.YtkciljcligohnaaDoor
open Go.RowKit
set_option linter.unusedVariables false
set_option linter.unusedSimpArgs false

theorem outT_eq (o : Option (List UInt8)) : outT o = .tuple #[.string (St (o.getD [])), .bool o.isSome] := by cases o <;> rfl
theorem outOf_eq (o : Option (List UInt8)) : outOf o = outT o := by cases o <;> rfl
theorem db_nmle : ∀ (n : NT) (env : List (List UInt8)), n.ok3 → (n.db env).nmle
  | .zero, _, _ => trivial
  | .one, _, _ => trivial
  | .name s, env, h => by
    simp only [NT.db]
    split
    · exact h.2.2.2.2
    · cases look s env with
      | none => exact h.2.2.2.2
      | some k => trivial
  | .sum a b, env, h => ⟨db_nmle a env h.1, db_nmle b env h.2⟩
  | .prod a b, env, h => ⟨db_nmle a env h.1, db_nmle b env h.2⟩
  | .loop s a, env, h => db_nmle a (s :: env) h.2
theorem put_nmle (nm : List UInt8) (u : Ty) (hu : u.nmle) : ∀ (t : Ty), t.nmle → (t.put nm u).nmle
  | .zero, _ => trivial
  | .one, _ => trivial
  | .bound _, _ => trivial
  | .name s, h => by
    simp only [Ty.put]
    split
    · exact hu
    · exact h
  | .sum a b, h => ⟨put_nmle nm u hu a h.1, put_nmle nm u hu b h.2⟩
  | .prod a b, h => ⟨put_nmle nm u hu a h.1, put_nmle nm u hu b h.2⟩
  | .loop a, h => put_nmle nm u hu a h
theorem opened_nmle (u : Ty) (hu : u.nmle) : ∀ (t : Ty) (k : Nat), t.nmle → (t.opened u k).nmle
  | .zero, _, _ => trivial
  | .one, _, _ => trivial
  | .name _, _, h => h
  | .bound j, k, _ => by
    simp only [Ty.opened]
    split
    · exact hu
    · trivial
  | .sum a b, k, h => ⟨opened_nmle u hu a k h.1, opened_nmle u hu b k h.2⟩
  | .prod a b, k, h => ⟨opened_nmle u hu a k h.1, opened_nmle u hu b k h.2⟩
  | .loop a, k, h => opened_nmle u hu a (k + 1) h
theorem scoped_mono : ∀ (t : Ty) {k k' : Nat}, k ≤ k' → t.scoped k → t.scoped k'
  | .zero, _, _, _, _ => trivial
  | .one, _, _, _, _ => trivial
  | .name _, _, _, _, _ => trivial
  | .bound _, _, _, hk, h => Nat.lt_of_lt_of_le h hk
  | .sum a b, _, _, hk, h => ⟨scoped_mono a hk h.1, scoped_mono b hk h.2⟩
  | .prod a b, _, _, hk, h => ⟨scoped_mono a hk h.1, scoped_mono b hk h.2⟩
  | .loop a, _, _, hk, h => scoped_mono a (Nat.succ_le_succ hk) h
theorem put_scoped (nm : List UInt8) (u : Ty) (hu : u.scoped 0) : ∀ (t : Ty) (k : Nat), t.scoped k → (t.put nm u).scoped k
  | .zero, _, _ => trivial
  | .one, _, _ => trivial
  | .bound _, _, h => h
  | .name s, k, h => by
    simp only [Ty.put]
    split
    · exact scoped_mono u (Nat.zero_le _) hu
    · trivial
  | .sum a b, k, h => ⟨put_scoped nm u hu a k h.1, put_scoped nm u hu b k h.2⟩
  | .prod a b, k, h => ⟨put_scoped nm u hu a k h.1, put_scoped nm u hu b k h.2⟩
  | .loop a, k, h => put_scoped nm u hu a (k + 1) h
theorem opened_scoped (u : Ty) (hu : u.scoped 0) : ∀ (t : Ty) (k : Nat), t.scoped (k + 1) → (t.opened u k).scoped k
  | .zero, _, _ => trivial
  | .one, _, _ => trivial
  | .name _, _, _ => trivial
  | .bound j, k, h => by
    have h : j < k + 1 := h
    simp only [Ty.opened]
    split
    · exact scoped_mono u (Nat.zero_le _) hu
    · show j < k
      omega
  | .sum a b, k, h => ⟨opened_scoped u hu a k h.1, opened_scoped u hu b k h.2⟩
  | .prod a b, k, h => ⟨opened_scoped u hu a k h.1, opened_scoped u hu b k h.2⟩
  | .loop a, k, h => opened_scoped u hu a (k + 1) h
theorem put_atoms_le (nm : List UInt8) (u : Ty) (t : Ty) : (t.put nm u).atoms ≤ t.atoms + t.usesT nm * u.atoms := by have := put_atoms nm u t; omega
theorem usesT_atoms (nm : List UInt8) : ∀ (t : Ty), t.usesT nm ≤ t.atoms
  | .zero => by simp [Ty.usesT]
  | .one => by simp [Ty.usesT]
  | .bound _ => by simp [Ty.usesT]
  | .name s => by simp only [Ty.usesT, Ty.atoms]; split <;> omega
  | .sum a b => by have := usesT_atoms nm a; have := usesT_atoms nm b; simp only [Ty.usesT, Ty.atoms]; omega
  | .prod a b => by have := usesT_atoms nm a; have := usesT_atoms nm b; simp only [Ty.usesT, Ty.atoms]; omega
  | .loop a => by have := usesT_atoms nm a; simp only [Ty.usesT, Ty.atoms]; omega

/-- told, its two results apart. -/
theorem told_two (t : Ty) (B : Nat) (w : World) (p : Option Addr) (hp : TyAt w t p) (ht : t.atoms ≤ 1000000000) (hsc : t.scoped 0) (hnm : t.nmle) (htab : TabB B w) (hB : B ≤ w.heap.size) :
    Calls Tryd.prog 47 #[.pointer p] w fun e w' => e = .returned (.tuple #[.string (St (t.told.getD [])), .bool t.told.isSome]) ∧ Below w.heap.size w w' :=
  (told_any t B w p hp ht hsc hnm htab hB).mono fun e w' ⟨h1, h2⟩ => ⟨by rw [h1, outT_eq], h2⟩

/-! ### TypeCanon -/
def canonOf (o : Option NT) : Option (List UInt8) := o.bind fun n => (n.db []).told

set_option maxHeartbeats 2000000 in
theorem TypeCanon_any (s : ByteArray) (B : Nat) (w : World) (hs : s.size ≤ 9223372036854775807) (htab : TabB B w) (hB : B ≤ w.heap.size) :
    Calls Tryd.prog 15 #[.string s] w fun e w' => e = .returned (.tuple #[.string (St ((canonOf (rdTy s.data.toList)).getD [])), .bool (canonOf (rdTy s.data.toList)).isSome]) ∧ Below w.heap.size w w' := by
  have hv := readType_rt s w hs
  have hn := fun v h => rdTy_some (l := s.data.toList) (n := v) h
  clear hs
  generalize rdTy s.data.toList = o at *
  cases o with
  | none =>
    clear hn htab hB
    show Calls _ _ _ _ (fun e w' => e = .returned (.tuple #[.string (St []), .bool false]) ∧ _)
    go_enter Tryd.func15, Tryd.ntmps15
    go_wp2_with (go_at_call 46; refine hv.mono ?_; rintro e w1 ⟨hb1, rfl⟩)
    go_ret2
    exact ⟨rfl, hb1⟩
  | some n =>
    obtain ⟨hok, hat⟩ := hn n rfl
    have HT : Hid (∀ w1 p, Below w.heap.size w w1 → TyAt w1 (n.db []) p → Calls Tryd.prog 47 #[.pointer p] w1 fun e w' => e = .returned (.tuple #[.string (St ((n.db []).told.getD [])), .bool (n.db []).told.isSome]) ∧ Below w1.heap.size w1 w') := fun w1 p hw hp =>
      told_two (n.db []) B w1 p hp (by rw [NT.db_atoms]; omega) (db_scoped n []) (db_nmle n [] (ok_ok3 hok)) (htab.below (hw.mono hB)) (by have := hw.size; omega)
    clear hn htab hB hok hat
    show Calls _ _ _ _ (fun e w' => e = .returned (.tuple #[.string (St ((n.db []).told.getD [])), .bool (n.db []).told.isSome]) ∧ _)
    generalize (n.db []).told.getD [] = x at *
    generalize (n.db []).told.isSome = b at *
    go_enter Tryd.func15, Tryd.ntmps15
    go_wp2_with (first
      | (go_at_call 46; refine hv.mono ?_; rintro e w1 ⟨hb1, g, rfl, hp⟩; have HP := Lib.hid hp; have HB1 := Lib.hid hb1; clear hp hb1)
      | (go_at_call 47; (with_reducible refine (HT.out _ _ HB1.out HP.out).mono ?_); rintro e w2 ⟨rfl, hb2⟩; have HB2 := Lib.hid (up_trans HB1.out hb2); clear hb2))
    go_ret2
    exact ⟨rfl, HB2.out⟩

set_option maxHeartbeats 2000000 in
theorem specTypeCanon_any (s : ByteArray) (w : World) (hs : s.size ≤ 9223372036854775807) :
    Calls Tryd.prog 14 #[.string s] w fun e w' => e = .returned (.tuple #[.string (St ((canonOf (rdTy s.data.toList)).getD [])), .bool (canonOf (rdTy s.data.toList)).isSome]) ∧ Below w.heap.size w w' := by
  have hv := fun w => l1Type_any s w hs
  have hn := fun v h => rdTy_some (l := s.data.toList) (n := v) h
  clear hs
  generalize rdTy s.data.toList = o at *
  have HV := Lib.hid hv
  clear hv
  cases o with
  | none =>
    clear hn
    show Calls _ _ _ _ (fun e w' => e = .returned (.tuple #[.string (St []), .bool false]) ∧ _)
    go_enter Tryd.func14, Tryd.ntmps14
    go_wp2_with (go_at_call 44; refine (HV.out _).mono ?_; rintro e w1 ⟨hb1, x, A, n, c, rfl⟩; have HB1 := Lib.hid hb1; clear hb1)
    go_ret2
    exact ⟨rfl, up_alloc HB1.out _⟩
  | some n =>
    obtain ⟨hok, hat⟩ := hn n rfl
    have HT : Hid (∀ w1 v, TAt w1 (fun _ => True) n.toTr v → Calls Tryd.prog 45 #[v] w1 fun e w' => e = .returned (.tuple #[.string (St ((n.db []).told.getD [])), .bool (n.db []).told.isSome]) ∧ Below w1.heap.size w1 w') := fun w1 v hp =>
      (l1Canon_any n (ok_ok3 hok) (by omega) v w1 hp).mono fun e w' ⟨h1, h2⟩ => ⟨by rw [h1, outOf_eq, outT_eq], h2⟩
    clear hn hok hat
    show Calls _ _ _ _ (fun e w' => e = .returned (.tuple #[.string (St ((n.db []).told.getD [])), .bool (n.db []).told.isSome]) ∧ _)
    generalize (n.db []).told.getD [] = x at *
    generalize (n.db []).told.isSome = b at *
    go_enter Tryd.func14, Tryd.ntmps14
    go_wp2_with (first
      | (go_at_call 44; refine (HV.out _).mono ?_; rintro e w1 ⟨hb1, x1, A, n', c, rfl, hp⟩; have HP := Lib.hid hp; have HB1 := Lib.hid hb1; clear hb1 hp)
      | (go_at_call 45; (with_reducible refine (HT.out _ _ (TAt.weak (fun _ _ => trivial) (HP.out.up (up1 _ _)))).mono ?_); rintro e w2 ⟨rfl, hb2⟩; have HB2 := Lib.hid (up_trans (up_alloc HB1.out _) hb2); clear hb2))
    go_ret2
    exact ⟨rfl, HB2.out⟩

/-! ### TypePut -/
def putOf (o u : Option NT) (nm : List UInt8) : Option (List UInt8) := match o, u with
  | some n, some m => if paramB nm = true ∨ loopB nm = true then ((n.db []).put nm (m.db [])).told else none
  | _, _ => none
theorem St_eta (x : ByteArray) : St x.data.toList = x := rfl

set_option maxHeartbeats 4000000 in
theorem TypePut_any (s nm u : ByteArray) (B : Nat) (w : World) (hs : s.size ≤ 9223372036854775807) (hu : u.size ≤ 9223372036854775807) (htab : TabB B w) (hB : B ≤ w.heap.size) :
    Calls Tryd.prog 17 #[.string s, .string nm, .string u] w fun e w' => e = .returned (.tuple #[.string (St ((putOf (rdTy s.data.toList) (rdTy u.data.toList) nm.data.toList).getD [])), .bool (putOf (rdTy s.data.toList) (rdTy u.data.toList) nm.data.toList).isSome]) ∧ Below w.heap.size w w' := by
  have hv := fun w => readType_rt s w hs
  have hv2 := fun w => readType_rt u w hu
  have hn := fun v h => rdTy_some (l := s.data.toList) (n := v) h
  have hn2 := fun v h => rdTy_some (l := u.data.toList) (n := v) h
  have HP : Hid (∀ w, Calls Tryd.prog 52 #[.string nm] w fun e w' => e = .returned (.bool (paramB nm.data.toList)) ∧ Below w.heap.size w w') := fun w => isParameter_all nm.data.toList w
  have HL : Hid (∀ w, Calls Tryd.prog 53 #[.string nm] w fun e w' => e = .returned (.bool (loopB nm.data.toList)) ∧ Below w.heap.size w w') := fun w => isLoopName_all nm.data.toList w
  have HPU : Hid (∀ (n m : NT) (w : World) (p q : Option Addr), TyAt w (n.db []) p → TyAt w (m.db []) q → Calls Tryd.prog 54 #[.pointer p, .string nm, .pointer q] w fun e w' => ∃ p', e = .returned (.pointer p') ∧ TyAt w' ((n.db []).put nm.data.toList (m.db [])) p' ∧ Below w.heap.size w w') := fun n m w p q hp hq => put_any nm.data.toList (m.db []) (n.db []) w p q hp hq
  generalize nm.data.toList = x at *
  generalize rdTy s.data.toList = o at *
  generalize rdTy u.data.toList = o2 at *
  clear hs hu
  have HV := Lib.hid hv
  have HV2 := Lib.hid hv2
  clear hv hv2
  cases o with
  | none =>
    have HV2' : Hid (∀ w, Calls Tryd.prog 46 #[.string u] w fun e w' => Below w.heap.size w w' ∧ ∃ p, e = .returned (.pointer p)) := fun w => (HV2.out w).mono fun e w' ⟨h1, h2⟩ => ⟨h1, by
      cases o2 with
      | none => exact ⟨none, h2⟩
      | some m => obtain ⟨g, h, _⟩ := h2; exact ⟨_, h⟩⟩
    rw [show putOf none o2 x = none by cases o2 <;> rfl]
    clear hn hn2 htab hB HP HL HPU HV2
    show Calls _ _ _ _ (fun e w' => e = .returned (.tuple #[.string (St []), .bool false]) ∧ _)
    go_enter Tryd.func17, Tryd.ntmps17
    go_wp2_with (go_at_call 46; first
      | (have HB1' := HB1.out; clear HB1'; (with_reducible refine (HV2'.out _).mono ?_); rintro e w2 ⟨hb2, p, rfl⟩; have HB2 := Lib.hid (up_trans HB1.out hb2); clear hb2)
      | ((with_reducible refine (HV.out _).mono ?_); rintro e w1 ⟨hb1, rfl⟩; have HB1 := Lib.hid hb1; clear hb1))
    go_ret2
    exact ⟨rfl, HB2.out⟩
  | some n =>
    obtain ⟨hok, hat⟩ := hn n rfl
    cases o2 with
    | none =>
      clear hn hn2 htab hB HP HL HPU hok hat
      show Calls _ _ _ _ (fun e w' => e = .returned (.tuple #[.string (St []), .bool false]) ∧ _)
      go_enter Tryd.func17, Tryd.ntmps17
      go_wp2_with (go_at_call 46; first
        | (have HB1' := HB1.out; clear HB1'; (with_reducible refine (HV2.out _).mono ?_); rintro e w2 ⟨hb2, rfl⟩; have HB2 := Lib.hid (up_trans HB1.out hb2); clear hb2)
        | ((with_reducible refine (HV.out _).mono ?_); rintro e w1 ⟨hb1, g, rfl, _⟩; have HB1 := Lib.hid hb1; clear hb1))
      go_ret2
      exact ⟨rfl, HB2.out⟩
    | some m =>
      obtain ⟨hok2, hat2⟩ := hn2 m rfl
      have HT : Hid (∀ w1 p, Below w.heap.size w w1 → TyAt w1 ((n.db []).put x (m.db [])) p → Calls Tryd.prog 47 #[.pointer p] w1 fun e w' => e = .returned (.tuple #[.string (St (((n.db []).put x (m.db [])).told.getD [])), .bool ((n.db []).put x (m.db [])).told.isSome]) ∧ Below w1.heap.size w1 w') := fun w1 p hw hp => by
        have h1 := put_atoms_le x (m.db []) (n.db [])
        have h2 : (n.db []).usesT x * (m.db []).atoms ≤ 400 * 400 := Nat.mul_le_mul (by have := usesT_atoms x (n.db []); rw [NT.db_atoms] at this; omega) (by rw [NT.db_atoms]; omega)
        rw [NT.db_atoms] at h1
        exact told_two _ B w1 p hp (by omega) (put_scoped x _ (db_scoped m []) _ _ (db_scoped n [])) (put_nmle x _ (db_nmle m [] (ok_ok3 hok2)) _ (db_nmle n [] (ok_ok3 hok))) (htab.below (hw.mono hB)) (by have := hw.size; omega)
      replace HPU := HPU.out n m
      have HPU := Lib.hid HPU
      have hpo : putOf (some n) (some m) x = if paramB x = true ∨ loopB x = true then ((n.db []).put x (m.db [])).told else none := rfl
      rw [hpo]
      clear hn hn2 htab hB hok hat hok2 hat2 hpo
      replace HV : Hid (∀ w, Calls Tryd.prog 46 #[.string s] w fun e w' => Below w.heap.size w w' ∧ ∃ g, e = .returned (.pointer (some ⟨g, 0, none⟩)) ∧ TyAt w' (n.db []) (some ⟨g, 0, none⟩)) := HV
      replace HV2 : Hid (∀ w, Calls Tryd.prog 46 #[.string u] w fun e w' => Below w.heap.size w w' ∧ ∃ g, e = .returned (.pointer (some ⟨g, 0, none⟩)) ∧ TyAt w' (m.db []) (some ⟨g, 0, none⟩)) := HV2
      generalize (n.db []).put x (m.db []) = tt at *
      generalize n.db [] = tn at *
      generalize m.db [] = tm at *
      cases hp : paramB x with
      | true =>
        rw [if_pos (.inl rfl)]
        generalize tt.told.getD [] = tx at *
        generalize tt.told.isSome = b at *
        rw [hp] at HP
        clear hp HL
        go_enter Tryd.func17, Tryd.ntmps17
        go_wp2_with (first
          | (go_at_call 46; first
            | (have HB1' := HB1.out; clear HB1'; (with_reducible refine (HV2.out _).mono ?_); rintro e w2 ⟨hb2, g2, rfl, hp2⟩; have HB2 := Lib.hid (up_trans HB1.out hb2); have HP2 := Lib.hid hp2; have HP12 := Lib.hid (HP1.out.up hb2); clear hb2 hp2)
            | ((with_reducible refine (HV.out _).mono ?_); rintro e w1 ⟨hb1, g, rfl, hp1⟩; have HB1 := Lib.hid hb1; have HP1 := Lib.hid hp1; clear hb1 hp1))
          | (go_at_call 52; (with_reducible refine (HP.out _).mono ?_); rintro e w3 ⟨rfl, hb3⟩; have HB3 := Lib.hid (up_trans HB2.out hb3); have HP13 := Lib.hid (HP12.out.up hb3); have HP23 := Lib.hid (HP2.out.up hb3); clear hb3)
          | (go_at_call 54; (with_reducible refine (HPU.out _ _ _ HP13.out HP23.out).mono ?_); rintro e w4 ⟨p', rfl, hp4, hb4⟩; have HB4 := Lib.hid (up_trans HB3.out hb4); have HP4 := Lib.hid hp4; clear hb4 hp4)
          | (go_at_call 47; (with_reducible refine (HT.out _ _ HB4.out HP4.out).mono ?_); rintro e w5 ⟨rfl, hb5⟩; have HB5 := Lib.hid (up_trans HB4.out hb5); clear hb5))
        go_ret2
        exact ⟨rfl, HB5.out⟩
      | false =>
        cases hl : loopB x with
        | true =>
          rw [if_pos (.inr rfl)]
          generalize tt.told.getD [] = tx at *
          generalize tt.told.isSome = b at *
          rw [hp] at HP
          rw [hl] at HL
          clear hp hl
          go_enter Tryd.func17, Tryd.ntmps17
          go_wp2_with (first
            | (go_at_call 46; first
              | (have HB1' := HB1.out; clear HB1'; (with_reducible refine (HV2.out _).mono ?_); rintro e w2 ⟨hb2, g2, rfl, hp2⟩; have HB2 := Lib.hid (up_trans HB1.out hb2); have HP2 := Lib.hid hp2; have HP12 := Lib.hid (HP1.out.up hb2); clear hb2 hp2)
              | ((with_reducible refine (HV.out _).mono ?_); rintro e w1 ⟨hb1, g, rfl, hp1⟩; have HB1 := Lib.hid hb1; have HP1 := Lib.hid hp1; clear hb1 hp1))
            | (go_at_call 52; (with_reducible refine (HP.out _).mono ?_); rintro e w3 ⟨rfl, hb3⟩; have HB3 := Lib.hid (up_trans HB2.out hb3); have HP13 := Lib.hid (HP12.out.up hb3); have HP23 := Lib.hid (HP2.out.up hb3); clear hb3)
            | (go_at_call 53; (with_reducible refine (HL.out _).mono ?_); rintro e w33 ⟨rfl, hb3⟩; have HB33 := Lib.hid (up_trans HB3.out hb3); have HP133 := Lib.hid (HP13.out.up hb3); have HP233 := Lib.hid (HP23.out.up hb3); clear hb3)
            | (go_at_call 54; (with_reducible refine (HPU.out _ _ _ HP133.out HP233.out).mono ?_); rintro e w4 ⟨p', rfl, hp4, hb4⟩; have HB4 := Lib.hid (up_trans HB33.out hb4); have HP4 := Lib.hid hp4; clear hb4 hp4)
            | (go_at_call 47; (with_reducible refine (HT.out _ _ HB4.out HP4.out).mono ?_); rintro e w5 ⟨rfl, hb5⟩; have HB5 := Lib.hid (up_trans HB4.out hb5); clear hb5))
          go_ret2
          exact ⟨rfl, HB5.out⟩
        | false =>
          rw [if_neg (by simp)]
          rw [hp] at HP
          rw [hl] at HL
          clear hp hl HT HPU
          show Calls _ _ _ _ (fun e w' => e = .returned (.tuple #[.string (St []), .bool false]) ∧ _)
          go_enter Tryd.func17, Tryd.ntmps17
          go_wp2_with (first
            | (go_at_call 46; first
              | (have HB1' := HB1.out; clear HB1'; (with_reducible refine (HV2.out _).mono ?_); rintro e w2 ⟨hb2, g2, rfl, hp2⟩; have HB2 := Lib.hid (up_trans HB1.out hb2); clear hb2 hp2)
              | ((with_reducible refine (HV.out _).mono ?_); rintro e w1 ⟨hb1, g, rfl, hp1⟩; have HB1 := Lib.hid hb1; clear hb1 hp1))
            | (go_at_call 52; (with_reducible refine (HP.out _).mono ?_); rintro e w3 ⟨rfl, hb3⟩; have HB3 := Lib.hid (up_trans HB2.out hb3); clear hb3)
            | (go_at_call 53; (with_reducible refine (HL.out _).mono ?_); rintro e w33 ⟨rfl, hb3⟩; have HB33 := Lib.hid (up_trans HB3.out hb3); clear hb3))
          go_ret2
          exact ⟨rfl, HB33.out⟩

end Go.Proofs.YtkciljcligohnaaDoor
