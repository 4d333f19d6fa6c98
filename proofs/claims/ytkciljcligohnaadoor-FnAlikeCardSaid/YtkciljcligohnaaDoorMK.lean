/- TypeNames and TypeClosed, the exported functions of both. TypeEmpty, both. TypeCanon and TypePut of both. TypePut of the reference. TypeUnroll of both. -/
import Derived.Test.YtkciljcligohnaaDoorMF
import Derived.Test.YtkciljcligohnaaDoorMC
import Derived.Test.YtkciljcligohnaaDoorMG
import Derived.Test.YtkciljcligohnaaDoorMI
import Derived.Test.YtkciljcligohnaaDoorMH
namespace Go.Proofs.YtkciljcligohnaaDoor
open Go.RowKit
set_option linter.unusedVariables false
set_option linter.unusedSimpArgs false

/-- What l1Closed does. -/
def CLPost (w : World) (o : Option NT) (e : Ending) (w' : World) : Prop :=
  Below w.heap.size w w' ∧ ∃ x A n' c, e = .returned (.tuple #[.agg #[.string x, .slice A n' c], .bool (closedOf o)]) ∧ (∀ n, o = some n → TAt w' (fun k => w.heap.size < k) n.toTr (.agg #[.string x, .slice A n' c]))
theorem l1Closed_any (s : ByteArray) (w : World) (hs : s.size ≤ 9223372036854775807) : Calls Tryd.prog 66 #[.string s] w (CLPost w (rdTy s.data.toList)) := by
  cases h : rdTy s.data.toList with
  | none =>
    refine (l1Closed_none s w hs h).mono ?_
    rintro e w' ⟨hb, x, A, n, c, he⟩
    exact ⟨hb, x, A, n, c, he, fun n h => by cases h⟩
  | some n =>
    refine (l1Closed_some s w hs n h).mono ?_
    rintro e w' ⟨hb, x, A, n', c, he, ht⟩
    exact ⟨hb, x, A, n', c, he, fun m hm => by cases hm; exact ht⟩

theorem specTypeClosed_any (s : ByteArray) (w : World) (hs : s.size ≤ 9223372036854775807) :
    Calls Tryd.prog 34 #[.string s] w fun e w' => e = .returned (.bool (closedOf (rdTy s.data.toList))) ∧ Below w.heap.size w w' := by
  have HV := Lib.hid fun w => l1Closed_any s w hs
  clear hs
  generalize rdTy s.data.toList = o at *
  generalize hb : closedOf o = b
  have HC := Lib.hid hb
  clear hb
  go_enter Tryd.func34, Tryd.ntmps34
  go_wp2_with (go_at_call 66; refine (HV.out _).mono ?_; rintro e w1 ⟨hb1, x, A, n, c, rfl, _⟩; rw [HC.out]; have HB1 := Lib.hid hb1; clear hb1)
  go_ret
  exact ⟨rfl, by repeat (first | exact HB1.out | refine up_alloc ?_ _)⟩

/-- What TypeNames gives. -/
def TNPost (w : World) (o : Option NT) (e : Ending) (w' : World) : Prop :=
  Below w.heap.size w w' ∧ match o with
    | none => ∃ A c, e = .returned (.tuple #[.slice A 0 c, .bool false])
    | some v => ∃ g c, e = .returned (.tuple #[.slice (some ⟨g, 0, none⟩) v.names.length c, .bool true]) ∧ SOwn w' w.heap.size v.names g c

set_option maxHeartbeats 1000000 in
theorem TypeNames_any (s : ByteArray) (w : World) (hs : s.size ≤ 9223372036854775807) :
    Calls Tryd.prog 26 #[.string s] w (TNPost w (rdTy s.data.toList)) := by
  have hv := readType_rt s w hs
  have hn := fun v h => rdTy_some (l := s.data.toList) (n := v) h
  clear hs
  generalize rdTy s.data.toList = o at *
  cases o with
  | none =>
    clear hn
    go_enter Tryd.func26, Tryd.ntmps26
    go_wp2_with (go_at_call 46; refine hv.mono ?_; rintro e w1 ⟨hb1, rfl⟩)
    go_ret2
    exact ⟨hb1, _, _, rfl⟩
  | some n =>
    have HN : Hid (∀ (w : World) p, TyAt w (n.db []) p → Calls Tryd.prog 62 #[.pointer p] w (LPost w n.names)) := fun w p hp => by
      have h := names_any (n.db []) w p hp (by rw [NT.db_atoms]; have := (hn n rfl).2; omega)
      rw [names_fr n [] [] (hn n rfl).1 (by simp)] at h
      exact h
    clear hn
    go_enter Tryd.func26, Tryd.ntmps26
    go_wp2_with (first
      | (go_at_call 46; refine hv.mono ?_; rintro e w1 ⟨hb1, g, rfl, hp⟩; have HP := Lib.hid hp; have HB1 := Lib.hid hb1; clear hp hb1)
      | (go_at_call 62; refine (HN.out _ _ HP.out).mono ?_; rintro e w2 ⟨hb2, g2, c2, rfl, ho⟩; have HO := Lib.hid (ho.less HB1.out.size); have HB2 := Lib.hid (up_trans HB1.out hb2); clear hb2 ho))
    go_ret2
    exact ⟨HB2.out, _, _, rfl, HO.out⟩

set_option maxHeartbeats 1000000 in
theorem specTypeNames_any (s : ByteArray) (w : World) (hs : s.size ≤ 9223372036854775807) :
    Calls Tryd.prog 29 #[.string s] w (TNPost w (rdTy s.data.toList)) := by
  have hv := fun w => l1Type_any s w hs
  have hn := fun v h => rdTy_some (l := s.data.toList) (n := v) h
  clear hs
  generalize rdTy s.data.toList = o at *
  cases o with
  | none =>
    have HV := Lib.hid hv
    clear hv hn
    go_enter Tryd.func29, Tryd.ntmps29
    go_wp2_with (go_at_call 44; refine (HV.out _).mono ?_; rintro e w1 ⟨hb1, x, A, n, c, rfl⟩; have HB1 := Lib.hid hb1; clear hb1)
    go_ret2
    exact ⟨up_alloc (up_alloc HB1.out _) _, _, _, rfl⟩
  | some n =>
    have HV := Lib.hid hv
    obtain ⟨hok, hat⟩ := hn n rfl
    have HF : Hid (∀ (w1 : World) (x : ByteArray) A n' c, TAt w1 (fun _ => True) n.toTr (.agg #[.string x, .slice A n' c]) → Calls Tryd.prog 64 #[.agg #[.string x, .slice A n' c], .slice (some ⟨w1.heap.size + 1, 0, none⟩) 0 0, .slice (some ⟨w1.heap.size + 2, 0, none⟩) 0 0] (((w1.alloc (.cells #[.string x, .slice A n' c] 43)).alloc (.cells #[] 9)).alloc (.cells #[] 9)) fun e w2 => ∃ g c3, e = .returned (.slice (some ⟨g, 0, none⟩) n.names.length c3) ∧ SOwn w2 w1.heap.size n.names g c3 ∧ Below w1.heap.size w1 w2) := fun w1 x A n' c ht => by
      refine (l1Free_any n hok _ _ (some ⟨w1.heap.size + 1, 0, none⟩) 0 [] w1.heap.size (w1.heap.size + 2) 0 [] (((ht.up (up1 _ _)).up (up1 _ _)).up (up1 _ _)) (.inl rfl) (own_new2 w1 _ _ (by omega)) (by simp; omega) (by simp; omega) (by simp; omega)).mono ?_
      rintro e w2 ⟨g, c2, he, ho, hg, _⟩
      refine ⟨g, c2, he, ho, ?_⟩
      exact (up_alloc (up_alloc (up1 w1 _) _) _).grown hg (by simp; omega) (fun k hk => by cases hk; omega)
    clear hv hn hok hat
    go_enter Tryd.func29, Tryd.ntmps29
    go_wp2_with (first
      | (go_at_call 44; refine (HV.out _).mono ?_; rintro e w1 ⟨hb1, x, A, n', c, rfl, hp⟩; have HP := Lib.hid hp; have HB1 := Lib.hid hb1; clear hb1 hp)
      | (go_at_call 64; refine (HF.out _ _ _ _ _ (HP.out.weak fun _ _ => trivial)).mono ?_; rintro e w2 ⟨g2, c2, rfl, ho, hb2⟩; have HO := Lib.hid (ho.less HB1.out.size); have HB2 := Lib.hid (up_trans HB1.out hb2); clear hb2 ho))
    go_ret2
    exact ⟨HB2.out, _, _, rfl, HO.out⟩

end Go.Proofs.YtkciljcligohnaaDoor

namespace Go.Proofs.YtkciljcligohnaaDoor
open Go.RowKit
set_option linter.unusedVariables false
set_option linter.unusedSimpArgs false

/-- What TypeEmpty gives. -/
def emptyOf : Option NT → Bool
  | none => false
  | some n => (n.db []).emp



end Go.Proofs.YtkciljcligohnaaDoor

namespace Go.Proofs.YtkciljcligohnaaDoor
open Go.RowKit
set_option linter.unusedVariables false
set_option linter.unusedSimpArgs false

theorem outT_eq (o : Option (List UInt8)) : outT o = .tuple #[.string (St (o.getD [])), .bool o.isSome] := by cases o <;> rfl
theorem outOf_eq (o : Option (List UInt8)) : outOf o = outT o := by cases o <;> rfl
theorem db_nmle : ∀ (n : NT) (env : List (List UInt8)), n.ok3 → (n.db env).nmle
  | .zero, _, _ => trivial
  | .one, _, _ => trivial
  | .name s, env, h => by
    simp only [NT.db]
    split
    · exact h.2.2.2.2
    · cases look s env with
      | none => exact h.2.2.2.2
      | some k => trivial
  | .sum a b, env, h => ⟨db_nmle a env h.1, db_nmle b env h.2⟩
  | .prod a b, env, h => ⟨db_nmle a env h.1, db_nmle b env h.2⟩
  | .loop s a, env, h => db_nmle a (s :: env) h.2
theorem put_nmle (nm : List UInt8) (u : Ty) (hu : u.nmle) : ∀ (t : Ty), t.nmle → (t.put nm u).nmle
  | .zero, _ => trivial
  | .one, _ => trivial
  | .bound _, _ => trivial
  | .name s, h => by
    simp only [Ty.put]
    split
    · exact hu
    · exact h
  | .sum a b, h => ⟨put_nmle nm u hu a h.1, put_nmle nm u hu b h.2⟩
  | .prod a b, h => ⟨put_nmle nm u hu a h.1, put_nmle nm u hu b h.2⟩
  | .loop a, h => put_nmle nm u hu a h
theorem opened_nmle (u : Ty) (hu : u.nmle) : ∀ (t : Ty) (k : Nat), t.nmle → (t.opened u k).nmle
  | .zero, _, _ => trivial
  | .one, _, _ => trivial
  | .name _, _, h => h
  | .bound j, k, _ => by
    simp only [Ty.opened]
    split
    · exact hu
    · trivial
  | .sum a b, k, h => ⟨opened_nmle u hu a k h.1, opened_nmle u hu b k h.2⟩
  | .prod a b, k, h => ⟨opened_nmle u hu a k h.1, opened_nmle u hu b k h.2⟩
  | .loop a, k, h => opened_nmle u hu a (k + 1) h
theorem scoped_mono : ∀ (t : Ty) {k k' : Nat}, k ≤ k' → t.scoped k → t.scoped k'
  | .zero, _, _, _, _ => trivial
  | .one, _, _, _, _ => trivial
  | .name _, _, _, _, _ => trivial
  | .bound _, _, _, hk, h => Nat.lt_of_lt_of_le h hk
  | .sum a b, _, _, hk, h => ⟨scoped_mono a hk h.1, scoped_mono b hk h.2⟩
  | .prod a b, _, _, hk, h => ⟨scoped_mono a hk h.1, scoped_mono b hk h.2⟩
  | .loop a, _, _, hk, h => scoped_mono a (Nat.succ_le_succ hk) h
theorem put_scoped (nm : List UInt8) (u : Ty) (hu : u.scoped 0) : ∀ (t : Ty) (k : Nat), t.scoped k → (t.put nm u).scoped k
  | .zero, _, _ => trivial
  | .one, _, _ => trivial
  | .bound _, _, h => h
  | .name s, k, h => by
    simp only [Ty.put]
    split
    · exact scoped_mono u (Nat.zero_le _) hu
    · trivial
  | .sum a b, k, h => ⟨put_scoped nm u hu a k h.1, put_scoped nm u hu b k h.2⟩
  | .prod a b, k, h => ⟨put_scoped nm u hu a k h.1, put_scoped nm u hu b k h.2⟩
  | .loop a, k, h => put_scoped nm u hu a (k + 1) h
theorem opened_scoped (u : Ty) (hu : u.scoped 0) : ∀ (t : Ty) (k : Nat), t.scoped (k + 1) → (t.opened u k).scoped k
  | .zero, _, _ => trivial
  | .one, _, _ => trivial
  | .name _, _, _ => trivial
  | .bound j, k, h => by
    have h : j < k + 1 := h
    simp only [Ty.opened]
    split
    · exact scoped_mono u (Nat.zero_le _) hu
    · show j < k
      omega
  | .sum a b, k, h => ⟨opened_scoped u hu a k h.1, opened_scoped u hu b k h.2⟩
  | .prod a b, k, h => ⟨opened_scoped u hu a k h.1, opened_scoped u hu b k h.2⟩
  | .loop a, k, h => opened_scoped u hu a (k + 1) h
theorem put_atoms_le (nm : List UInt8) (u : Ty) (t : Ty) : (t.put nm u).atoms ≤ t.atoms + t.usesT nm * u.atoms := by have := put_atoms nm u t; omega
theorem usesT_atoms (nm : List UInt8) : ∀ (t : Ty), t.usesT nm ≤ t.atoms
  | .zero => by simp [Ty.usesT]
  | .one => by simp [Ty.usesT]
  | .bound _ => by simp [Ty.usesT]
  | .name s => by simp only [Ty.usesT, Ty.atoms]; split <;> omega
  | .sum a b => by have := usesT_atoms nm a; have := usesT_atoms nm b; simp only [Ty.usesT, Ty.atoms]; omega
  | .prod a b => by have := usesT_atoms nm a; have := usesT_atoms nm b; simp only [Ty.usesT, Ty.atoms]; omega
  | .loop a => by have := usesT_atoms nm a; simp only [Ty.usesT, Ty.atoms]; omega

/-- told, its two results apart. -/
theorem told_two (t : Ty) (B : Nat) (w : World) (p : Option Addr) (hp : TyAt w t p) (ht : t.atoms ≤ 1000000000) (hsc : t.scoped 0) (hnm : t.nmle) (htab : TabB B w) (hB : B ≤ w.heap.size) :
    Calls Tryd.prog 47 #[.pointer p] w fun e w' => e = .returned (.tuple #[.string (St (t.told.getD [])), .bool t.told.isSome]) ∧ Below w.heap.size w w' :=
  (told_any t B w p hp ht hsc hnm htab hB).mono fun e w' ⟨h1, h2⟩ => ⟨by rw [h1, outT_eq], h2⟩

/-! ### TypeCanon -/
def canonOf (o : Option NT) : Option (List UInt8) := o.bind fun n => (n.db []).told

set_option maxHeartbeats 2000000 in
theorem TypeCanon_any (s : ByteArray) (B : Nat) (w : World) (hs : s.size ≤ 9223372036854775807) (htab : TabB B w) (hB : B ≤ w.heap.size) :
    Calls Tryd.prog 15 #[.string s] w fun e w' => e = .returned (.tuple #[.string (St ((canonOf (rdTy s.data.toList)).getD [])), .bool (canonOf (rdTy s.data.toList)).isSome]) ∧ Below w.heap.size w w' := by
  have hv := readType_rt s w hs
  have hn := fun v h => rdTy_some (l := s.data.toList) (n := v) h
  clear hs
  generalize rdTy s.data.toList = o at *
  cases o with
  | none =>
    clear hn htab hB
    show Calls _ _ _ _ (fun e w' => e = .returned (.tuple #[.string (St []), .bool false]) ∧ _)
    go_enter Tryd.func15, Tryd.ntmps15
    go_wp2_with (go_at_call 46; refine hv.mono ?_; rintro e w1 ⟨hb1, rfl⟩)
    go_ret2
    exact ⟨rfl, hb1⟩
  | some n =>
    obtain ⟨hok, hat⟩ := hn n rfl
    have HT : Hid (∀ w1 p, Below w.heap.size w w1 → TyAt w1 (n.db []) p → Calls Tryd.prog 47 #[.pointer p] w1 fun e w' => e = .returned (.tuple #[.string (St ((n.db []).told.getD [])), .bool (n.db []).told.isSome]) ∧ Below w1.heap.size w1 w') := fun w1 p hw hp =>
      told_two (n.db []) B w1 p hp (by rw [NT.db_atoms]; omega) (db_scoped n []) (db_nmle n [] (ok_ok3 hok)) (htab.below (hw.mono hB)) (by have := hw.size; omega)
    clear hn htab hB hok hat
    show Calls _ _ _ _ (fun e w' => e = .returned (.tuple #[.string (St ((n.db []).told.getD [])), .bool (n.db []).told.isSome]) ∧ _)
    generalize (n.db []).told.getD [] = x at *
    generalize (n.db []).told.isSome = b at *
    go_enter Tryd.func15, Tryd.ntmps15
    go_wp2_with (first
      | (go_at_call 46; refine hv.mono ?_; rintro e w1 ⟨hb1, g, rfl, hp⟩; have HP := Lib.hid hp; have HB1 := Lib.hid hb1; clear hp hb1)
      | (go_at_call 47; (with_reducible refine (HT.out _ _ HB1.out HP.out).mono ?_); rintro e w2 ⟨rfl, hb2⟩; have HB2 := Lib.hid (up_trans HB1.out hb2); clear hb2))
    go_ret2
    exact ⟨rfl, HB2.out⟩

set_option maxHeartbeats 2000000 in
theorem specTypeCanon_any (s : ByteArray) (w : World) (hs : s.size ≤ 9223372036854775807) :
    Calls Tryd.prog 14 #[.string s] w fun e w' => e = .returned (.tuple #[.string (St ((canonOf (rdTy s.data.toList)).getD [])), .bool (canonOf (rdTy s.data.toList)).isSome]) ∧ Below w.heap.size w w' := by
  have hv := fun w => l1Type_any s w hs
  have hn := fun v h => rdTy_some (l := s.data.toList) (n := v) h
  clear hs
  generalize rdTy s.data.toList = o at *
  have HV := Lib.hid hv
  clear hv
  cases o with
  | none =>
    clear hn
    show Calls _ _ _ _ (fun e w' => e = .returned (.tuple #[.string (St []), .bool false]) ∧ _)
    go_enter Tryd.func14, Tryd.ntmps14
    go_wp2_with (go_at_call 44; refine (HV.out _).mono ?_; rintro e w1 ⟨hb1, x, A, n, c, rfl⟩; have HB1 := Lib.hid hb1; clear hb1)
    go_ret2
    exact ⟨rfl, up_alloc HB1.out _⟩
  | some n =>
    obtain ⟨hok, hat⟩ := hn n rfl
    have HT : Hid (∀ w1 v, TAt w1 (fun _ => True) n.toTr v → Calls Tryd.prog 45 #[v] w1 fun e w' => e = .returned (.tuple #[.string (St ((n.db []).told.getD [])), .bool (n.db []).told.isSome]) ∧ Below w1.heap.size w1 w') := fun w1 v hp =>
      (l1Canon_any n (ok_ok3 hok) (by omega) v w1 hp).mono fun e w' ⟨h1, h2⟩ => ⟨by rw [h1, outOf_eq, outT_eq], h2⟩
    clear hn hok hat
    show Calls _ _ _ _ (fun e w' => e = .returned (.tuple #[.string (St ((n.db []).told.getD [])), .bool (n.db []).told.isSome]) ∧ _)
    generalize (n.db []).told.getD [] = x at *
    generalize (n.db []).told.isSome = b at *
    go_enter Tryd.func14, Tryd.ntmps14
    go_wp2_with (first
      | (go_at_call 44; refine (HV.out _).mono ?_; rintro e w1 ⟨hb1, x1, A, n', c, rfl, hp⟩; have HP := Lib.hid hp; have HB1 := Lib.hid hb1; clear hb1 hp)
      | (go_at_call 45; (with_reducible refine (HT.out _ _ (TAt.weak (fun _ _ => trivial) (HP.out.up (up1 _ _)))).mono ?_); rintro e w2 ⟨rfl, hb2⟩; have HB2 := Lib.hid (up_trans (up_alloc HB1.out _) hb2); clear hb2))
    go_ret2
    exact ⟨rfl, HB2.out⟩

/-! ### TypePut -/
def putOf (o u : Option NT) (nm : List UInt8) : Option (List UInt8) := match o, u with
  | some n, some m => if paramB nm = true ∨ loopB nm = true then ((n.db []).put nm (m.db [])).told else none
  | _, _ => none
theorem St_eta (x : ByteArray) : St x.data.toList = x := rfl

set_option maxHeartbeats 4000000 in
theorem TypePut_any (s nm u : ByteArray) (B : Nat) (w : World) (hs : s.size ≤ 9223372036854775807) (hu : u.size ≤ 9223372036854775807) (htab : TabB B w) (hB : B ≤ w.heap.size) :
    Calls Tryd.prog 17 #[.string s, .string nm, .string u] w fun e w' => e = .returned (.tuple #[.string (St ((putOf (rdTy s.data.toList) (rdTy u.data.toList) nm.data.toList).getD [])), .bool (putOf (rdTy s.data.toList) (rdTy u.data.toList) nm.data.toList).isSome]) ∧ Below w.heap.size w w' := by
  have hv := fun w => readType_rt s w hs
  have hv2 := fun w => readType_rt u w hu
  have hn := fun v h => rdTy_some (l := s.data.toList) (n := v) h
  have hn2 := fun v h => rdTy_some (l := u.data.toList) (n := v) h
  have HP : Hid (∀ w, Calls Tryd.prog 52 #[.string nm] w fun e w' => e = .returned (.bool (paramB nm.data.toList)) ∧ Below w.heap.size w w') := fun w => isParameter_all nm.data.toList w
  have HL : Hid (∀ w, Calls Tryd.prog 53 #[.string nm] w fun e w' => e = .returned (.bool (loopB nm.data.toList)) ∧ Below w.heap.size w w') := fun w => isLoopName_all nm.data.toList w
  have HPU : Hid (∀ (n m : NT) (w : World) (p q : Option Addr), TyAt w (n.db []) p → TyAt w (m.db []) q → Calls Tryd.prog 54 #[.pointer p, .string nm, .pointer q] w fun e w' => ∃ p', e = .returned (.pointer p') ∧ TyAt w' ((n.db []).put nm.data.toList (m.db [])) p' ∧ Below w.heap.size w w') := fun n m w p q hp hq => put_any nm.data.toList (m.db []) (n.db []) w p q hp hq
  generalize nm.data.toList = x at *
  generalize rdTy s.data.toList = o at *
  generalize rdTy u.data.toList = o2 at *
  clear hs hu
  have HV := Lib.hid hv
  have HV2 := Lib.hid hv2
  clear hv hv2
  cases o with
  | none =>
    have HV2' : Hid (∀ w, Calls Tryd.prog 46 #[.string u] w fun e w' => Below w.heap.size w w' ∧ ∃ p, e = .returned (.pointer p)) := fun w => (HV2.out w).mono fun e w' ⟨h1, h2⟩ => ⟨h1, by
      cases o2 with
      | none => exact ⟨none, h2⟩
      | some m => obtain ⟨g, h, _⟩ := h2; exact ⟨_, h⟩⟩
    rw [show putOf none o2 x = none by cases o2 <;> rfl]
    clear hn hn2 htab hB HP HL HPU HV2
    show Calls _ _ _ _ (fun e w' => e = .returned (.tuple #[.string (St []), .bool false]) ∧ _)
    go_enter Tryd.func17, Tryd.ntmps17
    go_wp2_with (go_at_call 46; first
      | (have HB1' := HB1.out; clear HB1'; (with_reducible refine (HV2'.out _).mono ?_); rintro e w2 ⟨hb2, p, rfl⟩; have HB2 := Lib.hid (up_trans HB1.out hb2); clear hb2)
      | ((with_reducible refine (HV.out _).mono ?_); rintro e w1 ⟨hb1, rfl⟩; have HB1 := Lib.hid hb1; clear hb1))
    go_ret2
    exact ⟨rfl, HB2.out⟩
  | some n =>
    obtain ⟨hok, hat⟩ := hn n rfl
    cases o2 with
    | none =>
      clear hn hn2 htab hB HP HL HPU hok hat
      show Calls _ _ _ _ (fun e w' => e = .returned (.tuple #[.string (St []), .bool false]) ∧ _)
      go_enter Tryd.func17, Tryd.ntmps17
      go_wp2_with (go_at_call 46; first
        | (have HB1' := HB1.out; clear HB1'; (with_reducible refine (HV2.out _).mono ?_); rintro e w2 ⟨hb2, rfl⟩; have HB2 := Lib.hid (up_trans HB1.out hb2); clear hb2)
        | ((with_reducible refine (HV.out _).mono ?_); rintro e w1 ⟨hb1, g, rfl, _⟩; have HB1 := Lib.hid hb1; clear hb1))
      go_ret2
      exact ⟨rfl, HB2.out⟩
    | some m =>
      obtain ⟨hok2, hat2⟩ := hn2 m rfl
      have HT : Hid (∀ w1 p, Below w.heap.size w w1 → TyAt w1 ((n.db []).put x (m.db [])) p → Calls Tryd.prog 47 #[.pointer p] w1 fun e w' => e = .returned (.tuple #[.string (St (((n.db []).put x (m.db [])).told.getD [])), .bool ((n.db []).put x (m.db [])).told.isSome]) ∧ Below w1.heap.size w1 w') := fun w1 p hw hp => by
        have h1 := put_atoms_le x (m.db []) (n.db [])
        have h2 : (n.db []).usesT x * (m.db []).atoms ≤ 400 * 400 := Nat.mul_le_mul (by have := usesT_atoms x (n.db []); rw [NT.db_atoms] at this; omega) (by rw [NT.db_atoms]; omega)
        rw [NT.db_atoms] at h1
        exact told_two _ B w1 p hp (by omega) (put_scoped x _ (db_scoped m []) _ _ (db_scoped n [])) (put_nmle x _ (db_nmle m [] (ok_ok3 hok2)) _ (db_nmle n [] (ok_ok3 hok))) (htab.below (hw.mono hB)) (by have := hw.size; omega)
      replace HPU := HPU.out n m
      have HPU := Lib.hid HPU
      have hpo : putOf (some n) (some m) x = if paramB x = true ∨ loopB x = true then ((n.db []).put x (m.db [])).told else none := rfl
      rw [hpo]
      clear hn hn2 htab hB hok hat hok2 hat2 hpo
      replace HV : Hid (∀ w, Calls Tryd.prog 46 #[.string s] w fun e w' => Below w.heap.size w w' ∧ ∃ g, e = .returned (.pointer (some ⟨g, 0, none⟩)) ∧ TyAt w' (n.db []) (some ⟨g, 0, none⟩)) := HV
      replace HV2 : Hid (∀ w, Calls Tryd.prog 46 #[.string u] w fun e w' => Below w.heap.size w w' ∧ ∃ g, e = .returned (.pointer (some ⟨g, 0, none⟩)) ∧ TyAt w' (m.db []) (some ⟨g, 0, none⟩)) := HV2
      generalize (n.db []).put x (m.db []) = tt at *
      generalize n.db [] = tn at *
      generalize m.db [] = tm at *
      cases hp : paramB x with
      | true =>
        rw [if_pos (.inl rfl)]
        generalize tt.told.getD [] = tx at *
        generalize tt.told.isSome = b at *
        rw [hp] at HP
        clear hp HL
        go_enter Tryd.func17, Tryd.ntmps17
        go_wp2_with (first
          | (go_at_call 46; first
            | (have HB1' := HB1.out; clear HB1'; (with_reducible refine (HV2.out _).mono ?_); rintro e w2 ⟨hb2, g2, rfl, hp2⟩; have HB2 := Lib.hid (up_trans HB1.out hb2); have HP2 := Lib.hid hp2; have HP12 := Lib.hid (HP1.out.up hb2); clear hb2 hp2)
            | ((with_reducible refine (HV.out _).mono ?_); rintro e w1 ⟨hb1, g, rfl, hp1⟩; have HB1 := Lib.hid hb1; have HP1 := Lib.hid hp1; clear hb1 hp1))
          | (go_at_call 52; (with_reducible refine (HP.out _).mono ?_); rintro e w3 ⟨rfl, hb3⟩; have HB3 := Lib.hid (up_trans HB2.out hb3); have HP13 := Lib.hid (HP12.out.up hb3); have HP23 := Lib.hid (HP2.out.up hb3); clear hb3)
          | (go_at_call 54; (with_reducible refine (HPU.out _ _ _ HP13.out HP23.out).mono ?_); rintro e w4 ⟨p', rfl, hp4, hb4⟩; have HB4 := Lib.hid (up_trans HB3.out hb4); have HP4 := Lib.hid hp4; clear hb4 hp4)
          | (go_at_call 47; (with_reducible refine (HT.out _ _ HB4.out HP4.out).mono ?_); rintro e w5 ⟨rfl, hb5⟩; have HB5 := Lib.hid (up_trans HB4.out hb5); clear hb5))
        go_ret2
        exact ⟨rfl, HB5.out⟩
      | false =>
        cases hl : loopB x with
        | true =>
          rw [if_pos (.inr rfl)]
          generalize tt.told.getD [] = tx at *
          generalize tt.told.isSome = b at *
          rw [hp] at HP
          rw [hl] at HL
          clear hp hl
          go_enter Tryd.func17, Tryd.ntmps17
          go_wp2_with (first
            | (go_at_call 46; first
              | (have HB1' := HB1.out; clear HB1'; (with_reducible refine (HV2.out _).mono ?_); rintro e w2 ⟨hb2, g2, rfl, hp2⟩; have HB2 := Lib.hid (up_trans HB1.out hb2); have HP2 := Lib.hid hp2; have HP12 := Lib.hid (HP1.out.up hb2); clear hb2 hp2)
              | ((with_reducible refine (HV.out _).mono ?_); rintro e w1 ⟨hb1, g, rfl, hp1⟩; have HB1 := Lib.hid hb1; have HP1 := Lib.hid hp1; clear hb1 hp1))
            | (go_at_call 52; (with_reducible refine (HP.out _).mono ?_); rintro e w3 ⟨rfl, hb3⟩; have HB3 := Lib.hid (up_trans HB2.out hb3); have HP13 := Lib.hid (HP12.out.up hb3); have HP23 := Lib.hid (HP2.out.up hb3); clear hb3)
            | (go_at_call 53; (with_reducible refine (HL.out _).mono ?_); rintro e w33 ⟨rfl, hb3⟩; have HB33 := Lib.hid (up_trans HB3.out hb3); have HP133 := Lib.hid (HP13.out.up hb3); have HP233 := Lib.hid (HP23.out.up hb3); clear hb3)
            | (go_at_call 54; (with_reducible refine (HPU.out _ _ _ HP133.out HP233.out).mono ?_); rintro e w4 ⟨p', rfl, hp4, hb4⟩; have HB4 := Lib.hid (up_trans HB33.out hb4); have HP4 := Lib.hid hp4; clear hb4 hp4)
            | (go_at_call 47; (with_reducible refine (HT.out _ _ HB4.out HP4.out).mono ?_); rintro e w5 ⟨rfl, hb5⟩; have HB5 := Lib.hid (up_trans HB4.out hb5); clear hb5))
          go_ret2
          exact ⟨rfl, HB5.out⟩
        | false =>
          rw [if_neg (by simp)]
          rw [hp] at HP
          rw [hl] at HL
          clear hp hl HT HPU
          show Calls _ _ _ _ (fun e w' => e = .returned (.tuple #[.string (St []), .bool false]) ∧ _)
          go_enter Tryd.func17, Tryd.ntmps17
          go_wp2_with (first
            | (go_at_call 46; first
              | (have HB1' := HB1.out; clear HB1'; (with_reducible refine (HV2.out _).mono ?_); rintro e w2 ⟨hb2, g2, rfl, hp2⟩; have HB2 := Lib.hid (up_trans HB1.out hb2); clear hb2 hp2)
              | ((with_reducible refine (HV.out _).mono ?_); rintro e w1 ⟨hb1, g, rfl, hp1⟩; have HB1 := Lib.hid hb1; clear hb1 hp1))
            | (go_at_call 52; (with_reducible refine (HP.out _).mono ?_); rintro e w3 ⟨rfl, hb3⟩; have HB3 := Lib.hid (up_trans HB2.out hb3); clear hb3)
            | (go_at_call 53; (with_reducible refine (HL.out _).mono ?_); rintro e w33 ⟨rfl, hb3⟩; have HB33 := Lib.hid (up_trans HB3.out hb3); clear hb3))
          go_ret2
          exact ⟨rfl, HB33.out⟩

end Go.Proofs.YtkciljcligohnaaDoor

namespace Go.Proofs.YtkciljcligohnaaDoor
open Go.RowKit
set_option linter.unusedVariables false
set_option linter.unusedSimpArgs false

theorem l1Sub_all (nm : List UInt8) (hnm : paramB nm = true ∨ loopB nm = true) (u n : NT) (hn : n.ok3) (hna : n.atoms ≤ 400) (hu3 : u.ok3) (hua : u.atoms ≤ 400) (v vu : Value) (w : World) (hp : TAt w (fun _ => True) n.toTr v) (hu : TAt w (fun _ => True) u.toTr vu) :
    Calls Tryd.prog 51 #[v, .string (St nm), vu] w fun e w' => (∃ x A m c, e = .returned (.agg #[.string x, .slice A m c]) ∧ TAt w' (fun _ => True) (subN nm u n).toTr (.agg #[.string x, .slice A m c])) ∧ Below w.heap.size w w' :=
  (l1Sub_any nm hnm u n hn hna hu3 hua v vu w (fun _ => True) (fun k => k < w.heap.size) (fun _ h => h) hp (hu.move fun k hk _ => ⟨hk, rfl⟩)).mono fun e w' ⟨⟨x, A, m, c, h1, h2⟩, h3⟩ => ⟨⟨x, A, m, c, h1, h2.weak fun _ _ => trivial⟩, h3⟩
theorem subN_canon (nm : List UInt8) (hnm : paramB nm = true ∨ loopB nm = true) (u n : NT) (hn : n.ok3) (hna : n.atoms ≤ 400) (hu3 : u.ok3) (hua : u.atoms ≤ 400) (hf : fitsN nm u n = true) (v : Value) (w : World) (hp : TAt w (fun _ => True) (subN nm u n).toTr v) :
    Calls Tryd.prog 45 #[v] w fun e w' => e = .returned (.tuple #[.string (St (((n.db []).put nm (u.db [])).told.getD [])), .bool ((n.db []).put nm (u.db [])).told.isSome]) ∧ Below w.heap.size w w' := by
  have hat : (subN nm u n).atoms ≤ 400 := by
    rw [← NT.db_atoms _ [], subN_db nm u n hn]
    rw [fits_put nm u n hn] at hf
    simpa using hf
  have hfl : (frees [u, .name nm]).length ≤ 500 := by
    rw [frees_two, List.length_append]
    have := names_len u
    simp
    omega
  have := l1Canon_any (subN nm u n) (subN_ok3 nm u n hn hu3 hna hfl) (by omega) v w hp
  rw [subN_db nm u n hn, outOf_eq, outT_eq] at this
  exact this

set_option maxHeartbeats 4000000 in
set_option maxRecDepth 100000 in
theorem specTypePut_any (s nm u : ByteArray) (w : World) (hs : s.size ≤ 9223372036854775807) (hu : u.size ≤ 9223372036854775807) :
    Calls Tryd.prog 16 #[.string s, .string nm, .string u] w fun e w' => e = .returned (.tuple #[.string (St ((putOf (rdTy s.data.toList) (rdTy u.data.toList) nm.data.toList).getD [])), .bool (putOf (rdTy s.data.toList) (rdTy u.data.toList) nm.data.toList).isSome]) ∧ Below w.heap.size w w' := by
  have hv := fun w => l1Type_any s w hs
  have hv2 := fun w => l1Type_any u w hu
  have hn := fun v h => rdTy_some (l := s.data.toList) (n := v) h
  have hn2 := fun v h => rdTy_some (l := u.data.toList) (n := v) h
  have HP : Hid (∀ w, Calls Tryd.prog 48 #[.string nm] w fun e w' => e = .returned (.bool (paramB nm.data.toList)) ∧ w = w') := fun w => l1Param_any nm w
  have HL : Hid (∀ w, Calls Tryd.prog 49 #[.string nm] w fun e w' => e = .returned (.bool (loopB nm.data.toList)) ∧ w = w') := fun w => l1Loop_any nm w
  have HFI : Hid (∀ (n m : NT), (paramB nm.data.toList = true ∨ loopB nm.data.toList = true) → n.ok → n.atoms ≤ 400 → m.ok → m.atoms ≤ 400 → ∀ (w : World) (v vu : Value), TAt w (fun _ => True) n.toTr v → TAt w (fun _ => True) m.toTr vu → Calls Tryd.prog 50 #[v, .string nm, vu] w fun e w' => e = .returned (.bool (fitsN nm.data.toList m n)) ∧ Below w.heap.size w w') := fun n m hx h1 h2 h3 h4 w v vu hp hq => l1Fits_any nm.data.toList (name_ne hx) m n (ok_ok3 h1) h2 (ok_ok3 h3) h4 v vu w hp hq
  have HSU : Hid (∀ (n m : NT), (paramB nm.data.toList = true ∨ loopB nm.data.toList = true) → n.ok → n.atoms ≤ 400 → m.ok → m.atoms ≤ 400 → ∀ (w : World) (v vu : Value), TAt w (fun _ => True) n.toTr v → TAt w (fun _ => True) m.toTr vu → Calls Tryd.prog 51 #[v, .string nm, vu] w fun e w' => (∃ x A m' c, e = .returned (.agg #[.string x, .slice A m' c]) ∧ TAt w' (fun _ => True) (subN nm.data.toList m n).toTr (.agg #[.string x, .slice A m' c])) ∧ Below w.heap.size w w') := fun n m hx h1 h2 h3 h4 w v vu hp hq => l1Sub_all nm.data.toList hx m n (ok_ok3 h1) h2 (ok_ok3 h3) h4 v vu w hp hq
  generalize nm.data.toList = x at *
  generalize rdTy s.data.toList = o at *
  generalize rdTy u.data.toList = o2 at *
  clear hs hu
  have HV := Lib.hid hv
  have HV2 := Lib.hid hv2
  clear hv hv2
  cases o with
  | none =>
    have HV2' : Hid (∀ w, Calls Tryd.prog 44 #[.string u] w fun e w' => Below w.heap.size w w' ∧ ∃ x A n c b, e = .returned (.tuple #[.agg #[.string x, .slice A n c], .bool b])) := fun w => (HV2.out w).mono fun e w' ⟨h1, h2⟩ => ⟨h1, by
      cases o2 with
      | none => obtain ⟨x, A, n, c, h⟩ := h2; exact ⟨x, A, n, c, _, h⟩
      | some m => obtain ⟨x, A, n, c, h, _⟩ := h2; exact ⟨x, A, n, c, _, h⟩⟩
    rw [show putOf none o2 x = none by cases o2 <;> rfl]
    clear hn hn2 HP HL HFI HSU HV2
    show Calls _ _ _ _ (fun e w' => e = .returned (.tuple #[.string (St []), .bool false]) ∧ _)
    go_enter Tryd.func16, Tryd.ntmps16
    go_wp2_with (go_at_call 44; first
      | (have HB1' := HB1.out; clear HB1'; (with_reducible refine (HV2'.out _).mono ?_); rintro e w2 ⟨hb2, x2, A2, n2, c2, b2, rfl⟩; have HB2 := Lib.hid (up_trans (up_alloc HB1.out _) hb2); clear hb2)
      | ((with_reducible refine (HV.out _).mono ?_); rintro e w1 ⟨hb1, x1, A1, n1, c1, rfl⟩; have HB1 := Lib.hid hb1; clear hb1))
    go_ret2
    exact ⟨rfl, up_alloc HB2.out _⟩
  | some n =>
    obtain ⟨hok, hat⟩ := hn n rfl
    replace HV : Hid (∀ w, Calls Tryd.prog 44 #[.string s] w fun e w' => Below w.heap.size w w' ∧ ∃ x A n' c, e = .returned (.tuple #[.agg #[.string x, .slice A n' c], .bool true]) ∧ TAt w' (fun k => w.heap.size ≤ k) n.toTr (.agg #[.string x, .slice A n' c])) := HV
    cases o2 with
    | none =>
      clear hn hn2 HP HL HFI HSU hok hat
      show Calls _ _ _ _ (fun e w' => e = .returned (.tuple #[.string (St []), .bool false]) ∧ _)
      go_enter Tryd.func16, Tryd.ntmps16
      go_wp2_with (go_at_call 44; first
        | (have HB1' := HB1.out; clear HB1'; (with_reducible refine (HV2.out _).mono ?_); rintro e w2 ⟨hb2, x2, A2, n2, c2, rfl⟩; have HB2 := Lib.hid (up_trans (up_alloc HB1.out _) hb2); clear hb2)
        | ((with_reducible refine (HV.out _).mono ?_); rintro e w1 ⟨hb1, x1, A1, n1, c1, rfl, _⟩; have HB1 := Lib.hid hb1; clear hb1))
      go_ret2
      exact ⟨rfl, up_alloc HB2.out _⟩
    | some m =>
      obtain ⟨hok2, hat2⟩ := hn2 m rfl
      replace HV2 : Hid (∀ w, Calls Tryd.prog 44 #[.string u] w fun e w' => Below w.heap.size w w' ∧ ∃ x A n' c, e = .returned (.tuple #[.agg #[.string x, .slice A n' c], .bool true]) ∧ TAt w' (fun k => w.heap.size ≤ k) m.toTr (.agg #[.string x, .slice A n' c])) := HV2
      have hpo : putOf (some n) (some m) x = if paramB x = true ∨ loopB x = true then ((n.db []).put x (m.db [])).told else none := rfl
      rw [hpo]
      clear hpo hn hn2
      cases hp : paramB x with
      | true =>
        have hx : paramB x = true ∨ loopB x = true := .inl hp
        rw [if_pos (by simp)]
        cases hf : fitsN x m n with
        | false =>
          have HF : Hid (∀ (w : World) (v vu : Value), TAt w (fun _ => True) n.toTr v → TAt w (fun _ => True) m.toTr vu → Calls Tryd.prog 50 #[v, .string nm, vu] w fun e w' => e = .returned (.bool false) ∧ Below w.heap.size w w') := fun w v vu h1 h2 => by
            have := HFI.out n m hx hok hat hok2 hat2 w v vu h1 h2
            rw [hf] at this
            exact this
          have hbig : ((n.db []).put x (m.db [])).told = none := told_big (by rw [fits_put x m n (ok_ok3 hok)] at hf; simpa using hf)
          rw [hbig]
          rw [hp] at HP
          clear HL
          clear HFI HSU hok hat hok2 hat2 hf hx hbig hp 
          show Calls _ _ _ _ (fun e w' => e = .returned (.tuple #[.string (St []), .bool false]) ∧ _)
          go_enter Tryd.func16, Tryd.ntmps16
          go_wp2_with (first
            | (go_at_call 44; first
              | (have HB1' := HB1.out; clear HB1'; (with_reducible refine (HV2.out _).mono ?_); rintro e w2 ⟨hb2, x2, A2, n2, c2, rfl, hp2⟩; have HB2 := Lib.hid (up_trans (up_alloc HB1.out _) hb2); have X2 := Lib.hid (block_up hb2 (block_new w1 (.cells #[.string x1, .slice A1 n1 c1] 43))); have T1 := Lib.hid ((HP1.out.up (up1 w1 (.cells #[.string x1, .slice A1 n1 c1] 43))).up hb2); have T2 := Lib.hid hp2; have e0 : (w2.alloc (.cells #[.string x2, .slice A2 n2 c2] 43)).cell? ⟨w1.heap.size, 0, none⟩ = some (.string x1) := block_cell (block_alloc X2.out _) 0; have e1 : (w2.alloc (.cells #[.string x2, .slice A2 n2 c2] 43)).cell? ⟨w1.heap.size, 1, none⟩ = some (.slice A1 n1 c1) := block_cell (block_alloc X2.out _) 1; clear hb2 hp2)
              | ((with_reducible refine (HV.out _).mono ?_); rintro e w1 ⟨hb1, x1, A1, n1, c1, rfl, hp1⟩; have HB1 := Lib.hid hb1; have HP1 := Lib.hid (TAt.weak (fun _ _ => trivial) hp1); clear hb1 hp1))
            | (go_at_call 48; (with_reducible refine (HP.out _).mono ?_); rintro e w' ⟨rfl, rfl⟩)
            | (go_at_call 50; (with_reducible refine (HF.out _ _ _ (TAt.up (up1 _ _) T1.out) (TAt.up (up1 _ _) (TAt.weak (fun _ _ => trivial) T2.out))).mono ?_); rintro e w4 ⟨rfl, hb4⟩; have HB4 := Lib.hid (up_trans (up_alloc HB2.out _) hb4); have T14 := Lib.hid (TAt.up hb4 (TAt.up (up1 _ _) T1.out)); have T24 := Lib.hid (TAt.up hb4 (TAt.up (up1 _ _) (TAt.weak (fun _ _ => trivial) T2.out))); have X4 := Lib.hid (block_up hb4 (block_alloc X2.out (.cells #[.string x2, .slice A2 n2 c2] 43))); have Y4 := Lib.hid (block_up hb4 (block_new w2 (.cells #[.string x2, .slice A2 n2 c2] 43))); have f0 := block_cell X4.out 0; have f1 := block_cell X4.out 1; have f2 := block_cell Y4.out 0; have f3 := block_cell Y4.out 1; clear hb4))
          go_ret2
          exact ⟨rfl, HB4.out⟩
        | true =>
          have HF : Hid (∀ (w : World) (v vu : Value), TAt w (fun _ => True) n.toTr v → TAt w (fun _ => True) m.toTr vu → Calls Tryd.prog 50 #[v, .string nm, vu] w fun e w' => e = .returned (.bool true) ∧ Below w.heap.size w w') := fun w v vu h1 h2 => by
            have := HFI.out n m hx hok hat hok2 hat2 w v vu h1 h2
            rw [hf] at this
            exact this
          have HS := Lib.hid (HSU.out n m hx hok hat hok2 hat2)
          have HC : Hid (∀ (w : World) (v : Value), TAt w (fun _ => True) (subN x m n).toTr v → Calls Tryd.prog 45 #[v] w fun e w' => e = .returned (.tuple #[.string (St (((n.db []).put x (m.db [])).told.getD [])), .bool ((n.db []).put x (m.db [])).told.isSome]) ∧ Below w.heap.size w w') := fun w v h => subN_canon x hx m n (ok_ok3 hok) hat (ok_ok3 hok2) hat2 hf v w h
          generalize ((n.db []).put x (m.db [])).told.getD [] = tx at *
          generalize ((n.db []).put x (m.db [])).told.isSome = b at *
          rw [hp] at HP
          clear HL
          clear HFI HSU hok hat hok2 hat2 hf hx hp 
          generalize (subN x m n).toTr = tr at *
          go_enter Tryd.func16, Tryd.ntmps16
          go_wp2_with (first
            | (go_at_call 44; first
              | (have HB1' := HB1.out; clear HB1'; (with_reducible refine (HV2.out _).mono ?_); rintro e w2 ⟨hb2, x2, A2, n2, c2, rfl, hp2⟩; have HB2 := Lib.hid (up_trans (up_alloc HB1.out _) hb2); have X2 := Lib.hid (block_up hb2 (block_new w1 (.cells #[.string x1, .slice A1 n1 c1] 43))); have T1 := Lib.hid ((HP1.out.up (up1 w1 (.cells #[.string x1, .slice A1 n1 c1] 43))).up hb2); have T2 := Lib.hid hp2; have e0 : (w2.alloc (.cells #[.string x2, .slice A2 n2 c2] 43)).cell? ⟨w1.heap.size, 0, none⟩ = some (.string x1) := block_cell (block_alloc X2.out _) 0; have e1 : (w2.alloc (.cells #[.string x2, .slice A2 n2 c2] 43)).cell? ⟨w1.heap.size, 1, none⟩ = some (.slice A1 n1 c1) := block_cell (block_alloc X2.out _) 1; clear hb2 hp2)
              | ((with_reducible refine (HV.out _).mono ?_); rintro e w1 ⟨hb1, x1, A1, n1, c1, rfl, hp1⟩; have HB1 := Lib.hid hb1; have HP1 := Lib.hid (TAt.weak (fun _ _ => trivial) hp1); clear hb1 hp1))
            | (go_at_call 48; (with_reducible refine (HP.out _).mono ?_); rintro e w' ⟨rfl, rfl⟩)
            | (go_at_call 50; (with_reducible refine (HF.out _ _ _ (TAt.up (up1 _ _) T1.out) (TAt.up (up1 _ _) (TAt.weak (fun _ _ => trivial) T2.out))).mono ?_); rintro e w4 ⟨rfl, hb4⟩; have HB4 := Lib.hid (up_trans (up_alloc HB2.out _) hb4); have T14 := Lib.hid (TAt.up hb4 (TAt.up (up1 _ _) T1.out)); have T24 := Lib.hid (TAt.up hb4 (TAt.up (up1 _ _) (TAt.weak (fun _ _ => trivial) T2.out))); have X4 := Lib.hid (block_up hb4 (block_alloc X2.out (.cells #[.string x2, .slice A2 n2 c2] 43))); have Y4 := Lib.hid (block_up hb4 (block_new w2 (.cells #[.string x2, .slice A2 n2 c2] 43))); have f0 := block_cell X4.out 0; have f1 := block_cell X4.out 1; have f2 := block_cell Y4.out 0; have f3 := block_cell Y4.out 1; clear hb4)
            | (go_at_call 51; (with_reducible refine (HS.out _ _ _ T14.out T24.out).mono ?_); rintro e w5 ⟨⟨x5, A5, n5, c5, rfl, ht5⟩, hb5⟩; have HB5 := Lib.hid (up_trans HB4.out hb5); have T5 := Lib.hid ht5; clear ht5 hb5)
            | (go_at_call 45; (with_reducible refine (HC.out _ _ T5.out).mono ?_); rintro e w6 ⟨rfl, hb6⟩; have HB6 := Lib.hid (up_trans HB5.out hb6); clear hb6))
          go_ret2
          exact ⟨rfl, HB6.out⟩
      | false =>
        cases hl : loopB x with
        | true =>
          have hx : paramB x = true ∨ loopB x = true := .inr hl
          rw [if_pos (by simp)]
          cases hf : fitsN x m n with
          | false =>
            have HF : Hid (∀ (w : World) (v vu : Value), TAt w (fun _ => True) n.toTr v → TAt w (fun _ => True) m.toTr vu → Calls Tryd.prog 50 #[v, .string nm, vu] w fun e w' => e = .returned (.bool false) ∧ Below w.heap.size w w') := fun w v vu h1 h2 => by
              have := HFI.out n m hx hok hat hok2 hat2 w v vu h1 h2
              rw [hf] at this
              exact this
            have hbig : ((n.db []).put x (m.db [])).told = none := told_big (by rw [fits_put x m n (ok_ok3 hok)] at hf; simpa using hf)
            rw [hbig]
            rw [hp] at HP
            rw [hl] at HL
            clear HFI HSU hok hat hok2 hat2 hf hx hbig hp hl
            show Calls _ _ _ _ (fun e w' => e = .returned (.tuple #[.string (St []), .bool false]) ∧ _)
            go_enter Tryd.func16, Tryd.ntmps16
            go_wp2_with (first
              | (go_at_call 44; first
                | (have HB1' := HB1.out; clear HB1'; (with_reducible refine (HV2.out _).mono ?_); rintro e w2 ⟨hb2, x2, A2, n2, c2, rfl, hp2⟩; have HB2 := Lib.hid (up_trans (up_alloc HB1.out _) hb2); have X2 := Lib.hid (block_up hb2 (block_new w1 (.cells #[.string x1, .slice A1 n1 c1] 43))); have T1 := Lib.hid ((HP1.out.up (up1 w1 (.cells #[.string x1, .slice A1 n1 c1] 43))).up hb2); have T2 := Lib.hid hp2; have e0 : (w2.alloc (.cells #[.string x2, .slice A2 n2 c2] 43)).cell? ⟨w1.heap.size, 0, none⟩ = some (.string x1) := block_cell (block_alloc X2.out _) 0; have e1 : (w2.alloc (.cells #[.string x2, .slice A2 n2 c2] 43)).cell? ⟨w1.heap.size, 1, none⟩ = some (.slice A1 n1 c1) := block_cell (block_alloc X2.out _) 1; clear hb2 hp2)
                | ((with_reducible refine (HV.out _).mono ?_); rintro e w1 ⟨hb1, x1, A1, n1, c1, rfl, hp1⟩; have HB1 := Lib.hid hb1; have HP1 := Lib.hid (TAt.weak (fun _ _ => trivial) hp1); clear hb1 hp1))
              | (go_at_call 48; (with_reducible refine (HP.out _).mono ?_); rintro e w' ⟨rfl, rfl⟩)
              | (go_at_call 49; (with_reducible refine (HL.out _).mono ?_); rintro e w' ⟨rfl, rfl⟩)
              | (go_at_call 50; (with_reducible refine (HF.out _ _ _ (TAt.up (up1 _ _) T1.out) (TAt.up (up1 _ _) (TAt.weak (fun _ _ => trivial) T2.out))).mono ?_); rintro e w4 ⟨rfl, hb4⟩; have HB4 := Lib.hid (up_trans (up_alloc HB2.out _) hb4); have T14 := Lib.hid (TAt.up hb4 (TAt.up (up1 _ _) T1.out)); have T24 := Lib.hid (TAt.up hb4 (TAt.up (up1 _ _) (TAt.weak (fun _ _ => trivial) T2.out))); have X4 := Lib.hid (block_up hb4 (block_alloc X2.out (.cells #[.string x2, .slice A2 n2 c2] 43))); have Y4 := Lib.hid (block_up hb4 (block_new w2 (.cells #[.string x2, .slice A2 n2 c2] 43))); have f0 := block_cell X4.out 0; have f1 := block_cell X4.out 1; have f2 := block_cell Y4.out 0; have f3 := block_cell Y4.out 1; clear hb4))
            go_ret2
            exact ⟨rfl, HB4.out⟩
          | true =>
            have HF : Hid (∀ (w : World) (v vu : Value), TAt w (fun _ => True) n.toTr v → TAt w (fun _ => True) m.toTr vu → Calls Tryd.prog 50 #[v, .string nm, vu] w fun e w' => e = .returned (.bool true) ∧ Below w.heap.size w w') := fun w v vu h1 h2 => by
              have := HFI.out n m hx hok hat hok2 hat2 w v vu h1 h2
              rw [hf] at this
              exact this
            have HS := Lib.hid (HSU.out n m hx hok hat hok2 hat2)
            have HC : Hid (∀ (w : World) (v : Value), TAt w (fun _ => True) (subN x m n).toTr v → Calls Tryd.prog 45 #[v] w fun e w' => e = .returned (.tuple #[.string (St (((n.db []).put x (m.db [])).told.getD [])), .bool ((n.db []).put x (m.db [])).told.isSome]) ∧ Below w.heap.size w w') := fun w v h => subN_canon x hx m n (ok_ok3 hok) hat (ok_ok3 hok2) hat2 hf v w h
            generalize ((n.db []).put x (m.db [])).told.getD [] = tx at *
            generalize ((n.db []).put x (m.db [])).told.isSome = b at *
            rw [hp] at HP
            rw [hl] at HL
            clear HFI HSU hok hat hok2 hat2 hf hx hp hl
            generalize (subN x m n).toTr = tr at *
            go_enter Tryd.func16, Tryd.ntmps16
            go_wp2_with (first
              | (go_at_call 44; first
                | (have HB1' := HB1.out; clear HB1'; (with_reducible refine (HV2.out _).mono ?_); rintro e w2 ⟨hb2, x2, A2, n2, c2, rfl, hp2⟩; have HB2 := Lib.hid (up_trans (up_alloc HB1.out _) hb2); have X2 := Lib.hid (block_up hb2 (block_new w1 (.cells #[.string x1, .slice A1 n1 c1] 43))); have T1 := Lib.hid ((HP1.out.up (up1 w1 (.cells #[.string x1, .slice A1 n1 c1] 43))).up hb2); have T2 := Lib.hid hp2; have e0 : (w2.alloc (.cells #[.string x2, .slice A2 n2 c2] 43)).cell? ⟨w1.heap.size, 0, none⟩ = some (.string x1) := block_cell (block_alloc X2.out _) 0; have e1 : (w2.alloc (.cells #[.string x2, .slice A2 n2 c2] 43)).cell? ⟨w1.heap.size, 1, none⟩ = some (.slice A1 n1 c1) := block_cell (block_alloc X2.out _) 1; clear hb2 hp2)
                | ((with_reducible refine (HV.out _).mono ?_); rintro e w1 ⟨hb1, x1, A1, n1, c1, rfl, hp1⟩; have HB1 := Lib.hid hb1; have HP1 := Lib.hid (TAt.weak (fun _ _ => trivial) hp1); clear hb1 hp1))
              | (go_at_call 48; (with_reducible refine (HP.out _).mono ?_); rintro e w' ⟨rfl, rfl⟩)
              | (go_at_call 49; (with_reducible refine (HL.out _).mono ?_); rintro e w' ⟨rfl, rfl⟩)
              | (go_at_call 50; (with_reducible refine (HF.out _ _ _ (TAt.up (up1 _ _) T1.out) (TAt.up (up1 _ _) (TAt.weak (fun _ _ => trivial) T2.out))).mono ?_); rintro e w4 ⟨rfl, hb4⟩; have HB4 := Lib.hid (up_trans (up_alloc HB2.out _) hb4); have T14 := Lib.hid (TAt.up hb4 (TAt.up (up1 _ _) T1.out)); have T24 := Lib.hid (TAt.up hb4 (TAt.up (up1 _ _) (TAt.weak (fun _ _ => trivial) T2.out))); have X4 := Lib.hid (block_up hb4 (block_alloc X2.out (.cells #[.string x2, .slice A2 n2 c2] 43))); have Y4 := Lib.hid (block_up hb4 (block_new w2 (.cells #[.string x2, .slice A2 n2 c2] 43))); have f0 := block_cell X4.out 0; have f1 := block_cell X4.out 1; have f2 := block_cell Y4.out 0; have f3 := block_cell Y4.out 1; clear hb4)
              | (go_at_call 51; (with_reducible refine (HS.out _ _ _ T14.out T24.out).mono ?_); rintro e w5 ⟨⟨x5, A5, n5, c5, rfl, ht5⟩, hb5⟩; have HB5 := Lib.hid (up_trans HB4.out hb5); have T5 := Lib.hid ht5; clear ht5 hb5)
              | (go_at_call 45; (with_reducible refine (HC.out _ _ T5.out).mono ?_); rintro e w6 ⟨rfl, hb6⟩; have HB6 := Lib.hid (up_trans HB5.out hb6); clear hb6))
            go_ret2
            exact ⟨rfl, HB6.out⟩
        | false =>
          rw [if_neg (by simp)]
          rw [hp] at HP
          rw [hl] at HL
          clear hp hl HFI HSU hok hat hok2 hat2
          show Calls _ _ _ _ (fun e w' => e = .returned (.tuple #[.string (St []), .bool false]) ∧ _)
          go_enter Tryd.func16, Tryd.ntmps16
          go_wp2_with (first
            | (go_at_call 44; first
              | (have HB1' := HB1.out; clear HB1'; (with_reducible refine (HV2.out _).mono ?_); rintro e w2 ⟨hb2, x2, A2, n2, c2, rfl, hp2⟩; have HB2 := Lib.hid (up_trans (up_alloc HB1.out _) hb2); have X2 := Lib.hid (block_up hb2 (block_new w1 (.cells #[.string x1, .slice A1 n1 c1] 43))); have T1 := Lib.hid ((HP1.out.up (up1 w1 (.cells #[.string x1, .slice A1 n1 c1] 43))).up hb2); have T2 := Lib.hid hp2; have e0 : (w2.alloc (.cells #[.string x2, .slice A2 n2 c2] 43)).cell? ⟨w1.heap.size, 0, none⟩ = some (.string x1) := block_cell (block_alloc X2.out _) 0; have e1 : (w2.alloc (.cells #[.string x2, .slice A2 n2 c2] 43)).cell? ⟨w1.heap.size, 1, none⟩ = some (.slice A1 n1 c1) := block_cell (block_alloc X2.out _) 1; clear hb2 hp2)
              | ((with_reducible refine (HV.out _).mono ?_); rintro e w1 ⟨hb1, x1, A1, n1, c1, rfl, hp1⟩; have HB1 := Lib.hid hb1; have HP1 := Lib.hid (TAt.weak (fun _ _ => trivial) hp1); clear hb1 hp1))
            | (go_at_call 48; (with_reducible refine (HP.out _).mono ?_); rintro e w' ⟨rfl, rfl⟩)
            | (go_at_call 49; (with_reducible refine (HL.out _).mono ?_); rintro e w' ⟨rfl, rfl⟩))
          go_ret2
          exact ⟨rfl, up_alloc HB2.out _⟩

end Go.Proofs.YtkciljcligohnaaDoor

namespace Go.Proofs.YtkciljcligohnaaDoor
open Go.RowKit
set_option linter.unusedVariables false
set_option linter.unusedSimpArgs false

/-- What TypeUnroll gives. -/
def Ty.unrl : Ty → Option (List UInt8)
  | .loop a => (a.opened (.loop a) 0).told
  | _ => none
def unrollOf (o : Option NT) : Option (List UInt8) := o.bind fun n => (n.db []).unrl
theorem opened_atoms_le (u : Ty) : ∀ (t : Ty) (k : Nat), (t.opened u k).atoms ≤ t.atoms * u.atoms + t.atoms
  | .zero, _ => by simp [Ty.opened, Ty.atoms]
  | .one, _ => by simp [Ty.opened, Ty.atoms]
  | .name _, _ => by simp [Ty.opened, Ty.atoms]
  | .bound j, k => by
    simp only [Ty.opened]
    split
    · simp [Ty.atoms]
    · simp [Ty.atoms]
  | .sum a b, k => by
    have h1 := opened_atoms_le u a k
    have h2 := opened_atoms_le u b k
    simp only [Ty.opened, Ty.atoms, Nat.add_mul] at *
    omega
  | .prod a b, k => by
    have h1 := opened_atoms_le u a k
    have h2 := opened_atoms_le u b k
    simp only [Ty.opened, Ty.atoms, Nat.add_mul] at *
    omega
  | .loop a, k => by
    have h1 := opened_atoms_le u a (k + 1)
    simp only [Ty.opened, Ty.atoms, Nat.add_mul] at *
    omega
/-- What is in a named rec, with the rec put for its name, is the nameless one opened. -/
theorem unroll_db (s : List UInt8) (a : NT) (h : (NT.loop s a).ok) : (subN s (.loop s a) a).db [] = (a.db [s]).opened ((NT.loop s a).db []) 0 := by
  have h3 : a.ok3 := (ok_ok3 h).2
  rw [subN_db s (.loop s a) a h3, opened_db s (loop_noparam h.1) _ a []]
  rfl

set_option maxHeartbeats 4000000 in
set_option maxRecDepth 100000 in
theorem TypeUnroll_not (s : ByteArray) (w : World) (t : Ty) (hv : Calls Tryd.prog 46 #[.string s] w fun e w' => Below w.heap.size w w' ∧ ∃ g, e = .returned (.pointer (some ⟨g, 0, none⟩)) ∧ ∃ z, z ≠ (114 : Int) ∧ w'.cell? ⟨g, 0, none⟩ = some (.int .u8 z)) :
    Calls Tryd.prog 19 #[.string s] w fun e w' => e = .returned (.tuple #[.string (St []), .bool false]) ∧ Below w.heap.size w w' := by
  go_enter Tryd.func19, Tryd.ntmps19
  go_wp2_with (go_at_call 46; refine hv.mono ?_; rintro e w1 ⟨hb1, g, rfl, z, hz, hc⟩; have HB1 := Lib.hid hb1; have h0 : (z != 114) = true := bne_iff_ne.2 hz; clear hb1 hz)
  go_ret2
  exact ⟨rfl, HB1.out⟩
set_option maxHeartbeats 4000000 in
set_option maxRecDepth 100000 in
theorem TypeUnroll_any (s : ByteArray) (B : Nat) (w : World) (hs : s.size ≤ 9223372036854775807) (htab : TabB B w) (hB : B ≤ w.heap.size) :
    Calls Tryd.prog 19 #[.string s] w fun e w' => e = .returned (.tuple #[.string (St ((unrollOf (rdTy s.data.toList)).getD [])), .bool (unrollOf (rdTy s.data.toList)).isSome]) ∧ Below w.heap.size w w' := by
  have hv := readType_rt s w hs
  have hn := fun v h => rdTy_some (l := s.data.toList) (n := v) h
  clear hs
  generalize rdTy s.data.toList = o at *
  cases o with
  | none =>
    clear hn htab hB
    show Calls _ _ _ _ (fun e w' => e = .returned (.tuple #[.string (St []), .bool false]) ∧ _)
    go_enter Tryd.func19, Tryd.ntmps19
    go_wp2_with (go_at_call 46; refine hv.mono ?_; rintro e w1 ⟨hb1, rfl⟩)
    go_ret2
    exact ⟨rfl, hb1⟩
  | some n =>
    obtain ⟨hok, hat⟩ := hn n rfl
    have hsc := db_scoped n []
    have hnm := db_nmle n [] (ok_ok3 hok)
    have hat2 : (n.db []).atoms ≤ 400 := by rw [NT.db_atoms]; exact hat
    have hv : Calls Tryd.prog 46 #[.string s] w fun e w' => Below w.heap.size w w' ∧ ∃ g, e = .returned (.pointer (some ⟨g, 0, none⟩)) ∧ TyAt w' (n.db []) (some ⟨g, 0, none⟩) := hv
    show Calls _ _ _ _ (fun e w' => e = .returned (.tuple #[.string (St ((n.db []).unrl.getD [])), .bool (n.db []).unrl.isSome]) ∧ _)
    clear hn hok hat
    generalize n.db [] = t at *
    have hno : ∀ (z : Int), z ≠ 114 → (∀ (w' : World) (g : Nat), TyAt w' t (some ⟨g, 0, none⟩) → w'.cell? ⟨g, 0, none⟩ = some (.int .u8 z)) → t.unrl = none →
        Calls Tryd.prog 19 #[.string s] w fun e w' => e = .returned (.tuple #[.string (St (t.unrl.getD [])), .bool t.unrl.isSome]) ∧ Below w.heap.size w w' := fun z hz hc hu => by
      rw [hu]
      exact TypeUnroll_not s w t (hv.mono fun e w' ⟨h1, g, h2, h3⟩ => ⟨h1, g, h2, z, hz, hc w' g h3⟩)
    cases t with
    | zero => exact hno 48 (by decide) (fun w' g h => by obtain ⟨g', he, hb⟩ := h; cases he; exact block_cell hb 0) rfl
    | one => exact hno 49 (by decide) (fun w' g h => by obtain ⟨g', he, hb⟩ := h; cases he; exact block_cell hb 0) rfl
    | name x => exact hno 110 (by decide) (fun w' g h => by obtain ⟨g', he, hb⟩ := h; cases he; exact block_cell hb 0) rfl
    | bound k => exact hno 98 (by decide) (fun w' g h => by obtain ⟨g', he, hb⟩ := h; cases he; exact block_cell hb 0) rfl
    | sum a b => exact hno 43 (by decide) (fun w' g h => by obtain ⟨pa, pb, ⟨g', he, hb⟩, _⟩ := h; cases he; exact block_cell hb 0) rfl
    | prod a b => exact hno 42 (by decide) (fun w' g h => by obtain ⟨pa, pb, ⟨g', he, hb⟩, _⟩ := h; cases he; exact block_cell hb 0) rfl
    | loop a =>
      have hsc : a.scoped 1 := hsc
      have hnm : a.nmle := hnm
      simp only [Ty.atoms] at hat2
      have HU : Hid (∀ (w1 : World) p, TyAt w1 (.loop a) p → Calls Tryd.prog 57 #[.pointer p] w1 fun e w' => ∃ p', e = .returned (.pointer p') ∧ TyAt w' (a.opened (.loop a) 0) p' ∧ Below w1.heap.size w1 w') := fun w1 p hp => unrolled_any a w1 p hp (by omega)
      have HT : Hid (∀ w1 p, Below w.heap.size w w1 → TyAt w1 (a.opened (.loop a) 0) p → Calls Tryd.prog 47 #[.pointer p] w1 fun e w' => e = .returned (.tuple #[.string (St ((a.opened (.loop a) 0).told.getD [])), .bool (a.opened (.loop a) 0).told.isSome]) ∧ Below w1.heap.size w1 w') := fun w1 p hw hp => by
        have h1 := opened_atoms_le (.loop a) a 0
        have h2 : a.atoms * (Ty.loop a).atoms ≤ 400 * 402 := Nat.mul_le_mul (by omega) (by simp only [Ty.atoms]; omega)
        exact told_two _ B w1 p hp (by omega) (opened_scoped (.loop a) hsc a 0 hsc) (opened_nmle (.loop a) hnm a 0 hnm) (htab.below (hw.mono hB)) (by have := hw.size; omega)
      clear hno htab hB hsc hnm hat2
      have HV : Hid (Calls Tryd.prog 46 #[.string s] w fun e w' => Below w.heap.size w w' ∧ ∃ g, e = .returned (.pointer (some ⟨g, 0, none⟩)) ∧ w'.cell? ⟨g, 0, none⟩ = some (.int .u8 114) ∧ TyAt w' (.loop a) (some ⟨g, 0, none⟩)) := hv.mono fun e w' ⟨h1, g, h2, h3⟩ => ⟨h1, g, h2, (by obtain ⟨pa, ⟨g', he, hb⟩, _⟩ := h3; cases he; exact block_cell hb 0), h3⟩
      show Calls _ _ _ _ (fun e w' => e = .returned (.tuple #[.string (St ((a.opened (.loop a) 0).told.getD [])), .bool (a.opened (.loop a) 0).told.isSome]) ∧ _)
      generalize a.opened (.loop a) 0 = tt at *
      generalize tt.told.getD [] = tx at *
      generalize tt.told.isSome = b at *
      clear hv
      go_enter Tryd.func19, Tryd.ntmps19
      go_wp2_with (first
        | (go_at_call 46; (with_reducible refine HV.out.mono ?_); rintro e w1 ⟨hb1, g, rfl, hc, hp⟩; have HB1 := Lib.hid hb1; have HP := Lib.hid hp; clear hb1 hp)
        | (go_at_call 57; (with_reducible refine (HU.out _ _ HP.out).mono ?_); rintro e w2 ⟨p', rfl, hp2, hb2⟩; have HB2 := Lib.hid (up_trans HB1.out hb2); have HP2 := Lib.hid hp2; clear hb2 hp2)
        | (go_at_call 47; (with_reducible refine (HT.out _ _ HB2.out HP2.out).mono ?_); rintro e w3 ⟨rfl, hb3⟩; have HB3 := Lib.hid (up_trans HB2.out hb3); clear hb3))
      go_ret2
      exact ⟨rfl, HB3.out⟩

theorem un_drew {w w1 : World} (h : Below w.drew.heap.size w.drew w1) : Below w.heap.size w w1 := ⟨h.os, h.tape, h.output, h.size, h.block⟩
/-- The three parts of a rec, in whatever world follows. -/
theorem rec_cells {w : World} {s : List UInt8} {a : NT} {v : Value} (hp : TAt w (fun _ => True) (NT.loop s a).toTr v) :
    ∃ bl o c, v = .agg #[.string (St []), .slice (some ⟨bl, o, none⟩) 3 c] ∧ bl < w.heap.size ∧ ∃ xa A4 n4 c4, Hid (∀ w1, Below w.heap.size w w1 → (w1.cell? ⟨bl, o + 2, none⟩ = some (.string (St s)) ∧ w1.cell? ⟨bl, o + 4, none⟩ = some (.string (St xa)) ∧ w1.cell? ⟨bl, o + 5, none⟩ = some (.slice A4 n4 c4)) ∧
      TAt w1 (fun k => k < w.heap.size) a.toTr (.agg #[.string (St xa), .slice A4 n4 c4]) ∧ TAt w1 (fun k => k < w.heap.size) (NT.loop s a).toTr v) := by
  have hp' : TAt w (fun k => k < w.heap.size) (NT.loop s a).toTr v := hp.move fun k hk _ => ⟨hk, rfl⟩
  have hp0 := hp'
  obtain ⟨A, c, rfl, hr⟩ := hp'.parts
  obtain ⟨bl, o, A', c', rfl, d0, _, _, _, hr⟩ := hr.uncons
  obtain ⟨A2, n2, c2, d2, d3, ha, hr⟩ := hr.at3
  obtain ⟨A4, n4, c4, d4, d5, hb, _⟩ := hr.at3
  refine ⟨bl, o, c, rfl, World.block_lt_of_cell? w _ d0, a.toTr.atom, A4, n4, c4, fun w1 hb' => ⟨⟨cell_up hb' d2, cell_up hb' d4, cell_up hb' d5⟩, hb.move fun k hk h => ⟨h, hb'.block k hk⟩, hp0.move fun k hk h => ⟨h, hb'.block k hk⟩⟩⟩

set_option maxHeartbeats 8000000 in
set_option maxRecDepth 100000 in
theorem l1Unroll_no (s : List UInt8) (a : NT) (hok : (NT.loop s a).ok) (hat : (NT.loop s a).atoms ≤ 400) (hf : fitsN s (.loop s a) a = false) (v : Value) (w : World) (hp : TAt w (fun _ => True) (NT.loop s a).toTr v) :
    Calls Tryd.prog 56 #[v] w fun e w' => Below w.heap.size w w' ∧ ∃ x A m c, e = .returned (.tuple #[.agg #[.string x, .slice A m c], .bool false]) := by
  obtain ⟨bl, o, c, rfl, HBL, xa, A4, n4, c4, HC⟩ := rec_cells hp
  have hn3 : a.ok3 := (ok_ok3 hok).2
  have hu3 : (NT.loop s a).ok3 := ok_ok3 hok
  have hsl : paramB s = true ∨ loopB s = true := .inr hok.1
  simp only [NT.atoms] at hat
  have HF : Hid (∀ w1, Below w.heap.size w w1 → Calls Tryd.prog 50 #[(.agg #[.string (St xa), .slice A4 n4 c4]), .string (St s), (.agg #[.string (St []), .slice (some ⟨bl, o, none⟩) 3 c])] w1 fun e w' => e = .returned (.bool false) ∧ Below w1.heap.size w1 w') := fun w1 hb => by
    have h := HC.out w1 hb
    have := l1Fits_any s (name_ne hsl) (.loop s a) a hn3 (by omega) hu3 (by simp only [NT.atoms]; omega) (.agg #[.string (St xa), .slice A4 n4 c4]) (.agg #[.string (St []), .slice (some ⟨bl, o, none⟩) 3 c]) w1 (h.2.1.weak fun _ _ => trivial) (h.2.2.weak fun _ _ => trivial)
    rw [hf] at this
    exact this
  clear hp hok hat hf hn3 hu3 hsl
  have X2 : Hid (((w.alloc (.cells #[.string (St []), .slice (some ⟨bl, o, none⟩) 3 c] 43)).alloc (.cells #[.string (St []), .slice none 0 0] 43)).heap[w.heap.size]? = some (.cells #[.string (St []), .slice (some ⟨bl, o, none⟩) 3 c] 43 (0, 0))) := old2 w _ _
  have R2 : Hid (((w.alloc (.cells #[.string (St []), .slice (some ⟨bl, o, none⟩) 3 c] 43)).alloc (.cells #[.string (St []), .slice none 0 0] 43)).heap[w.heap.size + 1]? = some (.cells #[.string (St []), .slice none 0 0] 43 (0, 0))) := new2 w _ _
  have HB2 : Hid (Below w.heap.size w ((w.alloc (.cells #[.string (St []), .slice (some ⟨bl, o, none⟩) 3 c] 43)).alloc (.cells #[.string (St []), .slice none 0 0] 43))) := up_alloc (up1 w _) _
  have s2 : ((w.alloc (.cells #[.string (St []), .slice (some ⟨bl, o, none⟩) 3 c] 43)).alloc (.cells #[.string (St []), .slice none 0 0] 43)).cell? ⟨w.heap.size, 0, none⟩ = some (.string (St [])) ∧ ((w.alloc (.cells #[.string (St []), .slice (some ⟨bl, o, none⟩) 3 c] 43)).alloc (.cells #[.string (St []), .slice none 0 0] 43)).cell? ⟨w.heap.size, 1, none⟩ = some (.slice (some ⟨bl, o, none⟩) 3 c) ∧ ((w.alloc (.cells #[.string (St []), .slice (some ⟨bl, o, none⟩) 3 c] 43)).alloc (.cells #[.string (St []), .slice none 0 0] 43)).cell? ⟨bl, o + 2, none⟩ = some (.string (St s)) ∧ ((w.alloc (.cells #[.string (St []), .slice (some ⟨bl, o, none⟩) 3 c] 43)).alloc (.cells #[.string (St []), .slice none 0 0] 43)).cell? ⟨bl, o + 4, none⟩ = some (.string (St xa)) ∧ ((w.alloc (.cells #[.string (St []), .slice (some ⟨bl, o, none⟩) 3 c] 43)).alloc (.cells #[.string (St []), .slice none 0 0] 43)).cell? ⟨bl, o + 5, none⟩ = some (.slice A4 n4 c4) := ⟨block_cell X2.out 0, block_cell X2.out 1, (HC.out _ HB2.out).1⟩
  go_enter Tryd.func56, Tryd.ntmps56
  go_wp2
  go_region_held3 (fun w' => w'.cell? ⟨w.heap.size, 0, none⟩ = some (.string (St [])) ∧ w'.cell? ⟨w.heap.size, 1, none⟩ = some (.slice (some ⟨bl, o, none⟩) 3 c) ∧ w'.cell? ⟨bl, o + 2, none⟩ = some (.string (St s)) ∧ w'.cell? ⟨bl, o + 4, none⟩ = some (.string (St xa)) ∧ w'.cell? ⟨bl, o + 5, none⟩ = some (.slice A4 n4 c4))
    (first | exact s5 | exact s2 | go_keep)
    ((go_at_call 50; (refine (HF.out _ (by repeat (first | exact Below.refl _ _ | refine up_drew ?_ | refine up_alloc ?_ _))).mono ?_); rintro e w5 ⟨rfl, hb5⟩; have HB5 : Hid (Below w.heap.size w w5) := up_trans (by repeat (first | exact Below.refl _ _ | refine up_drew ?_ | refine up_alloc ?_ _)) hb5; have X5 : Hid (w5.heap[w.heap.size]? = some (.cells #[.string (St []), .slice (some ⟨bl, o, none⟩) 3 c] 43 (0, 0))) := block_up hb5 X2.out; have R5 : Hid (w5.heap[w.heap.size + 1]? = some (.cells #[.string (St []), .slice none 0 0] 43 (0, 0))) := block_up hb5 R2.out; have s5 : w5.cell? ⟨w.heap.size, 0, none⟩ = some (.string (St [])) ∧ w5.cell? ⟨w.heap.size, 1, none⟩ = some (.slice (some ⟨bl, o, none⟩) 3 c) ∧ w5.cell? ⟨bl, o + 2, none⟩ = some (.string (St s)) ∧ w5.cell? ⟨bl, o + 4, none⟩ = some (.string (St xa)) ∧ w5.cell? ⟨bl, o + 5, none⟩ = some (.slice A4 n4 c4) := ⟨block_cell X5.out 0, block_cell X5.out 1, (HC.out _ HB5.out).1⟩; clear hb5))
  have rc0 : w5.cell? ⟨w.heap.size + 1, 0, none⟩ = some (.string (St [])) := block_cell R5.out 0
  have rc1 : w5.cell? ⟨w.heap.size + 1, 1, none⟩ = some (.slice none 0 0) := block_cell R5.out 1
  have fr0 := block_free R5.out 0
  have fr1 := block_free R5.out 1
  have lr5 := lt_of_block R5.out
  obtain ⟨z0, z1, _⟩ := s5
  go_wp2
  refine bodyPost_ret (v := .tuple #[.agg #[.string (St []), .slice (some ⟨bl, o, none⟩) 3 c], .bool false]) (by simp [results, Tryd.results56, go_sem, rc0, rc1, lr5]) rfl ?_
  exact ⟨set0 (set0 HB5.out (by omega)) (by omega), _, _, _, _, rfl⟩

set_option maxHeartbeats 8000000 in
set_option maxRecDepth 100000 in
theorem l1Unroll_yes (s : List UInt8) (a : NT) (hok : (NT.loop s a).ok) (hat : (NT.loop s a).atoms ≤ 400) (hf : fitsN s (.loop s a) a = true) (v : Value) (w : World) (hp : TAt w (fun _ => True) (NT.loop s a).toTr v) :
    Calls Tryd.prog 56 #[v] w fun e w' => Below w.heap.size w w' ∧ ∃ x A m c, e = .returned (.tuple #[.agg #[.string x, .slice A m c], .bool true]) ∧ TAt w' (fun _ => True) (subN s (.loop s a) a).toTr (.agg #[.string x, .slice A m c]) := by
  obtain ⟨bl, o, c, rfl, HBL, xa, A4, n4, c4, HC⟩ := rec_cells hp
  have hn3 : a.ok3 := (ok_ok3 hok).2
  have hu3 : (NT.loop s a).ok3 := ok_ok3 hok
  have hsl : paramB s = true ∨ loopB s = true := .inr hok.1
  simp only [NT.atoms] at hat
  have HF : Hid (∀ w1, Below w.heap.size w w1 → Calls Tryd.prog 50 #[(.agg #[.string (St xa), .slice A4 n4 c4]), .string (St s), (.agg #[.string (St []), .slice (some ⟨bl, o, none⟩) 3 c])] w1 fun e w' => e = .returned (.bool true) ∧ Below w1.heap.size w1 w') := fun w1 hb => by
    have h := HC.out w1 hb
    have := l1Fits_any s (name_ne hsl) (.loop s a) a hn3 (by omega) hu3 (by simp only [NT.atoms]; omega) (.agg #[.string (St xa), .slice A4 n4 c4]) (.agg #[.string (St []), .slice (some ⟨bl, o, none⟩) 3 c]) w1 (h.2.1.weak fun _ _ => trivial) (h.2.2.weak fun _ _ => trivial)
    rw [hf] at this
    exact this
  have HS : Hid (∀ w1, Below w.heap.size w w1 → Calls Tryd.prog 51 #[(.agg #[.string (St xa), .slice A4 n4 c4]), .string (St s), (.agg #[.string (St []), .slice (some ⟨bl, o, none⟩) 3 c])] w1 fun e w' => (∃ x A m c, e = .returned (.agg #[.string x, .slice A m c]) ∧ TAt w' (fun k => k < w.heap.size ∨ w1.heap.size ≤ k) (subN s (.loop s a) a).toTr (.agg #[.string x, .slice A m c])) ∧ Below w1.heap.size w1 w') := fun w1 hb => by
    have h := HC.out w1 hb
    exact l1Sub_any s hsl (.loop s a) a hn3 (by omega) hu3 (by simp only [NT.atoms]; omega) (.agg #[.string (St xa), .slice A4 n4 c4]) (.agg #[.string (St []), .slice (some ⟨bl, o, none⟩) 3 c]) w1 (fun k => k < w.heap.size) (fun k => k < w.heap.size) (fun k hk => by have := hb.size; omega) h.2.1 h.2.2
  generalize (subN s (.loop s a) a).toTr = tr at *
  clear hp hok hat hf hn3 hu3 hsl
  have X2 : Hid (((w.alloc (.cells #[.string (St []), .slice (some ⟨bl, o, none⟩) 3 c] 43)).alloc (.cells #[.string (St []), .slice none 0 0] 43)).heap[w.heap.size]? = some (.cells #[.string (St []), .slice (some ⟨bl, o, none⟩) 3 c] 43 (0, 0))) := old2 w _ _
  have R2 : Hid (((w.alloc (.cells #[.string (St []), .slice (some ⟨bl, o, none⟩) 3 c] 43)).alloc (.cells #[.string (St []), .slice none 0 0] 43)).heap[w.heap.size + 1]? = some (.cells #[.string (St []), .slice none 0 0] 43 (0, 0))) := new2 w _ _
  have HB2 : Hid (Below w.heap.size w ((w.alloc (.cells #[.string (St []), .slice (some ⟨bl, o, none⟩) 3 c] 43)).alloc (.cells #[.string (St []), .slice none 0 0] 43))) := up_alloc (up1 w _) _
  have s2 : ((w.alloc (.cells #[.string (St []), .slice (some ⟨bl, o, none⟩) 3 c] 43)).alloc (.cells #[.string (St []), .slice none 0 0] 43)).cell? ⟨w.heap.size, 0, none⟩ = some (.string (St [])) ∧ ((w.alloc (.cells #[.string (St []), .slice (some ⟨bl, o, none⟩) 3 c] 43)).alloc (.cells #[.string (St []), .slice none 0 0] 43)).cell? ⟨w.heap.size, 1, none⟩ = some (.slice (some ⟨bl, o, none⟩) 3 c) ∧ ((w.alloc (.cells #[.string (St []), .slice (some ⟨bl, o, none⟩) 3 c] 43)).alloc (.cells #[.string (St []), .slice none 0 0] 43)).cell? ⟨bl, o + 2, none⟩ = some (.string (St s)) ∧ ((w.alloc (.cells #[.string (St []), .slice (some ⟨bl, o, none⟩) 3 c] 43)).alloc (.cells #[.string (St []), .slice none 0 0] 43)).cell? ⟨bl, o + 4, none⟩ = some (.string (St xa)) ∧ ((w.alloc (.cells #[.string (St []), .slice (some ⟨bl, o, none⟩) 3 c] 43)).alloc (.cells #[.string (St []), .slice none 0 0] 43)).cell? ⟨bl, o + 5, none⟩ = some (.slice A4 n4 c4) := ⟨block_cell X2.out 0, block_cell X2.out 1, (HC.out _ HB2.out).1⟩
  go_enter Tryd.func56, Tryd.ntmps56
  go_wp2
  go_region_held3 (fun w' => w'.cell? ⟨w.heap.size, 0, none⟩ = some (.string (St [])) ∧ w'.cell? ⟨w.heap.size, 1, none⟩ = some (.slice (some ⟨bl, o, none⟩) 3 c) ∧ w'.cell? ⟨bl, o + 2, none⟩ = some (.string (St s)) ∧ w'.cell? ⟨bl, o + 4, none⟩ = some (.string (St xa)) ∧ w'.cell? ⟨bl, o + 5, none⟩ = some (.slice A4 n4 c4))
    (first | exact s5 | exact s2 | go_keep)
    ((go_at_call 50; (refine (HF.out _ (by repeat (first | exact Below.refl _ _ | refine up_drew ?_ | refine up_alloc ?_ _))).mono ?_); rintro e w5 ⟨rfl, hb5⟩; have HB5 : Hid (Below w.heap.size w w5) := up_trans (by repeat (first | exact Below.refl _ _ | refine up_drew ?_ | refine up_alloc ?_ _)) hb5; have X5 : Hid (w5.heap[w.heap.size]? = some (.cells #[.string (St []), .slice (some ⟨bl, o, none⟩) 3 c] 43 (0, 0))) := block_up hb5 X2.out; have R5 : Hid (w5.heap[w.heap.size + 1]? = some (.cells #[.string (St []), .slice none 0 0] 43 (0, 0))) := block_up hb5 R2.out; have s5 : w5.cell? ⟨w.heap.size, 0, none⟩ = some (.string (St [])) ∧ w5.cell? ⟨w.heap.size, 1, none⟩ = some (.slice (some ⟨bl, o, none⟩) 3 c) ∧ w5.cell? ⟨bl, o + 2, none⟩ = some (.string (St s)) ∧ w5.cell? ⟨bl, o + 4, none⟩ = some (.string (St xa)) ∧ w5.cell? ⟨bl, o + 5, none⟩ = some (.slice A4 n4 c4) := ⟨block_cell X5.out 0, block_cell X5.out 1, (HC.out _ HB5.out).1⟩; clear hb5))
  go_wp2
  go_region_held3 (fun w' => w'.cell? ⟨w.heap.size, 0, none⟩ = some (.string (St [])) ∧ w'.cell? ⟨w.heap.size, 1, none⟩ = some (.slice (some ⟨bl, o, none⟩) 3 c) ∧ w'.cell? ⟨bl, o + 2, none⟩ = some (.string (St s)) ∧ w'.cell? ⟨bl, o + 4, none⟩ = some (.string (St xa)) ∧ w'.cell? ⟨bl, o + 5, none⟩ = some (.slice A4 n4 c4))
    (first | exact s7 | exact s6 | exact s5 | go_keep)
    ((go_at_call 51; (refine (HS.out _ (by first | exact HB5.out | exact up_drew HB5.out)).mono ?_); rintro e w6 ⟨⟨x6, B6, m6, q6, rfl, ht6⟩, hb6⟩; have hb6' : Below w5.heap.size w5 w6 := (by first | exact hb6 | exact un_drew hb6); have HB6 : Hid (Below w.heap.size w w6) := up_trans HB5.out hb6'; have X6 := Lib.hid (block_up hb6' X5.out); have R6 := Lib.hid (block_up hb6' R5.out); have s6 : w6.cell? ⟨w.heap.size, 0, none⟩ = some (.string (St [])) ∧ w6.cell? ⟨w.heap.size, 1, none⟩ = some (.slice (some ⟨bl, o, none⟩) 3 c) ∧ w6.cell? ⟨bl, o + 2, none⟩ = some (.string (St s)) ∧ w6.cell? ⟨bl, o + 4, none⟩ = some (.string (St xa)) ∧ w6.cell? ⟨bl, o + 5, none⟩ = some (.slice A4 n4 c4) := ⟨block_cell X6.out 0, block_cell X6.out 1, (HC.out _ HB6.out).1⟩; have rc0 : w6.cell? ⟨w.heap.size + 1, 0, none⟩ = some (.string (St [])) := block_cell R6.out 0; have rc1 : w6.cell? ⟨w.heap.size + 1, 1, none⟩ = some (.slice none 0 0) := block_cell R6.out 1; have fr0 := block_free R6.out 0; have fr1 := block_free R6.out 1; have lr6 := lt_of_block R6.out; have l5 := lt_of_block R5.out; have HB7 : Hid (Below w.heap.size w ((w6.setCell ⟨w.heap.size + 1, 0, none⟩ (.string x6)).setCell ⟨w.heap.size + 1, 1, none⟩ (.slice B6 m6 q6))) := set0 (set0 HB6.out (by omega)) (by omega); have X7 : Hid (((w6.setCell ⟨w.heap.size + 1, 0, none⟩ (.string x6)).setCell ⟨w.heap.size + 1, 1, none⟩ (.slice B6 m6 q6)).heap[w.heap.size]? = some (.cells #[.string (St []), .slice (some ⟨bl, o, none⟩) 3 c] 43 (0, 0))) := (set2_block w6 _ _ (by omega)).trans X6.out; have s7 : ((w6.setCell ⟨w.heap.size + 1, 0, none⟩ (.string x6)).setCell ⟨w.heap.size + 1, 1, none⟩ (.slice B6 m6 q6)).cell? ⟨w.heap.size, 0, none⟩ = some (.string (St [])) ∧ ((w6.setCell ⟨w.heap.size + 1, 0, none⟩ (.string x6)).setCell ⟨w.heap.size + 1, 1, none⟩ (.slice B6 m6 q6)).cell? ⟨w.heap.size, 1, none⟩ = some (.slice (some ⟨bl, o, none⟩) 3 c) ∧ ((w6.setCell ⟨w.heap.size + 1, 0, none⟩ (.string x6)).setCell ⟨w.heap.size + 1, 1, none⟩ (.slice B6 m6 q6)).cell? ⟨bl, o + 2, none⟩ = some (.string (St s)) ∧ ((w6.setCell ⟨w.heap.size + 1, 0, none⟩ (.string x6)).setCell ⟨w.heap.size + 1, 1, none⟩ (.slice B6 m6 q6)).cell? ⟨bl, o + 4, none⟩ = some (.string (St xa)) ∧ ((w6.setCell ⟨w.heap.size + 1, 0, none⟩ (.string x6)).setCell ⟨w.heap.size + 1, 1, none⟩ (.slice B6 m6 q6)).cell? ⟨bl, o + 5, none⟩ = some (.slice A4 n4 c4) := ⟨block_cell X7.out 0, block_cell X7.out 1, (HC.out _ HB7.out).1⟩; have HT7 : Hid (TAt ((w6.setCell ⟨w.heap.size + 1, 0, none⟩ (.string x6)).setCell ⟨w.heap.size + 1, 1, none⟩ (.slice B6 m6 q6)) (fun _ => True) tr (.agg #[.string x6, .slice B6 m6 q6])) := ht6.move (fun k hk ho => ⟨trivial, set2_block w6 _ _ (by have ho : k < w.heap.size ∨ w5.heap.size ≤ k := ho; omega)⟩); clear ht6 hb6 hb6'))
  all_goals go_wp2
  all_goals refine bodyPost_ret (v := .tuple #[.agg #[.string x6, .slice B6 m6 q6], .bool true]) (by simp [results, Tryd.results56, go_sem, rc0, rc1, lr6]) rfl ?_
  all_goals exact ⟨HB7.out, _, _, _, _, rfl, HT7.out⟩

theorem headOf_loop (s : List UInt8) (a : NT) : headOf (NT.loop s a).toTr = [114, 101, 99] := rfl
set_option maxHeartbeats 4000000 in
set_option maxRecDepth 100000 in
theorem specTypeUnroll_any (s : ByteArray) (w : World) (hs : s.size ≤ 9223372036854775807) :
    Calls Tryd.prog 18 #[.string s] w fun e w' => e = .returned (.tuple #[.string (St ((unrollOf (rdTy s.data.toList)).getD [])), .bool (unrollOf (rdTy s.data.toList)).isSome]) ∧ Below w.heap.size w w' := by
  have hv := fun w => l1Type_any s w hs
  have hn := fun v h => rdTy_some (l := s.data.toList) (n := v) h
  clear hs
  generalize rdTy s.data.toList = o at *
  have HV := Lib.hid hv
  clear hv
  cases o with
  | none =>
    clear hn
    show Calls _ _ _ _ (fun e w' => e = .returned (.tuple #[.string (St []), .bool false]) ∧ _)
    go_enter Tryd.func18, Tryd.ntmps18
    go_wp2_with (go_at_call 44; refine (HV.out _).mono ?_; rintro e w1 ⟨hb1, x, A, n, c, rfl⟩; have HB1 := Lib.hid hb1; clear hb1)
    go_ret2
    exact ⟨rfl, up_alloc HB1.out _⟩
  | some n =>
    obtain ⟨hok, hat⟩ := hn n rfl
    clear hn
    replace HV : Hid (∀ w, Calls Tryd.prog 44 #[.string s] w fun e w' => Below w.heap.size w w' ∧ ∃ x A n' c, e = .returned (.tuple #[.agg #[.string x, .slice A n' c], .bool true]) ∧ TAt w' (fun k => w.heap.size ≤ k) n.toTr (.agg #[.string x, .slice A n' c])) := HV
    show Calls _ _ _ _ (fun e w' => e = .returned (.tuple #[.string (St ((n.db []).unrl.getD [])), .bool (n.db []).unrl.isSome]) ∧ _)
    have hno : ∀ (h : List UInt8), headOf n.toTr = h → h ≠ [114, 101, 99] → (n.db []).unrl = none → Calls Tryd.prog 18 #[.string s] w fun e w' => e = .returned (.tuple #[.string (St ((n.db []).unrl.getD [])), .bool (n.db []).unrl.isSome]) ∧ Below w.heap.size w w' := fun h hh hne hu => by
      rw [hu]
      have HH : Hid (∀ w1 v, TAt w1 (fun _ => True) n.toTr v → Calls Tryd.prog 55 #[v] w1 fun e w' => e = .returned (.string (St h)) ∧ Below w1.heap.size w1 w') := fun w1 v hp => by
        have := l1Head_any n.toTr v w1 hp
        rw [hh] at this
        exact this
      have q : (h != [114, 101, 99]) = true := bne_iff_ne.2 hne
      have q2 : (h == [114, 101, 99]) = false := St_ne hne
      clear hh hne hu hok hat
      show Calls _ _ _ _ (fun e w' => e = .returned (.tuple #[.string (St []), .bool false]) ∧ _)
      go_enter Tryd.func18, Tryd.ntmps18
      go_wp2_with (first
        | (go_at_call 44; refine (HV.out _).mono ?_; rintro e w1 ⟨hb1, x, A, n', c, rfl, hp⟩; have HB1 := Lib.hid hb1; have HP := Lib.hid (TAt.weak (fun _ _ => trivial) hp); clear hb1 hp)
        | (go_at_call 55; refine (HH.out _ _ (TAt.up (up1 _ _) HP.out)).mono ?_; rintro e w2 ⟨rfl, hb2⟩; have HB2 := Lib.hid (up_trans (up_alloc HB1.out _) hb2); clear hb2))
      go_ret2
      exact ⟨rfl, HB2.out⟩
    cases n with
    | zero => exact hno [] rfl (by decide) rfl
    | one => exact hno [] rfl (by decide) rfl
    | name x =>
      refine hno [] ?_ (by decide) ?_
      · simp only [NT.toTr, headOf]
        split <;> rfl
      · simp only [NT.db]
        split
        · rfl
        · rfl
    | sum a b => exact hno [43] rfl (by decide) rfl
    | prod a b => exact hno [42] rfl (by decide) rfl
    | loop x a =>
      clear hno
      have hun : ((NT.loop x a).db []).unrl = ((subN x (.loop x a) a).db []).told := by
        rw [unroll_db x a hok]
        rfl
      have HH : Hid (∀ w1 v, TAt w1 (fun _ => True) (NT.loop x a).toTr v → Calls Tryd.prog 55 #[v] w1 fun e w' => e = .returned (.string (St [114, 101, 99])) ∧ Below w1.heap.size w1 w') := fun w1 v hp => l1Head_any (NT.loop x a).toTr v w1 hp
      have hat1 : a.atoms ≤ 400 := by simp only [NT.atoms] at hat; omega
      cases hf : fitsN x (.loop x a) a with
      | false =>
        have HU : Hid (∀ w1 v, TAt w1 (fun _ => True) (NT.loop x a).toTr v → Calls Tryd.prog 56 #[v] w1 fun e w' => Below w1.heap.size w1 w' ∧ ∃ x A m c, e = .returned (.tuple #[.agg #[.string x, .slice A m c], .bool false])) := fun w1 v hp => l1Unroll_no x a hok hat hf v w1 hp
        have hbig : ((subN x (.loop x a) a).db []).told = none := by
          rw [subN_db x _ a (ok_ok3 hok).2]
          exact told_big (by rw [fits_put x _ a (ok_ok3 hok).2] at hf; simpa using hf)
        rw [hun, hbig]
        clear hun hbig hf hok hat hat1
        show Calls _ _ _ _ (fun e w' => e = .returned (.tuple #[.string (St []), .bool false]) ∧ _)
        go_enter Tryd.func18, Tryd.ntmps18
        go_wp2_with (first
          | (go_at_call 44; refine (HV.out _).mono ?_; rintro e w1 ⟨hb1, x1, A, n', c, rfl, hp⟩; have HB1 := Lib.hid hb1; have HP := Lib.hid (TAt.weak (fun _ _ => trivial) hp); have X1 := Lib.hid (block_new w1 (.cells #[.string x1, .slice A n' c] 43)); clear hb1 hp)
          | (go_at_call 55; refine (HH.out _ _ (TAt.up (up1 _ _) HP.out)).mono ?_; rintro e w2 ⟨rfl, hb2⟩; have HB2 := Lib.hid (up_trans (up_alloc HB1.out _) hb2); have HP2 := Lib.hid (TAt.up hb2 (TAt.up (up1 _ _) HP.out)); have e0 := block_cell (block_up hb2 X1.out) 0; have e1 := block_cell (block_up hb2 X1.out) 1; clear hb2)
          | (go_at_call 56; refine (HU.out _ _ HP2.out).mono ?_; rintro e w3 ⟨hb3, x3, A3, n3, c3, rfl⟩; have HB3 := Lib.hid (up_trans HB2.out hb3); clear hb3))
        go_ret2
        exact ⟨rfl, up_alloc HB3.out _⟩
      | true =>
        have HU : Hid (∀ w1 v, TAt w1 (fun _ => True) (NT.loop x a).toTr v → Calls Tryd.prog 56 #[v] w1 fun e w' => Below w1.heap.size w1 w' ∧ ∃ x1 A m c, e = .returned (.tuple #[.agg #[.string x1, .slice A m c], .bool true]) ∧ TAt w' (fun _ => True) (subN x (.loop x a) a).toTr (.agg #[.string x1, .slice A m c])) := fun w1 v hp => l1Unroll_yes x a hok hat hf v w1 hp
        have HC : Hid (∀ (w : World) (v : Value), TAt w (fun _ => True) (subN x (.loop x a) a).toTr v → Calls Tryd.prog 45 #[v] w fun e w' => e = .returned (.tuple #[.string (St (((subN x (.loop x a) a).db []).told.getD [])), .bool ((subN x (.loop x a) a).db []).told.isSome]) ∧ Below w.heap.size w w') := fun w v h => by
          have := subN_canon x (.inr hok.1) (.loop x a) a (ok_ok3 hok).2 hat1 (ok_ok3 hok) hat hf v w h
          rw [← subN_db x _ a (ok_ok3 hok).2] at this
          exact this
        rw [hun]
        generalize ((subN x (.loop x a) a).db []).told.getD [] = tx at *
        generalize ((subN x (.loop x a) a).db []).told.isSome = b at *
        clear hun hf hok hat hat1
        generalize (subN x (.loop x a) a).toTr = tr at *
        go_enter Tryd.func18, Tryd.ntmps18
        go_wp2_with (first
          | (go_at_call 44; refine (HV.out _).mono ?_; rintro e w1 ⟨hb1, x1, A, n', c, rfl, hp⟩; have HB1 := Lib.hid hb1; have HP := Lib.hid (TAt.weak (fun _ _ => trivial) hp); have X1 := Lib.hid (block_new w1 (.cells #[.string x1, .slice A n' c] 43)); clear hb1 hp)
          | (go_at_call 55; refine (HH.out _ _ (TAt.up (up1 _ _) HP.out)).mono ?_; rintro e w2 ⟨rfl, hb2⟩; have HB2 := Lib.hid (up_trans (up_alloc HB1.out _) hb2); have HP2 := Lib.hid (TAt.up hb2 (TAt.up (up1 _ _) HP.out)); have e0 := block_cell (block_up hb2 X1.out) 0; have e1 := block_cell (block_up hb2 X1.out) 1; clear hb2)
          | (go_at_call 56; refine (HU.out _ _ HP2.out).mono ?_; rintro e w3 ⟨hb3, x3, A3, n3, c3, rfl, ht⟩; have HB3 := Lib.hid (up_trans HB2.out hb3); have HT := Lib.hid ht; clear hb3 ht)
          | (go_at_call 45; refine (HC.out _ _ (TAt.up (up1 _ _) HT.out)).mono ?_; rintro e w4 ⟨rfl, hb4⟩; have HB4 := Lib.hid (up_trans (up_alloc HB3.out _) hb4); clear hb4))
        go_ret2
        exact ⟨rfl, HB4.out⟩

end Go.Proofs.YtkciljcligohnaaDoor
