/- TypeNames and TypeClosed, the exported functions of both. TypeEmpty, both. TypeCanon and TypePut of both. TypePut of the reference. TypeUnroll of both. -/
import Derived.Test.YtcfecmlfcjgdbaaGreatDoorMF
import Derived.Test.YtcfecmlfcjgdbaaGreatDoorMC
import Derived.Test.YtcfecmlfcjgdbaaGreatDoorMG
import Derived.Test.YtcfecmlfcjgdbaaGreatDoorMI
import Derived.Test.YtcfecmlfcjgdbaaGreatDoorMH
namespace Go.Proofs.YtcfecmlfcjgdbaaGreatDoor
open Go.RowKit
set_option linter.unusedVariables false
set_option linter.unusedSimpArgs false

/-- What l1Closed does. -/
def CLPost (w : World) (o : Option NT) (e : Ending) (w' : World) : Prop :=
  Below w.heap.size w w' ∧ ∃ x A n' c, e = .returned (.tuple #[.agg #[.string x, .slice A n' c], .bool (closedOf o)]) ∧ (∀ n, o = some n → TAt w' (fun k => w.heap.size < k) n.toTr (.agg #[.string x, .slice A n' c]))
theorem l1Closed_any (s : ByteArray) (w : World) (hs : s.size ≤ 9223372036854775807) : Calls Tryz.prog 59 #[.string s] w (CLPost w (rdTy s.data.toList)) := by
  cases h : rdTy s.data.toList with
  | none =>
    refine (l1Closed_none s w hs h).mono ?_
    rintro e w' ⟨hb, x, A, n, c, he⟩
    exact ⟨hb, x, A, n, c, he, fun n h => by cases h⟩
  | some n =>
    refine (l1Closed_some s w hs n h).mono ?_
    rintro e w' ⟨hb, x, A, n', c, he, ht⟩
    exact ⟨hb, x, A, n', c, he, fun m hm => by cases hm; exact ht⟩


/-- What TypeNames gives. -/
def TNPost (w : World) (o : Option NT) (e : Ending) (w' : World) : Prop :=
  Below w.heap.size w w' ∧ match o with
    | none => ∃ A c, e = .returned (.tuple #[.slice A 0 c, .bool false])
    | some v => ∃ g c, e = .returned (.tuple #[.slice (some ⟨g, 0, none⟩) v.names.length c, .bool true]) ∧ SOwn w' w.heap.size v.names g c

end Go.Proofs.YtcfecmlfcjgdbaaGreatDoor

namespace Go.Proofs.YtcfecmlfcjgdbaaGreatDoor
open Go.RowKit
set_option linter.unusedVariables false
set_option linter.unusedSimpArgs false

/-- What TypeEmpty gives. -/
def emptyOf : Option NT → Bool
  | none => false
  | some n => (n.db []).emp

theorem TypeEmpty_any (s : ByteArray) (w : World) (hs : s.size ≤ 9223372036854775807) :
    Calls Tryz.prog 14 #[.string s] w fun e w' => e = .returned (.bool (emptyOf (rdTy s.data.toList))) ∧ Below w.heap.size w w' := by
  have hv := readType_rt s w hs
  have hn := fun v h => rdTy_some (l := s.data.toList) (n := v) h
  clear hs
  generalize rdTy s.data.toList = o at *
  cases o with
  | none =>
    clear hn
    go_enter Tryz.func14, Tryz.ntmps14
    go_wp2_with (go_at_call 37; refine hv.mono ?_; rintro e w1 ⟨hb1, rfl⟩)
    go_ret
    exact ⟨rfl, hb1⟩
  | some n =>
    have HN : Hid (∀ (w : World) p, TyAt w (n.db []) p → Calls Tryz.prog 38 #[.pointer p, .slice none 0 0] w fun e w' => e = .returned (.bool (n.db []).emp) ∧ Below w.heap.size w w') := fun w p hp =>
      isEmpty_any (n.db []) w p none 0 0 hp (db_scoped n []) (.inl rfl) (by rw [NT.db_atoms]; have := (hn n rfl).2; omega)
    clear hn
    show Calls _ _ _ _ (fun e w' => e = .returned (.bool (n.db []).emp) ∧ _)
    generalize (n.db []).emp = b at *
    go_enter Tryz.func14, Tryz.ntmps14
    go_wp2_with (first
      | (go_at_call 37; refine hv.mono ?_; rintro e w1 ⟨hb1, g, rfl, hp⟩; have HP := Lib.hid hp; have HB1 := Lib.hid hb1; clear hp hb1)
      | (go_at_call 38; refine (HN.out _ _ HP.out).mono ?_; rintro e w2 ⟨rfl, hb2⟩; have HB2 := Lib.hid (up_trans HB1.out hb2); clear hb2))
    go_ret
    exact ⟨rfl, HB2.out⟩

set_option maxHeartbeats 1000000 in
theorem specTypeEmpty_any (s : ByteArray) (w : World) (hs : s.size ≤ 9223372036854775807) :
    Calls Tryz.prog 33 #[.string s] w fun e w' => e = .returned (.bool (emptyOf (rdTy s.data.toList))) ∧ Below w.heap.size w w' := by
  have hv := fun w => l1Type_any s w hs
  have hn := fun v h => rdTy_some (l := s.data.toList) (n := v) h
  clear hs
  generalize rdTy s.data.toList = o at *
  cases o with
  | none =>
    have HV := Lib.hid hv
    clear hv hn
    show Calls _ _ _ _ (fun e w' => e = .returned (.bool false) ∧ _)
    go_enter Tryz.func33, Tryz.ntmps33
    go_wp2_with (go_at_call 43; refine (HV.out _).mono ?_; rintro e w1 ⟨hb1, x, A, n, c, rfl⟩; have HB1 := Lib.hid hb1; clear hb1)
    go_ret
    exact ⟨rfl, up_alloc HB1.out _⟩
  | some n =>
    have HV := Lib.hid hv
    obtain ⟨hok, hat⟩ := hn n rfl
    have HA : Hid (∀ (w : World) (okT : Nat → Prop) v, TAt w okT n.toTr v → Calls Tryz.prog 69 #[v, .slice none 0 0] w fun e w' => (∃ x A n' c, e = .returned (.agg #[.string x, .slice A n' c]) ∧ TAt w' (fun k => w.heap.size ≤ k) n.apart.toTr (.agg #[.string x, .slice A n' c])) ∧ Below w.heap.size w w') := fun w okT v h => l1Apart_any n hok hat v w okT 0 h
    have hemp := l1Empty_any n.apart (ren_ok' n.names n [] 0 (ok_ok' hok) (by simp))
    have hval : n.apart.empS [] = (n.db []).emp := apart_emp n hok
    have hatt : n.apart.atoms = n.atoms := ren_atoms n.names n [] 0
    have HE : Hid (∀ (w : World) (v : Value), TAt w (fun _ => True) n.apart.toTr v → Calls Tryz.prog 68 #[v, .slice (some ⟨w.heap.size, 0, none⟩) 0 0] (w.alloc (.cells #[] 9)) fun e w' => e = .returned (.bool (n.db []).emp) ∧ Below w.heap.size w w') := fun w v h => by
      have := hemp v (w.alloc (.cells #[] 9)) (some ⟨w.heap.size, 0, none⟩) 0 [] (h.up (up1 w _)) (.inl rfl) (by simp; omega)
      rw [hval] at this
      exact this.mono fun e w' ⟨h1, h2⟩ => ⟨h1, up_trans (up1 w _) h2⟩
    clear hv hn hok hat hemp hval hatt
    show Calls _ _ _ _ (fun e w' => e = .returned (.bool (n.db []).emp) ∧ _)
    generalize (n.db []).emp = b at *
    go_enter Tryz.func33, Tryz.ntmps33
    go_wp2_with (first
      | (go_at_call 43; refine (HV.out _).mono ?_; rintro e w1 ⟨hb1, x, A, n', c, rfl, hp⟩; have HP := Lib.hid hp; have HB1 := Lib.hid hb1; clear hb1 hp)
      | (go_at_call 69; refine (HA.out _ _ _ (HP.out.up (up1 _ _))).mono ?_; rintro e w2 ⟨⟨x2, A2, n2, c2, rfl, ht⟩, hb2⟩; have HT := Lib.hid ht; have HB2 := Lib.hid (up_trans (up_alloc HB1.out _) hb2); clear ht hb2)
      | (go_at_call 68; refine (HE.out _ _ (HT.out.weak fun _ _ => trivial)).mono ?_; rintro e w3 ⟨rfl, hb3⟩; have HB3 := Lib.hid (up_trans HB2.out hb3); clear hb3))
    go_ret
    exact ⟨rfl, HB3.out⟩

end Go.Proofs.YtcfecmlfcjgdbaaGreatDoor

namespace Go.Proofs.YtcfecmlfcjgdbaaGreatDoor
open Go.RowKit
set_option linter.unusedVariables false
set_option linter.unusedSimpArgs false

theorem outT_eq (o : Option (List UInt8)) : outT o = .tuple #[.string (St (o.getD [])), .bool o.isSome] := by cases o <;> rfl
theorem outOf_eq (o : Option (List UInt8)) : outOf o = outT o := by cases o <;> rfl
theorem db_nmle : ∀ (n : NT) (env : List (List UInt8)), n.ok3 → (n.db env).nmle
  | .zero, _, _ => trivial
  | .one, _, _ => trivial
  | .name s, env, h => by
    simp only [NT.db]
    split
    · exact h.2.2.2.2
    · cases look s env with
      | none => exact h.2.2.2.2
      | some k => trivial
  | .sum a b, env, h => ⟨db_nmle a env h.1, db_nmle b env h.2⟩
  | .prod a b, env, h => ⟨db_nmle a env h.1, db_nmle b env h.2⟩
  | .loop s a, env, h => db_nmle a (s :: env) h.2
theorem put_nmle (nm : List UInt8) (u : Ty) (hu : u.nmle) : ∀ (t : Ty), t.nmle → (t.put nm u).nmle
  | .zero, _ => trivial
  | .one, _ => trivial
  | .bound _, _ => trivial
  | .name s, h => by
    simp only [Ty.put]
    split
    · exact hu
    · exact h
  | .sum a b, h => ⟨put_nmle nm u hu a h.1, put_nmle nm u hu b h.2⟩
  | .prod a b, h => ⟨put_nmle nm u hu a h.1, put_nmle nm u hu b h.2⟩
  | .loop a, h => put_nmle nm u hu a h
theorem opened_nmle (u : Ty) (hu : u.nmle) : ∀ (t : Ty) (k : Nat), t.nmle → (t.opened u k).nmle
  | .zero, _, _ => trivial
  | .one, _, _ => trivial
  | .name _, _, h => h
  | .bound j, k, _ => by
    simp only [Ty.opened]
    split
    · exact hu
    · trivial
  | .sum a b, k, h => ⟨opened_nmle u hu a k h.1, opened_nmle u hu b k h.2⟩
  | .prod a b, k, h => ⟨opened_nmle u hu a k h.1, opened_nmle u hu b k h.2⟩
  | .loop a, k, h => opened_nmle u hu a (k + 1) h
theorem scoped_mono : ∀ (t : Ty) {k k' : Nat}, k ≤ k' → t.scoped k → t.scoped k'
  | .zero, _, _, _, _ => trivial
  | .one, _, _, _, _ => trivial
  | .name _, _, _, _, _ => trivial
  | .bound _, _, _, hk, h => Nat.lt_of_lt_of_le h hk
  | .sum a b, _, _, hk, h => ⟨scoped_mono a hk h.1, scoped_mono b hk h.2⟩
  | .prod a b, _, _, hk, h => ⟨scoped_mono a hk h.1, scoped_mono b hk h.2⟩
  | .loop a, _, _, hk, h => scoped_mono a (Nat.succ_le_succ hk) h
theorem put_scoped (nm : List UInt8) (u : Ty) (hu : u.scoped 0) : ∀ (t : Ty) (k : Nat), t.scoped k → (t.put nm u).scoped k
  | .zero, _, _ => trivial
  | .one, _, _ => trivial
  | .bound _, _, h => h
  | .name s, k, h => by
    simp only [Ty.put]
    split
    · exact scoped_mono u (Nat.zero_le _) hu
    · trivial
  | .sum a b, k, h => ⟨put_scoped nm u hu a k h.1, put_scoped nm u hu b k h.2⟩
  | .prod a b, k, h => ⟨put_scoped nm u hu a k h.1, put_scoped nm u hu b k h.2⟩
  | .loop a, k, h => put_scoped nm u hu a (k + 1) h
theorem opened_scoped (u : Ty) (hu : u.scoped 0) : ∀ (t : Ty) (k : Nat), t.scoped (k + 1) → (t.opened u k).scoped k
  | .zero, _, _ => trivial
  | .one, _, _ => trivial
  | .name _, _, _ => trivial
  | .bound j, k, h => by
    have h : j < k + 1 := h
    simp only [Ty.opened]
    split
    · exact scoped_mono u (Nat.zero_le _) hu
    · show j < k
      omega
  | .sum a b, k, h => ⟨opened_scoped u hu a k h.1, opened_scoped u hu b k h.2⟩
  | .prod a b, k, h => ⟨opened_scoped u hu a k h.1, opened_scoped u hu b k h.2⟩
  | .loop a, k, h => opened_scoped u hu a (k + 1) h
theorem put_atoms_le (nm : List UInt8) (u : Ty) (t : Ty) : (t.put nm u).atoms ≤ t.atoms + t.usesT nm * u.atoms := by have := put_atoms nm u t; omega
theorem usesT_atoms (nm : List UInt8) : ∀ (t : Ty), t.usesT nm ≤ t.atoms
  | .zero => by simp [Ty.usesT]
  | .one => by simp [Ty.usesT]
  | .bound _ => by simp [Ty.usesT]
  | .name s => by simp only [Ty.usesT, Ty.atoms]; split <;> omega
  | .sum a b => by have := usesT_atoms nm a; have := usesT_atoms nm b; simp only [Ty.usesT, Ty.atoms]; omega
  | .prod a b => by have := usesT_atoms nm a; have := usesT_atoms nm b; simp only [Ty.usesT, Ty.atoms]; omega
  | .loop a => by have := usesT_atoms nm a; simp only [Ty.usesT, Ty.atoms]; omega

/-- told, its two results apart. -/
theorem told_two (t : Ty) (B : Nat) (w : World) (p : Option Addr) (hp : TyAt w t p) (ht : t.atoms ≤ 1000000000) (hsc : t.scoped 0) (hnm : t.nmle) (htab : TabB B w) (hB : B ≤ w.heap.size) :
    Calls Tryz.prog 42 #[.pointer p] w fun e w' => e = .returned (.tuple #[.string (St (t.told.getD [])), .bool t.told.isSome]) ∧ Below w.heap.size w w' :=
  (told_any t B w p hp ht hsc hnm htab hB).mono fun e w' ⟨h1, h2⟩ => ⟨by rw [h1, outT_eq], h2⟩

/-! ### TypeCanon -/
def canonOf (o : Option NT) : Option (List UInt8) := o.bind fun n => (n.db []).told

set_option maxHeartbeats 2000000 in
theorem TypeCanon_any (s : ByteArray) (B : Nat) (w : World) (hs : s.size ≤ 9223372036854775807) (htab : TabB B w) (hB : B ≤ w.heap.size) :
    Calls Tryz.prog 18 #[.string s] w fun e w' => e = .returned (.tuple #[.string (St ((canonOf (rdTy s.data.toList)).getD [])), .bool (canonOf (rdTy s.data.toList)).isSome]) ∧ Below w.heap.size w w' := by
  have hv := readType_rt s w hs
  have hn := fun v h => rdTy_some (l := s.data.toList) (n := v) h
  clear hs
  generalize rdTy s.data.toList = o at *
  cases o with
  | none =>
    clear hn htab hB
    show Calls _ _ _ _ (fun e w' => e = .returned (.tuple #[.string (St []), .bool false]) ∧ _)
    go_enter Tryz.func18, Tryz.ntmps18
    go_wp2_with (go_at_call 37; refine hv.mono ?_; rintro e w1 ⟨hb1, rfl⟩)
    go_ret2
    exact ⟨rfl, hb1⟩
  | some n =>
    obtain ⟨hok, hat⟩ := hn n rfl
    have HT : Hid (∀ w1 p, Below w.heap.size w w1 → TyAt w1 (n.db []) p → Calls Tryz.prog 42 #[.pointer p] w1 fun e w' => e = .returned (.tuple #[.string (St ((n.db []).told.getD [])), .bool (n.db []).told.isSome]) ∧ Below w1.heap.size w1 w') := fun w1 p hw hp =>
      told_two (n.db []) B w1 p hp (by rw [NT.db_atoms]; omega) (db_scoped n []) (db_nmle n [] (ok_ok3 hok)) (htab.below (hw.mono hB)) (by have := hw.size; omega)
    clear hn htab hB hok hat
    show Calls _ _ _ _ (fun e w' => e = .returned (.tuple #[.string (St ((n.db []).told.getD [])), .bool (n.db []).told.isSome]) ∧ _)
    generalize (n.db []).told.getD [] = x at *
    generalize (n.db []).told.isSome = b at *
    go_enter Tryz.func18, Tryz.ntmps18
    go_wp2_with (first
      | (go_at_call 37; refine hv.mono ?_; rintro e w1 ⟨hb1, g, rfl, hp⟩; have HP := Lib.hid hp; have HB1 := Lib.hid hb1; clear hp hb1)
      | (go_at_call 42; (with_reducible refine (HT.out _ _ HB1.out HP.out).mono ?_); rintro e w2 ⟨rfl, hb2⟩; have HB2 := Lib.hid (up_trans HB1.out hb2); clear hb2))
    go_ret2
    exact ⟨rfl, HB2.out⟩


/-! ### TypePut -/
def putOf (o u : Option NT) (nm : List UInt8) : Option (List UInt8) := match o, u with
  | some n, some m => if paramB nm = true ∨ loopB nm = true then ((n.db []).put nm (m.db [])).told else none
  | _, _ => none
theorem St_eta (x : ByteArray) : St x.data.toList = x := rfl


end Go.Proofs.YtcfecmlfcjgdbaaGreatDoor

namespace Go.Proofs.YtcfecmlfcjgdbaaGreatDoor
open Go.RowKit
set_option linter.unusedVariables false
set_option linter.unusedSimpArgs false

theorem l1Sub_all (nm : List UInt8) (hnm : paramB nm = true ∨ loopB nm = true) (u n : NT) (hn : n.ok3) (hna : n.atoms ≤ 400) (hu3 : u.ok3) (hua : u.atoms ≤ 400) (v vu : Value) (w : World) (hp : TAt w (fun _ => True) n.toTr v) (hu : TAt w (fun _ => True) u.toTr vu) :
    Calls Tryz.prog 95 #[v, .string (St nm), vu] w fun e w' => (∃ x A m c, e = .returned (.agg #[.string x, .slice A m c]) ∧ TAt w' (fun _ => True) (subN nm u n).toTr (.agg #[.string x, .slice A m c])) ∧ Below w.heap.size w w' :=
  (l1Sub_any nm (name_ok hnm) u n hn hna hu3 hua v vu w (fun _ => True) (fun k => k < w.heap.size) (fun _ h => h) hp (hu.move fun k hk _ => ⟨hk, rfl⟩)).mono fun e w' ⟨⟨x, A, m, c, h1, h2⟩, h3⟩ => ⟨⟨x, A, m, c, h1, h2.weak fun _ _ => trivial⟩, h3⟩
theorem subN_canon (nm : List UInt8) (hnm : paramB nm = true ∨ loopB nm = true) (u n : NT) (hn : n.ok3) (hna : n.atoms ≤ 400) (hu3 : u.ok3) (hua : u.atoms ≤ 400) (hf : fitsN nm u n = true) (v : Value) (w : World) (hp : TAt w (fun _ => True) (subN nm u n).toTr v) :
    Calls Tryz.prog 46 #[v] w fun e w' => e = .returned (.tuple #[.string (St (((n.db []).put nm (u.db [])).told.getD [])), .bool ((n.db []).put nm (u.db [])).told.isSome]) ∧ Below w.heap.size w w' := by
  have hat : (subN nm u n).atoms ≤ 400 := by
    rw [← NT.db_atoms _ [], subN_db nm u n hn]
    rw [fits_put nm u n hn] at hf
    simpa using hf
  have hfl : (frees [u, .name nm]).length ≤ 500 := by
    rw [frees_two, List.length_append]
    have := names_len u
    simp
    omega
  have := l1Canon_any (subN nm u n) (subN_ok3 nm u n hn hu3 hna hfl) (by omega) v w hp
  rw [subN_db nm u n hn, outOf_eq, outT_eq] at this
  exact this


end Go.Proofs.YtcfecmlfcjgdbaaGreatDoor

namespace Go.Proofs.YtcfecmlfcjgdbaaGreatDoor
open Go.RowKit
set_option linter.unusedVariables false
set_option linter.unusedSimpArgs false

/-- What TypeUnroll gives. -/
def Ty.unrl : Ty → Option (List UInt8)
  | .loop a => (a.opened (.loop a) 0).told
  | _ => none
def unrollOf (o : Option NT) : Option (List UInt8) := o.bind fun n => (n.db []).unrl
theorem opened_atoms_le (u : Ty) : ∀ (t : Ty) (k : Nat), (t.opened u k).atoms ≤ t.atoms * u.atoms + t.atoms
  | .zero, _ => by simp [Ty.opened, Ty.atoms]
  | .one, _ => by simp [Ty.opened, Ty.atoms]
  | .name _, _ => by simp [Ty.opened, Ty.atoms]
  | .bound j, k => by
    simp only [Ty.opened]
    split
    · simp [Ty.atoms]
    · simp [Ty.atoms]
  | .sum a b, k => by
    have h1 := opened_atoms_le u a k
    have h2 := opened_atoms_le u b k
    simp only [Ty.opened, Ty.atoms, Nat.add_mul] at *
    omega
  | .prod a b, k => by
    have h1 := opened_atoms_le u a k
    have h2 := opened_atoms_le u b k
    simp only [Ty.opened, Ty.atoms, Nat.add_mul] at *
    omega
  | .loop a, k => by
    have h1 := opened_atoms_le u a (k + 1)
    simp only [Ty.opened, Ty.atoms, Nat.add_mul] at *
    omega
/-- What is in a named rec, with the rec put for its name, is the nameless one opened. -/
theorem unroll_db (s : List UInt8) (a : NT) (h : (NT.loop s a).ok3) : (subN s (.loop s a) a).db [] = (a.db [s]).opened ((NT.loop s a).db []) 0 := by
  have h3 : a.ok3 := h.2
  rw [subN_db s (.loop s a) a h3, opened_db s h.1.2 _ a []]
  rfl

set_option maxHeartbeats 4000000 in
set_option maxRecDepth 100000 in
theorem TypeUnroll_not (s : ByteArray) (w : World) (t : Ty) (hv : Calls Tryz.prog 37 #[.string s] w fun e w' => Below w.heap.size w w' ∧ ∃ g, e = .returned (.pointer (some ⟨g, 0, none⟩)) ∧ ∃ z, z ≠ (114 : Int) ∧ w'.cell? ⟨g, 0, none⟩ = some (.int .u8 z)) :
    Calls Tryz.prog 24 #[.string s] w fun e w' => e = .returned (.tuple #[.string (St []), .bool false]) ∧ Below w.heap.size w w' := by
  go_enter Tryz.func24, Tryz.ntmps24
  go_wp2_with (go_at_call 37; refine hv.mono ?_; rintro e w1 ⟨hb1, g, rfl, z, hz, hc⟩; have HB1 := Lib.hid hb1; have h0 : (z != 114) = true := bne_iff_ne.2 hz; clear hb1 hz)
  go_ret2
  exact ⟨rfl, HB1.out⟩
set_option maxHeartbeats 4000000 in
set_option maxRecDepth 100000 in
theorem TypeUnroll_any (s : ByteArray) (B : Nat) (w : World) (hs : s.size ≤ 9223372036854775807) (htab : TabB B w) (hB : B ≤ w.heap.size) :
    Calls Tryz.prog 24 #[.string s] w fun e w' => e = .returned (.tuple #[.string (St ((unrollOf (rdTy s.data.toList)).getD [])), .bool (unrollOf (rdTy s.data.toList)).isSome]) ∧ Below w.heap.size w w' := by
  have hv := readType_rt s w hs
  have hn := fun v h => rdTy_some (l := s.data.toList) (n := v) h
  clear hs
  generalize rdTy s.data.toList = o at *
  cases o with
  | none =>
    clear hn htab hB
    show Calls _ _ _ _ (fun e w' => e = .returned (.tuple #[.string (St []), .bool false]) ∧ _)
    go_enter Tryz.func24, Tryz.ntmps24
    go_wp2_with (go_at_call 37; refine hv.mono ?_; rintro e w1 ⟨hb1, rfl⟩)
    go_ret2
    exact ⟨rfl, hb1⟩
  | some n =>
    obtain ⟨hok, hat⟩ := hn n rfl
    have hsc := db_scoped n []
    have hnm := db_nmle n [] (ok_ok3 hok)
    have hat2 : (n.db []).atoms ≤ 400 := by rw [NT.db_atoms]; exact hat
    have hv : Calls Tryz.prog 37 #[.string s] w fun e w' => Below w.heap.size w w' ∧ ∃ g, e = .returned (.pointer (some ⟨g, 0, none⟩)) ∧ TyAt w' (n.db []) (some ⟨g, 0, none⟩) := hv
    show Calls _ _ _ _ (fun e w' => e = .returned (.tuple #[.string (St ((n.db []).unrl.getD [])), .bool (n.db []).unrl.isSome]) ∧ _)
    clear hn hok hat
    generalize n.db [] = t at *
    have hno : ∀ (z : Int), z ≠ 114 → (∀ (w' : World) (g : Nat), TyAt w' t (some ⟨g, 0, none⟩) → w'.cell? ⟨g, 0, none⟩ = some (.int .u8 z)) → t.unrl = none →
        Calls Tryz.prog 24 #[.string s] w fun e w' => e = .returned (.tuple #[.string (St (t.unrl.getD [])), .bool t.unrl.isSome]) ∧ Below w.heap.size w w' := fun z hz hc hu => by
      rw [hu]
      exact TypeUnroll_not s w t (hv.mono fun e w' ⟨h1, g, h2, h3⟩ => ⟨h1, g, h2, z, hz, hc w' g h3⟩)
    cases t with
    | zero => exact hno 48 (by decide) (fun w' g h => by obtain ⟨g', he, hb⟩ := h; cases he; exact block_cell hb 0) rfl
    | one => exact hno 49 (by decide) (fun w' g h => by obtain ⟨g', he, hb⟩ := h; cases he; exact block_cell hb 0) rfl
    | name x => exact hno 110 (by decide) (fun w' g h => by obtain ⟨g', he, hb⟩ := h; cases he; exact block_cell hb 0) rfl
    | bound k => exact hno 98 (by decide) (fun w' g h => by obtain ⟨g', he, hb⟩ := h; cases he; exact block_cell hb 0) rfl
    | sum a b => exact hno 43 (by decide) (fun w' g h => by obtain ⟨pa, pb, ⟨g', he, hb⟩, _⟩ := h; cases he; exact block_cell hb 0) rfl
    | prod a b => exact hno 42 (by decide) (fun w' g h => by obtain ⟨pa, pb, ⟨g', he, hb⟩, _⟩ := h; cases he; exact block_cell hb 0) rfl
    | loop a =>
      have hsc : a.scoped 1 := hsc
      have hnm : a.nmle := hnm
      simp only [Ty.atoms] at hat2
      have HU : Hid (∀ (w1 : World) p, TyAt w1 (.loop a) p → Calls Tryz.prog 53 #[.pointer p] w1 fun e w' => ∃ p', e = .returned (.pointer p') ∧ TyAt w' (a.opened (.loop a) 0) p' ∧ Below w1.heap.size w1 w') := fun w1 p hp => unrolled_any a w1 p hp (by omega)
      have HT : Hid (∀ w1 p, Below w.heap.size w w1 → TyAt w1 (a.opened (.loop a) 0) p → Calls Tryz.prog 42 #[.pointer p] w1 fun e w' => e = .returned (.tuple #[.string (St ((a.opened (.loop a) 0).told.getD [])), .bool (a.opened (.loop a) 0).told.isSome]) ∧ Below w1.heap.size w1 w') := fun w1 p hw hp => by
        have h1 := opened_atoms_le (.loop a) a 0
        have h2 : a.atoms * (Ty.loop a).atoms ≤ 400 * 402 := Nat.mul_le_mul (by omega) (by simp only [Ty.atoms]; omega)
        exact told_two _ B w1 p hp (by omega) (opened_scoped (.loop a) hsc a 0 hsc) (opened_nmle (.loop a) hnm a 0 hnm) (htab.below (hw.mono hB)) (by have := hw.size; omega)
      clear hno htab hB hsc hnm hat2
      have HV : Hid (Calls Tryz.prog 37 #[.string s] w fun e w' => Below w.heap.size w w' ∧ ∃ g, e = .returned (.pointer (some ⟨g, 0, none⟩)) ∧ w'.cell? ⟨g, 0, none⟩ = some (.int .u8 114) ∧ TyAt w' (.loop a) (some ⟨g, 0, none⟩)) := hv.mono fun e w' ⟨h1, g, h2, h3⟩ => ⟨h1, g, h2, (by obtain ⟨pa, ⟨g', he, hb⟩, _⟩ := h3; cases he; exact block_cell hb 0), h3⟩
      show Calls _ _ _ _ (fun e w' => e = .returned (.tuple #[.string (St ((a.opened (.loop a) 0).told.getD [])), .bool (a.opened (.loop a) 0).told.isSome]) ∧ _)
      generalize a.opened (.loop a) 0 = tt at *
      generalize tt.told.getD [] = tx at *
      generalize tt.told.isSome = b at *
      clear hv
      go_enter Tryz.func24, Tryz.ntmps24
      go_wp2_with (first
        | (go_at_call 37; (with_reducible refine HV.out.mono ?_); rintro e w1 ⟨hb1, g, rfl, hc, hp⟩; have HB1 := Lib.hid hb1; have HP := Lib.hid hp; clear hb1 hp)
        | (go_at_call 53; (with_reducible refine (HU.out _ _ HP.out).mono ?_); rintro e w2 ⟨p', rfl, hp2, hb2⟩; have HB2 := Lib.hid (up_trans HB1.out hb2); have HP2 := Lib.hid hp2; clear hb2 hp2)
        | (go_at_call 42; (with_reducible refine (HT.out _ _ HB2.out HP2.out).mono ?_); rintro e w3 ⟨rfl, hb3⟩; have HB3 := Lib.hid (up_trans HB2.out hb3); clear hb3))
      go_ret2
      exact ⟨rfl, HB3.out⟩

theorem un_drew {w w1 : World} (h : Below w.drew.heap.size w.drew w1) : Below w.heap.size w w1 := ⟨h.os, h.tape, h.output, h.size, h.block⟩
/-- The three parts of a rec, in whatever world follows. -/
theorem rec_cells {w : World} {s : List UInt8} {a : NT} {v : Value} (hp : TAt w (fun _ => True) (NT.loop s a).toTr v) :
    ∃ bl o c, v = .agg #[.string (St []), .slice (some ⟨bl, o, none⟩) 3 c] ∧ bl < w.heap.size ∧ ∃ xa A4 n4 c4, Hid (∀ w1, Below w.heap.size w w1 → (w1.cell? ⟨bl, o + 2, none⟩ = some (.string (St s)) ∧ w1.cell? ⟨bl, o + 4, none⟩ = some (.string (St xa)) ∧ w1.cell? ⟨bl, o + 5, none⟩ = some (.slice A4 n4 c4)) ∧
      TAt w1 (fun k => k < w.heap.size) a.toTr (.agg #[.string (St xa), .slice A4 n4 c4]) ∧ TAt w1 (fun k => k < w.heap.size) (NT.loop s a).toTr v) := by
  have hp' : TAt w (fun k => k < w.heap.size) (NT.loop s a).toTr v := hp.move fun k hk _ => ⟨hk, rfl⟩
  have hp0 := hp'
  obtain ⟨A, c, rfl, hr⟩ := hp'.parts
  obtain ⟨bl, o, A', c', rfl, d0, _, _, _, hr⟩ := hr.uncons
  obtain ⟨A2, n2, c2, d2, d3, ha, hr⟩ := hr.at3
  obtain ⟨A4, n4, c4, d4, d5, hb, _⟩ := hr.at3
  refine ⟨bl, o, c, rfl, World.block_lt_of_cell? w _ d0, a.toTr.atom, A4, n4, c4, fun w1 hb' => ⟨⟨cell_up hb' d2, cell_up hb' d4, cell_up hb' d5⟩, hb.move fun k hk h => ⟨h, hb'.block k hk⟩, hp0.move fun k hk h => ⟨h, hb'.block k hk⟩⟩⟩

set_option maxHeartbeats 8000000 in
set_option maxRecDepth 100000 in
theorem l1Unroll_no (s : List UInt8) (a : NT) (hok : (NT.loop s a).ok3) (hat : (NT.loop s a).atoms ≤ 400) (hf : fitsN s (.loop s a) a = false) (v : Value) (w : World) (hp : TAt w (fun _ => True) (NT.loop s a).toTr v) :
    Calls Tryz.prog 54 #[v] w fun e w' => Below w.heap.size w w' ∧ ∃ x A m c, e = .returned (.tuple #[.agg #[.string x, .slice A m c], .bool false]) := by
  obtain ⟨bl, o, c, rfl, HBL, xa, A4, n4, c4, HC⟩ := rec_cells hp
  have hn3 : a.ok3 := hok.2
  have hu3 : (NT.loop s a).ok3 := hok
  have hsl : nmOk s := hok.1.1
  simp only [NT.atoms] at hat
  have HF : Hid (∀ w1, Below w.heap.size w w1 → Calls Tryz.prog 94 #[(.agg #[.string (St xa), .slice A4 n4 c4]), .string (St s), (.agg #[.string (St []), .slice (some ⟨bl, o, none⟩) 3 c])] w1 fun e w' => e = .returned (.bool false) ∧ Below w1.heap.size w1 w') := fun w1 hb => by
    have h := HC.out w1 hb
    have := l1Fits_any s ⟨hsl.2.1, hsl.2.2.1⟩ (.loop s a) a hn3 (by omega) hu3 (by simp only [NT.atoms]; omega) (.agg #[.string (St xa), .slice A4 n4 c4]) (.agg #[.string (St []), .slice (some ⟨bl, o, none⟩) 3 c]) w1 (h.2.1.weak fun _ _ => trivial) (h.2.2.weak fun _ _ => trivial)
    rw [hf] at this
    exact this
  clear hp hok hat hf hn3 hu3 hsl
  have X2 : Hid (((w.alloc (.cells #[.string (St []), .slice (some ⟨bl, o, none⟩) 3 c] 56)).alloc (.cells #[.string (St []), .slice none 0 0] 56)).heap[w.heap.size]? = some (.cells #[.string (St []), .slice (some ⟨bl, o, none⟩) 3 c] 56 (0, 0))) := old2 w _ _
  have R2 : Hid (((w.alloc (.cells #[.string (St []), .slice (some ⟨bl, o, none⟩) 3 c] 56)).alloc (.cells #[.string (St []), .slice none 0 0] 56)).heap[w.heap.size + 1]? = some (.cells #[.string (St []), .slice none 0 0] 56 (0, 0))) := new2 w _ _
  have HB2 : Hid (Below w.heap.size w ((w.alloc (.cells #[.string (St []), .slice (some ⟨bl, o, none⟩) 3 c] 56)).alloc (.cells #[.string (St []), .slice none 0 0] 56))) := up_alloc (up1 w _) _
  have s2 : ((w.alloc (.cells #[.string (St []), .slice (some ⟨bl, o, none⟩) 3 c] 56)).alloc (.cells #[.string (St []), .slice none 0 0] 56)).cell? ⟨w.heap.size, 0, none⟩ = some (.string (St [])) ∧ ((w.alloc (.cells #[.string (St []), .slice (some ⟨bl, o, none⟩) 3 c] 56)).alloc (.cells #[.string (St []), .slice none 0 0] 56)).cell? ⟨w.heap.size, 1, none⟩ = some (.slice (some ⟨bl, o, none⟩) 3 c) ∧ ((w.alloc (.cells #[.string (St []), .slice (some ⟨bl, o, none⟩) 3 c] 56)).alloc (.cells #[.string (St []), .slice none 0 0] 56)).cell? ⟨bl, o + 2, none⟩ = some (.string (St s)) ∧ ((w.alloc (.cells #[.string (St []), .slice (some ⟨bl, o, none⟩) 3 c] 56)).alloc (.cells #[.string (St []), .slice none 0 0] 56)).cell? ⟨bl, o + 4, none⟩ = some (.string (St xa)) ∧ ((w.alloc (.cells #[.string (St []), .slice (some ⟨bl, o, none⟩) 3 c] 56)).alloc (.cells #[.string (St []), .slice none 0 0] 56)).cell? ⟨bl, o + 5, none⟩ = some (.slice A4 n4 c4) := ⟨block_cell X2.out 0, block_cell X2.out 1, (HC.out _ HB2.out).1⟩
  go_enter Tryz.func54, Tryz.ntmps54
  go_wp2
  go_region_held3 (fun w' => w'.cell? ⟨w.heap.size, 0, none⟩ = some (.string (St [])) ∧ w'.cell? ⟨w.heap.size, 1, none⟩ = some (.slice (some ⟨bl, o, none⟩) 3 c) ∧ w'.cell? ⟨bl, o + 2, none⟩ = some (.string (St s)) ∧ w'.cell? ⟨bl, o + 4, none⟩ = some (.string (St xa)) ∧ w'.cell? ⟨bl, o + 5, none⟩ = some (.slice A4 n4 c4))
    (first | exact s5 | exact s2 | go_keep)
    ((go_at_call 94; (refine (HF.out _ (by repeat (first | exact Below.refl _ _ | refine up_drew ?_ | refine up_alloc ?_ _))).mono ?_); rintro e w5 ⟨rfl, hb5⟩; have HB5 : Hid (Below w.heap.size w w5) := up_trans (by repeat (first | exact Below.refl _ _ | refine up_drew ?_ | refine up_alloc ?_ _)) hb5; have X5 : Hid (w5.heap[w.heap.size]? = some (.cells #[.string (St []), .slice (some ⟨bl, o, none⟩) 3 c] 56 (0, 0))) := block_up hb5 X2.out; have R5 : Hid (w5.heap[w.heap.size + 1]? = some (.cells #[.string (St []), .slice none 0 0] 56 (0, 0))) := block_up hb5 R2.out; have s5 : w5.cell? ⟨w.heap.size, 0, none⟩ = some (.string (St [])) ∧ w5.cell? ⟨w.heap.size, 1, none⟩ = some (.slice (some ⟨bl, o, none⟩) 3 c) ∧ w5.cell? ⟨bl, o + 2, none⟩ = some (.string (St s)) ∧ w5.cell? ⟨bl, o + 4, none⟩ = some (.string (St xa)) ∧ w5.cell? ⟨bl, o + 5, none⟩ = some (.slice A4 n4 c4) := ⟨block_cell X5.out 0, block_cell X5.out 1, (HC.out _ HB5.out).1⟩; clear hb5))
  have rc0 : w5.cell? ⟨w.heap.size + 1, 0, none⟩ = some (.string (St [])) := block_cell R5.out 0
  have rc1 : w5.cell? ⟨w.heap.size + 1, 1, none⟩ = some (.slice none 0 0) := block_cell R5.out 1
  have fr0 := block_free R5.out 0
  have fr1 := block_free R5.out 1
  have lr5 := lt_of_block R5.out
  obtain ⟨z0, z1, _⟩ := s5
  go_wp2
  refine bodyPost_ret (v := .tuple #[.agg #[.string (St []), .slice (some ⟨bl, o, none⟩) 3 c], .bool false]) (by simp [results, Tryz.results54, go_sem, rc0, rc1, lr5]) rfl ?_
  exact ⟨set0 (set0 HB5.out (by omega)) (by omega), _, _, _, _, rfl⟩

set_option maxHeartbeats 8000000 in
set_option maxRecDepth 100000 in
theorem l1Unroll_yes (s : List UInt8) (a : NT) (hok : (NT.loop s a).ok3) (hat : (NT.loop s a).atoms ≤ 400) (hf : fitsN s (.loop s a) a = true) (v : Value) (w : World) (hp : TAt w (fun _ => True) (NT.loop s a).toTr v) :
    Calls Tryz.prog 54 #[v] w fun e w' => Below w.heap.size w w' ∧ ∃ x A m c, e = .returned (.tuple #[.agg #[.string x, .slice A m c], .bool true]) ∧ TAt w' (fun _ => True) (subN s (.loop s a) a).toTr (.agg #[.string x, .slice A m c]) := by
  obtain ⟨bl, o, c, rfl, HBL, xa, A4, n4, c4, HC⟩ := rec_cells hp
  have hn3 : a.ok3 := hok.2
  have hu3 : (NT.loop s a).ok3 := hok
  have hsl : nmOk s := hok.1.1
  simp only [NT.atoms] at hat
  have HF : Hid (∀ w1, Below w.heap.size w w1 → Calls Tryz.prog 94 #[(.agg #[.string (St xa), .slice A4 n4 c4]), .string (St s), (.agg #[.string (St []), .slice (some ⟨bl, o, none⟩) 3 c])] w1 fun e w' => e = .returned (.bool true) ∧ Below w1.heap.size w1 w') := fun w1 hb => by
    have h := HC.out w1 hb
    have := l1Fits_any s ⟨hsl.2.1, hsl.2.2.1⟩ (.loop s a) a hn3 (by omega) hu3 (by simp only [NT.atoms]; omega) (.agg #[.string (St xa), .slice A4 n4 c4]) (.agg #[.string (St []), .slice (some ⟨bl, o, none⟩) 3 c]) w1 (h.2.1.weak fun _ _ => trivial) (h.2.2.weak fun _ _ => trivial)
    rw [hf] at this
    exact this
  have HS : Hid (∀ w1, Below w.heap.size w w1 → Calls Tryz.prog 95 #[(.agg #[.string (St xa), .slice A4 n4 c4]), .string (St s), (.agg #[.string (St []), .slice (some ⟨bl, o, none⟩) 3 c])] w1 fun e w' => (∃ x A m c, e = .returned (.agg #[.string x, .slice A m c]) ∧ TAt w' (fun k => k < w.heap.size ∨ w1.heap.size ≤ k) (subN s (.loop s a) a).toTr (.agg #[.string x, .slice A m c])) ∧ Below w1.heap.size w1 w') := fun w1 hb => by
    have h := HC.out w1 hb
    exact l1Sub_any s hsl (.loop s a) a hn3 (by omega) hu3 (by simp only [NT.atoms]; omega) (.agg #[.string (St xa), .slice A4 n4 c4]) (.agg #[.string (St []), .slice (some ⟨bl, o, none⟩) 3 c]) w1 (fun k => k < w.heap.size) (fun k => k < w.heap.size) (fun k hk => by have := hb.size; omega) h.2.1 h.2.2
  generalize (subN s (.loop s a) a).toTr = tr at *
  clear hp hok hat hf hn3 hu3 hsl
  have X2 : Hid (((w.alloc (.cells #[.string (St []), .slice (some ⟨bl, o, none⟩) 3 c] 56)).alloc (.cells #[.string (St []), .slice none 0 0] 56)).heap[w.heap.size]? = some (.cells #[.string (St []), .slice (some ⟨bl, o, none⟩) 3 c] 56 (0, 0))) := old2 w _ _
  have R2 : Hid (((w.alloc (.cells #[.string (St []), .slice (some ⟨bl, o, none⟩) 3 c] 56)).alloc (.cells #[.string (St []), .slice none 0 0] 56)).heap[w.heap.size + 1]? = some (.cells #[.string (St []), .slice none 0 0] 56 (0, 0))) := new2 w _ _
  have HB2 : Hid (Below w.heap.size w ((w.alloc (.cells #[.string (St []), .slice (some ⟨bl, o, none⟩) 3 c] 56)).alloc (.cells #[.string (St []), .slice none 0 0] 56))) := up_alloc (up1 w _) _
  have s2 : ((w.alloc (.cells #[.string (St []), .slice (some ⟨bl, o, none⟩) 3 c] 56)).alloc (.cells #[.string (St []), .slice none 0 0] 56)).cell? ⟨w.heap.size, 0, none⟩ = some (.string (St [])) ∧ ((w.alloc (.cells #[.string (St []), .slice (some ⟨bl, o, none⟩) 3 c] 56)).alloc (.cells #[.string (St []), .slice none 0 0] 56)).cell? ⟨w.heap.size, 1, none⟩ = some (.slice (some ⟨bl, o, none⟩) 3 c) ∧ ((w.alloc (.cells #[.string (St []), .slice (some ⟨bl, o, none⟩) 3 c] 56)).alloc (.cells #[.string (St []), .slice none 0 0] 56)).cell? ⟨bl, o + 2, none⟩ = some (.string (St s)) ∧ ((w.alloc (.cells #[.string (St []), .slice (some ⟨bl, o, none⟩) 3 c] 56)).alloc (.cells #[.string (St []), .slice none 0 0] 56)).cell? ⟨bl, o + 4, none⟩ = some (.string (St xa)) ∧ ((w.alloc (.cells #[.string (St []), .slice (some ⟨bl, o, none⟩) 3 c] 56)).alloc (.cells #[.string (St []), .slice none 0 0] 56)).cell? ⟨bl, o + 5, none⟩ = some (.slice A4 n4 c4) := ⟨block_cell X2.out 0, block_cell X2.out 1, (HC.out _ HB2.out).1⟩
  go_enter Tryz.func54, Tryz.ntmps54
  go_wp2
  go_region_held3 (fun w' => w'.cell? ⟨w.heap.size, 0, none⟩ = some (.string (St [])) ∧ w'.cell? ⟨w.heap.size, 1, none⟩ = some (.slice (some ⟨bl, o, none⟩) 3 c) ∧ w'.cell? ⟨bl, o + 2, none⟩ = some (.string (St s)) ∧ w'.cell? ⟨bl, o + 4, none⟩ = some (.string (St xa)) ∧ w'.cell? ⟨bl, o + 5, none⟩ = some (.slice A4 n4 c4))
    (first | exact s5 | exact s2 | go_keep)
    ((go_at_call 94; (refine (HF.out _ (by repeat (first | exact Below.refl _ _ | refine up_drew ?_ | refine up_alloc ?_ _))).mono ?_); rintro e w5 ⟨rfl, hb5⟩; have HB5 : Hid (Below w.heap.size w w5) := up_trans (by repeat (first | exact Below.refl _ _ | refine up_drew ?_ | refine up_alloc ?_ _)) hb5; have X5 : Hid (w5.heap[w.heap.size]? = some (.cells #[.string (St []), .slice (some ⟨bl, o, none⟩) 3 c] 56 (0, 0))) := block_up hb5 X2.out; have R5 : Hid (w5.heap[w.heap.size + 1]? = some (.cells #[.string (St []), .slice none 0 0] 56 (0, 0))) := block_up hb5 R2.out; have s5 : w5.cell? ⟨w.heap.size, 0, none⟩ = some (.string (St [])) ∧ w5.cell? ⟨w.heap.size, 1, none⟩ = some (.slice (some ⟨bl, o, none⟩) 3 c) ∧ w5.cell? ⟨bl, o + 2, none⟩ = some (.string (St s)) ∧ w5.cell? ⟨bl, o + 4, none⟩ = some (.string (St xa)) ∧ w5.cell? ⟨bl, o + 5, none⟩ = some (.slice A4 n4 c4) := ⟨block_cell X5.out 0, block_cell X5.out 1, (HC.out _ HB5.out).1⟩; clear hb5))
  go_wp2
  go_region_held3 (fun w' => w'.cell? ⟨w.heap.size, 0, none⟩ = some (.string (St [])) ∧ w'.cell? ⟨w.heap.size, 1, none⟩ = some (.slice (some ⟨bl, o, none⟩) 3 c) ∧ w'.cell? ⟨bl, o + 2, none⟩ = some (.string (St s)) ∧ w'.cell? ⟨bl, o + 4, none⟩ = some (.string (St xa)) ∧ w'.cell? ⟨bl, o + 5, none⟩ = some (.slice A4 n4 c4))
    (first | exact s7 | exact s6 | exact s5 | go_keep)
    ((go_at_call 95; (refine (HS.out _ (by first | exact HB5.out | exact up_drew HB5.out)).mono ?_); rintro e w6 ⟨⟨x6, B6, m6, q6, rfl, ht6⟩, hb6⟩; have hb6' : Below w5.heap.size w5 w6 := (by first | exact hb6 | exact un_drew hb6); have HB6 : Hid (Below w.heap.size w w6) := up_trans HB5.out hb6'; have X6 := Lib.hid (block_up hb6' X5.out); have R6 := Lib.hid (block_up hb6' R5.out); have s6 : w6.cell? ⟨w.heap.size, 0, none⟩ = some (.string (St [])) ∧ w6.cell? ⟨w.heap.size, 1, none⟩ = some (.slice (some ⟨bl, o, none⟩) 3 c) ∧ w6.cell? ⟨bl, o + 2, none⟩ = some (.string (St s)) ∧ w6.cell? ⟨bl, o + 4, none⟩ = some (.string (St xa)) ∧ w6.cell? ⟨bl, o + 5, none⟩ = some (.slice A4 n4 c4) := ⟨block_cell X6.out 0, block_cell X6.out 1, (HC.out _ HB6.out).1⟩; have rc0 : w6.cell? ⟨w.heap.size + 1, 0, none⟩ = some (.string (St [])) := block_cell R6.out 0; have rc1 : w6.cell? ⟨w.heap.size + 1, 1, none⟩ = some (.slice none 0 0) := block_cell R6.out 1; have fr0 := block_free R6.out 0; have fr1 := block_free R6.out 1; have lr6 := lt_of_block R6.out; have l5 := lt_of_block R5.out; have HB7 : Hid (Below w.heap.size w ((w6.setCell ⟨w.heap.size + 1, 0, none⟩ (.string x6)).setCell ⟨w.heap.size + 1, 1, none⟩ (.slice B6 m6 q6))) := set0 (set0 HB6.out (by omega)) (by omega); have X7 : Hid (((w6.setCell ⟨w.heap.size + 1, 0, none⟩ (.string x6)).setCell ⟨w.heap.size + 1, 1, none⟩ (.slice B6 m6 q6)).heap[w.heap.size]? = some (.cells #[.string (St []), .slice (some ⟨bl, o, none⟩) 3 c] 56 (0, 0))) := (set2_block w6 _ _ (by omega)).trans X6.out; have s7 : ((w6.setCell ⟨w.heap.size + 1, 0, none⟩ (.string x6)).setCell ⟨w.heap.size + 1, 1, none⟩ (.slice B6 m6 q6)).cell? ⟨w.heap.size, 0, none⟩ = some (.string (St [])) ∧ ((w6.setCell ⟨w.heap.size + 1, 0, none⟩ (.string x6)).setCell ⟨w.heap.size + 1, 1, none⟩ (.slice B6 m6 q6)).cell? ⟨w.heap.size, 1, none⟩ = some (.slice (some ⟨bl, o, none⟩) 3 c) ∧ ((w6.setCell ⟨w.heap.size + 1, 0, none⟩ (.string x6)).setCell ⟨w.heap.size + 1, 1, none⟩ (.slice B6 m6 q6)).cell? ⟨bl, o + 2, none⟩ = some (.string (St s)) ∧ ((w6.setCell ⟨w.heap.size + 1, 0, none⟩ (.string x6)).setCell ⟨w.heap.size + 1, 1, none⟩ (.slice B6 m6 q6)).cell? ⟨bl, o + 4, none⟩ = some (.string (St xa)) ∧ ((w6.setCell ⟨w.heap.size + 1, 0, none⟩ (.string x6)).setCell ⟨w.heap.size + 1, 1, none⟩ (.slice B6 m6 q6)).cell? ⟨bl, o + 5, none⟩ = some (.slice A4 n4 c4) := ⟨block_cell X7.out 0, block_cell X7.out 1, (HC.out _ HB7.out).1⟩; have HT7 : Hid (TAt ((w6.setCell ⟨w.heap.size + 1, 0, none⟩ (.string x6)).setCell ⟨w.heap.size + 1, 1, none⟩ (.slice B6 m6 q6)) (fun _ => True) tr (.agg #[.string x6, .slice B6 m6 q6])) := ht6.move (fun k hk ho => ⟨trivial, set2_block w6 _ _ (by have ho : k < w.heap.size ∨ w5.heap.size ≤ k := ho; omega)⟩); clear ht6 hb6 hb6'))
  all_goals go_wp2
  all_goals refine bodyPost_ret (v := .tuple #[.agg #[.string x6, .slice B6 m6 q6], .bool true]) (by simp [results, Tryz.results54, go_sem, rc0, rc1, lr6]) rfl ?_
  all_goals exact ⟨HB7.out, _, _, _, _, rfl, HT7.out⟩

theorem headOf_loop (s : List UInt8) (a : NT) : headOf (NT.loop s a).toTr = [114, 101, 99] := rfl
set_option maxHeartbeats 4000000 in
set_option maxRecDepth 100000 in
theorem specTypeUnroll_any (s : ByteArray) (w : World) (hs : s.size ≤ 9223372036854775807) :
    Calls Tryz.prog 25 #[.string s] w fun e w' => e = .returned (.tuple #[.string (St ((unrollOf (rdTy s.data.toList)).getD [])), .bool (unrollOf (rdTy s.data.toList)).isSome]) ∧ Below w.heap.size w w' := by
  have hv := fun w => l1Type_any s w hs
  have hn := fun v h => rdTy_some (l := s.data.toList) (n := v) h
  clear hs
  generalize rdTy s.data.toList = o at *
  have HV := Lib.hid hv
  clear hv
  cases o with
  | none =>
    clear hn
    show Calls _ _ _ _ (fun e w' => e = .returned (.tuple #[.string (St []), .bool false]) ∧ _)
    go_enter Tryz.func25, Tryz.ntmps25
    go_wp2_with (go_at_call 43; refine (HV.out _).mono ?_; rintro e w1 ⟨hb1, x, A, n, c, rfl⟩; have HB1 := Lib.hid hb1; clear hb1)
    go_ret2
    exact ⟨rfl, up_alloc HB1.out _⟩
  | some n =>
    obtain ⟨hok, hat⟩ := hn n rfl
    clear hn
    replace HV : Hid (∀ w, Calls Tryz.prog 43 #[.string s] w fun e w' => Below w.heap.size w w' ∧ ∃ x A n' c, e = .returned (.tuple #[.agg #[.string x, .slice A n' c], .bool true]) ∧ TAt w' (fun k => w.heap.size ≤ k) n.toTr (.agg #[.string x, .slice A n' c])) := HV
    show Calls _ _ _ _ (fun e w' => e = .returned (.tuple #[.string (St ((n.db []).unrl.getD [])), .bool (n.db []).unrl.isSome]) ∧ _)
    have hno : ∀ (h : List UInt8), headOf n.toTr = h → h ≠ [114, 101, 99] → (n.db []).unrl = none → Calls Tryz.prog 25 #[.string s] w fun e w' => e = .returned (.tuple #[.string (St ((n.db []).unrl.getD [])), .bool (n.db []).unrl.isSome]) ∧ Below w.heap.size w w' := fun h hh hne hu => by
      rw [hu]
      have HH : Hid (∀ w1 v, TAt w1 (fun _ => True) n.toTr v → Calls Tryz.prog 49 #[v] w1 fun e w' => e = .returned (.string (St h)) ∧ Below w1.heap.size w1 w') := fun w1 v hp => by
        have := l1Head_any n.toTr v w1 hp
        rw [hh] at this
        exact this
      have q : (h != [114, 101, 99]) = true := bne_iff_ne.2 hne
      have q2 : (h == [114, 101, 99]) = false := St_ne hne
      clear hh hne hu hok hat
      show Calls _ _ _ _ (fun e w' => e = .returned (.tuple #[.string (St []), .bool false]) ∧ _)
      go_enter Tryz.func25, Tryz.ntmps25
      go_wp2_with (first
        | (go_at_call 43; refine (HV.out _).mono ?_; rintro e w1 ⟨hb1, x, A, n', c, rfl, hp⟩; have HB1 := Lib.hid hb1; have HP := Lib.hid (TAt.weak (fun _ _ => trivial) hp); clear hb1 hp)
        | (go_at_call 49; refine (HH.out _ _ (TAt.up (up1 _ _) HP.out)).mono ?_; rintro e w2 ⟨rfl, hb2⟩; have HB2 := Lib.hid (up_trans (up_alloc HB1.out _) hb2); clear hb2))
      go_ret2
      exact ⟨rfl, HB2.out⟩
    cases n with
    | zero => exact hno [] rfl (by decide) rfl
    | one => exact hno [] rfl (by decide) rfl
    | name x =>
      refine hno [] ?_ (by decide) ?_
      · simp only [NT.toTr, headOf]
        split <;> rfl
      · simp only [NT.db]
        split
        · rfl
        · rfl
    | sum a b => exact hno [43] rfl (by decide) rfl
    | prod a b => exact hno [42] rfl (by decide) rfl
    | loop x a =>
      clear hno
      have hun : ((NT.loop x a).db []).unrl = ((subN x (.loop x a) a).db []).told := by
        rw [unroll_db x a (ok_ok3 hok)]
        rfl
      have HH : Hid (∀ w1 v, TAt w1 (fun _ => True) (NT.loop x a).toTr v → Calls Tryz.prog 49 #[v] w1 fun e w' => e = .returned (.string (St [114, 101, 99])) ∧ Below w1.heap.size w1 w') := fun w1 v hp => l1Head_any (NT.loop x a).toTr v w1 hp
      have hat1 : a.atoms ≤ 400 := by simp only [NT.atoms] at hat; omega
      cases hf : fitsN x (.loop x a) a with
      | false =>
        have HU : Hid (∀ w1 v, TAt w1 (fun _ => True) (NT.loop x a).toTr v → Calls Tryz.prog 54 #[v] w1 fun e w' => Below w1.heap.size w1 w' ∧ ∃ x A m c, e = .returned (.tuple #[.agg #[.string x, .slice A m c], .bool false])) := fun w1 v hp => l1Unroll_no x a (ok_ok3 hok) hat hf v w1 hp
        have hbig : ((subN x (.loop x a) a).db []).told = none := by
          rw [subN_db x _ a (ok_ok3 hok).2]
          exact told_big (by rw [fits_put x _ a (ok_ok3 hok).2] at hf; simpa using hf)
        rw [hun, hbig]
        clear hun hbig hf hok hat hat1
        show Calls _ _ _ _ (fun e w' => e = .returned (.tuple #[.string (St []), .bool false]) ∧ _)
        go_enter Tryz.func25, Tryz.ntmps25
        go_wp2_with (first
          | (go_at_call 43; refine (HV.out _).mono ?_; rintro e w1 ⟨hb1, x1, A, n', c, rfl, hp⟩; have HB1 := Lib.hid hb1; have HP := Lib.hid (TAt.weak (fun _ _ => trivial) hp); have X1 := Lib.hid (block_new w1 (.cells #[.string x1, .slice A n' c] 56)); clear hb1 hp)
          | (go_at_call 49; refine (HH.out _ _ (TAt.up (up1 _ _) HP.out)).mono ?_; rintro e w2 ⟨rfl, hb2⟩; have HB2 := Lib.hid (up_trans (up_alloc HB1.out _) hb2); have HP2 := Lib.hid (TAt.up hb2 (TAt.up (up1 _ _) HP.out)); have e0 := block_cell (block_up hb2 X1.out) 0; have e1 := block_cell (block_up hb2 X1.out) 1; clear hb2)
          | (go_at_call 54; refine (HU.out _ _ HP2.out).mono ?_; rintro e w3 ⟨hb3, x3, A3, n3, c3, rfl⟩; have HB3 := Lib.hid (up_trans HB2.out hb3); clear hb3))
        go_ret2
        exact ⟨rfl, up_alloc HB3.out _⟩
      | true =>
        have HU : Hid (∀ w1 v, TAt w1 (fun _ => True) (NT.loop x a).toTr v → Calls Tryz.prog 54 #[v] w1 fun e w' => Below w1.heap.size w1 w' ∧ ∃ x1 A m c, e = .returned (.tuple #[.agg #[.string x1, .slice A m c], .bool true]) ∧ TAt w' (fun _ => True) (subN x (.loop x a) a).toTr (.agg #[.string x1, .slice A m c])) := fun w1 v hp => l1Unroll_yes x a (ok_ok3 hok) hat hf v w1 hp
        have HC : Hid (∀ (w : World) (v : Value), TAt w (fun _ => True) (subN x (.loop x a) a).toTr v → Calls Tryz.prog 46 #[v] w fun e w' => e = .returned (.tuple #[.string (St (((subN x (.loop x a) a).db []).told.getD [])), .bool ((subN x (.loop x a) a).db []).told.isSome]) ∧ Below w.heap.size w w') := fun w v h => by
          have := subN_canon x (.inr hok.1) (.loop x a) a (ok_ok3 hok).2 hat1 (ok_ok3 hok) hat hf v w h
          rw [← subN_db x _ a (ok_ok3 hok).2] at this
          exact this
        rw [hun]
        generalize ((subN x (.loop x a) a).db []).told.getD [] = tx at *
        generalize ((subN x (.loop x a) a).db []).told.isSome = b at *
        clear hun hf hok hat hat1
        generalize (subN x (.loop x a) a).toTr = tr at *
        go_enter Tryz.func25, Tryz.ntmps25
        go_wp2_with (first
          | (go_at_call 43; refine (HV.out _).mono ?_; rintro e w1 ⟨hb1, x1, A, n', c, rfl, hp⟩; have HB1 := Lib.hid hb1; have HP := Lib.hid (TAt.weak (fun _ _ => trivial) hp); have X1 := Lib.hid (block_new w1 (.cells #[.string x1, .slice A n' c] 56)); clear hb1 hp)
          | (go_at_call 49; refine (HH.out _ _ (TAt.up (up1 _ _) HP.out)).mono ?_; rintro e w2 ⟨rfl, hb2⟩; have HB2 := Lib.hid (up_trans (up_alloc HB1.out _) hb2); have HP2 := Lib.hid (TAt.up hb2 (TAt.up (up1 _ _) HP.out)); have e0 := block_cell (block_up hb2 X1.out) 0; have e1 := block_cell (block_up hb2 X1.out) 1; clear hb2)
          | (go_at_call 54; refine (HU.out _ _ HP2.out).mono ?_; rintro e w3 ⟨hb3, x3, A3, n3, c3, rfl, ht⟩; have HB3 := Lib.hid (up_trans HB2.out hb3); have HT := Lib.hid ht; clear hb3 ht)
          | (go_at_call 46; refine (HC.out _ _ (TAt.up (up1 _ _) HT.out)).mono ?_; rintro e w4 ⟨rfl, hb4⟩; have HB4 := Lib.hid (up_trans (up_alloc HB3.out _) hb4); clear hb4))
        go_ret2
        exact ⟨rfl, HB4.out⟩

end Go.Proofs.YtcfecmlfcjgdbaaGreatDoor
