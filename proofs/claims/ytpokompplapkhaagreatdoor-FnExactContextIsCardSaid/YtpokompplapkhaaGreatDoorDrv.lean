/- The program's derived and DerivOf. -/
import Derived.Test.YtpokompplapkhaaGreatDoorDifR
import Derived.Test.YtpokompplapkhaaGreatDoorNam
namespace Go.Proofs.YtpokompplapkhaaGreatDoor
open Go.RowKit
set_option linter.unusedVariables false
set_option linter.unusedSimpArgs false

theorem db_ok : ∀ (n : NT) (env : List (List UInt8)) (s : List UInt8), n.ok3 → (n.db env).has s → nmOk s
  | .zero, _, _, _, h => h.elim
  | .one, _, _, _, h => h.elim
  | .name x, env, s, hn, h => by
    simp only [NT.db] at h
    split at h
    · have h : x = s := h
      subst h
      exact hn
    · split at h
      · exact h.elim
      · have h : x = s := h
        subst h
        exact hn
  | .sum a b, env, s, hn, h => h.elim (db_ok a env s hn.1) (db_ok b env s hn.2)
  | .prod a b, env, s, hn, h => h.elim (db_ok a env s hn.1) (db_ok b env s hn.2)
  | .loop x a, env, s, hn, h => db_ok a (x :: env) s hn.2 h
theorem fnm_no {k : Nat} (h : nmOk (fnm k)) : False := by
  have := h.2.2.2.1 35 (by simp [fnm])
  simp [atomB] at this
theorem fresh_db {n : NT} (hn : n.ok3) {nm : List UInt8} (h : nmOk nm) : Fresh (n.db []) nm 0 := fun k _ => ⟨fun hh => fnm_no (db_ok n [] _ hn hh), fun he => fnm_no (by rw [he]; exact h)⟩
theorem nmle_has : ∀ (t : Ty), (∀ s, t.has s → s.length ≤ 10) → t.nmle
  | .zero, _ => trivial
  | .one, _ => trivial
  | .bound _, _ => trivial
  | .name s, h => h s rfl
  | .sum a b, h => ⟨nmle_has a fun s hs => h s (.inl hs), nmle_has b fun s hs => h s (.inr hs)⟩
  | .prod a b, h => ⟨nmle_has a fun s hs => h s (.inl hs), nmle_has b fun s hs => h s (.inr hs)⟩
  | .loop a, h => nmle_has a h

/-- What derived gives. -/
def DVd (w : World) (t : Ty) (nm : List UInt8) (e : Ending) (w' : World) : Prop := ∃ o q b, Der t nm o ∧ b = o.isSome ∧ e = .returned (.tuple #[.pointer q, .bool b]) ∧ TyAt w' (o.getD .zero) q ∧ Below w.heap.size w w'

set_option maxHeartbeats 4000000 in
set_option maxRecDepth 100000 in
theorem derived_any (t : Ty) (nm : List UInt8) (B : Nat) (w : World) (p : Option Addr) (hp : TyAt w t p) (hat : t.atoms ≤ 400) (hfr : Fresh t nm 0) (htab : TabB B w) (hB : B ≤ w.heap.size) :
    Calls Tryz.prog 101 #[.pointer p, .string (St nm)] w (DVd w t nm) := by
  have HO : Hid (Calls Tryz.prog 154 #[.pointer (some ⟨w.heap.size, 0, none⟩), .pointer p, .string (St nm)] (w.alloc (.cells #[.int .i64 0, .bool false] 184)) fun e w' => ∃ r g' f', OfR t nm false 0 r g' f' ∧ XP (w.alloc (.cells #[.int .i64 0, .bool false] 184)) B w.heap.size f' r g' e w') :=
    dof_any B w.heap.size 400 t nm 0 false _ p hat (by omega) ⟨block_new w _, htab.below ((up1 w _).mono hB), hB⟩ (hp.up (up1 w _)) hfr fun _ => by omega
  clear hp hat hfr htab hB
  go_enter Tryz.func101, Tryz.ntmps101
  go_wp2_with (go_at_call 154; (with_reducible refine HO.out.mono ?_); rintro e w2 ⟨r, g', f', hr, q, rfl, hq, hx, hg⟩; have HR := Lib.hid hr; have HQ := Lib.hid hq; have HX := Lib.hid hx; have HB2 : Hid (Below w.heap.size w w2) := up_grown (up1 w _) hg (Nat.le_refl _); have c1 : w2.cell? ⟨w.heap.size, 1, none⟩ = some (.bool g') := block_cell hx.h 1; have l1 := lt_of_block hx.h; clear hr hq hx hg)
  go_region
  go_wp2
  go_ret2
  obtain ⟨_, _, h3⟩ := HR.out
  obtain ⟨o, hd, h1, h2, _⟩ := h3 rfl
  refine ⟨o, q, !g', hd, ?_, rfl, ?_, up_drew HB2.out⟩
  · rw [h1]
    cases o <;> rfl
  · rw [← h2]
    exact HQ.out.up (up_drew (Below.refl _ _))

set_option maxHeartbeats 4000000 in
set_option maxRecDepth 100000 in
theorem DerivOf_any (s nm : ByteArray) (B : Nat) (w : World) (hs : s.size ≤ 9223372036854775807) (htab : TabB B w) (hB : B ≤ w.heap.size) :
    Calls Tryz.prog 47 #[.string s, .string nm] w fun e w' => e = .returned (.tuple #[.string (St ((derivOf (rdTy s.data.toList) nm.data.toList).getD [])), .bool (derivOf (rdTy s.data.toList) nm.data.toList).isSome]) ∧ Below w.heap.size w w' := by
  have hv := fun w => readType_rt s w hs
  have hn := fun v h => rdTy_some (l := s.data.toList) (n := v) h
  have HP : Hid (∀ w, Calls Tryz.prog 52 #[.string nm] w fun e w' => e = .returned (.bool (paramB nm.data.toList)) ∧ Below w.heap.size w w') := fun w => isParameter_all nm.data.toList w
  have HD : Hid (∀ (t : Ty) (w1 : World) (p : Option Addr), TyAt w1 t p → t.atoms ≤ 400 → Fresh t nm.data.toList 0 → Below w.heap.size w w1 → Calls Tryz.prog 101 #[.pointer p, .string nm] w1 (DVd w1 t nm.data.toList)) := fun t w1 p h1 h2 h3 hb => derived_any t nm.data.toList B w1 p h1 h2 h3 (htab.below (hb.mono hB)) (by have := hb.size; omega)
  generalize nm.data.toList = x at *
  generalize rdTy s.data.toList = o at *
  clear hs
  have HV := Lib.hid hv
  clear hv
  cases o with
  | none =>
    rw [show derivOf none x = none by unfold derivOf; split <;> rfl]
    clear hn htab hB HD HP
    show Calls _ _ _ _ (fun e w' => e = .returned (.tuple #[.string (St []), .bool false]) ∧ _)
    go_enter Tryz.func47, Tryz.ntmps47
    go_wp2_with (go_at_call 82; (with_reducible refine (HV.out _).mono ?_); rintro e w1 ⟨hb1, rfl⟩; have HB1 := Lib.hid hb1; clear hb1)
    go_ret2
    exact ⟨rfl, HB1.out⟩
  | some n =>
    obtain ⟨hok, hat⟩ := hn n rfl
    clear hn
    cases hp : paramB x with
    | false =>
      rw [hp] at HP
      rw [show derivOf (some n) x = none by unfold derivOf; rw [hp]; rfl]
      clear htab hB HD hok hat hp
      show Calls _ _ _ _ (fun e w' => e = .returned (.tuple #[.string (St []), .bool false]) ∧ _)
      go_enter Tryz.func47, Tryz.ntmps47
      go_wp2_with (first
        | (go_at_call 82; (with_reducible refine (HV.out _).mono ?_); rintro e w1 ⟨hb1, g, rfl, hpt⟩; have HB1 := Lib.hid hb1; clear hb1)
        | (go_at_call 52; (with_reducible refine (HP.out _).mono ?_); rintro e w2 ⟨rfl, hb2⟩; have HB2 := Lib.hid (up_trans HB1.out hb2); clear hb2))
      go_ret2
      exact ⟨rfl, HB2.out⟩
    | true =>
      rw [hp] at HP
      have h3 := ok_ok3 hok
      have hx := name_ok (.inl hp)
      have HD2 : Hid (∀ (w1 : World) (p : Option Addr), TyAt w1 (n.db []) p → Below w.heap.size w w1 → Calls Tryz.prog 101 #[.pointer p, .string nm] w1 (DVd w1 (n.db []) x)) := fun w1 p h1 hb => HD.out _ w1 p h1 (by rw [NT.db_atoms]; exact hat) (fresh_db h3 hx) hb
      have HT : Hid (∀ (d : Ty) (w1 : World) (p : Option Addr), Der (n.db []) x (some d) → Below w.heap.size w w1 → TyAt w1 d p → Calls Tryz.prog 83 #[.pointer p] w1 fun e w' => e = .returned (.tuple #[.string (St (d.told.getD [])), .bool d.told.isSome]) ∧ Below w1.heap.size w1 w') := fun d w1 p hd hw hpd =>
        told_two d B w1 p hpd (by have := hd.atoms d rfl; omega) (hd.scoped (db_scoped n []) d rfl) (nmle_has d fun s hs => (db_ok n [] s h3 (hd.names d s rfl hs)).2.2.2.2) (htab.below (hw.mono hB)) (by have := hw.size; omega)
      have HE : Hid (∀ o, Der (n.db []) x o → derivOf (some n) x = o.bind Ty.told) := fun o ho => by
        unfold derivOf
        rw [if_pos hp, Option.bind_some, derO_eq ho]
      generalize derivOf (some n) x = res at *
      clear htab hB HD hok hat hp h3 hx
      go_enter Tryz.func47, Tryz.ntmps47
      go_upto_region 5 with (first
        | (go_at_call 82; (with_reducible refine (HV.out _).mono ?_); rintro e w1 ⟨hb1, g, rfl, hpt⟩; have HB1 := Lib.hid hb1; have HPT := Lib.hid hpt; clear hb1 hpt)
        | (go_at_call 52; (with_reducible refine (HP.out _).mono ?_); rintro e w2 ⟨rfl, hb2⟩; have HPT2 := Lib.hid (HPT.out.up hb2); have HB2 := Lib.hid (up_trans HB1.out hb2); clear hb2)
        | (go_at_call 101; (with_reducible refine (HD2.out _ _ HPT2.out HB2.out).mono ?_); rintro e w3 ⟨o, q, ob, hd, hob, rfl, hq, hb3⟩; have HB3 := Lib.hid (up_trans HB2.out hb3); have HDE := Lib.hid hd; have HQ := Lib.hid hq; have HOB := Lib.hid hob; clear hb3 hd hq hob))
      cases o with
      | none =>
        obtain rfl : ob = false := HOB.out
        obtain rfl : res = none := HE.out none HDE.out
        go_wp2
        go_ret2
        exact ⟨rfl, HB3.out⟩
      | some d =>
        obtain rfl : ob = true := HOB.out
        have HQ2 : Hid (TyAt w3 d q) := HQ.out
        obtain rfl : res = d.told := HE.out (some d) HDE.out
        go_wp2_with (go_at_call 83; (with_reducible refine (HT.out d _ _ HDE.out HB3.out HQ2.out).mono ?_); rintro e w4 ⟨rfl, hb4⟩; have HB4 := Lib.hid (up_trans HB3.out hb4); clear hb4)
        go_ret2
        exact ⟨rfl, HB4.out⟩

end Go.Proofs.YtpokompplapkhaaGreatDoor
