/- How long a canonical text is. What a derivative's text says. The program's contexts: contextOf, ContextIs. -/
import Derived.Test.YtpokompplapkhaaGreatDoorMI
import Derived.Test.YtpokompplapkhaaGreatDoorNam
import Derived.Test.YtpokompplapkhaaGreatDoorDrv
import Derived.Test.YtpokompplapkhaaGreatDoorVOf
namespace Go.Proofs.YtpokompplapkhaaGreatDoor
open Go.RowKit

theorem told_len {n : NT} (hn : n.ok3) {c : List UInt8} (h : (n.db []).told = some c) : c.length ≤ 8000 := by
  obtain ⟨h1, _⟩ := told_rd hn h
  exact (rdTy_tr h1).2.2.2.1

end Go.Proofs.YtpokompplapkhaaGreatDoor

namespace Go.Proofs.YtpokompplapkhaaGreatDoor
open Go.RowKit
set_option linter.unusedVariables false
set_option linter.unusedSimpArgs false

theorem derO_some {t : Ty} {x : List UInt8} {d : Ty} (h : derO t x = some d) : Der t x (some d) := by
  unfold derO at h
  split at h
  · rename_i he
    have := Classical.choose_spec he
    rw [h] at this
    exact this
  · cases h
theorem derivOf_some {l x c : List UInt8} (h : derivOf (rdTy l) x = some c) :
    ∃ n d, rdTy l = some n ∧ paramB x = true ∧ Der (n.db []) x (some d) ∧ d.told = some c ∧ (∃ m, rdTy c = some m ∧ m.ok ∧ m.db [] = d) ∧ c.length ≤ 8000 := by
  unfold derivOf at h
  split at h
  · rename_i hp
    cases hr : rdTy l with
    | none => rw [hr] at h; cases h
    | some n =>
      rw [hr] at h
      have h : (derO (n.db []) x).bind Ty.told = some c := h
      obtain ⟨hok, hat⟩ := rdTy_some hr
      cases hd : derO (n.db []) x with
      | none => rw [hd] at h; cases h
      | some d =>
        rw [hd] at h
        have h : d.told = some c := h
        have hD : Der (n.db []) x (some d) := derO_some hd
        have hsc := hD.scoped (db_scoped n []) d rfl
        have hnm : ∀ s, d.has s → nmOk s := fun s hs => db_ok n [] s (ok_ok3 hok) (hD.names d s rfl hs)
        obtain ⟨m0, h3, hdb⟩ := named d hsc hnm (by have := hD.atoms d rfl; omega)
        have ht : (m0.db []).told = some c := by rw [hdb]; exact h
        obtain ⟨m, h1, h2, h4, _⟩ := told_db h3 ht
        exact ⟨n, d, rfl, hp, hD, h, ⟨m, h1, h2, h4.trans hdb⟩, told_len h3 ht⟩
  · cases h

end Go.Proofs.YtpokompplapkhaaGreatDoor

namespace Go.Proofs.YtpokompplapkhaaGreatDoor
open Go.RowKit
set_option linter.unusedVariables false
set_option linter.unusedSimpArgs false

/-- A closed type, a derivative and a context of it. -/
noncomputable def cxOf (l x c : List UInt8) : Option (NT × NT × V) := match clTy l, derivOf (rdTy l) x with
  | some N, some d => (valsOf d c 100).map fun q => (N, q.1, q.2)
  | _, _ => none
def CXPost (w : World) (o : Option (NT × NT × V)) (e : Ending) (w' : World) : Prop :=
  Below w.heap.size w w' ∧ match o with
    | some (N, _, y) => ∃ g q, e = .returned (.tuple #[.pointer (some ⟨g, 0, none⟩), .pointer (some ⟨q, 0, none⟩)]) ∧ TyAt w' (N.db []) (some ⟨g, 0, none⟩) ∧ VAt w' y (some ⟨q, 0, none⟩)
    | none => ∃ p, e = .returned (.tuple #[.pointer p, .pointer none])
set_option maxHeartbeats 4000000 in
set_option maxRecDepth 100000 in
theorem contextOf_any (s nm c : ByteArray) (B : Nat) (w : World) (hs : s.size ≤ 9223372036854775807) (hc : c.size ≤ 9223372036854775807) (hT : TabB B w) (hB : B ≤ w.heap.size) :
    Calls Tryz.prog 50 #[.string s, .string nm, .string c] w (CXPost w (cxOf s.data.toList nm.data.toList c.data.toList)) := by
  have H1 := closedType_any s w hs
  have H2 : Hid (∀ w1, Below w.heap.size w w1 → Calls Tryz.prog 47 #[.string s, .string nm] w1 fun e w' => e = .returned (.tuple #[.string (St ((derivOf (rdTy s.data.toList) nm.data.toList).getD [])), .bool (derivOf (rdTy s.data.toList) nm.data.toList).isSome]) ∧ Below w1.heap.size w1 w') := fun w1 hw => DerivOf_any s nm B w1 hs (hT.below (hw.mono hB)) (by have := hw.size; omega)
  have hl := fun d h => derivOf_some (l := s.data.toList) (x := nm.data.toList) (c := d) h
  have H3 : Hid (∀ (d : List UInt8) w1, d.length ≤ 8000 → Calls Tryz.prog 51 #[.string (St d), .string c, .int .i64 100] w1 (VOPost w1 (valsOf d c.data.toList 100))) := fun d w1 hd => valueOf_any (St d) c 100 w1 (by show d.length ≤ _; omega) hc
  have HN : Hid (∀ w', Below w.heap.size w w' → CXPost w none (.returned (.tuple #[.pointer none, .pointer none])) w') := fun w' hb => ⟨hb, none, rfl⟩
  unfold cxOf
  clear hs hc hT hB
  cases ht : clTy s.data.toList with
  | none =>
    rw [ht] at H1
    have HC : Hid (Calls Tryz.prog 94 #[.string s] w fun e w' => Below w.heap.size w w' ∧ e = .returned (.pointer none)) := H1
    show Calls _ _ _ _ (CXPost w none)
    generalize (derivOf (rdTy s.data.toList) nm.data.toList).getD [] = dt at *
    generalize (derivOf (rdTy s.data.toList) nm.data.toList).isSome = db at *
    generalize CXPost w none = Q at *
    clear H1 hl ht H3
    cases db <;>
    · go_enter Tryz.func50, Tryz.ntmps50
      go_wp2_with (first
        | (go_at_call 94; (with_reducible refine HC.out.mono ?_); rintro e w1 ⟨hb1, rfl⟩; have HB1 := Lib.hid hb1; clear hb1)
        | (go_at_call 47; (with_reducible refine (H2.out _ HB1.out).mono ?_); rintro e w2 ⟨rfl, hb2⟩; have HB2 := Lib.hid (up_trans HB1.out hb2); clear hb2))
      exact HN.out _ HB2.out
  | some N =>
    rw [ht] at H1
    have HC : Hid (Calls Tryz.prog 94 #[.string s] w fun e w' => Below w.heap.size w w' ∧ ∃ g, e = .returned (.pointer (some ⟨g, 0, none⟩)) ∧ TyAt w' (N.db []) (some ⟨g, 0, none⟩)) := H1
    cases hd : derivOf (rdTy s.data.toList) nm.data.toList with
    | none =>
      rw [hd] at H2
      replace H2 : Hid (∀ w1, Below w.heap.size w w1 → Calls Tryz.prog 47 #[.string s, .string nm] w1 fun e w' => e = .returned (.tuple #[.string (St []), .bool false]) ∧ Below w1.heap.size w1 w') := H2
      show Calls _ _ _ _ (CXPost w none)
      generalize CXPost w none = Q at *
      clear H1 hl ht hd H3
      go_enter Tryz.func50, Tryz.ntmps50
      go_wp2_with (first
        | (go_at_call 94; (with_reducible refine HC.out.mono ?_); rintro e w1 ⟨hb1, g1, rfl, _⟩; have HB1 := Lib.hid hb1; clear hb1)
        | (go_at_call 47; (with_reducible refine (H2.out _ HB1.out).mono ?_); rintro e w2 ⟨rfl, hb2⟩; have HB2 := Lib.hid (up_trans HB1.out hb2); clear hb2))
      exact HN.out _ HB2.out
    | some d =>
      have hdl : d.length ≤ 8000 := by obtain ⟨_, _, _, _, _, _, _, h⟩ := hl d hd; exact h
      rw [hd] at H2
      replace H2 : Hid (∀ w1, Below w.heap.size w w1 → Calls Tryz.prog 47 #[.string s, .string nm] w1 fun e w' => e = .returned (.tuple #[.string (St d), .bool true]) ∧ Below w1.heap.size w1 w') := H2
      have H4 := Lib.hid fun w1 => H3.out d w1 hdl
      show Calls _ _ _ _ (CXPost w ((valsOf d c.data.toList 100).map fun q => (N, q.1, q.2)))
      cases hv : valsOf d c.data.toList 100 with
      | none =>
        rw [hv] at H4
        replace H4 : Hid (∀ w1, Calls Tryz.prog 51 #[.string (St d), .string c, .int .i64 100] w1 fun e w' => Below w1.heap.size w1 w' ∧ ∃ p, e = .returned (.tuple #[.pointer p, .pointer none])) := H4
        show Calls _ _ _ _ (CXPost w none)
        have HN2 : Hid (∀ w' p, Below w.heap.size w w' → CXPost w none (.returned (.tuple #[.pointer p, .pointer none])) w') := fun w' p hb => ⟨hb, p, rfl⟩
        generalize CXPost w none = Q at *
        clear H1 hl ht hd H3 hv hdl HN
        generalize St d = ds at *
        go_enter Tryz.func50, Tryz.ntmps50
        go_wp2_with (first
          | (go_at_call 94; (with_reducible refine HC.out.mono ?_); rintro e w1 ⟨hb1, g1, rfl, _⟩; have HB1 := Lib.hid hb1; clear hb1)
          | (go_at_call 47; (with_reducible refine (H2.out _ HB1.out).mono ?_); rintro e w2 ⟨rfl, hb2⟩; have HB2 := Lib.hid (up_trans HB1.out hb2); clear hb2)
          | (go_at_call 51; (with_reducible refine (H4.out _).mono ?_); rintro e w3 ⟨hb3, p3, rfl⟩; have HB3 := Lib.hid (up_trans HB2.out hb3); clear hb3))
        exact HN2.out _ _ HB3.out
      | some q =>
        obtain ⟨M, y⟩ := q
        rw [hv] at H4
        replace H4 : Hid (∀ w1, Calls Tryz.prog 51 #[.string (St d), .string c, .int .i64 100] w1 fun e w' => Below w1.heap.size w1 w' ∧ ∃ g q, e = .returned (.tuple #[.pointer (some ⟨g, 0, none⟩), .pointer (some ⟨q, 0, none⟩)]) ∧ TyAt w' (M.db []) (some ⟨g, 0, none⟩) ∧ VAt w' y (some ⟨q, 0, none⟩)) := H4
        show Calls _ _ _ _ (CXPost w (some (N, M, y)))
        have HY : Hid (∀ w' g q, Below w.heap.size w w' → TyAt w' (N.db []) (some ⟨g, 0, none⟩) → VAt w' y (some ⟨q, 0, none⟩) → CXPost w (some (N, M, y)) (.returned (.tuple #[.pointer (some ⟨g, 0, none⟩), .pointer (some ⟨q, 0, none⟩)])) w') := fun w' g q hb h1 h2 => ⟨hb, g, q, rfl, h1, h2⟩
        generalize CXPost w (some (N, M, y)) = Q at *
        clear H1 hl ht hd H3 hv hdl HN
        generalize St d = ds at *
        go_enter Tryz.func50, Tryz.ntmps50
        go_wp2_with (first
          | (go_at_call 94; (with_reducible refine HC.out.mono ?_); rintro e w1 ⟨hb1, g1, rfl, ht1⟩; have HB1 := Lib.hid hb1; have HT1 := Lib.hid ht1; clear hb1 ht1)
          | (go_at_call 47; (with_reducible refine (H2.out _ HB1.out).mono ?_); rintro e w2 ⟨rfl, hb2⟩; have HB2 := Lib.hid (up_trans HB1.out hb2); have HT2 := Lib.hid (HT1.out.up hb2); clear hb2)
          | (go_at_call 51; (with_reducible refine (H4.out _).mono ?_); rintro e w3 ⟨hb3, g3, q3, rfl, _, hv3⟩; have HB3 := Lib.hid (up_trans HB2.out hb3); have HT3 := Lib.hid (HT2.out.up hb3); have HV3 := Lib.hid hv3; clear hb3 hv3))
        exact HY.out _ _ _ HB3.out HT3.out HV3.out

/-- What ContextIs gives. -/
noncomputable def cxB (l x c : List UInt8) : Bool := (cxOf l x c).isSome
set_option maxHeartbeats 4000000 in
theorem ContextIs_any (s nm c : ByteArray) (B : Nat) (w : World) (hs : s.size ≤ 9223372036854775807) (hc : c.size ≤ 9223372036854775807) (hT : TabB B w) (hB : B ≤ w.heap.size) :
    Calls Tryz.prog 15 #[.string s, .string nm, .string c] w fun e w' => e = .returned (.bool (cxB s.data.toList nm.data.toList c.data.toList)) ∧ Below w.heap.size w w' := by
  have H := contextOf_any s nm c B w hs hc hT hB
  unfold cxB
  clear hs hc hT hB
  generalize cxOf s.data.toList nm.data.toList c.data.toList = o at *
  cases o with
  | none =>
    have HC : Hid (Calls Tryz.prog 50 #[.string s, .string nm, .string c] w fun e w' => Below w.heap.size w w' ∧ ∃ p, e = .returned (.tuple #[.pointer p, .pointer none])) := H
    clear H
    go_enter Tryz.func15, Tryz.ntmps15
    go_wp2_with (go_at_call 50; (with_reducible refine HC.out.mono ?_); rintro e w1 ⟨hb1, p1, rfl⟩; have HB1 := Lib.hid hb1; clear hb1)
    go_ret
    exact ⟨rfl, HB1.out⟩
  | some q =>
    obtain ⟨N, M, y⟩ := q
    have HC : Hid (Calls Tryz.prog 50 #[.string s, .string nm, .string c] w fun e w' => Below w.heap.size w w' ∧ ∃ g q, e = .returned (.tuple #[.pointer (some ⟨g, 0, none⟩), .pointer (some ⟨q, 0, none⟩)]) ∧ TyAt w' (N.db []) (some ⟨g, 0, none⟩) ∧ VAt w' y (some ⟨q, 0, none⟩)) := H
    clear H
    go_enter Tryz.func15, Tryz.ntmps15
    go_wp2_with (go_at_call 50; (with_reducible refine HC.out.mono ?_); rintro e w1 ⟨hb1, g1, q1, rfl, _, _⟩; have HB1 := Lib.hid hb1; clear hb1)
    go_ret
    exact ⟨rfl, HB1.out⟩

end Go.Proofs.YtpokompplapkhaaGreatDoor
