/- The reference's ContextIs. -/
import Derived.Test.YtpokompplapkhaaGreatDoorNA
import Derived.Test.YtpokompplapkhaaGreatDoorSDrv
import Derived.Test.YtpokompplapkhaaGreatDoorVIs
import Derived.Test.YtpokompplapkhaaGreatDoorVMapS
namespace Go.Proofs.YtpokompplapkhaaGreatDoor
open Go.RowKit
set_option linter.unusedVariables false
set_option linter.unusedSimpArgs false

theorem cxB_def (l x c : List UInt8) : cxB l x c = ((clTy l).isSome && ((derivOf (rdTy l) x).isSome && isB ((derivOf (rdTy l) x).getD []) c 100)) := by
  unfold cxB cxOf
  cases clTy l with
  | none => rfl
  | some N =>
    cases derivOf (rdTy l) x with
    | none => rfl
    | some d => simp [isB]
theorem clTy_isSome {l : List UInt8} : (clTy l).isSome = closedOf (rdTy l) := by
  cases h : clTy l with
  | some N => rw [clTy_closed h]; rfl
  | none => rw [clTy_none h]; rfl
set_option maxHeartbeats 4000000 in
theorem specContextIs_any (s nm c : ByteArray) (w : World) (hs : s.size ≤ 9223372036854775807) (hc : c.size ≤ 9223372036854775807) :
    Calls Tryz.prog 14 #[.string s, .string nm, .string c] w fun e w' => e = .returned (.bool (cxB s.data.toList nm.data.toList c.data.toList)) ∧ Below w.heap.size w w' := by
  have HC : Hid (Calls Tryz.prog 48 #[.string s] w fun e w' => Below w.heap.size w w' ∧ ∃ x A n' c, e = .returned (.tuple #[.agg #[.string x, .slice A n' c], .bool (clTy s.data.toList).isSome])) := Lib.hid <| (l1Closed_any s w hs).mono fun e w' ⟨hb, x, A, n', c, he, ht⟩ => ⟨hb, x, A, n', c, by rw [he, clTy_isSome]⟩
  have HD : Hid (∀ w1, Calls Tryz.prog 49 #[.string s, .string nm] w1 fun e w' => e = .returned (.tuple #[.string (St ((derivOf (rdTy s.data.toList) nm.data.toList).getD [])), .bool (derivOf (rdTy s.data.toList) nm.data.toList).isSome]) ∧ Below w1.heap.size w1 w') := fun w1 => specDerivOf_any s nm w1 hs
  have hdl : ((derivOf (rdTy s.data.toList) nm.data.toList).getD []).length ≤ 8000 := by
    cases h : derivOf (rdTy s.data.toList) nm.data.toList with
    | none => simp
    | some d => obtain ⟨_, _, _, _, _, _, _, h⟩ := derivOf_some h; exact h
  have HV := Lib.hid fun w1 => specValueIs_any (St ((derivOf (rdTy s.data.toList) nm.data.toList).getD [])) c 100 w1 (by show ((derivOf (rdTy s.data.toList) nm.data.toList).getD []).length ≤ _; omega) hc
  rw [cxB_def]
  rw [show (St ((derivOf (rdTy s.data.toList) nm.data.toList).getD [])).data.toList = (derivOf (rdTy s.data.toList) nm.data.toList).getD [] from rfl] at HV
  clear hs hc hdl
  generalize isB ((derivOf (rdTy s.data.toList) nm.data.toList).getD []) c.data.toList 100 = b3 at *
  generalize St ((derivOf (rdTy s.data.toList) nm.data.toList).getD []) = ds at *
  generalize (derivOf (rdTy s.data.toList) nm.data.toList).isSome = b2 at *
  generalize (clTy s.data.toList).isSome = b1 at *
  cases b1 <;> cases b2 <;>
  · go_enter Tryz.func14, Tryz.ntmps14
    go_wp2_with (first
      | (go_at_call 48; (with_reducible refine HC.out.mono ?_); rintro e w1 ⟨hb1, x1, A1, m1, c1, rfl⟩; have HB1 := Lib.hid hb1; clear hb1)
      | (go_at_call 49; (with_reducible refine (HD.out _).mono ?_); rintro e w2 ⟨rfl, hb2⟩; have HB2 := Lib.hid (up_trans (up_alloc HB1.out _) hb2); clear hb2)
      | (go_at_call 33; (with_reducible refine (HV.out _).mono ?_); rintro e w3 ⟨rfl, hb3⟩; have HB3 := Lib.hid (up_trans HB2.out hb3); clear hb3))
    go_ret
    first | exact ⟨rfl, HB3.out⟩ | exact ⟨by simp, HB3.out⟩ | exact ⟨rfl, HB2.out⟩

end Go.Proofs.YtpokompplapkhaaGreatDoor
