/- ValueIs, the program's and the reference's. -/
import Derived.Test.YtpokompplapkhaaGreatDoorVOf
import Derived.Test.YtpokompplapkhaaGreatDoorSIs
namespace Go.Proofs.YtpokompplapkhaaGreatDoor
set_option maxHeartbeats 4000000
set_option maxRecDepth 100000
open Go.RowKit
set_option linter.unusedVariables false
set_option linter.unusedSimpArgs false
def isB (l v : List UInt8) (n : Int) : Bool := (valsOf l v n).isSome
theorem isOfN_top (n : Int) (x : V) {l : List UInt8} {N : NT} (h : clTy l = some N) : x.isOfN n [] N = x.isOf n [] (N.db []) := by
 obtain ⟨_, ho, _, hp, _⟩ := clTy_some h
 exact isOfN_db n x [] N trivial (ok_ok3 ho) hp (fun e he => by cases he) (fun k e r hd => by simp at hd)
theorem clTy_none {l : List UInt8} (h : clTy l = none) : closedOf (rdTy l) = false := by
 unfold clTy at h
 cases hr : rdTy l with
 | none => rfl
 | some N =>
  rw [hr] at h
  simp only at h
  split at h
  · rename_i hc
    simp only [closedOf, hc]
    rfl
  · cases h
theorem clTy_closed {l : List UInt8} {N : NT} (h : clTy l = some N) : closedOf (rdTy l) = true := by
 obtain ⟨hr, _, _, _, hc⟩ := clTy_some h
 rw [hr]
 simp only [closedOf, hc]
 rfl
theorem specValueIs_any (s v : ByteArray) (n : Int) (w : World) (hs : s.size <= 9223372036854775807) (hv : v.size <= 9223372036854775807) :
 Calls Tryz.prog 33 #[.string s, .string v, .int .i64 n] w fun e w' => e = .returned (.bool (isB s.data.toList v.data.toList n)) /\ Below w.heap.size w w' := by
 have H1 := l1Closed_any s w hs
 have H2 := fun w1 => l2Value_any v w1 hv
 have hx := fun x h => rdVal_ok (l := v.data.toList) (v := x) h
 have hxn := fun x h => rdVal_nodes (l := v.data.toList) (v := x) h
 unfold isB valsOf
 clear hs hv
 generalize rdVal v.data.toList = o2 at *
 have HIN : Hid (∀ w1, Calls Tryz.prog 80 #[.int .i64 n, .int .i64 0, .int .i64 100] w1 fun e w' => e = .returned (.bool (decide (0 <= n) && decide (n <= 100))) /\ w1 = w') := fun w1 => l6In_any n 0 100 w1
 have HV2 : Hid (∀ w1, Calls Tryz.prog 54 #[.string v] w1 fun e w' => Below w1.heap.size w1 w' /\ ∃ x A m c, e = .returned (.tuple #[.agg #[.string x, .slice A m c], .bool o2.isSome]) /\ ∀ y, o2 = some y -> TAt w' (fun _ => True) y.toTr (.agg #[.string x, .slice A m c])) := fun w1 => (H2 w1).mono fun e w' h => by
  obtain ⟨hb, h⟩ := h
  refine ⟨hb, ?_⟩
  cases o2 with
  | none => obtain ⟨x, A, m, c, he⟩ := h; exact ⟨x, A, m, c, he, fun y hy => by cases hy⟩
  | some z => obtain ⟨x, A, m, c, he, ht⟩ := h; exact ⟨x, A, m, c, he, fun y hy => by cases hy; exact ht.weak fun _ _ => trivial⟩
 clear H2
 cases hc : clTy s.data.toList with
 | none =>
  have hcl := clTy_none hc
  have HC : Hid (Calls Tryz.prog 48 #[.string s] w fun e w' => Below w.heap.size w w' /\ ∃ x A n' c, e = .returned (.tuple #[.agg #[.string x, .slice A n' c], .bool false])) := H1.mono fun e w' ⟨hb, x, A, n', c, he, _⟩ => ⟨hb, x, A, n', c, by rw [he, hcl]⟩
  show Calls _ _ _ _ (fun e w' => e = .returned (.bool false) /\ _)
  clear H1 hx hxn hc hcl
  go_enter Tryz.func33, Tryz.ntmps33
  go_wp2_with (first
   | (go_at_call 48; (with_reducible refine HC.out.mono ?_); rintro e w1 ⟨hb1, x1, A1, m1, c1, rfl⟩; have HB1 := Lib.hid (up_alloc hb1 (.cells #[.string x1, .slice A1 m1 c1] 59)); clear hb1)
   | (go_at_call 54; (with_reducible refine (HV2.out _).mono ?_); rintro e w2 ⟨hb2, x2, A2, m2, c2, rfl, _⟩; have HB2 := Lib.hid (up_alloc (up_trans HB1.out hb2) (.cells #[.string x2, .slice A2 m2 c2] 59)); clear hb2))
  go_ret
  exact ⟨rfl, HB2.out⟩
 | some N =>
  have hcl := clTy_closed hc
  obtain ⟨hrN, hok, hat, _⟩ := clTy_some hc
  have HC : Hid (Calls Tryz.prog 48 #[.string s] w fun e w' => Below w.heap.size w w' /\ ∃ x A n' c, e = .returned (.tuple #[.agg #[.string x, .slice A n' c], .bool true]) /\ TAt w' (fun _ => True) N.toTr (.agg #[.string x, .slice A n' c])) := H1.mono fun e w' ⟨hb, x, A, n', c, he, ht⟩ => ⟨hb, x, A, n', c, by rw [he, hcl], (ht N hrN).weak fun _ _ => trivial⟩
  cases o2 with
  | none =>
   show Calls _ _ _ _ (fun e w' => e = .returned (.bool false) /\ _)
   clear H1 hx hxn hc hcl
   go_enter Tryz.func33, Tryz.ntmps33
   go_wp2_with (first
    | (go_at_call 48; (with_reducible refine HC.out.mono ?_); rintro e w1 ⟨hb1, x1, A1, m1, c1, rfl, _⟩; have HB1 := Lib.hid (up_alloc hb1 (.cells #[.string x1, .slice A1 m1 c1] 59)); clear hb1)
    | (go_at_call 54; (with_reducible refine (HV2.out _).mono ?_); rintro e w2 ⟨hb2, x2, A2, m2, c2, rfl, _⟩; have HB2 := Lib.hid (up_alloc (up_trans HB1.out hb2) (.cells #[.string x2, .slice A2 m2 c2] 59)); clear hb2))
   go_ret
   exact ⟨rfl, HB2.out⟩
  | some x =>
   have hT := isOfN_top n x hc
   have hxo := hx x rfl
   show Calls _ _ _ _ (fun e w' => e = .returned (.bool (if (decide (0 <= n) && decide (n <= 100) && x.isOf n [] (N.db [])) = true then some (N, x) else none).isSome) /\ _)
   rw [<- hT]
   clear H1 hx hxn hc hcl hT
   by_cases h0 : 0 <= n /\ n <= 100
   · have HIS : Hid (∀ w1 vt vv A, TAt w1 (fun _ => True) N.toTr vt -> TAt w1 (fun _ => True) x.toTr vv -> Calls Tryz.prog 81 #[vt, .slice A 0 0, vv, .int .i64 n] w1 fun e w' => e = .returned (.bool (x.isOfN n [] N)) /\ Below w1.heap.size w1 w') := fun w1 vt vv A h1 h2 => l2Is_any _ x (Nat.le_refl _) N [] A 0 vt vv w1 n h1 trivial h2 trivial (ok_ok3 hok) (by simp; omega) hxo h0.1 h0.2
     rw [decide_eq_true h0.1, decide_eq_true h0.2] at HIN ⊢
     have hr : (if (true && true && x.isOfN n [] N) = true then some (N, x) else none).isSome = x.isOfN n [] N := by cases x.isOfN n [] N <;> rfl
     rw [hr]
     generalize x.isOfN n [] N = b at *
     replace HIN : Hid (∀ w1, Calls Tryz.prog 80 #[.int .i64 n, .int .i64 0, .int .i64 100] w1 fun e w' => e = .returned (.bool true) /\ w1 = w') := HIN
     have HVX : Hid (∀ w' xx A m c, (∀ y, some x = some y -> TAt w' (fun _ => True) y.toTr (.agg #[.string xx, .slice A m c])) -> TAt w' (fun _ => True) x.toTr (.agg #[.string xx, .slice A m c])) := fun w' xx A m c h => h x rfl
     clear h0 hok hat hrN hxo hr
     go_enter Tryz.func33, Tryz.ntmps33
     go_wp2_with (first
      | (go_at_call 48; (with_reducible refine HC.out.mono ?_); rintro e w1 ⟨hb1, x1, A1, m1, c1, rfl, ht1⟩; have HB1 := Lib.hid (up_alloc hb1 (.cells #[.string x1, .slice A1 m1 c1] 59)); have HT1 := Lib.hid (ht1.up (up1 w1 (.cells #[.string x1, .slice A1 m1 c1] 59))); have HK1 := Lib.hid (block_new w1 (.cells #[.string x1, .slice A1 m1 c1] 59)); clear hb1 ht1)
      | (go_at_call 54; (with_reducible refine (HV2.out _).mono ?_); rintro e w2 ⟨hb2, x2, A2, m2, c2, rfl, hv2⟩; have HB2 := Lib.hid (up_alloc (up_trans HB1.out hb2) (.cells #[.string x2, .slice A2 m2 c2] 59)); have HT2 := Lib.hid ((HT1.out.up hb2).up (up1 w2 (.cells #[.string x2, .slice A2 m2 c2] 59))); have HX2 := Lib.hid ((HVX.out _ _ _ _ _ hv2).up (up1 w2 (.cells #[.string x2, .slice A2 m2 c2] 59))); have e0 : w2.cell? ⟨w1.heap.size, 0, none⟩ = some (.string x1) := block_cell (block_up hb2 HK1.out) 0; have e1 : w2.cell? ⟨w1.heap.size, 1, none⟩ = some (.slice A1 m1 c1) := block_cell (block_up hb2 HK1.out) 1; have lw : w1.heap.size < w2.heap.size := lt_of_block (block_up hb2 HK1.out); clear hb2 hv2)
      | (go_at_call 80; (with_reducible refine (HIN.out _).mono ?_); rintro e w3 ⟨rfl, rfl⟩)
      | (go_at_call 81; (with_reducible refine (HIS.out _ _ _ _ (HT2.out.up (by repeat (first | exact Below.refl _ _ | refine up_alloc ?_ _))) (HX2.out.up (by repeat (first | exact Below.refl _ _ | refine up_alloc ?_ _)))).mono ?_); rintro e w4 ⟨rfl, hb4⟩; have HB4 := Lib.hid (up_trans (up_alloc HB2.out _) hb4); clear hb4))
     go_ret
     exact ⟨by simp, HB4.out⟩
   · have hz : (decide (0 <= n) && decide (n <= 100)) = false := by simp; omega
     rw [hz, Bool.false_and] 
     rw [hz] at HIN
     show Calls _ _ _ _ (fun e w' => e = .returned (.bool false) /\ _)
     clear h0 hok hat hrN hxo hz
     go_enter Tryz.func33, Tryz.ntmps33
     go_wp2_with (first
      | (go_at_call 48; (with_reducible refine HC.out.mono ?_); rintro e w1 ⟨hb1, x1, A1, m1, c1, rfl, _⟩; have HB1 := Lib.hid (up_alloc hb1 (.cells #[.string x1, .slice A1 m1 c1] 59)); clear hb1)
      | (go_at_call 54; (with_reducible refine (HV2.out _).mono ?_); rintro e w2 ⟨hb2, x2, A2, m2, c2, rfl, _⟩; have HB2 := Lib.hid (up_alloc (up_trans HB1.out hb2) (.cells #[.string x2, .slice A2 m2 c2] 59)); clear hb2)
      | (go_at_call 80; (with_reducible refine (HIN.out _).mono ?_); rintro e w3 ⟨rfl, rfl⟩))
     go_ret
     exact ⟨rfl, HB2.out⟩
end Go.Proofs.YtpokompplapkhaaGreatDoor

