/- The reference's ValueOf. -/
import Derived.Test.YtofbhdgccijbgaaGreatDoorTurn
import Derived.Test.YtofbhdgccijbgaaGreatDoorVMapI
import Derived.Test.YtofbhdgccijbgaaGreatDoorVIs
import Derived.Test.YtofbhdgccijbgaaGreatDoorVTxt
import Derived.Test.YtofbhdgccijbgaaGreatDoorMH
namespace Go.Proofs.YtofbhdgccijbgaaGreatDoor
open Go.RowKit
set_option linter.unusedVariables false
set_option linter.unusedSimpArgs false

theorem atN_db {l : List UInt8} {N : NT} (h : clTy l = some N) (x : V) (nm : List UInt8) : x.atN [] N nm = x.atE [] (N.db []) nm := by
  obtain ⟨_, ho, _, hp, _⟩ := clTy_some h
  unfold V.atN V.atE
  rw [labsN_db x [] N trivial (ok_ok3 ho) hp (fun e he => by cases he) (fun k e r hd => by simp at hd)]
  rfl
theorem turnN_top {l : List UInt8} {N : NT} (h : clTy l = some N) (g : List UInt8 → List UInt8 → List UInt8) (x : V) : x.turnN g [] N = x.turn g [] (N.db []) := by
  obtain ⟨_, ho, _, hp, _⟩ := clTy_some h
  exact turnN_db g x [] N trivial (ok_ok3 ho) hp (fun e he => by cases he) (fun k e r hd => by simp at hd)
/-- The trees of a type and of a value, read by the reference. -/
theorem l1Closed_tree {s : ByteArray} {N : NT} (w : World) (hs : s.size ≤ 9223372036854775807) (hc : clTy s.data.toList = some N) : Calls Tryz.prog 46 #[.string s] w fun e w' => Below w.heap.size w w' ∧ ∃ x A n' c, e = .returned (.tuple #[.agg #[.string x, .slice A n' c], .bool true]) ∧ TAt w' (fun _ => True) N.toTr (.agg #[.string x, .slice A n' c]) :=
  (l1Closed_any s w hs).mono fun e w' ⟨hb, x, A, n', c, he, ht⟩ => ⟨hb, x, A, n', c, by rw [he, clTy_closed hc], (ht N (clTy_some hc).1).weak fun _ _ => trivial⟩
theorem l1Closed_form (s : ByteArray) (w : World) (hs : s.size ≤ 9223372036854775807) : Calls Tryz.prog 46 #[.string s] w fun e w' => Below w.heap.size w w' ∧ ∃ x A n' c b, e = .returned (.tuple #[.agg #[.string x, .slice A n' c], .bool b]) :=
  (l1Closed_any s w hs).mono fun e w' ⟨hb, x, A, n', c, he, ht⟩ => ⟨hb, x, A, n', c, _, he⟩
theorem l2Value_tree {v : ByteArray} {x : V} (w : World) (hv : v.size ≤ 9223372036854775807) (hr : rdVal v.data.toList = some x) : Calls Tryz.prog 47 #[.string v] w fun e w' => Below w.heap.size w w' ∧ ∃ y A m c, e = .returned (.tuple #[.agg #[.string y, .slice A m c], .bool true]) ∧ TAt w' (fun _ => True) x.toTr (.agg #[.string y, .slice A m c]) :=
  (l2Value_any v w hv).mono fun e w' h => by
    rw [hr] at h
    obtain ⟨hb, y, A, m, c, he, ht⟩ := h
    exact ⟨hb, y, A, m, c, he, ht.weak fun _ _ => trivial⟩
theorem l2Value_form (v : ByteArray) (w : World) (hv : v.size ≤ 9223372036854775807) : Calls Tryz.prog 47 #[.string v] w fun e w' => Below w.heap.size w w' ∧ ∃ y A m c b, e = .returned (.tuple #[.agg #[.string y, .slice A m c], .bool b]) :=
  (l2Value_any v w hv).mono fun e w' h => by
    obtain ⟨hb, h⟩ := h
    cases hr : rdVal v.data.toList with
    | none => rw [hr] at h; obtain ⟨y, A, m, c, he⟩ := h; exact ⟨hb, y, A, m, c, _, he⟩
    | some x => rw [hr] at h; obtain ⟨y, A, m, c, he, _⟩ := h; exact ⟨hb, y, A, m, c, _, he⟩

set_option maxHeartbeats 8000000 in
set_option maxRecDepth 100000 in
theorem specValueOf_any (s v nm : ByteArray) (w : World) (hs : s.size ≤ 9223372036854775807) (hv : v.size ≤ 9223372036854775807) :
    Calls Tryz.prog 19 #[.string s, .string v, .string nm] w (VLPost w (voB s.data.toList v.data.toList nm.data.toList)) := by
  have HIS := Lib.hid fun w1 => specValueIs_any s v 100 w1 hs hv
  have HP : Hid (∀ w1, Calls Tryz.prog 51 #[.string nm] w1 fun e w' => e = .returned (.bool (paramB nm.data.toList)) ∧ w1 = w') := fun w1 => l1Param_any nm w1
  have HNONE : Hid (∀ w' A c, Below w.heap.size w w' → VLPost w none (.returned (.tuple #[.slice A 0 c, .bool false])) w') := fun w' A c hb => ⟨hb, _, _, rfl⟩
  cases ho : valsOf s.data.toList v.data.toList 100 with
  | none =>
    have HC := Lib.hid (l1Closed_form s w hs)
    have HV := Lib.hid fun w1 => l2Value_form v w1 hv
    have hz : isB s.data.toList v.data.toList 100 = false := by unfold isB; rw [ho]; rfl
    rw [hz] at HIS
    have hq : voB s.data.toList v.data.toList nm.data.toList = none := by unfold voB; rw [ho]
    rw [hq]
    generalize VLPost w none = Q at *
    clear hs hv ho hz hq
    go_enter Tryz.func19, Tryz.ntmps19
    go_wp2_with (first
      | (go_at_call 46; (with_reducible refine HC.out.mono ?_); rintro e w1 ⟨hb1, x1, A1, m1, c1, b1, rfl⟩; have HB1 := Lib.hid (up_alloc hb1 (.cells #[.string x1, .slice A1 m1 c1] 55)); clear hb1)
      | (go_at_call 47; (with_reducible refine (HV.out _).mono ?_); rintro e w2 ⟨hb2, x2, A2, m2, c2, b2, rfl⟩; have HB2 := Lib.hid (up_alloc (up_trans HB1.out hb2) (.cells #[.string x2, .slice A2 m2 c2] 55)); clear hb2)
      | (go_at_call 15; (with_reducible refine (HIS.out _).mono ?_); rintro e w3 ⟨rfl, hb3⟩; have HB3 := Lib.hid (up_trans HB2.out hb3); clear hb3))
    exact HNONE.out _ _ _ (up_alloc HB3.out _)
  | some q =>
    obtain ⟨N, x⟩ := q
    obtain ⟨hc, hr, _, _, hty⟩ := valsOf_some ho
    have hok := rdVal_ok hr
    have hnd := rdVal_nodes hr
    obtain ⟨_, hNo, hNa, _⟩ := clTy_some hc
    have HC := Lib.hid (l1Closed_tree w hs hc)
    have HV := Lib.hid fun w1 => l2Value_tree (v := v) (x := x) w1 hv hr
    have hz : isB s.data.toList v.data.toList 100 = true := by unfold isB; rw [ho]; rfl
    rw [hz] at HIS
    cases hp : paramB nm.data.toList with
    | false =>
      rw [hp] at HP
      have hq : voB s.data.toList v.data.toList nm.data.toList = none := by unfold voB; rw [ho]; simp only; rw [if_neg (by rw [hp]; simp)]
      rw [hq]
      generalize VLPost w none = Q at *
      clear hs hv ho hz hq hc hr hty hok hnd hNo hNa hp
      go_enter Tryz.func19, Tryz.ntmps19
      go_wp2_with (first
        | (go_at_call 46; (with_reducible refine HC.out.mono ?_); rintro e w1 ⟨hb1, x1, A1, m1, c1, rfl, _⟩; have HB1 := Lib.hid (up_alloc hb1 (.cells #[.string x1, .slice A1 m1 c1] 55)); clear hb1)
        | (go_at_call 47; (with_reducible refine (HV.out _).mono ?_); rintro e w2 ⟨hb2, x2, A2, m2, c2, rfl, _⟩; have HB2 := Lib.hid (up_alloc (up_trans HB1.out hb2) (.cells #[.string x2, .slice A2 m2 c2] 55)); clear hb2)
        | (go_at_call 15; (with_reducible refine (HIS.out _).mono ?_); rintro e w3 ⟨rfl, hb3⟩; have HB3 := Lib.hid (up_trans HB2.out hb3); clear hb3)
        | (go_at_call 51; (with_reducible refine (HP.out _).mono ?_); rintro e w4 ⟨rfl, rfl⟩))
      exact HNONE.out _ _ _ (up_alloc HB3.out _)
    | true =>
      rw [hp] at HP
      have hq : voB s.data.toList v.data.toList nm.data.toList = some (x.atE [] (N.db []) nm.data.toList) := by unfold voB; rw [ho]; simp only; rw [if_pos hp]
      rw [hq]
      have HM : Hid (∀ w1 gb A vt vv, Below w.heap.size w w1 → w.heap.size ≤ gb → TAt w1 (fun _ => True) N.toTr vt → TAt w1 (fun _ => True) x.toTr vv → TBx w1 w.heap.size gb nm.data.toList 1 0 [] → Calls Tryz.prog 53 #[.pointer (some ⟨gb, 0, none⟩), vt, .slice A 0 0, vv] w1 fun e w' => (∃ y A n c, e = .returned (.agg #[.string y, .slice A n c])) ∧ TBx w' w.heap.size gb nm.data.toList 1 0 (x.atE [] (N.db []) nm.data.toList) ∧ Below w.heap.size w1 w') := fun w1 gb A vt vv hb hg h1 h2 h3 => by
        have := l2Turn_any _ x (Nat.le_refl _) N [] A 0 vt vv w1 _ w.heap.size gb nm.data.toList 1 0 [] h1 trivial h2.low (fun k hk => hk) h3 hb.size trivial (ok_ok3 hNo) (by simp; omega) hok (by rw [isOfN_top 100 x hc]; exact hty) hp (by omega) (by omega) (by simp; omega)
        refine this.mono ?_
        rintro e w' ⟨⟨y, A, n, c, he, _⟩, h4, h5⟩
        rw [List.nil_append, atN_db hc] at h4
        exact ⟨⟨y, A, n, c, he⟩, h4, h5.bl⟩
      have HQ : Hid (∀ w1 w' gb, Below w.heap.size w w1 → Below w.heap.size w1 w' → TBx w' w.heap.size gb nm.data.toList 1 0 (x.atE [] (N.db []) nm.data.toList) → ∃ g c, w'.cell? ⟨gb, 3, none⟩ = some (.slice (some ⟨g, 0, none⟩) (x.atE [] (N.db []) nm.data.toList).length c) ∧ gb < w'.heap.size ∧ VLPost w (some (x.atE [] (N.db []) nm.data.toList)) (.returned (.tuple #[.slice (some ⟨g, 0, none⟩) (x.atE [] (N.db []) nm.data.toList).length c, .bool true])) w') := fun w1 w' gb hb1 hb2 ⟨g, c, h1, h2, _⟩ => ⟨g, c, block_cell h1 3, lt_of_block h1, Below.trans hb1 hb2, g, c, rfl, h2⟩
      have HTB : Hid (∀ w1, Below w.heap.size w w1 → TBx (((w1.alloc (.cells #[] 9)).alloc (.cells #[.string nm, .int .i64 1, .int .i64 0, .slice (some ⟨w1.heap.size, 0, none⟩) 0 0] 68)).alloc (.cells #[] 161)) w.heap.size (w1.heap.size + 1) nm.data.toList 1 0 []) := fun w1 hb => ⟨w1.heap.size, 0, block_alloc (new2 w1 _ _) _, SOwn.up (own_nil w1 _ hb.size 9) (up_alloc (up1 _ _) _), by have := hb.size; omega⟩
      generalize x.atE [] (N.db []) nm.data.toList = out at *
      generalize VLPost w (some out) = Q at *
      clear hs hv ho hz hq hc hr hty hok hnd hNo hNa hp HNONE
      go_enter Tryz.func19, Tryz.ntmps19
      go_wp2_with (first
        | (go_at_call 46; (with_reducible refine HC.out.mono ?_); rintro e w1 ⟨hb1, x1, A1, m1, c1, rfl, ht1⟩; have HB1 := Lib.hid (up_alloc hb1 (.cells #[.string x1, .slice A1 m1 c1] 55)); have HT1 := Lib.hid (ht1.up (up1 w1 (.cells #[.string x1, .slice A1 m1 c1] 55))); have HK1 := Lib.hid (block_new w1 (.cells #[.string x1, .slice A1 m1 c1] 55)); clear hb1 ht1)
        | (go_at_call 47; (with_reducible refine (HV.out _).mono ?_); rintro e w2 ⟨hb2, x2, A2, m2, c2, rfl, hv2⟩; have HB2 := Lib.hid (up_alloc (up_trans HB1.out hb2) (.cells #[.string x2, .slice A2 m2 c2] 55)); have HT2 := Lib.hid ((HT1.out.up hb2).up (up1 w2 (.cells #[.string x2, .slice A2 m2 c2] 55))); have HX2 := Lib.hid (hv2.up (up1 w2 (.cells #[.string x2, .slice A2 m2 c2] 55))); have HK1' := Lib.hid (block_alloc (block_up hb2 HK1.out) (.cells #[.string x2, .slice A2 m2 c2] 55)); have HK2 := Lib.hid (block_new w2 (.cells #[.string x2, .slice A2 m2 c2] 55)); clear hb2 hv2)
        | (go_at_call 15; (with_reducible refine (HIS.out _).mono ?_); rintro e w3 ⟨rfl, hb3⟩; have HB3 := Lib.hid (up_trans HB2.out hb3); have HT3 := Lib.hid (HT2.out.up hb3); have HX3 := Lib.hid (HX2.out.up hb3); have e0 : w3.cell? ⟨w1.heap.size, 0, none⟩ = some (.string x1) := block_cell (block_up hb3 HK1'.out) 0; have e1 : w3.cell? ⟨w1.heap.size, 1, none⟩ = some (.slice A1 m1 c1) := block_cell (block_up hb3 HK1'.out) 1; have l1 := lt_of_block (block_up hb3 HK1'.out); have e2 : w3.cell? ⟨w2.heap.size, 0, none⟩ = some (.string x2) := block_cell (block_up hb3 HK2.out) 0; have e3 : w3.cell? ⟨w2.heap.size, 1, none⟩ = some (.slice A2 m2 c2) := block_cell (block_up hb3 HK2.out) 1; have l2 := lt_of_block (block_up hb3 HK2.out); have e2' : (((w3.alloc (.cells #[] 9)).alloc (.cells #[.string nm, .int .i64 1, .int .i64 0, .slice (some ⟨w3.heap.size, 0, none⟩) 0 0] 68)).alloc (.cells #[] 161)).cell? ⟨w2.heap.size, 0, none⟩ = some (.string x2) := cell_up (up_alloc (up_alloc (up1 _ _) _) _) e2; have e3' : (((w3.alloc (.cells #[] 9)).alloc (.cells #[.string nm, .int .i64 1, .int .i64 0, .slice (some ⟨w3.heap.size, 0, none⟩) 0 0] 68)).alloc (.cells #[] 161)).cell? ⟨w2.heap.size, 1, none⟩ = some (.slice A2 m2 c2) := cell_up (up_alloc (up_alloc (up1 _ _) _) _) e3; clear hb3)
        | (go_at_call 51; (with_reducible refine (HP.out _).mono ?_); rintro e w4 ⟨rfl, rfl⟩)
        | (go_at_call 53; (with_reducible refine (HM.out _ _ _ _ _ (up_alloc (up_alloc (up_alloc HB3.out _) _) _) (by have := HB3.out.size; omega) (HT3.out.up (up_alloc (up_alloc (up1 _ _) _) _)) (HX3.out.up (up_alloc (up_alloc (up1 _ _) _) _)) (HTB.out _ HB3.out)).mono ?_); rintro e w5 ⟨⟨y5, A5, n5, c5, rfl⟩, htb5, hb5⟩; obtain ⟨g6, c6, q6, l6, hq6⟩ := HQ.out _ _ _ (up_alloc (up_alloc (up_alloc HB3.out _) _) _) hb5 htb5; have HQ6 := Lib.hid hq6; clear htb5 hb5 hq6))
      exact HQ6.out

end Go.Proofs.YtofbhdgccijbgaaGreatDoor
