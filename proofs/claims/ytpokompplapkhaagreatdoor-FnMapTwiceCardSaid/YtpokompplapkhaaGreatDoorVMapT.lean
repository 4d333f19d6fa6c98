/- The reference's ValueMap. -/
import Derived.Test.YtpokompplapkhaaGreatDoorVMapS
import Derived.Test.YtpokompplapkhaaGreatDoorVMapM
import Derived.Test.YtpokompplapkhaaGreatDoorMH
namespace Go.Proofs.YtpokompplapkhaaGreatDoor
open Go.RowKit
set_option linter.unusedVariables false
set_option linter.unusedSimpArgs false

set_option maxHeartbeats 8000000 in
set_option maxRecDepth 100000 in
theorem specValueMap_any (s v nm : ByteArray) (a b : Int) (w : World) (hs : s.size ≤ 9223372036854775807) (hv : v.size ≤ 9223372036854775807) :
    Calls Tryz.prog 39 #[.string s, .string v, .string nm, .int .i64 a, .int .i64 b] w (TMPost w (vmB s.data.toList v.data.toList nm.data.toList a b)) := by
  have HIS := Lib.hid fun w1 => specValueIs_any s v 100 w1 hs hv
  have HP : Hid (∀ w1, Calls Tryz.prog 55 #[.string nm] w1 fun e w' => e = .returned (.bool (paramB nm.data.toList)) ∧ w1 = w') := fun w1 => l1Param_any nm w1
  have HIN : Hid (∀ w1 z, Calls Tryz.prog 80 #[.int .i64 z, .int .i64 0, .int .i64 99] w1 fun e w' => e = .returned (.bool (decide (0 ≤ z) && decide (z ≤ 99))) ∧ w1 = w') := fun w1 z => l6In_any z 0 99 w1
  have HNONE : Hid (∀ w', Below w.heap.size w w' → TMPost w none (.returned (.tuple #[.string ⟨#[]⟩, .bool false])) w') := fun w' hb => ⟨rfl, hb⟩
  unfold vmB vmV
  cases ho : valsOf s.data.toList v.data.toList 100 with
  | none =>
    have HC := Lib.hid (l1Closed_form s w hs)
    have HV := Lib.hid fun w1 => l2Value_form v w1 hv
    have hz : isB s.data.toList v.data.toList 100 = false := by unfold isB; rw [ho]; rfl
    rw [hz] at HIS
    show Calls _ _ _ _ (TMPost w none)
    generalize TMPost w none = Q at *
    clear hs hv ho hz
    go_enter Tryz.func39, Tryz.ntmps39
    go_wp2_with (first
      | (go_at_call 48; (with_reducible refine HC.out.mono ?_); rintro e w1 ⟨hb1, x1, A1, m1, c1, b1, rfl⟩; have HB1 := Lib.hid (up_alloc hb1 (.cells #[.string x1, .slice A1 m1 c1] 59)); clear hb1)
      | (go_at_call 54; (with_reducible refine (HV.out _).mono ?_); rintro e w2 ⟨hb2, x2, A2, m2, c2, b2, rfl⟩; have HB2 := Lib.hid (up_alloc (up_trans HB1.out hb2) (.cells #[.string x2, .slice A2 m2 c2] 59)); clear hb2)
      | (go_at_call 33; (with_reducible refine (HIS.out _).mono ?_); rintro e w3 ⟨rfl, hb3⟩; have HB3 := Lib.hid (up_trans HB2.out hb3); clear hb3))
    exact HNONE.out _ HB3.out
  | some q =>
    obtain ⟨N, x⟩ := q
    obtain ⟨hc, hr, _, _, hty⟩ := valsOf_some ho
    have hok := rdVal_ok hr
    have hnd := rdVal_nodes hr
    obtain ⟨_, hNo, hNa, _⟩ := clTy_some hc
    have HC := Lib.hid (l1Closed_tree w hs hc)
    have HV := Lib.hid fun w1 => l2Value_tree (v := v) (x := x) w1 hv hr
    have hz : isB s.data.toList v.data.toList 100 = true := by unfold isB; rw [ho]; rfl
    rw [hz] at HIS
    simp only
    cases hp : paramB nm.data.toList with
    | false =>
      rw [hp] at HP
      rw [if_neg (by simp)]
      show Calls _ _ _ _ (TMPost w none)
      generalize TMPost w none = Q at *
      clear hs hv ho hz hc hr hty hok hnd hNo hNa
      go_enter Tryz.func39, Tryz.ntmps39
      go_wp2_with (first
        | (go_at_call 48; (with_reducible refine HC.out.mono ?_); rintro e w1 ⟨hb1, x1, A1, m1, c1, rfl, _⟩; have HB1 := Lib.hid (up_alloc hb1 (.cells #[.string x1, .slice A1 m1 c1] 59)); clear hb1)
        | (go_at_call 54; (with_reducible refine (HV.out _).mono ?_); rintro e w2 ⟨hb2, x2, A2, m2, c2, rfl, _⟩; have HB2 := Lib.hid (up_alloc (up_trans HB1.out hb2) (.cells #[.string x2, .slice A2 m2 c2] 59)); clear hb2)
        | (go_at_call 33; (with_reducible refine (HIS.out _).mono ?_); rintro e w3 ⟨rfl, hb3⟩; have HB3 := Lib.hid (up_trans HB2.out hb3); clear hb3)
        | (go_at_call 55; (with_reducible refine (HP.out _).mono ?_); rintro e w4 ⟨rfl, rfl⟩)
        | (go_at_call 80; (with_reducible refine (HIN.out _ _).mono ?_); rintro e w4 ⟨rfl, rfl⟩))
      exact HNONE.out _ HB3.out
    | true =>
      rw [hp] at HP
      cases ka : (decide (0 ≤ a) && decide (a ≤ 99)) with
      | false =>
        have ka' : ¬ (0 ≤ a ∧ a ≤ 99) := fun h => by simp [h.1, h.2] at ka
        rw [if_neg (by rintro ⟨_, h1, h2, _⟩; exact ka' ⟨h1, h2⟩)]
        show Calls _ _ _ _ (TMPost w none)
        generalize TMPost w none = Q at *
        clear hs hv ho hz hc hr hty hok hnd hNo hNa
        go_enter Tryz.func39, Tryz.ntmps39
        go_wp2_with (first
          | (go_at_call 48; (with_reducible refine HC.out.mono ?_); rintro e w1 ⟨hb1, x1, A1, m1, c1, rfl, _⟩; have HB1 := Lib.hid (up_alloc hb1 (.cells #[.string x1, .slice A1 m1 c1] 59)); clear hb1)
          | (go_at_call 54; (with_reducible refine (HV.out _).mono ?_); rintro e w2 ⟨hb2, x2, A2, m2, c2, rfl, _⟩; have HB2 := Lib.hid (up_alloc (up_trans HB1.out hb2) (.cells #[.string x2, .slice A2 m2 c2] 59)); clear hb2)
          | (go_at_call 33; (with_reducible refine (HIS.out _).mono ?_); rintro e w3 ⟨rfl, hb3⟩; have HB3 := Lib.hid (up_trans HB2.out hb3); clear hb3)
          | (go_at_call 55; (with_reducible refine (HP.out _).mono ?_); rintro e w4 ⟨rfl, rfl⟩)
          | (go_at_call 80; (with_reducible refine (HIN.out _ _).mono ?_); rintro e w4 ⟨rfl, rfl⟩))
        exact HNONE.out _ HB3.out
      | true =>
        have ka' : 0 ≤ a ∧ a ≤ 99 := by simpa using ka
        cases kb : (decide (0 ≤ b) && decide (b ≤ 99)) with
        | false =>
          have kb' : ¬ (0 ≤ b ∧ b ≤ 99) := fun h => by simp [h.1, h.2] at kb
          rw [if_neg (by rintro ⟨_, _, _, h1, h2⟩; exact kb' ⟨h1, h2⟩)]
          show Calls _ _ _ _ (TMPost w none)
          generalize TMPost w none = Q at *
          clear hs hv ho hz hc hr hty hok hnd hNo hNa
          go_enter Tryz.func39, Tryz.ntmps39
          go_wp2_with (first
            | (go_at_call 48; (with_reducible refine HC.out.mono ?_); rintro e w1 ⟨hb1, x1, A1, m1, c1, rfl, _⟩; have HB1 := Lib.hid (up_alloc hb1 (.cells #[.string x1, .slice A1 m1 c1] 59)); clear hb1)
            | (go_at_call 54; (with_reducible refine (HV.out _).mono ?_); rintro e w2 ⟨hb2, x2, A2, m2, c2, rfl, _⟩; have HB2 := Lib.hid (up_alloc (up_trans HB1.out hb2) (.cells #[.string x2, .slice A2 m2 c2] 59)); clear hb2)
            | (go_at_call 33; (with_reducible refine (HIS.out _).mono ?_); rintro e w3 ⟨rfl, hb3⟩; have HB3 := Lib.hid (up_trans HB2.out hb3); clear hb3)
            | (go_at_call 55; (with_reducible refine (HP.out _).mono ?_); rintro e w4 ⟨rfl, rfl⟩)
            | (go_at_call 80; (with_reducible refine (HIN.out _ _).mono ?_); rintro e w4 ⟨rfl, rfl⟩))
          exact HNONE.out _ HB3.out
        | true =>
          have kb' : 0 ≤ b ∧ b ≤ 99 := by simpa using kb
          obtain ⟨an, rfl⟩ : ∃ an : Nat, a = an := ⟨a.toNat, by omega⟩
          obtain ⟨bn, rfl⟩ : ∃ bn : Nat, b = bn := ⟨b.toNat, by omega⟩
          rw [if_pos ⟨rfl, by omega, by omega, by omega, by omega⟩, Int.toNat_natCast, Int.toNat_natCast]
          have ka2 : decide ((an : Int) ≤ 99) = true := decide_eq_true (by omega)
          have kb2 : decide ((bn : Int) ≤ 99) = true := decide_eq_true (by omega)
          have ka3 : decide (0 ≤ (an : Int)) = true := decide_eq_true (by omega)
          have kb3 : decide (0 ≤ (bn : Int)) = true := decide_eq_true (by omega)
          rw [ka2, ka3] at ka
          rw [kb2, kb3] at kb
          clear ka kb
          have hxt := turn_ok (fun x s h => mapF_ok nm.data.toList an bn x h) x [] (N.db []) hok
          have htn : (x.turn (mapF nm.data.toList an bn) [] (N.db [])).nodes = x.nodes := turn_nodes _ x [] (N.db [])
          have HM : Hid (∀ w1 gb A vt vv, Below w.heap.size w w1 → w.heap.size ≤ gb → TAt w1 (fun _ => True) N.toTr vt → TAt w1 (fun _ => True) x.toTr vv → TBx w1 w.heap.size gb nm.data.toList an bn [] → Calls Tryz.prog 91 #[.pointer (some ⟨gb, 0, none⟩), vt, .slice A 0 0, vv] w1 fun e w' => (∃ y A n c, e = .returned (.agg #[.string y, .slice A n c]) ∧ TAt w' (fun _ => True) (x.turn (mapF nm.data.toList an bn) [] (N.db [])).toTr (.agg #[.string y, .slice A n c])) ∧ Below w.heap.size w w') := fun w1 gb A vt vv hb hg h1 h2 h3 => by
            have := l2Turn_any _ x (Nat.le_refl _) N [] A 0 vt vv w1 _ w.heap.size gb nm.data.toList an bn [] h1 trivial h2.low (fun k hk => hk) h3 hb.size trivial (ok_ok3 hNo) (by simp; omega) hok (by rw [isOfN_top 100 x hc]; exact hty) hp (by omega) (by omega) (by simp; omega)
            refine this.mono ?_
            rintro e w' ⟨⟨y, A, n, c, he, ht⟩, h4, h5⟩
            rw [turnN_top hc] at ht
            exact ⟨⟨y, A, n, c, he, ht.weak fun _ _ => trivial⟩, Below.trans hb h5.bl⟩
          have HTB : Hid (∀ w1, Below w.heap.size w w1 → TBx (((w1.alloc (.cells #[] 9)).alloc (.cells #[.string nm, .int .i64 an, .int .i64 bn, .slice (some ⟨w1.heap.size, 0, none⟩) 0 0] 115)).alloc (.cells #[] 208)) w.heap.size (w1.heap.size + 1) nm.data.toList an bn []) := fun w1 hb => ⟨w1.heap.size, 0, block_alloc (new2 w1 _ _) _, SOwn.up (own_nil w1 _ hb.size 9) (up_alloc (up1 _ _) _), by have := hb.size; omega⟩
          generalize x.turn (mapF nm.data.toList an bn) [] (N.db []) = y at *
          have hyl := V.len_nodes hxt
          have HX : Hid (∀ w1 t, TAt w1 (fun _ => True) y.toTr t → Calls Tryz.prog 65 #[t] w1 fun e w' => e = .returned (.string (St y.toTr.txt)) ∧ Below w1.heap.size w1 w') := fun w1 t h => l1Text_any _ y.toTr (Nat.le_refl _) (V.wf hxt) (by omega) t w1 h
          have HQ : Hid (∀ w', Below w.heap.size w w' → TMPost w (some y.toTr.txt) (.returned (.tuple #[.string (St y.toTr.txt), .bool true])) w') := fun w' h => ⟨rfl, h⟩
          show Calls _ _ _ _ (TMPost w (some y.toTr.txt))
          generalize y.toTr.txt = out at *
          generalize TMPost w (some out) = Q at *
          clear hs hv ho hz hc hr hty hok hnd hNo hNa hp HNONE ka' kb' hxt htn hyl
          go_enter Tryz.func39, Tryz.ntmps39
          go_wp2_with (first
            | (go_at_call 48; (with_reducible refine HC.out.mono ?_); rintro e w1 ⟨hb1, x1, A1, m1, c1, rfl, ht1⟩; have HB1 := Lib.hid (up_alloc hb1 (.cells #[.string x1, .slice A1 m1 c1] 59)); have HT1 := Lib.hid (ht1.up (up1 w1 (.cells #[.string x1, .slice A1 m1 c1] 59))); have HK1 := Lib.hid (block_new w1 (.cells #[.string x1, .slice A1 m1 c1] 59)); clear hb1 ht1)
            | (go_at_call 54; (with_reducible refine (HV.out _).mono ?_); rintro e w2 ⟨hb2, x2, A2, m2, c2, rfl, hv2⟩; have HB2 := Lib.hid (up_alloc (up_trans HB1.out hb2) (.cells #[.string x2, .slice A2 m2 c2] 59)); have HT2 := Lib.hid ((HT1.out.up hb2).up (up1 w2 (.cells #[.string x2, .slice A2 m2 c2] 59))); have HX2 := Lib.hid (hv2.up (up1 w2 (.cells #[.string x2, .slice A2 m2 c2] 59))); have HK1' := Lib.hid (block_alloc (block_up hb2 HK1.out) (.cells #[.string x2, .slice A2 m2 c2] 59)); have HK2 := Lib.hid (block_new w2 (.cells #[.string x2, .slice A2 m2 c2] 59)); clear hb2 hv2)
            | (go_at_call 33; (with_reducible refine (HIS.out _).mono ?_); rintro e w3 ⟨rfl, hb3⟩; have HB3 := Lib.hid (up_trans HB2.out hb3); have HT3 := Lib.hid (HT2.out.up hb3); have HX3 := Lib.hid (HX2.out.up hb3); have e0 : w3.cell? ⟨w1.heap.size, 0, none⟩ = some (.string x1) := block_cell (block_up hb3 HK1'.out) 0; have e1 : w3.cell? ⟨w1.heap.size, 1, none⟩ = some (.slice A1 m1 c1) := block_cell (block_up hb3 HK1'.out) 1; have l1 := lt_of_block (block_up hb3 HK1'.out); have e2 : w3.cell? ⟨w2.heap.size, 0, none⟩ = some (.string x2) := block_cell (block_up hb3 HK2.out) 0; have e3 : w3.cell? ⟨w2.heap.size, 1, none⟩ = some (.slice A2 m2 c2) := block_cell (block_up hb3 HK2.out) 1; have l2 := lt_of_block (block_up hb3 HK2.out); have e2' : (((w3.alloc (.cells #[] 9)).alloc (.cells #[.string nm, .int .i64 an, .int .i64 bn, .slice (some ⟨w3.heap.size, 0, none⟩) 0 0] 115)).alloc (.cells #[] 208)).cell? ⟨w2.heap.size, 0, none⟩ = some (.string x2) := cell_up (up_alloc (up_alloc (up1 _ _) _) _) e2; have e3' : (((w3.alloc (.cells #[] 9)).alloc (.cells #[.string nm, .int .i64 an, .int .i64 bn, .slice (some ⟨w3.heap.size, 0, none⟩) 0 0] 115)).alloc (.cells #[] 208)).cell? ⟨w2.heap.size, 1, none⟩ = some (.slice A2 m2 c2) := cell_up (up_alloc (up_alloc (up1 _ _) _) _) e3; clear hb3)
            | (go_at_call 55; (with_reducible refine (HP.out _).mono ?_); rintro e w4 ⟨rfl, rfl⟩)
            | (go_at_call 80; (with_reducible refine (HIN.out _ _).mono ?_); rintro e w4 ⟨rfl, rfl⟩)
            | (go_at_call 91; (with_reducible refine (HM.out _ _ _ _ _ (up_alloc (up_alloc (up_alloc HB3.out _) _) _) (by have := HB3.out.size; omega) (HT3.out.up (up_alloc (up_alloc (up1 _ _) _) _)) (HX3.out.up (up_alloc (up_alloc (up1 _ _) _) _)) (HTB.out _ HB3.out)).mono ?_); rintro e w5 ⟨⟨y5, A5, n5, c5, rfl, ht5⟩, hb5⟩; have HT5 := Lib.hid ht5; have HB5 := Lib.hid hb5; clear ht5 hb5)
            | (go_at_call 65; (with_reducible refine (HX.out _ _ HT5.out).mono ?_); rintro e w6 ⟨rfl, hb6⟩; have HB6 := Lib.hid (Below.trans HB5.out (hb6.mono HB5.out.size)); clear hb6))
          exact HQ.out _ HB6.out

end Go.Proofs.YtpokompplapkhaaGreatDoor
