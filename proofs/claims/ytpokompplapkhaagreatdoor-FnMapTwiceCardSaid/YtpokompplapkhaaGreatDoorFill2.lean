/- Values drawn: l91Fill of recs and products. -/
import Derived.Test.YtpokompplapkhaaGreatDoorFill
namespace Go.Proofs.YtpokompplapkhaaGreatDoor
open Go.RowKit
set_option linter.unusedVariables false
set_option linter.unusedSimpArgs false

set_option maxHeartbeats 4000000 in
set_option maxRecDepth 100000 in
theorem fill_rec (x : List UInt8) (a : NT) (hok : (NT.loop x a).ok3) (hat : (NT.loop x a).atoms ≤ 400) (d : Int) (hd0 : -100000 ≤ d) (hd1 : d ≤ 100000) (k M : Nat) (ih : -12 ≤ d → fitsN x (.loop x a) a = true → Fil (subN x (.loop x a) a) (d - 1) k M) : Fil (.loop x a) d k (M + 4) := by
  intro r B n c K w v hrb hk hp
  have HH : Hid (∀ w1, Below w.heap.size w w1 → Calls Tryz.prog 125 #[v] w1 fun e w' => e = .returned (.string (St [114, 101, 99])) ∧ Below w1.heap.size w1 w') := fun w1 hb => l1Head_any (NT.loop x a).toTr v w1 (hp.up hb)
  have HRB := Lib.hid hrb
  have hlt := hrb.lt
  cases hf : fitsN x (.loop x a) a with
  | false =>
    have HU : Hid (∀ w1, Below w.heap.size w w1 → Calls Tryz.prog 172 #[v] w1 fun e w' => Below w1.heap.size w1 w' ∧ ∃ x A m c, e = .returned (.tuple #[.agg #[.string x, .slice A m c], .bool false])) := fun w1 hb => l1Unroll_no x a hok hat hf v w1 (hp.up hb)
    obtain ⟨x0, A0, m0, c0, rfl⟩ := hp.form
    have HX2 : Hid (((w.alloc (.cells #[.string x0, .slice A0 m0 c0] 59)).alloc (.cells #[.string (St []), .slice none 0 0] 59)).heap[w.heap.size]? = some (.cells #[.string x0, .slice A0 m0 c0] 59 (0, 0))) := old2 w _ _
    have HR2 : Hid (((w.alloc (.cells #[.string x0, .slice A0 m0 c0] 59)).alloc (.cells #[.string (St []), .slice none 0 0] 59)).heap[w.heap.size + 1]? = some (.cells #[.string (St []), .slice none 0 0] 59 (0, 0))) := new2 w _ _
    clear hp hrb ih hf hok hat
    go_enter Tryz.func138, Tryz.ntmps138
    go_wp2_with (first
      | (go_at_call 125; (refine (HH.out _ (up_alloc (up1 w _) _)).mono ?_); rintro e w1 ⟨rfl, hb1⟩; have HB1 := Lib.hid (up_trans (up_alloc (up1 w _) _) hb1); have X1 := Lib.hid (block_up hb1 HX2.out); have R1 := Lib.hid (block_up hb1 HR2.out); have x0c := block_cell X1.out 0; have x1c := block_cell X1.out 1; clear hb1)
      | (go_at_call 172; (refine (HU.out _ HB1.out).mono ?_); rintro e w2 ⟨hb2, x2, B2, m2, c2, rfl⟩; have HB2 := Lib.hid (up_alloc (up_trans HB1.out hb2) (.cells #[.string x2, .slice B2 m2 c2] 59)); have R2 := Lib.hid (block_alloc (block_up hb2 R1.out) (.cells #[.string x2, .slice B2 m2 c2] 59)); have rc0 := block_cell R2.out 0; have rc1 := block_cell R2.out 1; have fr0 := block_free R2.out 0; have fr1 := block_free R2.out 1; have lr := lt_of_block R2.out; clear hb2))
    refine bodyPost_ret (v := .agg #[.string (St [117]), .slice none 0 0]) (by simp [results, Tryz.results138, go_sem, rc0, rc1, lr]) rfl ?_
    exact ⟨.mk [117] [], _, _, _, _, rfl, .inl ⟨by simp, by decide, rfl⟩, by simp [Tr.txt], leafT _ _ _, (HRB.out.set (HRB.out.up HB2.out) (below_grow HB2.out) (Nat.le_succ _) _ _).mono (by omega), grow_set (grow_set (below_grow HB2.out) (Nat.le_succ _)) (Nat.le_succ _)⟩
  | true =>
    have HU : Hid (∀ w1, Below w.heap.size w w1 → Calls Tryz.prog 172 #[v] w1 fun e w' => Below w1.heap.size w1 w' ∧ ∃ x1 A m c, e = .returned (.tuple #[.agg #[.string x1, .slice A m c], .bool true]) ∧ TAt w' (fun _ => True) (subN x (.loop x a) a).toTr (.agg #[.string x1, .slice A m c])) := fun w1 hb => l1Unroll_yes x a hok hat hf v w1 (hp.up hb)
    obtain ⟨x0, A0, m0, c0, rfl⟩ := hp.form
    have HX2 : Hid (((w.alloc (.cells #[.string x0, .slice A0 m0 c0] 59)).alloc (.cells #[.string (St []), .slice none 0 0] 59)).heap[w.heap.size]? = some (.cells #[.string x0, .slice A0 m0 c0] 59 (0, 0))) := old2 w _ _
    have HR2 : Hid (((w.alloc (.cells #[.string x0, .slice A0 m0 c0] 59)).alloc (.cells #[.string (St []), .slice none 0 0] 59)).heap[w.heap.size + 1]? = some (.cells #[.string (St []), .slice none 0 0] 59 (0, 0))) := new2 w _ _
    by_cases hdd : -12 ≤ d
    · have IH := Lib.hid (ih hdd hf)
      have q : decide (d < -12) = false := decide_eq_false (by omega)
      have hwr : IntKind.i64.wrap (d - 1) = d - 1 := by rw [IntKind.wrap_i64]; omega
      clear hp hrb ih hf hok hat
      generalize subN x (.loop x a) a = nx at *
      go_enter Tryz.func138, Tryz.ntmps138
      go_wp2_with (first
        | (go_at_call 125; (refine (HH.out _ (up_alloc (up1 w _) _)).mono ?_); rintro e w1 ⟨rfl, hb1⟩; have HB1 := Lib.hid (up_trans (up_alloc (up1 w _) _) hb1); have X1 := Lib.hid (block_up hb1 HX2.out); have R1 := Lib.hid (block_up hb1 HR2.out); have x0c := block_cell X1.out 0; have x1c := block_cell X1.out 1; clear hb1)
        | (go_at_call 172; (refine (HU.out _ HB1.out).mono ?_); rintro e w2 ⟨hb2, x2, B2, m2, c2, rfl, ht2⟩; have HB2 := Lib.hid (up_alloc (up_trans HB1.out hb2) (.cells #[.string x2, .slice B2 m2 c2] 59)); have R2 := Lib.hid (block_alloc (block_up hb2 R1.out) (.cells #[.string x2, .slice B2 m2 c2] 59)); have rc0 := block_cell R2.out 0; have rc1 := block_cell R2.out 1; have fr0 := block_free R2.out 0; have fr1 := block_free R2.out 1; have lr := lt_of_block R2.out; have HT2 := Lib.hid (ht2.up (up1 w2 (.cells #[.string x2, .slice B2 m2 c2] 59))); clear hb2)
        | (go_at_call 138; (refine (IH.out r B n c K _ _ (HRB.out.up HB2.out) (by omega) HT2.out).mono ?_); rintro e w3 ⟨tr, x3, B3, m3, c3, rfl, hw3, hl3, ht3, hr3, hg3⟩; have HG3 : Hid (w.grownBy w3 (some r)) := grow_grow (below_grow HB2.out) hg3 (.inl rfl); have RB3 := Lib.hid hr3; have R3 := Lib.hid ((hg3.block _ (lt_of_block R2.out) (by simp <;> omega)).trans R2.out); have HT3 : Hid (TAt w3 (fun k => w.heap.size + 2 ≤ k) tr (.agg #[.string x3, .slice B3 m3 c3])) := ht3.weak (fun k hk => by (have hk2 := hk); have := lt_of_block R2.out; simp at hk2 this ⊢ <;> omega); have HS3 : Hid (w.heap.size + 2 ≤ w3.heap.size) := lt_of_block R3.out; have HW := Lib.hid hw3; have HL := Lib.hid hl3; clear hg3 hr3 ht3 hw3 hl3)
        | (go_at_call 71; (refine (list1T [102] tr _ _ x3 B3 m3 c3 (fun k => w.heap.size + 2 ≤ k) (fun k hk => by (have hk2 := hk); have := HS3.out; simp at hk2 ⊢ <;> omega) (by first | exact block_new _ _ | exact new2 _ _ _ | exact old2 _ _ _) (HT3.out.up (by repeat (first | exact Below.refl _ _ | refine up_drew ?_ | refine up_alloc ?_ _)))).mono ?_); rintro e w4 ⟨⟨x4, B4, m4, c4, rfl, ht4⟩, hb4⟩; have hb4 : Below w3.heap.size w3 w4 := up_trans (by repeat (first | exact Below.refl _ _ | refine up_drew ?_ | refine up_alloc ?_ _)) hb4; have HG4 := Lib.hid (grow_up2 HG3.out hb4); have RB4 := Lib.hid (RB3.out.up hb4); have R4 := Lib.hid (block_up hb4 R3.out); have rd0 := block_cell R4.out 0; have rd1 := block_cell R4.out 1; have fs0 := block_free R4.out 0; have fs1 := block_free R4.out 1; have lr4 := lt_of_block R4.out; have HT4 := Lib.hid ht4; clear hb4 ht4))
      refine bodyPost_ret (v := .agg #[.string x4, .slice B4 m4 c4]) (by simp [results, Tryz.results138, go_sem, rd0, rd1, lr4]) rfl ?_
      exact ⟨_, _, _, _, _, rfl, wf1 ⟨by simp, by decide⟩ HW.out, by rw [len1]; have := HL.out; omega, HT4.out.move fun k hk ho => by
        have h2 : w.heap.size + 2 ≤ k := ho
        exact ⟨by show w.heap.size ≤ k; omega, set2_block w4 _ _ (by omega)⟩, HRB.out.set RB4.out HG4.out (Nat.le_succ _) _ _, grow_set (grow_set HG4.out (Nat.le_succ _)) (Nat.le_succ _)⟩
    · have q : decide (d < -12) = true := decide_eq_true (by omega)
      clear hp hrb ih hf hok hat
      go_enter Tryz.func138, Tryz.ntmps138
      go_wp2_with (first
        | (go_at_call 125; (refine (HH.out _ (up_alloc (up1 w _) _)).mono ?_); rintro e w1 ⟨rfl, hb1⟩; have HB1 := Lib.hid (up_trans (up_alloc (up1 w _) _) hb1); have X1 := Lib.hid (block_up hb1 HX2.out); have R1 := Lib.hid (block_up hb1 HR2.out); have x0c := block_cell X1.out 0; have x1c := block_cell X1.out 1; clear hb1)
        | (go_at_call 172; (refine (HU.out _ HB1.out).mono ?_); rintro e w2 ⟨hb2, x2, B2, m2, c2, rfl, ht2⟩; have HB2 := Lib.hid (up_alloc (up_trans HB1.out hb2) (.cells #[.string x2, .slice B2 m2 c2] 59)); have R2 := Lib.hid (block_alloc (block_up hb2 R1.out) (.cells #[.string x2, .slice B2 m2 c2] 59)); have rc0 := block_cell R2.out 0; have rc1 := block_cell R2.out 1; have fr0 := block_free R2.out 0; have fr1 := block_free R2.out 1; have lr := lt_of_block R2.out; clear hb2))
      refine bodyPost_ret (v := .agg #[.string (St [117]), .slice none 0 0]) (by simp [results, Tryz.results138, go_sem, rc0, rc1, lr]) rfl ?_
      exact ⟨.mk [117] [], _, _, _, _, rfl, .inl ⟨by simp, by decide, rfl⟩, by simp [Tr.txt], leafT _ _ _, (HRB.out.set (HRB.out.up HB2.out) (below_grow HB2.out) (Nat.le_succ _) _ _).mono (by omega), grow_set (grow_set (below_grow HB2.out) (Nat.le_succ _)) (Nat.le_succ _)⟩

set_option maxHeartbeats 4000000 in
set_option maxRecDepth 100000 in
theorem fill_prod (a b : NT) (d : Int) (hd0 : -100000 ≤ d) (hd1 : d ≤ 100000) (ka kb Ma Mb : Nat) (iha : Fil a (d - 1) ka Ma) (ihb : Fil b (d - 1) kb Mb) : Fil (.prod a b) d (ka + kb) (Ma + Mb + 5) := by
  intro r B n c K w v hrb hk hp
  have hp : TAt w (fun _ => True) (.mk [] [.mk [42] [], a.toTr, b.toTr]) v := hp
  obtain ⟨bl, o, c', rfl, A2, n2, cc2, A4, n4, c4, HC0, HH0⟩ := three_keeps hp
  have HH : Hid (∀ w1, Below w.heap.size w w1 → Calls Tryz.prog 125 #[.agg #[.string (St []), .slice (some ⟨bl, o, none⟩) 3 c']] w1 fun e w' => e = .returned (.string (St [42])) ∧ Below w1.heap.size w1 w') := fun w1 hb => HH0.out w1 (.up hb)
  have HC : Hid (∀ w1, w.grownBy w1 (some r) → w1.cell? ⟨bl, o + 2, none⟩ = some (.string (St a.toTr.atom)) ∧ w1.cell? ⟨bl, o + 3, none⟩ = some (.slice A2 n2 cc2) ∧ w1.cell? ⟨bl, o + 4, none⟩ = some (.string (St b.toTr.atom)) ∧ w1.cell? ⟨bl, o + 5, none⟩ = some (.slice A4 n4 c4)) := fun w1 hg => by
    obtain ⟨h1, h2, h3, h4, _⟩ := HC0.out w1 (hrb.keeps hg)
    exact ⟨h1, h2, h3, h4⟩
  have HCT : Hid (∀ w1, w.grownBy w1 (some r) → TAt w1 (fun _ => True) a.toTr (.agg #[.string (St a.toTr.atom), .slice A2 n2 cc2]) ∧ TAt w1 (fun _ => True) b.toTr (.agg #[.string (St b.toTr.atom), .slice A4 n4 c4])) := fun w1 hg => ⟨(HC0.out w1 (hrb.keeps hg)).2.2.2.2.1.out, (HC0.out w1 (hrb.keeps hg)).2.2.2.2.2.out⟩
  have HRB := Lib.hid hrb
  have hlt := hrb.lt
  have hwr : IntKind.i64.wrap (d - 1) = d - 1 := by rw [IntKind.wrap_i64]; omega
  have IHA := Lib.hid iha
  have IHB := Lib.hid ihb
  clear hp hrb HC0 HH0 iha ihb
  obtain ⟨xa, hxa⟩ : ∃ xa, xa = a.toTr.atom := ⟨_, rfl⟩
  obtain ⟨xb, hxb⟩ : ∃ xb, xb = b.toTr.atom := ⟨_, rfl⟩
  rw [← hxa, ← hxb] at HC HCT
  clear hxa hxb
  have HX2 : Hid (((w.alloc (.cells #[.string (St []), .slice (some ⟨bl, o, none⟩) 3 c'] 59)).alloc (.cells #[.string (St []), .slice none 0 0] 59)).heap[w.heap.size]? = some (.cells #[.string (St []), .slice (some ⟨bl, o, none⟩) 3 c'] 59 (0, 0))) := old2 w _ _
  have HR2 : Hid (((w.alloc (.cells #[.string (St []), .slice (some ⟨bl, o, none⟩) 3 c'] 59)).alloc (.cells #[.string (St []), .slice none 0 0] 59)).heap[w.heap.size + 1]? = some (.cells #[.string (St []), .slice none 0 0] 59 (0, 0))) := new2 w _ _
  go_enter Tryz.func138, Tryz.ntmps138
  go_upto_region 13 with (first
    | (go_at_call 125; (refine (HH.out _ (up_alloc (up1 w _) _)).mono ?_); rintro e w1 ⟨rfl, hb1⟩; have HB1 := Lib.hid (up_trans (up_alloc (up1 w _) _) hb1); have X1 := Lib.hid (block_up hb1 HX2.out); have R1 := Lib.hid (block_up hb1 HR2.out); have x1c := block_cell X1.out 1; obtain ⟨p1, p2, p3, p4⟩ := HC.out w1 (below_grow HB1.out); clear hb1)
    | (go_at_call 138; (refine (IHA.out r B n c K _ _ (HRB.out.up HB1.out) (by omega) (HCT.out _ (below_grow HB1.out)).1).mono ?_); rintro e w3 ⟨t3, x3, B3, m3, c3, rfl, hw3, hl3, ht3, hr3, hg3⟩; have HG3 : Hid (w.grownBy w3 (some r)) := grow_grow (below_grow HB1.out) hg3 (.inl rfl); have RB3 := Lib.hid hr3; have R3 := Lib.hid ((hg3.block _ (lt_of_block R1.out) (by simp <;> omega)).trans R1.out); have X3 := Lib.hid ((hg3.block _ (lt_of_block X1.out) (by simp <;> omega)).trans X1.out); have HT3 : Hid (TAt w3 (fun k => w.heap.size + 2 ≤ k) t3 (.agg #[.string x3, .slice B3 m3 c3])) := ht3.weak (fun k hk => by (have hk2 := hk); have := lt_of_block R1.out; simp at hk2 this ⊢ <;> omega); have HW3 := Lib.hid hw3; have HL3 := Lib.hid hl3; clear hg3 hr3 ht3 hw3 hl3))
  have HG3' : Hid (w.grownBy (w3.alloc (.cells #[.string x3, .slice B3 m3 c3] 59)) (some r)) := grow_up2 HG3.out (up1 _ _)
  have RB3' := Lib.hid (RB3.out.up (up1 w3 (.cells #[.string x3, .slice B3 m3 c3] 59)))
  have R3' := Lib.hid (block_alloc R3.out (.cells #[.string x3, .slice B3 m3 c3] 59))
  have X3' := Lib.hid (block_alloc X3.out (.cells #[.string x3, .slice B3 m3 c3] 59))
  have E3' := Lib.hid (block_new w3 (.cells #[.string x3, .slice B3 m3 c3] 59))
  have HT3' := Lib.hid (HT3.out.up (up1 w3 (.cells #[.string x3, .slice B3 m3 c3] 59)))
  have s3 : (w3.alloc (.cells #[.string x3, .slice B3 m3 c3] 59)).cell? ⟨w.heap.size, 1, none⟩ = some (.slice (some ⟨bl, o, none⟩) 3 c') ∧ (w3.alloc (.cells #[.string x3, .slice B3 m3 c3] 59)).cell? ⟨w3.heap.size, 0, none⟩ = some (.string x3) ∧ (w3.alloc (.cells #[.string x3, .slice B3 m3 c3] 59)).cell? ⟨w3.heap.size, 1, none⟩ = some (.slice B3 m3 c3) ∧ (w3.alloc (.cells #[.string x3, .slice B3 m3 c3] 59)).cell? ⟨bl, o + 4, none⟩ = some (.string (St xb)) ∧ (w3.alloc (.cells #[.string x3, .slice B3 m3 c3] 59)).cell? ⟨bl, o + 5, none⟩ = some (.slice A4 n4 c4) := ⟨block_cell X3'.out 1, block_cell E3'.out 0, block_cell E3'.out 1, (HC.out _ HG3'.out).2.2.1, (HC.out _ HG3'.out).2.2.2⟩
  have l3 := lt_of_block E3'.out
  have hr3s : w.heap.size + 1 < w3.heap.size := lt_of_block R3.out
  clear RB3 R3 X3 HT3
  go_region_held3 (fun w' => w'.cell? ⟨w.heap.size, 1, none⟩ = some (.slice (some ⟨bl, o, none⟩) 3 c') ∧ w'.cell? ⟨w3.heap.size, 0, none⟩ = some (.string x3) ∧ w'.cell? ⟨w3.heap.size, 1, none⟩ = some (.slice B3 m3 c3) ∧ w'.cell? ⟨bl, o + 4, none⟩ = some (.string (St xb)) ∧ w'.cell? ⟨bl, o + 5, none⟩ = some (.slice A4 n4 c4))
    (first | exact s6 | exact s5 | exact ⟨cell_up (up1 w4 (.cells #[.string x3, .slice B3 m3 c3, .string x4, .slice B4 m4 c4'] 59)) s4.1, cell_up (up1 w4 (.cells #[.string x3, .slice B3 m3 c3, .string x4, .slice B4 m4 c4'] 59)) s4.2.1, cell_up (up1 w4 (.cells #[.string x3, .slice B3 m3 c3, .string x4, .slice B4 m4 c4'] 59)) s4.2.2.1, cell_up (up1 w4 (.cells #[.string x3, .slice B3 m3 c3, .string x4, .slice B4 m4 c4'] 59)) s4.2.2.2.1, cell_up (up1 w4 (.cells #[.string x3, .slice B3 m3 c3, .string x4, .slice B4 m4 c4'] 59)) s4.2.2.2.2⟩ | exact s4 | exact s3 | go_keep)
    (first
    | (go_at_call 138; (refine (IHB.out r B n c (K + ka) _ _ (RB3'.out.up (by repeat (first | exact Below.refl _ _ | refine up_drew ?_ | refine up_alloc ?_ _))) (by omega) (HCT.out _ (grow_up2 HG3'.out (by repeat (first | exact Below.refl _ _ | refine up_drew ?_ | refine up_alloc ?_ _)))).2).mono ?_); rintro e w4 ⟨t4, x4, B4, m4, c4', rfl, hw4, hl4, ht4, hr4, hg4⟩; have HG4 : Hid (w.grownBy w4 (some r)) := grow_grow (grow_up2 HG3'.out (by repeat (first | exact Below.refl _ _ | refine up_drew ?_ | refine up_alloc ?_ _))) hg4 (.inl rfl); have hg34 : (w3.alloc (.cells #[.string x3, .slice B3 m3 c3] 59)).grownBy w4 (some r) := up_grow (by repeat (first | exact Below.refl _ _ | refine up_drew ?_ | refine up_alloc ?_ _)) hg4; have RB4 := Lib.hid hr4; have R4 := Lib.hid ((hg34.block _ (lt_of_block R3'.out) (by simp <;> omega)).trans R3'.out); have X4 := Lib.hid ((hg34.block _ (lt_of_block X3'.out) (by simp <;> omega)).trans X3'.out); have E4 := Lib.hid ((hg34.block _ (lt_of_block E3'.out) (by simp <;> omega)).trans E3'.out); have HT34 := Lib.hid (HT3'.out.keep (RB3'.out.keeps hg34)); have HT4 : Hid (TAt w4 (fun k => w.heap.size + 2 ≤ k) t4 (.agg #[.string x4, .slice B4 m4 c4'])) := ht4.weak (fun k hk => by (have hk2 := hk); simp at hk2 ⊢ <;> omega); have HW4 := Lib.hid hw4; have HL4 := Lib.hid hl4; have s4 : w4.cell? ⟨w.heap.size, 1, none⟩ = some (.slice (some ⟨bl, o, none⟩) 3 c') ∧ w4.cell? ⟨w3.heap.size, 0, none⟩ = some (.string x3) ∧ w4.cell? ⟨w3.heap.size, 1, none⟩ = some (.slice B3 m3 c3) ∧ w4.cell? ⟨bl, o + 4, none⟩ = some (.string (St xb)) ∧ w4.cell? ⟨bl, o + 5, none⟩ = some (.slice A4 n4 c4) := ⟨block_cell X4.out 1, block_cell E4.out 0, block_cell E4.out 1, (HC.out _ HG4.out).2.2.1, (HC.out _ HG4.out).2.2.2⟩; have hs4 : w.heap.size + 2 ≤ w4.heap.size := lt_of_block R4.out; clear hg4 hg34 hr4 ht4 hw4 hl4)
    | (go_at_call 71; (refine (list2T [112] t3 t4 _ _ x3 x4 B3 B4 m3 c3 m4 c4' (fun k => w.heap.size + 2 ≤ k) (fun k hk => by (have hk2 := hk); simp at hk2 ⊢ <;> omega) (by first | exact block_new _ _ | exact new2 _ _ _ | exact old2 _ _ _) (HT34.out.up (by repeat (first | exact Below.refl _ _ | refine up_drew ?_ | refine up_alloc ?_ _))) (HT4.out.up (by repeat (first | exact Below.refl _ _ | refine up_drew ?_ | refine up_alloc ?_ _)))).mono ?_); rintro e w5 ⟨⟨x5, B5, m5, c5, rfl, ht5⟩, hb5⟩; have hb5 : Below w4.heap.size w4 w5 := up_trans (by repeat (first | exact Below.refl _ _ | refine up_drew ?_ | refine up_alloc ?_ _)) hb5; have HG5 := Lib.hid (grow_up2 HG4.out hb5); have RB5 := Lib.hid (RB4.out.up hb5); have R5 := Lib.hid (block_up hb5 R4.out); have X5 := Lib.hid (block_up hb5 X4.out); have E5 := Lib.hid (block_up hb5 E4.out); have HT5 := Lib.hid ht5; have s5 : w5.cell? ⟨w.heap.size, 1, none⟩ = some (.slice (some ⟨bl, o, none⟩) 3 c') ∧ w5.cell? ⟨w3.heap.size, 0, none⟩ = some (.string x3) ∧ w5.cell? ⟨w3.heap.size, 1, none⟩ = some (.slice B3 m3 c3) ∧ w5.cell? ⟨bl, o + 4, none⟩ = some (.string (St xb)) ∧ w5.cell? ⟨bl, o + 5, none⟩ = some (.slice A4 n4 c4) := ⟨block_cell X5.out 1, block_cell E5.out 0, block_cell E5.out 1, (HC.out _ HG5.out).2.2.1, (HC.out _ HG5.out).2.2.2⟩; have rc0 := block_cell R5.out 0; have rc1 := block_cell R5.out 1; have fr0 := block_free R5.out 0; have fr1 := block_free R5.out 1; have lr5 := lt_of_block R5.out; have HG6 : Hid (w.grownBy ((w5.setCell ⟨w.heap.size + 1, 0, none⟩ (.string x5)).setCell ⟨w.heap.size + 1, 1, none⟩ (.slice B5 m5 c5)) (some r)) := grow_set (grow_set HG5.out (Nat.le_succ _)) (Nat.le_succ _); have X6 := Lib.hid ((set2_block w5 (.string x5) (.slice B5 m5 c5) (show w.heap.size ≠ w.heap.size + 1 by omega)).trans X5.out); have E6 := Lib.hid ((set2_block w5 (.string x5) (.slice B5 m5 c5) (show w3.heap.size ≠ w.heap.size + 1 by omega)).trans E5.out); have s6 : ((w5.setCell ⟨w.heap.size + 1, 0, none⟩ (.string x5)).setCell ⟨w.heap.size + 1, 1, none⟩ (.slice B5 m5 c5)).cell? ⟨w.heap.size, 1, none⟩ = some (.slice (some ⟨bl, o, none⟩) 3 c') ∧ ((w5.setCell ⟨w.heap.size + 1, 0, none⟩ (.string x5)).setCell ⟨w.heap.size + 1, 1, none⟩ (.slice B5 m5 c5)).cell? ⟨w3.heap.size, 0, none⟩ = some (.string x3) ∧ ((w5.setCell ⟨w.heap.size + 1, 0, none⟩ (.string x5)).setCell ⟨w.heap.size + 1, 1, none⟩ (.slice B5 m5 c5)).cell? ⟨w3.heap.size, 1, none⟩ = some (.slice B3 m3 c3) ∧ ((w5.setCell ⟨w.heap.size + 1, 0, none⟩ (.string x5)).setCell ⟨w.heap.size + 1, 1, none⟩ (.slice B5 m5 c5)).cell? ⟨bl, o + 4, none⟩ = some (.string (St xb)) ∧ ((w5.setCell ⟨w.heap.size + 1, 0, none⟩ (.string x5)).setCell ⟨w.heap.size + 1, 1, none⟩ (.slice B5 m5 c5)).cell? ⟨bl, o + 5, none⟩ = some (.slice A4 n4 c4) := ⟨block_cell X6.out 1, block_cell E6.out 0, block_cell E6.out 1, (HC.out _ HG6.out).2.2.1, (HC.out _ HG6.out).2.2.2⟩; clear hb5 ht5))
  all_goals go_wp2
  all_goals refine bodyPost_ret (v := .agg #[.string x5, .slice B5 m5 c5]) (by simp [results, Tryz.results138, go_sem, rc0, rc1, lr5]) rfl ?_
  all_goals exact ⟨_, _, _, _, _, rfl, wf2 ⟨by simp, by decide⟩ HW3.out HW4.out, by rw [len2]; have := HL3.out; have := HL4.out; omega, HT5.out.move fun k hk ho => by
    have h2 : w.heap.size + 2 ≤ k := ho
    exact ⟨by show w.heap.size ≤ k; omega, set2_block w5 _ _ (by omega)⟩, (HRB.out.set RB5.out HG5.out (Nat.le_succ _) _ _).mono (by omega), HG6.out⟩

end Go.Proofs.YtpokompplapkhaaGreatDoor
