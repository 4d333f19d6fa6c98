/- Values drawn: l91Fill of sums. -/
import Derived.Test.YtpokompplapkhaaGreatDoorFill2
import Derived.Test.YtpokompplapkhaaGreatDoorTk
namespace Go.Proofs.YtpokompplapkhaaGreatDoor
open Go.RowKit
set_option linter.unusedVariables false
set_option linter.unusedSimpArgs false

set_option maxHeartbeats 8000000 in
set_option maxRecDepth 100000 in
theorem fill_sum (a b : NT) (hok : (NT.sum a b).ok3) (hat : (NT.sum a b).atoms ≤ 400) (d : Int) (hd0 : -100000 ≤ d) (hd1 : d ≤ 100000) (k M : Nat) (iha : Fil a (d - 1) k M) (ihb : Fil b (d - 1) k M) : Fil (.sum a b) d (k + 1) (M + 4) := by
  intro r B n c K w v hrb hk hp
  have hp : TAt w (fun _ => True) (.mk [] [.mk [43] [], a.toTr, b.toTr]) v := hp
  obtain ⟨bl, o, c', rfl, A2, n2, cc2, A4, n4, c4, HC0, HH0⟩ := three_keeps hp
  have HH : Hid (∀ w1, Below w.heap.size w w1 → Calls Tryz.prog 125 #[.agg #[.string (St []), .slice (some ⟨bl, o, none⟩) 3 c']] w1 fun e w' => e = .returned (.string (St [43])) ∧ Below w1.heap.size w1 w') := fun w1 hb => HH0.out w1 (.up hb)
  have HC : Hid (∀ w1, w.grownBy w1 (some r) → w1.cell? ⟨bl, o + 2, none⟩ = some (.string (St a.toTr.atom)) ∧ w1.cell? ⟨bl, o + 3, none⟩ = some (.slice A2 n2 cc2) ∧ w1.cell? ⟨bl, o + 4, none⟩ = some (.string (St b.toTr.atom)) ∧ w1.cell? ⟨bl, o + 5, none⟩ = some (.slice A4 n4 c4)) := fun w1 hg => by
    obtain ⟨h1, h2, h3, h4, _⟩ := HC0.out w1 (hrb.keeps hg)
    exact ⟨h1, h2, h3, h4⟩
  have HCT : Hid (∀ w1, w.grownBy w1 (some r) → TAt w1 (fun _ => True) a.toTr (.agg #[.string (St a.toTr.atom), .slice A2 n2 cc2]) ∧ TAt w1 (fun _ => True) b.toTr (.agg #[.string (St b.toTr.atom), .slice A4 n4 c4])) := fun w1 hg => ⟨(HC0.out w1 (hrb.keeps hg)).2.2.2.2.1.out, (HC0.out w1 (hrb.keeps hg)).2.2.2.2.2.out⟩
  have HRB := Lib.hid hrb
  have hlt := hrb.lt
  have hwr : IntKind.i64.wrap (d - 1) = d - 1 := by rw [IntKind.wrap_i64]; omega
  have IHA := Lib.hid iha
  have IHB := Lib.hid ihb
  clear hp hrb HC0 HH0 iha ihb
  simp only [NT.atoms] at hat
  have HE1' : Hid (∀ w1, w.grownBy w1 (some r) → ∀ A c, Calls Tryz.prog 149 #[.agg #[.string (St a.toTr.atom), .slice A2 n2 cc2], .slice A 0 c] w1 fun e w' => e = .returned (.bool (a.empS [])) ∧ Below w1.heap.size w1 w') := fun w1 hg A c => l1Empty_any a (ok3_ok' hok.1) _ w1 A c [] (HCT.out w1 hg).1 (.inl rfl) (by simp; omega)
  have HE2' : Hid (∀ w1, w.grownBy w1 (some r) → ∀ A c, Calls Tryz.prog 149 #[.agg #[.string (St b.toTr.atom), .slice A4 n4 c4], .slice A 0 c] w1 fun e w' => e = .returned (.bool (b.empS [])) ∧ Below w1.heap.size w1 w') := fun w1 hg A c => l1Empty_any b (ok3_ok' hok.2) _ w1 A c [] (HCT.out w1 hg).2 (.inl rfl) (by simp; omega)
  have HA1' : Hid (∀ w1, w.grownBy w1 (some r) → Calls Tryz.prog 156 #[.agg #[.string (St a.toTr.atom), .slice A2 n2 cc2]] w1 fun e w' => e = .returned (.int .i64 a.atoms) ∧ Below w1.heap.size w1 w') := fun w1 hg => l1Atoms_any3 a hok.1 (by omega) _ w1 (HCT.out w1 hg).1
  have HA2' : Hid (∀ w1, w.grownBy w1 (some r) → Calls Tryz.prog 156 #[.agg #[.string (St b.toTr.atom), .slice A4 n4 c4]] w1 fun e w' => e = .returned (.int .i64 b.atoms) ∧ Below w1.heap.size w1 w') := fun w1 hg => l1Atoms_any3 b hok.2 (by omega) _ w1 (HCT.out w1 hg).2
  have HPK : Hid (∀ w1, RB w1 r B n c K → Calls Tryz.prog 79 #[.pointer (some ⟨r, 0, none⟩), .int .i64 2] w1 fun e w' => ∃ x : Int, 0 ≤ x ∧ x < 2 ∧ e = .returned (.int .i64 x) ∧ RB w' r B n c (K + 1) ∧ w1.grownBy w' (some r)) := fun w1 h => pick_rb r B n c K 2 w1 h (by omega) (by omega) (by omega)
  obtain ⟨xa, hxa⟩ : ∃ xa, xa = a.toTr.atom := ⟨_, rfl⟩
  obtain ⟨xb, hxb⟩ : ∃ xb, xb = b.toTr.atom := ⟨_, rfl⟩
  rw [← hxa, ← hxb] at HC HCT
  rw [← hxa] at HE1' HA1'
  rw [← hxb] at HE2' HA2'
  clear hxa hxb
  have HX2 : Hid (((w.alloc (.cells #[.string (St []), .slice (some ⟨bl, o, none⟩) 3 c'] 59)).alloc (.cells #[.string (St []), .slice none 0 0] 59)).heap[w.heap.size]? = some (.cells #[.string (St []), .slice (some ⟨bl, o, none⟩) 3 c'] 59 (0, 0))) := old2 w _ _
  have HR2 : Hid (((w.alloc (.cells #[.string (St []), .slice (some ⟨bl, o, none⟩) 3 c'] 59)).alloc (.cells #[.string (St []), .slice none 0 0] 59)).heap[w.heap.size + 1]? = some (.cells #[.string (St []), .slice none 0 0] 59 (0, 0))) := new2 w _ _
  generalize a.empS [] = e1 at *
  generalize b.empS [] = e2 at *
  clear hok hat
  generalize a.atoms = na at *
  generalize b.atoms = nb at *
  go_enter Tryz.func138, Tryz.ntmps138
  go_upto_region 4 with (first
    | (go_at_call 125; (refine (HH.out _ (up_alloc (up1 w _) _)).mono ?_); rintro e w1 ⟨rfl, hb1⟩; have HB1 := Lib.hid (up_trans (up_alloc (up1 w _) _) hb1); have X1 := Lib.hid (block_up hb1 HX2.out); have R1 := Lib.hid (block_up hb1 HR2.out); have x1c := block_cell X1.out 1; obtain ⟨p1, p2, p3, p4⟩ := HC.out w1 (below_grow HB1.out); clear hb1)
    | (go_at_call 79; (refine (HPK.out _ (HRB.out.up HB1.out)).mono ?_); rintro e w2 ⟨z, hz0, hz1, rfl, hr2, hg2⟩; have RB2 := Lib.hid hr2; have HG2 : Hid (w.grownBy w2 (some r)) := grow_grow (below_grow HB1.out) hg2 (.inl rfl); have R2 := Lib.hid ((hg2.block _ (lt_of_block R1.out) (by simp <;> omega)).trans R1.out); have X2 := Lib.hid ((hg2.block _ (lt_of_block X1.out) (by simp <;> omega)).trans X1.out); clear hr2 hg2))
  have s2 : w2.cell? ⟨w.heap.size, 1, none⟩ = some (.slice (some ⟨bl, o, none⟩) 3 c') ∧ w2.cell? ⟨bl, o + 2, none⟩ = some (.string (St xa)) ∧ w2.cell? ⟨bl, o + 3, none⟩ = some (.slice A2 n2 cc2) ∧ w2.cell? ⟨bl, o + 4, none⟩ = some (.string (St xb)) ∧ w2.cell? ⟨bl, o + 5, none⟩ = some (.slice A4 n4 c4) := ⟨block_cell X2.out 1, HC.out w2 HG2.out⟩
  have HE1 : Hid (∀ w1, Below w2.heap.size w2 w1 → ∀ A c, Calls Tryz.prog 149 #[.agg #[.string (St xa), .slice A2 n2 cc2], .slice A 0 c] w1 fun e w' => e = .returned (.bool e1) ∧ Below w1.heap.size w1 w') := fun w1 hb => HE1'.out w1 (grow_up2 HG2.out hb)
  have HE2 : Hid (∀ w1, Below w2.heap.size w2 w1 → ∀ A c, Calls Tryz.prog 149 #[.agg #[.string (St xb), .slice A4 n4 c4], .slice A 0 c] w1 fun e w' => e = .returned (.bool e2) ∧ Below w1.heap.size w1 w') := fun w1 hb => HE2'.out w1 (grow_up2 HG2.out hb)
  have HA1 : Hid (∀ w1, Below w2.heap.size w2 w1 → Calls Tryz.prog 156 #[.agg #[.string (St xa), .slice A2 n2 cc2]] w1 fun e w' => e = .returned (.int .i64 na) ∧ Below w1.heap.size w1 w') := fun w1 hb => HA1'.out w1 (grow_up2 HG2.out hb)
  have HA2 : Hid (∀ w1, Below w2.heap.size w2 w1 → Calls Tryz.prog 156 #[.agg #[.string (St xb), .slice A4 n4 c4]] w1 fun e w' => e = .returned (.int .i64 nb) ∧ Below w1.heap.size w1 w') := fun w1 hb => HA2'.out w1 (grow_up2 HG2.out hb)
  clear HE1' HE2' HA1' HA2' HH HPK HX2 HR2 X1 R1 HB1 x1c p1 p2 p3 p4
  go_cut [48] from 17 to 48 (fun s48 wx => ∃ cc, s48 = .bool cc ∧ Hid (Below w2.heap.size w2 wx))
  case first =>
    cases e1 with
    | true =>
      refine wp_region_noPanic ?_
      refine wp_region_held_drew (S := (fun w' => w'.cell? ⟨w.heap.size, 1, none⟩ = some (.slice (some ⟨bl, o, none⟩) 3 c') ∧ w'.cell? ⟨bl, o + 2, none⟩ = some (.string (St xa)) ∧ w'.cell? ⟨bl, o + 3, none⟩ = some (.slice A2 n2 cc2) ∧ w'.cell? ⟨bl, o + 4, none⟩ = some (.string (St xb)) ∧ w'.cell? ⟨bl, o + 5, none⟩ = some (.slice A4 n4 c4))) (by kernel_rfl) (by exact s2) (fun hHeld => ?_)
      refine tk 0 ?_ rfl ?_ ?_
      rotate_left
      · intro W hSW; (try dsimp only at hSW); go_simp; try with_reducible rfl
      try simp only [Act.put, zA, zB, zC, zD, zE, zF]
      refine tk 1 ?_ rfl ?_ ?_
      rotate_left
      · intro W hSW; (try dsimp only at hSW); go_simp; try with_reducible rfl
      try simp only [Act.put, zA, zB, zC, zD, zE, zF]
      refine tk 2 ?_ rfl ?_ ?_
      rotate_left
      · intro W hSW; (try dsimp only at hSW); go_simp; try with_reducible rfl
      try simp only [Act.put, zA, zB, zC, zD, zE, zF]
      refine tk 3 ?_ rfl ?_ ?_
      rotate_left
      · intro W hSW; (try dsimp only at hSW); go_simp; try with_reducible rfl
      try simp only [Act.put, zA, zB, zC, zD, zE, zF]
      refine wpAnyH_ready (rs := [4]) (by kernel_rfl) (by simp) ?_
      refine AllReadyH.cons rfl (fun K hK => ?_) AllReadyH.nil
      go_simp
      refine hK.out _ _ (by exact ⟨cell_up (up_alloc (Below.refl _ _) _) s2.1, cell_up (up_alloc (Below.refl _ _) _) s2.2.1, cell_up (up_alloc (Below.refl _ _) _) s2.2.2.1, cell_up (up_alloc (Below.refl _ _) _) s2.2.2.2.1, cell_up (up_alloc (Below.refl _ _) _) s2.2.2.2.2⟩) (fun hHeld => ?_)
      clear hK
      try simp only [Act.put, zA, zB, zC, zD, zE, zF]
      refine wpAnyH_ready (rs := [5]) (by kernel_rfl) (by simp) ?_
      refine AllReadyH.cons rfl (fun K hK => ?_) AllReadyH.nil
      go_simp
      go_at_call 149
      refine (HE1.out _ (by repeat (first | exact Below.refl _ _ | refine up_drew ?_ | refine up_alloc ?_ _)) _ _).mono ?_
      rintro e w3 ⟨rfl, hb3⟩
      have HB3 : Hid (Below w2.heap.size w2 w3) := up_trans (by repeat (first | exact Below.refl _ _ | refine up_drew ?_ | refine up_alloc ?_ _)) hb3
      clear hb3
      refine hK.out _ _ (by exact ⟨cell_up HB3.out s2.1, cell_up HB3.out s2.2.1, cell_up HB3.out s2.2.2.1, cell_up HB3.out s2.2.2.2.1, cell_up HB3.out s2.2.2.2.2⟩) (fun hHeld => ?_)
      clear hK
      try simp only [Act.put, zA, zB, zC, zD, zE, zF]
      refine tk 6 ?_ rfl ?_ ?_
      rotate_left
      · intro W hSW; (try dsimp only at hSW); go_simp; try with_reducible rfl
      try simp only [Act.put, zA, zB, zC, zD, zE, zF]
      refine tn 7 rfl ?_
      try simp only [Act.put, zA, zB, zC, zD, zE, zF]
      refine tn 8 rfl ?_
      try simp only [Act.put, zA, zB, zC, zD, zE, zF]
      refine tn 9 rfl ?_
      try simp only [Act.put, zA, zB, zC, zD, zE, zF]
      refine tn 10 rfl ?_
      try simp only [Act.put, zA, zB, zC, zD, zE, zF]
      refine tn 11 rfl ?_
      try simp only [Act.put, zA, zB, zC, zD, zE, zF]
      refine tn 12 rfl ?_
      try simp only [Act.put, zA, zB, zC, zD, zE, zF]
      refine tn 13 rfl ?_
      try simp only [Act.put, zA, zB, zC, zD, zE, zF]
      refine tn 15 rfl ?_
      try simp only [Act.put, zA, zB, zC, zD, zE, zF]
      refine tn 16 rfl ?_
      try simp only [Act.put, zA, zB, zC, zD, zE, zF]
      refine tn 17 rfl ?_
      try simp only [Act.put, zA, zB, zC, zD, zE, zF]
      refine tn 18 rfl ?_
      try simp only [Act.put, zA, zB, zC, zD, zE, zF]
      refine tn 14 rfl ?_
      try simp only [Act.put, zA, zB, zC, zD, zE, zF]
      refine tn 19 rfl ?_
      try simp only [Act.put, zA, zB, zC, zD, zE, zF]
      refine tn 20 rfl ?_
      try simp only [Act.put, zA, zB, zC, zD, zE, zF]
      refine tn 21 rfl ?_
      try simp only [Act.put, zA, zB, zC, zD, zE, zF]
      refine tn 22 rfl ?_
      try simp only [Act.put, zA, zB, zC, zD, zE, zF]
      refine tn 23 rfl ?_
      try simp only [Act.put, zA, zB, zC, zD, zE, zF]
      refine tn 24 rfl ?_
      try simp only [Act.put, zA, zB, zC, zD, zE, zF]
      refine tn 25 rfl ?_
      try simp only [Act.put, zA, zB, zC, zD, zE, zF]
      refine tn 26 rfl ?_
      try simp only [Act.put, zA, zB, zC, zD, zE, zF]
      refine tn 27 rfl ?_
      try simp only [Act.put, zA, zB, zC, zD, zE, zF]
      refine tn 28 rfl ?_
      try simp only [Act.put, zA, zB, zC, zD, zE, zF]
      refine tn 29 rfl ?_
      try simp only [Act.put, zA, zB, zC, zD, zE, zF]
      refine tn 30 rfl ?_
      try simp only [Act.put, zA, zB, zC, zD, zE, zF]
      refine tk 31 ?_ rfl ?_ ?_
      rotate_left
      · intro W hSW; (try dsimp only at hSW); go_simp; try with_reducible rfl
      try simp only [Act.put, zA, zB, zC, zD, zE, zF]
      refine wpAnyH_done (by kernel_rfl) ?_ _
      refine NoPanic.normal ?_
      go_wp2_with fail
      go_meet
      exact ⟨_, rfl, HB3⟩
    | false =>
      cases q1 : decide (d ≤ 0) with
      | false =>
        refine wp_region_noPanic ?_
        refine wp_region_held_drew (S := (fun w' => w'.cell? ⟨w.heap.size, 1, none⟩ = some (.slice (some ⟨bl, o, none⟩) 3 c') ∧ w'.cell? ⟨bl, o + 2, none⟩ = some (.string (St xa)) ∧ w'.cell? ⟨bl, o + 3, none⟩ = some (.slice A2 n2 cc2) ∧ w'.cell? ⟨bl, o + 4, none⟩ = some (.string (St xb)) ∧ w'.cell? ⟨bl, o + 5, none⟩ = some (.slice A4 n4 c4))) (by kernel_rfl) (by exact s2) (fun hHeld => ?_)
        refine tk 0 ?_ rfl ?_ ?_
        rotate_left
        · intro W hSW; (try dsimp only at hSW); go_simp; try with_reducible rfl
        try simp only [Act.put, zA, zB, zC, zD, zE, zF]
        refine tk 1 ?_ rfl ?_ ?_
        rotate_left
        · intro W hSW; (try dsimp only at hSW); go_simp; try with_reducible rfl
        try simp only [Act.put, zA, zB, zC, zD, zE, zF]
        refine tk 2 ?_ rfl ?_ ?_
        rotate_left
        · intro W hSW; (try dsimp only at hSW); go_simp; try with_reducible rfl
        try simp only [Act.put, zA, zB, zC, zD, zE, zF]
        refine tk 3 ?_ rfl ?_ ?_
        rotate_left
        · intro W hSW; (try dsimp only at hSW); go_simp; try with_reducible rfl
        try simp only [Act.put, zA, zB, zC, zD, zE, zF]
        refine wpAnyH_ready (rs := [4]) (by kernel_rfl) (by simp) ?_
        refine AllReadyH.cons rfl (fun K hK => ?_) AllReadyH.nil
        go_simp
        refine hK.out _ _ (by exact ⟨cell_up (up_alloc (Below.refl _ _) _) s2.1, cell_up (up_alloc (Below.refl _ _) _) s2.2.1, cell_up (up_alloc (Below.refl _ _) _) s2.2.2.1, cell_up (up_alloc (Below.refl _ _) _) s2.2.2.2.1, cell_up (up_alloc (Below.refl _ _) _) s2.2.2.2.2⟩) (fun hHeld => ?_)
        clear hK
        try simp only [Act.put, zA, zB, zC, zD, zE, zF]
        refine wpAnyH_ready (rs := [5]) (by kernel_rfl) (by simp) ?_
        refine AllReadyH.cons rfl (fun K hK => ?_) AllReadyH.nil
        go_simp
        go_at_call 149
        refine (HE1.out _ (by repeat (first | exact Below.refl _ _ | refine up_drew ?_ | refine up_alloc ?_ _)) _ _).mono ?_
        rintro e w3 ⟨rfl, hb3⟩
        have HB3 : Hid (Below w2.heap.size w2 w3) := up_trans (by repeat (first | exact Below.refl _ _ | refine up_drew ?_ | refine up_alloc ?_ _)) hb3
        clear hb3
        refine hK.out _ _ (by exact ⟨cell_up HB3.out s2.1, cell_up HB3.out s2.2.1, cell_up HB3.out s2.2.2.1, cell_up HB3.out s2.2.2.2.1, cell_up HB3.out s2.2.2.2.2⟩) (fun hHeld => ?_)
        clear hK
        try simp only [Act.put, zA, zB, zC, zD, zE, zF]
        refine tk 6 ?_ rfl ?_ ?_
        rotate_left
        · intro W hSW; (try dsimp only at hSW); go_simp; try with_reducible rfl
        try simp only [Act.put, zA, zB, zC, zD, zE, zF]
        refine tk 7 ?_ rfl ?_ ?_
        rotate_left
        · intro W hSW; (try dsimp only at hSW); go_simp; try with_reducible rfl
        try simp only [Act.put, zA, zB, zC, zD, zE, zF]
        refine tk 8 ?_ rfl ?_ ?_
        rotate_left
        · intro W hSW; (try dsimp only at hSW); go_simp; try with_reducible rfl
        try simp only [Act.put, zA, zB, zC, zD, zE, zF]
        refine tk 9 ?_ rfl ?_ ?_
        rotate_left
        · intro W hSW; (try dsimp only at hSW); go_simp; try with_reducible rfl
        try simp only [Act.put, zA, zB, zC, zD, zE, zF]
        refine tn 10 rfl ?_
        try simp only [Act.put, zA, zB, zC, zD, zE, zF]
        refine tn 11 rfl ?_
        try simp only [Act.put, zA, zB, zC, zD, zE, zF]
        refine tn 12 rfl ?_
        try simp only [Act.put, zA, zB, zC, zD, zE, zF]
        refine tn 13 rfl ?_
        try simp only [Act.put, zA, zB, zC, zD, zE, zF]
        refine tn 15 rfl ?_
        try simp only [Act.put, zA, zB, zC, zD, zE, zF]
        refine tn 16 rfl ?_
        try simp only [Act.put, zA, zB, zC, zD, zE, zF]
        refine tn 17 rfl ?_
        try simp only [Act.put, zA, zB, zC, zD, zE, zF]
        refine tn 18 rfl ?_
        try simp only [Act.put, zA, zB, zC, zD, zE, zF]
        refine tn 14 rfl ?_
        try simp only [Act.put, zA, zB, zC, zD, zE, zF]
        refine tn 19 rfl ?_
        try simp only [Act.put, zA, zB, zC, zD, zE, zF]
        refine tn 20 rfl ?_
        try simp only [Act.put, zA, zB, zC, zD, zE, zF]
        refine tk 21 ?_ rfl ?_ ?_
        rotate_left
        · intro W hSW; (try dsimp only at hSW); go_simp; try with_reducible rfl
        try simp only [Act.put, zA, zB, zC, zD, zE, zF]
        refine tk 22 ?_ rfl ?_ ?_
        rotate_left
        · intro W hSW; (try dsimp only at hSW); go_simp; try with_reducible rfl
        try simp only [Act.put, zA, zB, zC, zD, zE, zF]
        refine tn 23 rfl ?_
        try simp only [Act.put, zA, zB, zC, zD, zE, zF]
        refine tn 24 rfl ?_
        try simp only [Act.put, zA, zB, zC, zD, zE, zF]
        refine tn 25 rfl ?_
        try simp only [Act.put, zA, zB, zC, zD, zE, zF]
        refine tn 26 rfl ?_
        try simp only [Act.put, zA, zB, zC, zD, zE, zF]
        refine tn 27 rfl ?_
        try simp only [Act.put, zA, zB, zC, zD, zE, zF]
        refine tn 28 rfl ?_
        try simp only [Act.put, zA, zB, zC, zD, zE, zF]
        refine tn 29 rfl ?_
        try simp only [Act.put, zA, zB, zC, zD, zE, zF]
        refine tk 30 ?_ rfl ?_ ?_
        rotate_left
        · intro W hSW; (try dsimp only at hSW); go_simp; try with_reducible rfl
        try simp only [Act.put, zA, zB, zC, zD, zE, zF]
        refine tk 31 ?_ rfl ?_ ?_
        rotate_left
        · intro W hSW; (try dsimp only at hSW); go_simp; try with_reducible rfl
        try simp only [Act.put, zA, zB, zC, zD, zE, zF]
        refine wpAnyH_done (by kernel_rfl) ?_ _
        refine NoPanic.normal ?_
        go_wp2_with fail
        go_meet
        exact ⟨_, rfl, HB3⟩
      | true =>
        have hd4 : d ≤ 0 := of_decide_eq_true q1
        cases q2 : decide ((na : Int) > nb) with
        | false =>
          have q3 : decide ((nb : Int) < na) = false := q2
          have q4 : decide (nb < na) = false := decide_eq_false (by have := of_decide_eq_false q2; omega)
          refine wp_region_noPanic ?_
          refine wp_region_held_drew (S := (fun w' => w'.cell? ⟨w.heap.size, 1, none⟩ = some (.slice (some ⟨bl, o, none⟩) 3 c') ∧ w'.cell? ⟨bl, o + 2, none⟩ = some (.string (St xa)) ∧ w'.cell? ⟨bl, o + 3, none⟩ = some (.slice A2 n2 cc2) ∧ w'.cell? ⟨bl, o + 4, none⟩ = some (.string (St xb)) ∧ w'.cell? ⟨bl, o + 5, none⟩ = some (.slice A4 n4 c4))) (by kernel_rfl) (by exact s2) (fun hHeld => ?_)
          refine tk 0 ?_ rfl ?_ ?_
          rotate_left
          · intro W hSW; (try dsimp only at hSW); go_simp; try with_reducible rfl
          try simp only [Act.put, zA, zB, zC, zD, zE, zF]
          refine tk 1 ?_ rfl ?_ ?_
          rotate_left
          · intro W hSW; (try dsimp only at hSW); go_simp; try with_reducible rfl
          try simp only [Act.put, zA, zB, zC, zD, zE, zF]
          refine tk 2 ?_ rfl ?_ ?_
          rotate_left
          · intro W hSW; (try dsimp only at hSW); go_simp; try with_reducible rfl
          try simp only [Act.put, zA, zB, zC, zD, zE, zF]
          refine tk 3 ?_ rfl ?_ ?_
          rotate_left
          · intro W hSW; (try dsimp only at hSW); go_simp; try with_reducible rfl
          try simp only [Act.put, zA, zB, zC, zD, zE, zF]
          refine wpAnyH_ready (rs := [4]) (by kernel_rfl) (by simp) ?_
          refine AllReadyH.cons rfl (fun K hK => ?_) AllReadyH.nil
          go_simp
          refine hK.out _ _ (by exact ⟨cell_up (up_alloc (Below.refl _ _) _) s2.1, cell_up (up_alloc (Below.refl _ _) _) s2.2.1, cell_up (up_alloc (Below.refl _ _) _) s2.2.2.1, cell_up (up_alloc (Below.refl _ _) _) s2.2.2.2.1, cell_up (up_alloc (Below.refl _ _) _) s2.2.2.2.2⟩) (fun hHeld => ?_)
          clear hK
          try simp only [Act.put, zA, zB, zC, zD, zE, zF]
          refine wpAnyH_ready (rs := [5]) (by kernel_rfl) (by simp) ?_
          refine AllReadyH.cons rfl (fun K hK => ?_) AllReadyH.nil
          go_simp
          go_at_call 149
          refine (HE1.out _ (by repeat (first | exact Below.refl _ _ | refine up_drew ?_ | refine up_alloc ?_ _)) _ _).mono ?_
          rintro e w3 ⟨rfl, hb3⟩
          have HB3 : Hid (Below w2.heap.size w2 w3) := up_trans (by repeat (first | exact Below.refl _ _ | refine up_drew ?_ | refine up_alloc ?_ _)) hb3
          clear hb3
          refine hK.out _ _ (by exact ⟨cell_up HB3.out s2.1, cell_up HB3.out s2.2.1, cell_up HB3.out s2.2.2.1, cell_up HB3.out s2.2.2.2.1, cell_up HB3.out s2.2.2.2.2⟩) (fun hHeld => ?_)
          clear hK
          try simp only [Act.put, zA, zB, zC, zD, zE, zF]
          refine tk 6 ?_ rfl ?_ ?_
          rotate_left
          · intro W hSW; (try dsimp only at hSW); go_simp; try with_reducible rfl
          try simp only [Act.put, zA, zB, zC, zD, zE, zF]
          refine tk 7 ?_ rfl ?_ ?_
          rotate_left
          · intro W hSW; (try dsimp only at hSW); go_simp; try with_reducible rfl
          try simp only [Act.put, zA, zB, zC, zD, zE, zF]
          refine tk 8 ?_ rfl ?_ ?_
          rotate_left
          · intro W hSW; (try dsimp only at hSW); go_simp; try with_reducible rfl
          try simp only [Act.put, zA, zB, zC, zD, zE, zF]
          refine tk 9 ?_ rfl ?_ ?_
          rotate_left
          · intro W hSW; (try dsimp only at hSW); go_simp; try with_reducible rfl
          try simp only [Act.put, zA, zB, zC, zD, zE, zF]
          refine tk 10 ?_ rfl ?_ ?_
          rotate_left
          · intro W hSW; (try dsimp only at hSW); go_simp; try with_reducible rfl
          try simp only [Act.put, zA, zB, zC, zD, zE, zF]
          refine tk 11 ?_ rfl ?_ ?_
          rotate_left
          · intro W hSW; (try dsimp only at hSW); go_simp; try with_reducible rfl
          try simp only [Act.put, zA, zB, zC, zD, zE, zF]
          refine tk 12 ?_ rfl ?_ ?_
          rotate_left
          · intro W hSW; (try dsimp only at hSW); go_simp; try with_reducible rfl
          try simp only [Act.put, zA, zB, zC, zD, zE, zF]
          refine tk 13 ?_ rfl ?_ ?_
          rotate_left
          · intro W hSW; (try dsimp only at hSW); go_simp; try with_reducible rfl
          try simp only [Act.put, zA, zB, zC, zD, zE, zF]
          refine tk 15 ?_ rfl ?_ ?_
          rotate_left
          · intro W hSW; (try dsimp only at hSW); go_simp; try with_reducible rfl
          try simp only [Act.put, zA, zB, zC, zD, zE, zF]
          refine tk 16 ?_ rfl ?_ ?_
          rotate_left
          · intro W hSW; (try dsimp only at hSW); go_simp; try with_reducible rfl
          try simp only [Act.put, zA, zB, zC, zD, zE, zF]
          refine tk 17 ?_ rfl ?_ ?_
          rotate_left
          · intro W hSW; (try dsimp only at hSW); go_simp; try with_reducible rfl
          try simp only [Act.put, zA, zB, zC, zD, zE, zF]
          refine tk 18 ?_ rfl ?_ ?_
          rotate_left
          · intro W hSW; (try dsimp only at hSW); go_simp; try with_reducible rfl
          try simp only [Act.put, zA, zB, zC, zD, zE, zF]
          refine wpAnyH_ready (rs := [14]) (by kernel_rfl) (by simp) ?_
          refine AllReadyH.cons rfl (fun K hK => ?_) AllReadyH.nil
          go_simp
          go_at_call 156
          refine (HA1.out _ (by repeat (first | exact HB3.out | refine up_drew ?_ | refine up_alloc ?_ _))).mono ?_
          rintro e w4 ⟨rfl, hb4⟩
          have HB4 : Hid (Below w2.heap.size w2 w4) := up_trans (by repeat (first | exact HB3.out | refine up_drew ?_ | refine up_alloc ?_ _)) hb4
          clear hb4
          refine hK.out _ _ (by exact ⟨cell_up HB4.out s2.1, cell_up HB4.out s2.2.1, cell_up HB4.out s2.2.2.1, cell_up HB4.out s2.2.2.2.1, cell_up HB4.out s2.2.2.2.2⟩) (fun hHeld => ?_)
          clear hK
          try simp only [Act.put, zA, zB, zC, zD, zE, zF]
          refine wpAnyH_ready (rs := [19]) (by kernel_rfl) (by simp) ?_
          refine AllReadyH.cons rfl (fun K hK => ?_) AllReadyH.nil
          go_simp
          go_at_call 156
          refine (HA2.out _ (by repeat (first | exact HB4.out | refine up_drew ?_ | refine up_alloc ?_ _))).mono ?_
          rintro e w5 ⟨rfl, hb5⟩
          have HB5 : Hid (Below w2.heap.size w2 w5) := up_trans (by repeat (first | exact HB4.out | refine up_drew ?_ | refine up_alloc ?_ _)) hb5
          clear hb5
          refine hK.out _ _ (by exact ⟨cell_up HB5.out s2.1, cell_up HB5.out s2.2.1, cell_up HB5.out s2.2.2.1, cell_up HB5.out s2.2.2.2.1, cell_up HB5.out s2.2.2.2.2⟩) (fun hHeld => ?_)
          clear hK
          try simp only [Act.put, zA, zB, zC, zD, zE, zF]
          refine tk 20 ?_ rfl ?_ ?_
          rotate_left
          · intro W hSW; (try dsimp only at hSW); go_simp; try with_reducible rfl
          try simp only [Act.put, zA, zB, zC, zD, zE, zF]
          refine tk 21 ?_ rfl ?_ ?_
          rotate_left
          · intro W hSW; (try dsimp only at hSW); go_simp; try with_reducible rfl
          try simp only [Act.put, zA, zB, zC, zD, zE, zF]
          refine tk 22 ?_ rfl ?_ ?_
          rotate_left
          · intro W hSW; (try dsimp only at hSW); go_simp; try with_reducible rfl
          try simp only [Act.put, zA, zB, zC, zD, zE, zF]
          refine tn 23 rfl ?_
          try simp only [Act.put, zA, zB, zC, zD, zE, zF]
          refine tn 24 rfl ?_
          try simp only [Act.put, zA, zB, zC, zD, zE, zF]
          refine tn 25 rfl ?_
          try simp only [Act.put, zA, zB, zC, zD, zE, zF]
          refine tn 26 rfl ?_
          try simp only [Act.put, zA, zB, zC, zD, zE, zF]
          refine tn 27 rfl ?_
          try simp only [Act.put, zA, zB, zC, zD, zE, zF]
          refine tn 28 rfl ?_
          try simp only [Act.put, zA, zB, zC, zD, zE, zF]
          refine tn 29 rfl ?_
          try simp only [Act.put, zA, zB, zC, zD, zE, zF]
          refine tk 30 ?_ rfl ?_ ?_
          rotate_left
          · intro W hSW; (try dsimp only at hSW); go_simp; try with_reducible rfl
          try simp only [Act.put, zA, zB, zC, zD, zE, zF]
          refine tk 31 ?_ rfl ?_ ?_
          rotate_left
          · intro W hSW; (try dsimp only at hSW); go_simp; try with_reducible rfl
          try simp only [Act.put, zA, zB, zC, zD, zE, zF]
          refine wpAnyH_done (by kernel_rfl) ?_ _
          refine NoPanic.normal ?_
          go_wp2_with fail
          go_meet
          exact ⟨_, rfl, HB5⟩
        | true =>
          have q3 : decide ((nb : Int) < na) = true := q2
          have q4 : decide (nb < na) = true := decide_eq_true (by have := of_decide_eq_true q2; omega)
          refine wp_region_noPanic ?_
          refine wp_region_held_drew (S := (fun w' => w'.cell? ⟨w.heap.size, 1, none⟩ = some (.slice (some ⟨bl, o, none⟩) 3 c') ∧ w'.cell? ⟨bl, o + 2, none⟩ = some (.string (St xa)) ∧ w'.cell? ⟨bl, o + 3, none⟩ = some (.slice A2 n2 cc2) ∧ w'.cell? ⟨bl, o + 4, none⟩ = some (.string (St xb)) ∧ w'.cell? ⟨bl, o + 5, none⟩ = some (.slice A4 n4 c4))) (by kernel_rfl) (by exact s2) (fun hHeld => ?_)
          refine tk 0 ?_ rfl ?_ ?_
          rotate_left
          · intro W hSW; (try dsimp only at hSW); go_simp; try with_reducible rfl
          try simp only [Act.put, zA, zB, zC, zD, zE, zF]
          refine tk 1 ?_ rfl ?_ ?_
          rotate_left
          · intro W hSW; (try dsimp only at hSW); go_simp; try with_reducible rfl
          try simp only [Act.put, zA, zB, zC, zD, zE, zF]
          refine tk 2 ?_ rfl ?_ ?_
          rotate_left
          · intro W hSW; (try dsimp only at hSW); go_simp; try with_reducible rfl
          try simp only [Act.put, zA, zB, zC, zD, zE, zF]
          refine tk 3 ?_ rfl ?_ ?_
          rotate_left
          · intro W hSW; (try dsimp only at hSW); go_simp; try with_reducible rfl
          try simp only [Act.put, zA, zB, zC, zD, zE, zF]
          refine wpAnyH_ready (rs := [4]) (by kernel_rfl) (by simp) ?_
          refine AllReadyH.cons rfl (fun K hK => ?_) AllReadyH.nil
          go_simp
          refine hK.out _ _ (by exact ⟨cell_up (up_alloc (Below.refl _ _) _) s2.1, cell_up (up_alloc (Below.refl _ _) _) s2.2.1, cell_up (up_alloc (Below.refl _ _) _) s2.2.2.1, cell_up (up_alloc (Below.refl _ _) _) s2.2.2.2.1, cell_up (up_alloc (Below.refl _ _) _) s2.2.2.2.2⟩) (fun hHeld => ?_)
          clear hK
          try simp only [Act.put, zA, zB, zC, zD, zE, zF]
          refine wpAnyH_ready (rs := [5]) (by kernel_rfl) (by simp) ?_
          refine AllReadyH.cons rfl (fun K hK => ?_) AllReadyH.nil
          go_simp
          go_at_call 149
          refine (HE1.out _ (by repeat (first | exact Below.refl _ _ | refine up_drew ?_ | refine up_alloc ?_ _)) _ _).mono ?_
          rintro e w3 ⟨rfl, hb3⟩
          have HB3 : Hid (Below w2.heap.size w2 w3) := up_trans (by repeat (first | exact Below.refl _ _ | refine up_drew ?_ | refine up_alloc ?_ _)) hb3
          clear hb3
          refine hK.out _ _ (by exact ⟨cell_up HB3.out s2.1, cell_up HB3.out s2.2.1, cell_up HB3.out s2.2.2.1, cell_up HB3.out s2.2.2.2.1, cell_up HB3.out s2.2.2.2.2⟩) (fun hHeld => ?_)
          clear hK
          try simp only [Act.put, zA, zB, zC, zD, zE, zF]
          refine tk 6 ?_ rfl ?_ ?_
          rotate_left
          · intro W hSW; (try dsimp only at hSW); go_simp; try with_reducible rfl
          try simp only [Act.put, zA, zB, zC, zD, zE, zF]
          refine tk 7 ?_ rfl ?_ ?_
          rotate_left
          · intro W hSW; (try dsimp only at hSW); go_simp; try with_reducible rfl
          try simp only [Act.put, zA, zB, zC, zD, zE, zF]
          refine tk 8 ?_ rfl ?_ ?_
          rotate_left
          · intro W hSW; (try dsimp only at hSW); go_simp; try with_reducible rfl
          try simp only [Act.put, zA, zB, zC, zD, zE, zF]
          refine tk 9 ?_ rfl ?_ ?_
          rotate_left
          · intro W hSW; (try dsimp only at hSW); go_simp; try with_reducible rfl
          try simp only [Act.put, zA, zB, zC, zD, zE, zF]
          refine tk 10 ?_ rfl ?_ ?_
          rotate_left
          · intro W hSW; (try dsimp only at hSW); go_simp; try with_reducible rfl
          try simp only [Act.put, zA, zB, zC, zD, zE, zF]
          refine tk 11 ?_ rfl ?_ ?_
          rotate_left
          · intro W hSW; (try dsimp only at hSW); go_simp; try with_reducible rfl
          try simp only [Act.put, zA, zB, zC, zD, zE, zF]
          refine tk 12 ?_ rfl ?_ ?_
          rotate_left
          · intro W hSW; (try dsimp only at hSW); go_simp; try with_reducible rfl
          try simp only [Act.put, zA, zB, zC, zD, zE, zF]
          refine tk 13 ?_ rfl ?_ ?_
          rotate_left
          · intro W hSW; (try dsimp only at hSW); go_simp; try with_reducible rfl
          try simp only [Act.put, zA, zB, zC, zD, zE, zF]
          refine tk 15 ?_ rfl ?_ ?_
          rotate_left
          · intro W hSW; (try dsimp only at hSW); go_simp; try with_reducible rfl
          try simp only [Act.put, zA, zB, zC, zD, zE, zF]
          refine tk 16 ?_ rfl ?_ ?_
          rotate_left
          · intro W hSW; (try dsimp only at hSW); go_simp; try with_reducible rfl
          try simp only [Act.put, zA, zB, zC, zD, zE, zF]
          refine tk 17 ?_ rfl ?_ ?_
          rotate_left
          · intro W hSW; (try dsimp only at hSW); go_simp; try with_reducible rfl
          try simp only [Act.put, zA, zB, zC, zD, zE, zF]
          refine tk 18 ?_ rfl ?_ ?_
          rotate_left
          · intro W hSW; (try dsimp only at hSW); go_simp; try with_reducible rfl
          try simp only [Act.put, zA, zB, zC, zD, zE, zF]
          refine wpAnyH_ready (rs := [14]) (by kernel_rfl) (by simp) ?_
          refine AllReadyH.cons rfl (fun K hK => ?_) AllReadyH.nil
          go_simp
          go_at_call 156
          refine (HA1.out _ (by repeat (first | exact HB3.out | refine up_drew ?_ | refine up_alloc ?_ _))).mono ?_
          rintro e w4 ⟨rfl, hb4⟩
          have HB4 : Hid (Below w2.heap.size w2 w4) := up_trans (by repeat (first | exact HB3.out | refine up_drew ?_ | refine up_alloc ?_ _)) hb4
          clear hb4
          refine hK.out _ _ (by exact ⟨cell_up HB4.out s2.1, cell_up HB4.out s2.2.1, cell_up HB4.out s2.2.2.1, cell_up HB4.out s2.2.2.2.1, cell_up HB4.out s2.2.2.2.2⟩) (fun hHeld => ?_)
          clear hK
          try simp only [Act.put, zA, zB, zC, zD, zE, zF]
          refine wpAnyH_ready (rs := [19]) (by kernel_rfl) (by simp) ?_
          refine AllReadyH.cons rfl (fun K hK => ?_) AllReadyH.nil
          go_simp
          go_at_call 156
          refine (HA2.out _ (by repeat (first | exact HB4.out | refine up_drew ?_ | refine up_alloc ?_ _))).mono ?_
          rintro e w5 ⟨rfl, hb5⟩
          have HB5 : Hid (Below w2.heap.size w2 w5) := up_trans (by repeat (first | exact HB4.out | refine up_drew ?_ | refine up_alloc ?_ _)) hb5
          clear hb5
          refine hK.out _ _ (by exact ⟨cell_up HB5.out s2.1, cell_up HB5.out s2.2.1, cell_up HB5.out s2.2.2.1, cell_up HB5.out s2.2.2.2.1, cell_up HB5.out s2.2.2.2.2⟩) (fun hHeld => ?_)
          clear hK
          try simp only [Act.put, zA, zB, zC, zD, zE, zF]
          refine tk 20 ?_ rfl ?_ ?_
          rotate_left
          · intro W hSW; (try dsimp only at hSW); go_simp; try with_reducible rfl
          try simp only [Act.put, zA, zB, zC, zD, zE, zF]
          refine tk 21 ?_ rfl ?_ ?_
          rotate_left
          · intro W hSW; (try dsimp only at hSW); go_simp; try with_reducible rfl
          try simp only [Act.put, zA, zB, zC, zD, zE, zF]
          refine tk 22 ?_ rfl ?_ ?_
          rotate_left
          · intro W hSW; (try dsimp only at hSW); go_simp; try with_reducible rfl
          try simp only [Act.put, zA, zB, zC, zD, zE, zF]
          refine tk 23 ?_ rfl ?_ ?_
          rotate_left
          · intro W hSW; (try dsimp only at hSW); go_simp; try with_reducible rfl
          try simp only [Act.put, zA, zB, zC, zD, zE, zF]
          refine tk 24 ?_ rfl ?_ ?_
          rotate_left
          · intro W hSW; (try dsimp only at hSW); go_simp; try with_reducible rfl
          try simp only [Act.put, zA, zB, zC, zD, zE, zF]
          refine tk 25 ?_ rfl ?_ ?_
          rotate_left
          · intro W hSW; (try dsimp only at hSW); go_simp; try with_reducible rfl
          try simp only [Act.put, zA, zB, zC, zD, zE, zF]
          refine tk 26 ?_ rfl ?_ ?_
          rotate_left
          · intro W hSW; (try dsimp only at hSW); go_simp; try with_reducible rfl
          try simp only [Act.put, zA, zB, zC, zD, zE, zF]
          refine wpAnyH_ready (rs := [27]) (by kernel_rfl) (by simp) ?_
          refine AllReadyH.cons rfl (fun K hK => ?_) AllReadyH.nil
          go_simp
          refine hK.out _ _ (by exact ⟨cell_up (up_alloc (HB5.out) _) s2.1, cell_up (up_alloc (HB5.out) _) s2.2.1, cell_up (up_alloc (HB5.out) _) s2.2.2.1, cell_up (up_alloc (HB5.out) _) s2.2.2.2.1, cell_up (up_alloc (HB5.out) _) s2.2.2.2.2⟩) (fun hHeld => ?_)
          clear hK
          try simp only [Act.put, zA, zB, zC, zD, zE, zF]
          refine wpAnyH_ready (rs := [28]) (by kernel_rfl) (by simp) ?_
          refine AllReadyH.cons rfl (fun K hK => ?_) AllReadyH.nil
          go_simp
          go_at_call 149
          refine (HE2.out _ (by repeat (first | exact HB5.out | refine up_drew ?_ | refine up_alloc ?_ _)) _ _).mono ?_
          rintro e w6 ⟨rfl, hb6⟩
          have HB6 : Hid (Below w2.heap.size w2 w6) := up_trans (by repeat (first | exact HB5.out | refine up_drew ?_ | refine up_alloc ?_ _)) hb6
          clear hb6
          refine hK.out _ _ (by exact ⟨cell_up HB6.out s2.1, cell_up HB6.out s2.2.1, cell_up HB6.out s2.2.2.1, cell_up HB6.out s2.2.2.2.1, cell_up HB6.out s2.2.2.2.2⟩) (fun hHeld => ?_)
          clear hK
          try simp only [Act.put, zA, zB, zC, zD, zE, zF]
          refine tk 29 ?_ rfl ?_ ?_
          rotate_left
          · intro W hSW; (try dsimp only at hSW); go_simp; try with_reducible rfl
          try simp only [Act.put, zA, zB, zC, zD, zE, zF]
          refine tk 30 ?_ rfl ?_ ?_
          rotate_left
          · intro W hSW; (try dsimp only at hSW); go_simp; try with_reducible rfl
          try simp only [Act.put, zA, zB, zC, zD, zE, zF]
          refine tk 31 ?_ rfl ?_ ?_
          rotate_left
          · intro W hSW; (try dsimp only at hSW); go_simp; try with_reducible rfl
          try simp only [Act.put, zA, zB, zC, zD, zE, zF]
          refine wpAnyH_done (by kernel_rfl) ?_ _
          refine NoPanic.normal ?_
          go_wp2_with fail
          go_meet
          exact ⟨_, rfl, HB6⟩
  case rest =>
    obtain ⟨cc, rfl, HBX⟩ := hcut
    have HGx : Hid (w.grownBy wc (some r)) := grow_up2 HG2.out HBX.out
    have RBx := Lib.hid (RB2.out.up HBX.out)
    have Rx := Lib.hid (block_up HBX.out R2.out)
    have Xx := Lib.hid (block_up HBX.out X2.out)
    have xx1 := block_cell Xx.out 1
    obtain ⟨p1, p2, p3, p4⟩ := HC.out wc HGx.out
    have HBe : Hid (Below wc.heap.size wc wc) := Below.refl _ _
    have HE3 : Hid (∀ w1, Below wc.heap.size wc w1 → ∀ A c, Calls Tryz.prog 149 #[.agg #[.string (St xb), .slice A4 n4 c4], .slice A 0 c] w1 fun e w' => e = .returned (.bool e2) ∧ Below w1.heap.size w1 w') := fun w1 hb => HE2.out w1 (up_trans HBX.out hb)
    clear HE1 HE2 HA1 HA2 R2 X2 RB2 HG2 HBX s2
    have hz : z = 0 ∨ z = 1 := by omega
    clear hz0 hz1
    cases cc with
    | true =>
      go_wp2_with (first
        | (go_at_call 138; (refine (IHB.out r B n c (K + 1) _ _ (RBx.out.up HBe.out) (by omega) (HCT.out _ (grow_up2 HGx.out HBe.out)).2).mono ?_); rintro e w3 ⟨tr, x3, B3, m3, c3, rfl, hw3, hl3, ht3, hr3, hg3⟩; have HG3 : Hid (w.grownBy w3 (some r)) := grow_grow (grow_up2 HGx.out HBe.out) (up_grow (by repeat (first | exact Below.refl _ _ | refine up_drew ?_ | refine up_alloc ?_ _)) hg3) (.inl rfl); have RB3 := Lib.hid hr3; have R3 := Lib.hid ((hg3.block _ (lt_of_block (block_up HBe.out Rx.out)) (by simp <;> omega)).trans (block_up HBe.out Rx.out)); have HT3 : Hid (TAt w3 (fun k => w.heap.size + 2 ≤ k) tr (.agg #[.string x3, .slice B3 m3 c3])) := ht3.weak (fun k hk => by (have hk2 := hk); have := lt_of_block (block_up HBe.out Rx.out); simp at hk2 this ⊢ <;> omega); have HS3 : Hid (w.heap.size + 2 ≤ w3.heap.size) := lt_of_block R3.out; have HW := Lib.hid hw3; have HL := Lib.hid hl3; clear hg3 hr3 ht3 hw3 hl3)
        | (go_at_call 71; (refine (list1T [114] tr _ _ x3 B3 m3 c3 (fun k => w.heap.size + 2 ≤ k) (fun k hk => by (have hk2 := hk); have := HS3.out; simp at hk2 ⊢ <;> omega) (by first | exact block_new _ _ | exact new2 _ _ _ | exact old2 _ _ _) (HT3.out.up (by repeat (first | exact Below.refl _ _ | refine up_drew ?_ | refine up_alloc ?_ _)))).mono ?_); rintro e w4 ⟨⟨x4, B4, m4, c4', rfl, ht4⟩, hb4⟩; have hb4 : Below w3.heap.size w3 w4 := up_trans (by repeat (first | exact Below.refl _ _ | refine up_drew ?_ | refine up_alloc ?_ _)) hb4; have HG4 := Lib.hid (grow_up2 HG3.out hb4); have RB4 := Lib.hid (RB3.out.up hb4); have R4 := Lib.hid (block_up hb4 R3.out); have rd0 := block_cell R4.out 0; have rd1 := block_cell R4.out 1; have fs0 := block_free R4.out 0; have fs1 := block_free R4.out 1; have lr4 := lt_of_block R4.out; have HT4 := Lib.hid ht4; clear hb4 ht4))
      all_goals refine bodyPost_ret (v := .agg #[.string x4, .slice B4 m4 c4']) (by simp [results, Tryz.results138, go_sem, rd0, rd1, lr4]) rfl ?_
      all_goals exact ⟨_, _, _, _, _, rfl, wf1 ⟨by simp, by decide⟩ HW.out, by rw [len1]; have := HL.out; omega, HT4.out.move fun k hk ho => by
        have h2 : w.heap.size + 2 ≤ k := ho
        exact ⟨by show w.heap.size ≤ k; omega, set2_block w4 _ _ (by omega)⟩, (HRB.out.set RB4.out HG4.out (Nat.le_succ _) _ _).mono (by omega), grow_set (grow_set HG4.out (Nat.le_succ _)) (Nat.le_succ _)⟩
    | false =>
      cases e2 with
      | true =>
        go_wp2_with (first
          | (go_at_call 149; (refine (HE3.out _ (by repeat (first | exact Below.refl _ _ | refine up_drew ?_ | refine up_alloc ?_ _)) _ _).mono ?_); rintro e w5 ⟨rfl, hb5⟩; have HBe : Hid (Below wc.heap.size wc w5) := up_trans (by repeat (first | exact Below.refl _ _ | refine up_drew ?_ | refine up_alloc ?_ _)) hb5; have xx1 := block_cell (block_up HBe.out Xx.out) 1; obtain ⟨p1, p2, p3, p4⟩ := HC.out w5 (grow_up2 HGx.out HBe.out); clear hb5)
          | (go_at_call 138; (refine (IHA.out r B n c (K + 1) _ _ (RBx.out.up HBe.out) (by omega) (HCT.out _ (grow_up2 HGx.out HBe.out)).1).mono ?_); rintro e w3 ⟨tr, x3, B3, m3, c3, rfl, hw3, hl3, ht3, hr3, hg3⟩; have HG3 : Hid (w.grownBy w3 (some r)) := grow_grow (grow_up2 HGx.out HBe.out) (up_grow (by repeat (first | exact Below.refl _ _ | refine up_drew ?_ | refine up_alloc ?_ _)) hg3) (.inl rfl); have RB3 := Lib.hid hr3; have R3 := Lib.hid ((hg3.block _ (lt_of_block (block_up HBe.out Rx.out)) (by simp <;> omega)).trans (block_up HBe.out Rx.out)); have HT3 : Hid (TAt w3 (fun k => w.heap.size + 2 ≤ k) tr (.agg #[.string x3, .slice B3 m3 c3])) := ht3.weak (fun k hk => by (have hk2 := hk); have := lt_of_block (block_up HBe.out Rx.out); simp at hk2 this ⊢ <;> omega); have HS3 : Hid (w.heap.size + 2 ≤ w3.heap.size) := lt_of_block R3.out; have HW := Lib.hid hw3; have HL := Lib.hid hl3; clear hg3 hr3 ht3 hw3 hl3)
          | (go_at_call 71; (refine (list1T [108] tr _ _ x3 B3 m3 c3 (fun k => w.heap.size + 2 ≤ k) (fun k hk => by (have hk2 := hk); have := HS3.out; simp at hk2 ⊢ <;> omega) (by first | exact block_new _ _ | exact new2 _ _ _ | exact old2 _ _ _) (HT3.out.up (by repeat (first | exact Below.refl _ _ | refine up_drew ?_ | refine up_alloc ?_ _)))).mono ?_); rintro e w4 ⟨⟨x4, B4, m4, c4', rfl, ht4⟩, hb4⟩; have hb4 : Below w3.heap.size w3 w4 := up_trans (by repeat (first | exact Below.refl _ _ | refine up_drew ?_ | refine up_alloc ?_ _)) hb4; have HG4 := Lib.hid (grow_up2 HG3.out hb4); have RB4 := Lib.hid (RB3.out.up hb4); have R4 := Lib.hid (block_up hb4 R3.out); have rd0 := block_cell R4.out 0; have rd1 := block_cell R4.out 1; have fs0 := block_free R4.out 0; have fs1 := block_free R4.out 1; have lr4 := lt_of_block R4.out; have HT4 := Lib.hid ht4; clear hb4 ht4))
        all_goals refine bodyPost_ret (v := .agg #[.string x4, .slice B4 m4 c4']) (by simp [results, Tryz.results138, go_sem, rd0, rd1, lr4]) rfl ?_
        all_goals exact ⟨_, _, _, _, _, rfl, wf1 ⟨by simp, by decide⟩ HW.out, by rw [len1]; have := HL.out; omega, HT4.out.move fun k hk ho => by
          have h2 : w.heap.size + 2 ≤ k := ho
          exact ⟨by show w.heap.size ≤ k; omega, set2_block w4 _ _ (by omega)⟩, (HRB.out.set RB4.out HG4.out (Nat.le_succ _) _ _).mono (by omega), grow_set (grow_set HG4.out (Nat.le_succ _)) (Nat.le_succ _)⟩
      | false =>
        cases q1 : decide (d ≤ 0) with
        | true =>
          go_wp2_with (first
            | (go_at_call 149; (refine (HE3.out _ (by repeat (first | exact Below.refl _ _ | refine up_drew ?_ | refine up_alloc ?_ _)) _ _).mono ?_); rintro e w5 ⟨rfl, hb5⟩; have HBe : Hid (Below wc.heap.size wc w5) := up_trans (by repeat (first | exact Below.refl _ _ | refine up_drew ?_ | refine up_alloc ?_ _)) hb5; have xx1 := block_cell (block_up HBe.out Xx.out) 1; obtain ⟨p1, p2, p3, p4⟩ := HC.out w5 (grow_up2 HGx.out HBe.out); clear hb5)
            | (go_at_call 138; (refine (IHA.out r B n c (K + 1) _ _ (RBx.out.up HBe.out) (by omega) (HCT.out _ (grow_up2 HGx.out HBe.out)).1).mono ?_); rintro e w3 ⟨tr, x3, B3, m3, c3, rfl, hw3, hl3, ht3, hr3, hg3⟩; have HG3 : Hid (w.grownBy w3 (some r)) := grow_grow (grow_up2 HGx.out HBe.out) (up_grow (by repeat (first | exact Below.refl _ _ | refine up_drew ?_ | refine up_alloc ?_ _)) hg3) (.inl rfl); have RB3 := Lib.hid hr3; have R3 := Lib.hid ((hg3.block _ (lt_of_block (block_up HBe.out Rx.out)) (by simp <;> omega)).trans (block_up HBe.out Rx.out)); have HT3 : Hid (TAt w3 (fun k => w.heap.size + 2 ≤ k) tr (.agg #[.string x3, .slice B3 m3 c3])) := ht3.weak (fun k hk => by (have hk2 := hk); have := lt_of_block (block_up HBe.out Rx.out); simp at hk2 this ⊢ <;> omega); have HS3 : Hid (w.heap.size + 2 ≤ w3.heap.size) := lt_of_block R3.out; have HW := Lib.hid hw3; have HL := Lib.hid hl3; clear hg3 hr3 ht3 hw3 hl3)
            | (go_at_call 71; (refine (list1T [108] tr _ _ x3 B3 m3 c3 (fun k => w.heap.size + 2 ≤ k) (fun k hk => by (have hk2 := hk); have := HS3.out; simp at hk2 ⊢ <;> omega) (by first | exact block_new _ _ | exact new2 _ _ _ | exact old2 _ _ _) (HT3.out.up (by repeat (first | exact Below.refl _ _ | refine up_drew ?_ | refine up_alloc ?_ _)))).mono ?_); rintro e w4 ⟨⟨x4, B4, m4, c4', rfl, ht4⟩, hb4⟩; have hb4 : Below w3.heap.size w3 w4 := up_trans (by repeat (first | exact Below.refl _ _ | refine up_drew ?_ | refine up_alloc ?_ _)) hb4; have HG4 := Lib.hid (grow_up2 HG3.out hb4); have RB4 := Lib.hid (RB3.out.up hb4); have R4 := Lib.hid (block_up hb4 R3.out); have rd0 := block_cell R4.out 0; have rd1 := block_cell R4.out 1; have fs0 := block_free R4.out 0; have fs1 := block_free R4.out 1; have lr4 := lt_of_block R4.out; have HT4 := Lib.hid ht4; clear hb4 ht4))
          all_goals refine bodyPost_ret (v := .agg #[.string x4, .slice B4 m4 c4']) (by simp [results, Tryz.results138, go_sem, rd0, rd1, lr4]) rfl ?_
          all_goals exact ⟨_, _, _, _, _, rfl, wf1 ⟨by simp, by decide⟩ HW.out, by rw [len1]; have := HL.out; omega, HT4.out.move fun k hk ho => by
            have h2 : w.heap.size + 2 ≤ k := ho
            exact ⟨by show w.heap.size ≤ k; omega, set2_block w4 _ _ (by omega)⟩, (HRB.out.set RB4.out HG4.out (Nat.le_succ _) _ _).mono (by omega), grow_set (grow_set HG4.out (Nat.le_succ _)) (Nat.le_succ _)⟩
        | false =>
          rcases hz with rfl | rfl
          · go_wp2_with (first
              | (go_at_call 149; (refine (HE3.out _ (by repeat (first | exact Below.refl _ _ | refine up_drew ?_ | refine up_alloc ?_ _)) _ _).mono ?_); rintro e w5 ⟨rfl, hb5⟩; have HBe : Hid (Below wc.heap.size wc w5) := up_trans (by repeat (first | exact Below.refl _ _ | refine up_drew ?_ | refine up_alloc ?_ _)) hb5; have xx1 := block_cell (block_up HBe.out Xx.out) 1; obtain ⟨p1, p2, p3, p4⟩ := HC.out w5 (grow_up2 HGx.out HBe.out); clear hb5)
              | (go_at_call 138; (refine (IHA.out r B n c (K + 1) _ _ (RBx.out.up HBe.out) (by omega) (HCT.out _ (grow_up2 HGx.out HBe.out)).1).mono ?_); rintro e w3 ⟨tr, x3, B3, m3, c3, rfl, hw3, hl3, ht3, hr3, hg3⟩; have HG3 : Hid (w.grownBy w3 (some r)) := grow_grow (grow_up2 HGx.out HBe.out) (up_grow (by repeat (first | exact Below.refl _ _ | refine up_drew ?_ | refine up_alloc ?_ _)) hg3) (.inl rfl); have RB3 := Lib.hid hr3; have R3 := Lib.hid ((hg3.block _ (lt_of_block (block_up HBe.out Rx.out)) (by simp <;> omega)).trans (block_up HBe.out Rx.out)); have HT3 : Hid (TAt w3 (fun k => w.heap.size + 2 ≤ k) tr (.agg #[.string x3, .slice B3 m3 c3])) := ht3.weak (fun k hk => by (have hk2 := hk); have := lt_of_block (block_up HBe.out Rx.out); simp at hk2 this ⊢ <;> omega); have HS3 : Hid (w.heap.size + 2 ≤ w3.heap.size) := lt_of_block R3.out; have HW := Lib.hid hw3; have HL := Lib.hid hl3; clear hg3 hr3 ht3 hw3 hl3)
              | (go_at_call 71; (refine (list1T [108] tr _ _ x3 B3 m3 c3 (fun k => w.heap.size + 2 ≤ k) (fun k hk => by (have hk2 := hk); have := HS3.out; simp at hk2 ⊢ <;> omega) (by first | exact block_new _ _ | exact new2 _ _ _ | exact old2 _ _ _) (HT3.out.up (by repeat (first | exact Below.refl _ _ | refine up_drew ?_ | refine up_alloc ?_ _)))).mono ?_); rintro e w4 ⟨⟨x4, B4, m4, c4', rfl, ht4⟩, hb4⟩; have hb4 : Below w3.heap.size w3 w4 := up_trans (by repeat (first | exact Below.refl _ _ | refine up_drew ?_ | refine up_alloc ?_ _)) hb4; have HG4 := Lib.hid (grow_up2 HG3.out hb4); have RB4 := Lib.hid (RB3.out.up hb4); have R4 := Lib.hid (block_up hb4 R3.out); have rd0 := block_cell R4.out 0; have rd1 := block_cell R4.out 1; have fs0 := block_free R4.out 0; have fs1 := block_free R4.out 1; have lr4 := lt_of_block R4.out; have HT4 := Lib.hid ht4; clear hb4 ht4))
            all_goals refine bodyPost_ret (v := .agg #[.string x4, .slice B4 m4 c4']) (by simp [results, Tryz.results138, go_sem, rd0, rd1, lr4]) rfl ?_
            all_goals exact ⟨_, _, _, _, _, rfl, wf1 ⟨by simp, by decide⟩ HW.out, by rw [len1]; have := HL.out; omega, HT4.out.move fun k hk ho => by
              have h2 : w.heap.size + 2 ≤ k := ho
              exact ⟨by show w.heap.size ≤ k; omega, set2_block w4 _ _ (by omega)⟩, (HRB.out.set RB4.out HG4.out (Nat.le_succ _) _ _).mono (by omega), grow_set (grow_set HG4.out (Nat.le_succ _)) (Nat.le_succ _)⟩
          · go_wp2_with (first
              | (go_at_call 149; (refine (HE3.out _ (by repeat (first | exact Below.refl _ _ | refine up_drew ?_ | refine up_alloc ?_ _)) _ _).mono ?_); rintro e w5 ⟨rfl, hb5⟩; have HBe : Hid (Below wc.heap.size wc w5) := up_trans (by repeat (first | exact Below.refl _ _ | refine up_drew ?_ | refine up_alloc ?_ _)) hb5; have xx1 := block_cell (block_up HBe.out Xx.out) 1; obtain ⟨p1, p2, p3, p4⟩ := HC.out w5 (grow_up2 HGx.out HBe.out); clear hb5)
              | (go_at_call 138; (refine (IHB.out r B n c (K + 1) _ _ (RBx.out.up HBe.out) (by omega) (HCT.out _ (grow_up2 HGx.out HBe.out)).2).mono ?_); rintro e w3 ⟨tr, x3, B3, m3, c3, rfl, hw3, hl3, ht3, hr3, hg3⟩; have HG3 : Hid (w.grownBy w3 (some r)) := grow_grow (grow_up2 HGx.out HBe.out) (up_grow (by repeat (first | exact Below.refl _ _ | refine up_drew ?_ | refine up_alloc ?_ _)) hg3) (.inl rfl); have RB3 := Lib.hid hr3; have R3 := Lib.hid ((hg3.block _ (lt_of_block (block_up HBe.out Rx.out)) (by simp <;> omega)).trans (block_up HBe.out Rx.out)); have HT3 : Hid (TAt w3 (fun k => w.heap.size + 2 ≤ k) tr (.agg #[.string x3, .slice B3 m3 c3])) := ht3.weak (fun k hk => by (have hk2 := hk); have := lt_of_block (block_up HBe.out Rx.out); simp at hk2 this ⊢ <;> omega); have HS3 : Hid (w.heap.size + 2 ≤ w3.heap.size) := lt_of_block R3.out; have HW := Lib.hid hw3; have HL := Lib.hid hl3; clear hg3 hr3 ht3 hw3 hl3)
              | (go_at_call 71; (refine (list1T [114] tr _ _ x3 B3 m3 c3 (fun k => w.heap.size + 2 ≤ k) (fun k hk => by (have hk2 := hk); have := HS3.out; simp at hk2 ⊢ <;> omega) (by first | exact block_new _ _ | exact new2 _ _ _ | exact old2 _ _ _) (HT3.out.up (by repeat (first | exact Below.refl _ _ | refine up_drew ?_ | refine up_alloc ?_ _)))).mono ?_); rintro e w4 ⟨⟨x4, B4, m4, c4', rfl, ht4⟩, hb4⟩; have hb4 : Below w3.heap.size w3 w4 := up_trans (by repeat (first | exact Below.refl _ _ | refine up_drew ?_ | refine up_alloc ?_ _)) hb4; have HG4 := Lib.hid (grow_up2 HG3.out hb4); have RB4 := Lib.hid (RB3.out.up hb4); have R4 := Lib.hid (block_up hb4 R3.out); have rd0 := block_cell R4.out 0; have rd1 := block_cell R4.out 1; have fs0 := block_free R4.out 0; have fs1 := block_free R4.out 1; have lr4 := lt_of_block R4.out; have HT4 := Lib.hid ht4; clear hb4 ht4))
            all_goals refine bodyPost_ret (v := .agg #[.string x4, .slice B4 m4 c4']) (by simp [results, Tryz.results138, go_sem, rd0, rd1, lr4]) rfl ?_
            all_goals exact ⟨_, _, _, _, _, rfl, wf1 ⟨by simp, by decide⟩ HW.out, by rw [len1]; have := HL.out; omega, HT4.out.move fun k hk ho => by
              have h2 : w.heap.size + 2 ≤ k := ho
              exact ⟨by show w.heap.size ≤ k; omega, set2_block w4 _ _ (by omega)⟩, (HRB.out.set RB4.out HG4.out (Nat.le_succ _) _ _).mono (by omega), grow_set (grow_set HG4.out (Nat.le_succ _)) (Nat.le_succ _)⟩

end Go.Proofs.YtpokompplapkhaaGreatDoor
