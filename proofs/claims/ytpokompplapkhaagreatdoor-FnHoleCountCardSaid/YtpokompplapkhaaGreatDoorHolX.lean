/- The reference's l4Holes at recs, and whole. -/
import Derived.Test.YtpokompplapkhaaGreatDoorHolV
import Derived.Test.YtpokompplapkhaaGreatDoorTk
namespace Go.Proofs.YtpokompplapkhaaGreatDoor
set_option maxHeartbeats 8000000
set_option maxRecDepth 100000
open Go.RowKit
set_option linter.unusedVariables false
set_option linter.unusedSimpArgs false
set_option linter.constructorNameAsVariable false
theorem l4Holes_f (n : Nat) (ih : SHo n) (y : List UInt8) (a : NT) (names : List (List UInt8)) (env : List Ty) (x : List UInt8) (u : V) (vt vv : Value) (w : World) (hok : (NT.loop y a).ok3) (hx : nmOk x) (hty : (V.f u).isOf 100 env ((NT.loop y a).db names) = true) (hnd : (V.f u).nodes <= n + 1) (hnd2 : (V.f u).nodes <= 100000) (ht : TAt w (fun _ => True) (NT.loop y a).toTr vt) (hv : TAt w (fun _ => True) (V.f u).toTr vv) :
 Calls Tryz.prog 57 #[vt, .string (St x), vv] w (SHPost w (holesN (n + 1) (.loop y a) x (.f u))) := by
 obtain ⟨i0, hi0, hz0, hz1, hz2⟩ := info_parts Tryz.infoL4
 have hlenT := holesN_len (n + 1) (.loop y a) x (.f u) hok
 have ht' := ht
 obtain ⟨bt, ot, ct, rfl, A2, n2, c2, A4, n4, c4, HT, _⟩ := three_keeps ht
 obtain ⟨bv, ov, cv, rfl, hbl, Ay, ny, cy, HV, HH⟩ := two_keeps2 hv
 simp only [Tr.atom] at HT
 simp only [V.nodes] at hnd hnd2 hlenT
 have hty2 : u.isOf 100 (.loop (a.db (y :: names)) :: env) (a.db (y :: names)) = true := hty
 have HBOX : Hid (∀ w1, Below (((w.alloc (.cells #[.string (St []), .slice (some ⟨bt, ot, none⟩) 3 ct] 59)).alloc (.cells #[.string (St []), .slice (some ⟨bv, ov, none⟩) 2 cv] 59)).alloc (.cells #[] 146)).heap.size (((w.alloc (.cells #[.string (St []), .slice (some ⟨bt, ot, none⟩) 3 ct] 59)).alloc (.cells #[.string (St []), .slice (some ⟨bv, ov, none⟩) 2 cv] 59)).alloc (.cells #[] 146)) w1 -> Hid (w1.heap[w.heap.size]? = some (.cells #[.string (St []), .slice (some ⟨bt, ot, none⟩) 3 ct] 59 (0, 0))) /\ Hid (w1.heap[w.heap.size + 1]? = some (.cells #[.string (St []), .slice (some ⟨bv, ov, none⟩) 2 cv] 59 (0, 0))) /\ True) := fun w1 h => ⟨block_up h (block_alloc (old2 w (.cells #[.string (St []), .slice (some ⟨bt, ot, none⟩) 3 ct] 59) (.cells #[.string (St []), .slice (some ⟨bv, ov, none⟩) 2 cv] 59)) (.cells #[] 146)), block_up h (block_alloc (new2 w (.cells #[.string (St []), .slice (some ⟨bt, ot, none⟩) 3 ct] 59) (.cells #[.string (St []), .slice (some ⟨bv, ov, none⟩) 2 cv] 59)) (.cells #[] 146)), trivial⟩
 have HOW : Hid (∀ w1, Below (((w.alloc (.cells #[.string (St []), .slice (some ⟨bt, ot, none⟩) 3 ct] 59)).alloc (.cells #[.string (St []), .slice (some ⟨bv, ov, none⟩) 2 cv] 59)).alloc (.cells #[] 146)).heap.size (((w.alloc (.cells #[.string (St []), .slice (some ⟨bt, ot, none⟩) 3 ct] 59)).alloc (.cells #[.string (St []), .slice (some ⟨bv, ov, none⟩) 2 cv] 59)).alloc (.cells #[] 146)) w1 -> HOw w1 w.heap.size (w.heap.size + 2) 0 []) := fun w1 h => (HOw.newH ((w.alloc (.cells #[.string (St []), .slice (some ⟨bt, ot, none⟩) 3 ct] 59)).alloc (.cells #[.string (St []), .slice (some ⟨bv, ov, none⟩) 2 cv] 59)) w.heap.size (by simp; omega) (w.heap.size + 2) (by simp)).up h
 by_cases hyx : y = x
 · have hr : holesN (n + 1) (.loop y a) x (.f u) = [] := by rw [holesN, if_pos hyx]
   rw [hr]
   have k1 : (y == x) = true := by rw [hyx]; simp
   have HQ : Hid (∀ w1, Below w.heap.size w w1 -> HOw w1 w.heap.size (w.heap.size + 2) 0 [] -> SHPost w [] (.returned (.slice (some ⟨w.heap.size + 2, 0, none⟩) 0 0)) w1) := fun w1 h1 h2 => h2.post h1
   generalize SHPost w [] = Q at *
   clear ht ht' hv hok hx hty hty2 hnd hnd2 ih hr hbl hlenT hyx
   go_enter Tryz.func57, Tryz.ntmps57
   go_wp2_with (go_at_call 125; (with_reducible refine (HH.out _ (.up (up_alloc (up_alloc (up1 w _) _) _))).mono ?_); rintro e w1 ⟨rfl, hb1⟩; obtain ⟨q0, q1, q2⟩ := HBOX.out w1 hb1; have HB1 : Hid (Below w.heap.size w w1) := up_trans (up_alloc (up_alloc (up1 w _) _) _) hb1; have HO1 : Hid (HOw w1 w.heap.size (w.heap.size + 2) 0 []) := HOW.out w1 hb1; have e0 := block_cell q0.out 0; have e1 := block_cell q0.out 1; have e2 := block_cell q1.out 0; have e3 := block_cell q1.out 1; have l0 := lt_of_block q0.out; have l1 := lt_of_block q1.out; obtain ⟨d2, _, _, _, _, _⟩ := HT.out w1 (.up HB1.out); clear hb1)
   exact HQ.out _ HB1.out HO1.out
 have k1 : (y == x) = false := St_ne hyx
 have hr : holesN (n + 1) (.loop y a) x (.f u) = ((holesN n a x u).map fun h => (V.f (.l h.1), h.2)) ++ (holesN n a y u).flatMap fun k => (holesN n (.loop y a) x k.2).map fun h => (V.f (.r (.p k.1 h.1)), h.2) := by rw [holesN, if_neg hyx]
 rw [hr] at hlenT ⊢
 have hdb : holesN n a y u = holesV n (a.db (y :: names)) (.bd 0) u := (holesN_db n a (y :: names) y u hok.2).2 0 hok.1.2 (by simp [look])
 have HY : Hid (∀ w2, Below w.heap.size w w2 -> Hid (TAt w2 (fun _ => True) u.toTr (.agg #[.string (St u.toTr.atom), .slice Ay ny cy]))) := fun w2 h => (HV.out w2 (.up h)).2.2
 have HC : Hid (∀ w2, Below w.heap.size w w2 -> Calls Tryz.prog 57 #[.agg #[.string (St a.toTr.atom), .slice A4 n4 c4], .string (St x), .agg #[.string (St u.toTr.atom), .slice Ay ny cy]] w2 (SHPost w2 (holesN n a x u))) := fun w2 h =>
  ih a (y :: names) (.loop (a.db (y :: names)) :: env) x u _ _ w2 hok.2 hx hty2 (by omega) (by omega) (HT.out w2 (.up h)).2.2.2.2.2.out (HY.out w2 h).out
 have HC2 : Hid (∀ w2, Below w.heap.size w w2 -> Calls Tryz.prog 57 #[.agg #[.string (St a.toTr.atom), .slice A4 n4 c4], .string (St y), .agg #[.string (St u.toTr.atom), .slice Ay ny cy]] w2 (SHPost w2 (holesN n a y u))) := fun w2 h =>
  ih a (y :: names) (.loop (a.db (y :: names)) :: env) y u _ _ w2 hok.2 hok.1.1 hty2 (by omega) (by omega) (HT.out w2 (.up h)).2.2.2.2.2.out (HY.out w2 h).out
 have HCR : Hid (∀ kk ∈ holesN n a y u, ∀ w2 vv, Below w.heap.size w w2 -> TAt w2 (fun _ => True) kk.2.toTr vv -> Calls Tryz.prog 57 #[.agg #[.string (St []), .slice (some ⟨bt, ot, none⟩) 3 ct], .string (St x), vv] w2 (SHPost w2 (holesN n (.loop y a) x kk.2))) := fun kk hm w2 vv h hk => by
  rw [hdb] at hm
  have h1 := hole_isOf 100 n _ 0 _ u hty2 kk hm
  rw [isOf_bd0] at h1
  have h2 := hole_size n _ _ u kk hm
  exact ih (.loop y a) names env x kk.2 _ _ w2 hok hx h1 (by omega) (by omega) (ht'.up h) hk
 have hlen := holesN_len n a x u hok.2
 have hlen2 := holesN_len n a y u hok.2
 have hl1 : (holesN n a x u).length <= 100000 := by omega
 have hl2 : (holesN n a y u).length <= 100000 := by omega
 have hlT : (((holesN n a x u).map fun h => (V.f (.l h.1), h.2)) ++ (holesN n a y u).flatMap fun k => (holesN n (.loop y a) x k.2).map fun h => (V.f (.r (.p k.1 h.1)), h.2)).length <= 100000 := by omega
 clear hdb
 generalize hol1 : holesN n a x u = lst at *
 generalize hol2 : holesN n a y u = kids at *
 generalize hout : (lst.map fun h => (V.f (.l h.1), h.2)) = out at *
 have HTOT := Lib.hid hlT
 generalize hout2 : (out ++ kids.flatMap fun k => (holesN n (.loop y a) x k.2).map fun h => (V.f (.r (.p k.1 h.1)), h.2)) = out2 at *
 have HOUT : Hid ((([] : List (V × V)) ++ lst.map fun h => (V.f (.l h.1), h.2)) = out) := hout
 have HOUT2 := Lib.hid hout2
 rw [<- hout2] at HTOT
 have HLN : Hid (([] : List (V × V)).length + lst.length <= 100000) := by show _ <= _; simp only [List.length_nil]; omega
 have HLNQ : Hid (kids.length <= 100000) := hl2
 have HQ : Hid (∀ w5 w' g0 g c, Below w.heap.size w w5 -> LH w5 w.heap.size g0 g c out2 w' -> SHPost w out2 (.returned (.slice (some ⟨g, 0, none⟩) out2.length c)) w') := fun w5 w' g0 g c h1 h2 => h2.post h1
 generalize SHPost w out2 = Q at *
 clear ht ht' hv hok hx hty hty2 hnd hnd2 ih hr hbl hlenT hlen hlen2 hlT hl1 hl2 hout hout2 hol1 hol2 hyx
 go_enter Tryz.func57, Tryz.ntmps57
 go_wp2_with (go_at_call 125; (with_reducible refine (HH.out _ (.up (up_alloc (up_alloc (up1 w _) _) _))).mono ?_); rintro e w1 ⟨rfl, hb1⟩; obtain ⟨q0, q1, q2⟩ := HBOX.out w1 hb1; have HB1 : Hid (Below w.heap.size w w1) := up_trans (up_alloc (up_alloc (up1 w _) _) _) hb1; have HO1 : Hid (HOw w1 w.heap.size (w.heap.size + 2) 0 []) := HOW.out w1 hb1; have e0 := block_cell q0.out 0; have e1 := block_cell q0.out 1; have e2 := block_cell q1.out 0; have e3 := block_cell q1.out 1; have l0 := lt_of_block q0.out; have l1 := lt_of_block q1.out; obtain ⟨d2, _, _, _, _, _⟩ := HT.out w1 (.up HB1.out); clear hb1)
 have HST : Hid (∀ w', Keeps 59 w1 w' -> w'.cell? ⟨w.heap.size, 0, none⟩ = some (.string (St [])) /\ w'.cell? ⟨w.heap.size, 1, none⟩ = some (.slice (some ⟨bt, ot, none⟩) 3 ct) /\ w'.cell? ⟨bt, ot + 4, none⟩ = some (.string (St a.toTr.atom)) /\ w'.cell? ⟨bt, ot + 5, none⟩ = some (.slice A4 n4 c4) /\ w'.cell? ⟨w.heap.size + 1, 1, none⟩ = some (.slice (some ⟨bv, ov, none⟩) 2 cv) /\ w'.cell? ⟨bv, ov + 2, none⟩ = some (.string (St u.toTr.atom)) /\ w'.cell? ⟨bv, ov + 3, none⟩ = some (.slice Ay ny cy)) := fun w' h => by
  obtain ⟨_, _, t4, t5, _, _⟩ := HT.out w' ((Keeps.up HB1.out).trans h)
  obtain ⟨z2, z3, _⟩ := HV.out w' ((Keeps.up HB1.out).trans h)
  exact ⟨block_cell (h _ _ _ q0.out) 0, block_cell (h _ _ _ q0.out) 1, t4, t5, block_cell (h _ _ _ q1.out) 1, z2, z3⟩
 have HSTA : Hid (∀ w', Keeps 59 w1 w' -> w'.cell? ⟨w.heap.size, 1, none⟩ = some (.slice (some ⟨bt, ot, none⟩) 3 ct) /\ w'.cell? ⟨bt, ot + 4, none⟩ = some (.string (St a.toTr.atom)) /\ w'.cell? ⟨bt, ot + 5, none⟩ = some (.slice A4 n4 c4) /\ w'.cell? ⟨w.heap.size + 1, 1, none⟩ = some (.slice (some ⟨bv, ov, none⟩) 2 cv) /\ w'.cell? ⟨bv, ov + 2, none⟩ = some (.string (St u.toTr.atom)) /\ w'.cell? ⟨bv, ov + 3, none⟩ = some (.slice Ay ny cy)) := fun w' h => by
  obtain ⟨p0, p1, p2, p3, p4, p5, p6⟩ := HST.out w' h
  exact ⟨p1, p2, p3, p4, p5, p6⟩
 obtain ⟨s0, s1, s2, s3, s4, s5⟩ := HSTA.out w1 (Keeps.refl _ _)
 refine wp_region_noPanic ?_
 refine wp_region_held_drew (S := (fun w' => w'.cell? ⟨w.heap.size, 1, none⟩ = some (.slice (some ⟨bt, ot, none⟩) 3 ct) /\ w'.cell? ⟨bt, ot + 4, none⟩ = some (.string (St a.toTr.atom)) /\ w'.cell? ⟨bt, ot + 5, none⟩ = some (.slice A4 n4 c4) /\ w'.cell? ⟨w.heap.size + 1, 1, none⟩ = some (.slice (some ⟨bv, ov, none⟩) 2 cv) /\ w'.cell? ⟨bv, ov + 2, none⟩ = some (.string (St u.toTr.atom)) /\ w'.cell? ⟨bv, ov + 3, none⟩ = some (.slice Ay ny cy))) (by kernel_rfl) (by exact HSTA.out _ (.up (up_drew (Below.refl _ _)))) (fun hHeld => ?_)
 refine tq 0 rfl ?_
 refine tq 1 rfl ?_
 refine tq 2 rfl ?_
 refine tq 3 rfl ?_
 refine tq 4 rfl ?_
 refine tq 5 rfl ?_
 refine tq 6 rfl ?_
 refine tq 7 rfl ?_
 refine tq 8 rfl ?_
 refine tz 9 rfl fun K hK => ?_
 go_simp
 go_at_call 57
 (with_reducible refine (HC.out _ (Below.trans HB1.out (drew_bl _ _))).mono ?_)
 rintro e w5 ⟨hb5, gl5, cl5, rfl, us5, hus, htr⟩
 have HB5 : Hid (Below w1.heap.size w1 w5) := up_trans (up_drew (Below.refl _ _)) hb5
 have HRR5 := Lib.hid (HOw.reads hus htr)
 have HTR5 := Lib.hid htr
 have HGL5 : Hid (w1.heap.size <= gl5 /\ gl5 < w5.heap.size) := World.ownsRow.lt hus gl5 rfl
 clear hb5 hus htr
 refine hK.out _ _ (by exact HSTA.out _ (.up HB5.out)) (fun hHeld => ?_)
 clear hK
 try simp only [Act.put, zA, zB, zC, zD, zE, zF]
 refine tq 10 rfl ?_
 refine wpAnyH_done (by kernel_rfl) ?_ _
 refine NoPanic.normal ?_
 have HO5 := Lib.hid (HO1.out.up HB5.out)
 have HGA5 : Hid (gl5 ≠ w.heap.size + 2 /\ gl5 < w5.heap.size) := ⟨by have := HGL5.out; have := HO1.out.row.2.2; omega, HGL5.out.2⟩
 clear s0 s1 s2 s3 s4 s5 e0 e1 e2 e3 d2
 generalize hnL : lst.length = nL at *
 have HNL := Lib.hid hnL
 have hnL9 : nL <= 100000 := by have := HLN.out; omega
 clear hnL
 go_wp2
 go_loopg [7, 14] nL (fun m v7 vi wr => ∃ (i gr cr : Nat), vi = .int .i64 i /\ v7 = .slice (some ⟨gr, 0, none⟩) (([] : List (V × V)) ++ (lst.take i).map fun p => (V.f (.l p.1), p.2)).length cr /\ Hid (m + i = nL) /\ Hid (LH w5 w.heap.size (w.heap.size + 2) gr cr (([] : List (V × V)) ++ (lst.take i).map fun p => (V.f (.l p.1), p.2)) wr))
 case atStart => exact ⟨0, (w.heap.size + 2), 0, rfl, by simp, rfl, by simpa [LH] using ⟨HO5.out, Ot.refl _ _ _, Below.refl _ _⟩⟩
 case round =>
  obtain ⟨i, gr, cr, rfl, rfl, HM, HB⟩ := hrel
  have hm := HM.out
  cases gk with
  | zero =>
   have h1 : decide (i < nL) = false := decide_eq_false (by omega)
   have HP := HB.out
   rw [List.take_of_length_le (by rw [HNL.out]; omega), HOUT.out] at HP ⊢
   have HP := Lib.hid HP
   clear HM hm HB
   generalize gr = gB at *
   generalize cr = cB at *
   have BW6 : Hid (Below w.heap.size w wr) := Below.trans (up_trans HB1.out HB5.out) HP.out.2.2.2
   have KW6 : Hid (Keeps 59 w1 wr) := (Keeps.up HB5.out).trans (HP.out.keeps HO5.out)
   have HST6 : Hid (∀ w', Keeps 59 wr w' -> w'.cell? ⟨w.heap.size, 1, none⟩ = some (.slice (some ⟨bt, ot, none⟩) 3 ct) /\ w'.cell? ⟨bt, ot + 4, none⟩ = some (.string (St a.toTr.atom)) /\ w'.cell? ⟨bt, ot + 5, none⟩ = some (.slice A4 n4 c4) /\ w'.cell? ⟨w.heap.size + 1, 1, none⟩ = some (.slice (some ⟨bv, ov, none⟩) 2 cv) /\ w'.cell? ⟨bv, ov + 2, none⟩ = some (.string (St u.toTr.atom)) /\ w'.cell? ⟨bv, ov + 3, none⟩ = some (.slice Ay ny cy)) := fun w' h => HSTA.out w' (KW6.out.trans h)
   obtain ⟨s0, s1, s2, s3, s4, s5⟩ := HST6.out wr (Keeps.refl _ _)
   go_wp2
   refine wp_region_noPanic ?_
   refine wp_region_held_drew (S := (fun w' => w'.cell? ⟨w.heap.size, 1, none⟩ = some (.slice (some ⟨bt, ot, none⟩) 3 ct) /\ w'.cell? ⟨bt, ot + 4, none⟩ = some (.string (St a.toTr.atom)) /\ w'.cell? ⟨bt, ot + 5, none⟩ = some (.slice A4 n4 c4) /\ w'.cell? ⟨w.heap.size + 1, 1, none⟩ = some (.slice (some ⟨bv, ov, none⟩) 2 cv) /\ w'.cell? ⟨bv, ov + 2, none⟩ = some (.string (St u.toTr.atom)) /\ w'.cell? ⟨bv, ov + 3, none⟩ = some (.slice Ay ny cy))) (by kernel_rfl) (by exact HST6.out _ (.up (up_drew (Below.refl _ _)))) (fun hHeld => ?_)
   refine tq 0 rfl ?_
   refine tq 1 rfl ?_
   refine tq 2 rfl ?_
   refine tq 3 rfl ?_
   refine tq 4 rfl ?_
   refine tq 5 rfl ?_
   refine tq 6 rfl ?_
   refine tq 7 rfl ?_
   refine tq 8 rfl ?_
   refine tz 9 rfl fun K hK => ?_
   go_simp
   go_at_call 57
   (with_reducible refine (HC2.out _ (Below.trans BW6.out (drew_bl _ _))).mono ?_)
   rintro e w9 ⟨hb9, gl9, cl9, rfl, us9, hus, htr⟩
   have HB9 : Hid (Below wr.heap.size wr w9) := up_trans (up_drew (Below.refl _ _)) hb9
   have HRR9 := Lib.hid (HOw.reads hus htr)
   have HTR9 := Lib.hid htr
   have HGL9 : Hid (wr.heap.size <= gl9 /\ gl9 < w9.heap.size) := World.ownsRow.lt hus gl9 rfl
   clear hb9 hus htr
   refine hK.out _ _ (by exact HST6.out _ (.up HB9.out)) (fun hHeld => ?_)
   clear hK
   try simp only [Act.put, zA, zB, zC, zD, zE, zF]
   refine tq 10 rfl ?_
   refine wpAnyH_done (by kernel_rfl) ?_ _
   refine NoPanic.normal ?_
   have HO9 := Lib.hid (HP.out.1.up HB9.out)
   have BW9 : Hid (Below w.heap.size w w9) := Below.trans BW6.out (below_lo (HB9.out) BW6.out.size)
   have KW9 : Hid (Keeps 59 w1 w9) := KW6.out.trans (.up HB9.out)
   have HGA9 : Hid (gl9 ≠ gB /\ gl9 < w9.heap.size) := ⟨by have := HGL9.out; have := HP.out.1.row.2.2; omega, HGL9.out.2⟩
   clear s0 s1 s2 s3 s4 s5 hnL9 h1 HP HST6 HSTA
   generalize hnK : kids.length = nK at *
   have HNK := Lib.hid hnK
   have hnK9 : nK <= 100000 := by have := HLNQ.out; omega
   clear hnK
   go_wp2
   go_loopg [7, 16] nK (fun m v7 vk wr => ∃ (k gr cr : Nat), vk = .int .i64 k /\ v7 = .slice (some ⟨gr, 0, none⟩) (out ++ (kids.take k).flatMap fun k => (holesN n (.loop y a) x k.2).map fun h => (V.f (.r (.p k.1 h.1)), h.2)).length cr /\ Hid (m + k = nK) /\ Hid (LH w9 w.heap.size gB gr cr (out ++ (kids.take k).flatMap fun k => (holesN n (.loop y a) x k.2).map fun h => (V.f (.r (.p k.1 h.1)), h.2)) wr))
   case atStart => exact ⟨0, gB, cB, rfl, by simp, rfl, by simpa [LH] using ⟨HO9.out, Ot.refl _ _ _, Below.refl _ _⟩⟩
   case round =>
    obtain ⟨k, gC, cC, rfl, rfl, HM, HB⟩ := hrel
    have hm := HM.out
    cases gk with
    | zero =>
     have h1 : decide (k < nK) = false := decide_eq_false (by omega)
     have HP := HB.out
     rw [List.take_of_length_le (by rw [HNK.out]; omega), HOUT2.out] at HP ⊢
     have HP := Lib.hid HP
     clear HM hm HB
     go_wp2
     exact HQ.out _ _ _ _ _ BW9.out HP.out
    | succ m =>
     have h1 : decide (k < nK) = true := decide_eq_true (by omega)
     have hkn : k < nK := by omega
     have hlh := HB.out
     have hkp := hlh.keeps HO9.out
     obtain ⟨kk, hik⟩ : ∃ kk, kids[k]? = some kk := ⟨_, List.getElem?_eq_getElem (by rw [HNK.out]; exact hkn)⟩
     have hmem : kk ∈ kids := List.mem_of_getElem? hik
     obtain ⟨j0, j1, j2, j3, l0', l1', l2', l3', u1, u2, u3, u4, hx9, hy9⟩ := HTR9.out.get k kk hik
     have HCKW : ∀ wr', RCells wr' (some ⟨gl9, 0, none⟩) us9 -> ∀ j u, us9[j]? = some u -> wr'.cell? ⟨gl9, j, none⟩ = some u := fun wr' hr j u hu => by
      rcases hr with h | ⟨gl, ol, h, h'⟩
      · rw [h] at u1; simp at u1
      · cases h
        have := h' j u hu
        rwa [Nat.zero_add] at this
     have HKC : Hid (∀ wr' : World, (∀ k, k < w9.heap.size -> k ≠ gB -> wr'.heap[k]? = w9.heap[k]?) -> (wr'.cell? ⟨gl9, k * 4, none⟩ = some (.string j0) /\ wr'.cell? ⟨gl9, k * 4 + 1, none⟩ = some (.slice j1 j2 j3)) /\ wr'.cell? ⟨gl9, k * 4 + 2, none⟩ = some (.string l0') /\ wr'.cell? ⟨gl9, k * 4 + 3, none⟩ = some (.slice l1' l2' l3')) := fun wr' hq => by
      have h9 := HGA9.out
      have e := hq gl9 h9.2 h9.1
      have c := HCKW w9 HRR9.out
      have d1 := c _ _ u1
      have d2 := c _ _ u2
      have d3 := c _ _ u3
      have d4 := c _ _ u4
      rw [Nat.mul_comm 4 k] at d1 d2 d3 d4
      simp only [World.cell?] at d1 d2 d3 d4 ⊢
      rw [e]
      exact ⟨⟨d1, d2⟩, d3, d4⟩
     have BWK : Hid (Below w.heap.size w wr) := Below.trans BW9.out hlh.2.2.2
     have KWK : Hid (Keeps 59 w1 wr) := KW9.out.trans hkp
     have HYK : Hid (∀ w', Keeps 59 wr w' -> Hid (TAt w' (fun _ => True) kk.2.toTr (.agg #[.string l0', .slice l1' l2' l3']))) := fun w' h => hy9.keep (hkp.trans h)
     have HXK : Hid (∀ w', Keeps 59 wr w' -> Hid (TAt w' (fun _ => True) kk.1.toTr (.agg #[.string j0, .slice j1 j2 j3]))) := fun w' h => hx9.keep (hkp.trans h)
     have HCR1 := Lib.hid (HCR.out kk hmem)
     have HOTK : Hid (Ot gB gB w9 wr /\ (gC = gB \/ w9.heap.size <= gC)) := ⟨hlh.2.1, hlh.2.2.1⟩
     have hrowC := hlh.1.row
     have hln : (holesN n (.loop y a) x kk.2).length + (out ++ (kids.take k).flatMap fun k => (holesN n (.loop y a) x k.2).map fun h => (V.f (.r (.p k.1 h.1)), h.2)).length <= 100000 := by
      have h9 := HTOT.out
      have hsp := List.take_append_drop k kids
      have hdr : kids.drop k = kk :: kids.drop (k + 1) := by
       rw [List.drop_eq_getElem_cons (by rw [HNK.out]; exact hkn)]
       congr 1
       exact (List.getElem?_eq_some_iff.1 hik).2
      rw [<- hsp, hdr] at h9
      simp only [List.length_append, List.flatMap_append, List.flatMap_cons, List.length_map] at h9 ⊢
      omega
     have htk : ((out ++ (kids.take k).flatMap fun k => (holesN n (.loop y a) x k.2).map fun h => (V.f (.r (.p k.1 h.1)), h.2)) ++ (holesN n (.loop y a) x kk.2).map fun h => (V.f (.r (.p kk.1 h.1)), h.2)) = out ++ (kids.take (k + 1)).flatMap fun k => (holesN n (.loop y a) x k.2).map fun h => (V.f (.r (.p k.1 h.1)), h.2) := by
      rw [List.take_add_one, hik]
      simp [List.flatMap_append]
     generalize hacc : (out ++ (kids.take k).flatMap fun k => (holesN n (.loop y a) x k.2).map fun h => (V.f (.r (.p k.1 h.1)), h.2)) = acc at *
     have HO13' := Lib.hid hlh.1
     have HNXT : Hid (∀ w13 gr cr w', Below wr.heap.size wr w13 -> LH w13 w.heap.size gC gr cr (out ++ (kids.take (k + 1)).flatMap fun k => (holesN n (.loop y a) x k.2).map fun h => (V.f (.r (.p k.1 h.1)), h.2)) w' -> LH w9 w.heap.size gB gr cr (out ++ (kids.take (k + 1)).flatMap fun k => (holesN n (.loop y a) x k.2).map fun h => (V.f (.r (.p k.1 h.1)), h.2)) w') := fun w13 gr cr w' h1 h2 => by
      obtain ⟨r1, r2, r3, r4⟩ := h2
      have o := HOTK.out
      have s1 := o.1.size
      have s2 := h1.size
      refine ⟨r1, (o.1.trans' o.2 (Ot.up h1)).trans' o.2 r2, by omega, Below.trans hlh.2.2.2 (Below.trans (below_lo h1 (Nat.le_trans hrowC.2.1 (Nat.le_of_lt hrowC.2.2))) r4)⟩
     generalize htkg : (out ++ (kids.take (k + 1)).flatMap fun k => (holesN n (.loop y a) x k.2).map fun h => (V.f (.r (.p k.1 h.1)), h.2)) = acc2 at *
     have HTK := Lib.hid htk
     have HOUT4 : Hid ((acc ++ (holesN n (.loop y a) x kk.2).map fun h => (V.f (.r (.p kk.1 h.1)), h.2)) = acc2) := htk
     have HLN3' : Hid (acc.length + (holesN n (.loop y a) x kk.2).length <= 100000) := by show _ <= _; omega
     have HLNK := Lib.hid (congrArg List.length htkg)
     have HTKE := Lib.hid htkg
     generalize holesN n (.loop y a) x kk.2 = lst3 at *
     have S35 : Hid (∀ w', Below wr.heap.size wr w' -> w'.cell? ⟨w.heap.size, 0, none⟩ = some (.string (St [])) /\ w'.cell? ⟨w.heap.size, 1, none⟩ = some (.slice (some ⟨bt, ot, none⟩) 3 ct) /\ w'.cell? ⟨gl9, k * 4 + 2, none⟩ = some (.string l0') /\ w'.cell? ⟨gl9, k * 4 + 3, none⟩ = some (.slice l1' l2' l3')) := fun w' h => by
      obtain ⟨p0, p1, p2, p3, p4, p5, p6⟩ := HST.out w' (KWK.out.trans (.up h))
      have := (HKC.out wr fun k hk hne => HOTK.out.1.blk k hk hne hne).2
      exact ⟨p0, p1, cell_up h this.1, cell_up h this.2⟩
     obtain ⟨s0, s1, s2, s3⟩ := S35.out wr (Below.refl _ _)
     have HC35 : Hid (∀ w2, Below wr.heap.size wr w2 -> Calls Tryz.prog 57 #[.agg #[.string (St []), .slice (some ⟨bt, ot, none⟩) 3 ct], .string (St x), .agg #[.string l0', .slice l1' l2' l3']] w2 (SHPost w2 lst3)) := fun w2 h => HCR1.out w2 _ (Below.trans BWK.out (below_lo h BWK.out.size)) (HYK.out w2 (.up h)).out
     clear hlh hkp hik hmem u1 u2 u3 u4 hx9 hy9 HCKW hln hacc htk htkg HM HB HTOT
     generalize wr = wk at *
     go_wp2
     refine wp_region_noPanic ?_
     refine wp_region_held_drew (S := (fun w' => w'.cell? ⟨w.heap.size, 0, none⟩ = some (.string (St [])) /\ w'.cell? ⟨w.heap.size, 1, none⟩ = some (.slice (some ⟨bt, ot, none⟩) 3 ct) /\ w'.cell? ⟨gl9, k * 4 + 2, none⟩ = some (.string l0') /\ w'.cell? ⟨gl9, k * 4 + 3, none⟩ = some (.slice l1' l2' l3'))) (by kernel_rfl) (by exact S35.out _ (up_drew (Below.refl _ _))) (fun hHeld => ?_)
     refine tq 0 rfl ?_
     refine tq 1 rfl ?_
     refine tq 2 rfl ?_
     refine tq 3 rfl ?_
     refine tq 4 rfl ?_
     refine tq 5 rfl ?_
     refine tq 6 rfl ?_
     refine tz 7 rfl fun K hK => ?_
     go_simp
     go_at_call 57
     (with_reducible refine (HC35.out _ (up_drew (Below.refl _ _))).mono ?_)
     rintro e w13 ⟨hb13, gl13, cl13, rfl, us13, hus, htr⟩
     have HB13 : Hid (Below wk.heap.size wk w13) := up_trans (up_drew (Below.refl _ _)) hb13
     have HRR13 := Lib.hid (HOw.reads hus htr)
     have HTR13 := Lib.hid htr
     have HGL13 : Hid (wk.heap.size <= gl13 /\ gl13 < w13.heap.size) := World.ownsRow.lt hus gl13 rfl
     clear hb13 hus htr
     refine hK.out _ _ (by exact S35.out _ HB13.out) (fun hHeld => ?_)
     clear hK
     try simp only [Act.put, zA, zB, zC, zD, zE, zF]
     refine tq 8 rfl ?_
     refine wpAnyH_done (by kernel_rfl) ?_ _
     refine NoPanic.normal ?_
     clear s0 s1 s2 s3 hrowC
     have HO13 := Lib.hid (HO13'.out.up HB13.out)
     have BW13 : Hid (Below w.heap.size w w13) := Below.trans BWK.out (below_lo HB13.out BWK.out.size)
     have HGA13 : Hid (gl13 ≠ gC /\ gl13 < w13.heap.size) := ⟨by have := HGL13.out; have := HO13'.out.row.2.2; omega, HGL13.out.2⟩
     have HNX : Hid (∀ gr cr w', LH w13 w.heap.size gC gr cr acc2 w' -> LH w9 w.heap.size gB gr cr acc2 w') := fun gr cr w' h => HNXT.out _ _ _ _ HB13.out h
     have HLN3 := HLN3'
     have HGN : Hid (gl9 ≠ gC /\ gl9 < w13.heap.size) := by
      have h7 := HGA9.out
      have h8 := HOTK.out
      have h6 := h8.1.size
      have h5 := HB13.out.size
      exact ⟨by rcases h8.2 with h | h <;> omega, by omega⟩
     have HJK : Hid (∀ (wr : World) (gr cr : Nat) (hs : List (V × V)), LH w13 w.heap.size gC gr cr hs wr -> wr.cell? ⟨gl9, k * 4, none⟩ = some (.string j0) /\ wr.cell? ⟨gl9, k * 4 + 1, none⟩ = some (.slice j1 j2 j3)) := fun wr gr cr hs h => (HKC.out wr fun k hk hne => ((HOTK.out.1.trans' HOTK.out.2 (Ot.up HB13.out)).trans' HOTK.out.2 h.2.1).blk k hk hne hne).1
     generalize hnL : lst3.length = nL at *
     have HNL := Lib.hid hnL
     have hnL9 : nL <= 100000 := by have := HLN3.out; omega
     clear hnL
     go_wp2
     go_loopg [7, 18] nL (fun m v7 vi wr => ∃ (i gr cr : Nat), vi = .int .i64 i /\ v7 = .slice (some ⟨gr, 0, none⟩) (acc ++ (lst3.take i).map fun p => (V.f (.r (.p kk.1 p.1)), p.2)).length cr /\ Hid (m + i = nL) /\ Hid (LH w13 w.heap.size gC gr cr (acc ++ (lst3.take i).map fun p => (V.f (.r (.p kk.1 p.1)), p.2)) wr))
     case atStart => exact ⟨0, gC, cC, rfl, by simp, rfl, by simpa [LH] using ⟨HO13.out, Ot.refl _ _ _, Below.refl _ _⟩⟩
     case round =>
      obtain ⟨i, gr, cr, rfl, rfl, HM, HB⟩ := hrel
      have hm := HM.out
      cases gk with
      | zero =>
       have h1 : decide (i < nL) = false := decide_eq_false (by omega)
       have HP := HB.out
       rw [List.take_of_length_le (by rw [HNL.out]; omega), HOUT4.out] at HP ⊢
       have HP := Lib.hid HP
       clear HM hm HB
       go_wp2
       go_roundg m
       case measure => omega
       case rel => exact ⟨k + 1, gr, cr, rfl, by rw [HLNK.out], by show m + (k + 1) = nK; omega, Lib.hid (by rw [HTKE.out]; exact HNX.out _ _ _ HP.out)⟩
      | succ m2 =>
       have h1 : decide (i < nL) = true := decide_eq_true (by omega)
       have hin : i < nL := by omega
       have hlh := HB.out
       have hkp := hlh.keeps HO13.out
       obtain ⟨hh, hih⟩ : ∃ hh, lst3[i]? = some hh := ⟨_, List.getElem?_eq_getElem (by rw [HNL.out]; exact hin)⟩
       obtain ⟨x0, x1, x2, x3, y0, y1, y2, y3, u1, u2, u3, u4, hx, hy⟩ := (HTR13.out.keep hkp).get i hh hih
       have hc : ∀ j u, us13[j]? = some u -> wr.cell? ⟨gl13, j, none⟩ = some u := by
        intro j u hu
        rcases hlh.2.1.cells HRR13.out (fun k o hk => by cases hk; exact ⟨HGA13.out.1, HGA13.out.1⟩) with h | ⟨gl, ol, h, h'⟩
        · rw [h] at u1; simp at u1
        · cases h
          have := h' j u hu
          rwa [Nat.zero_add] at this
       have d1 := hc _ _ u1
       have d2 := hc _ _ u2
       have d3 := hc _ _ u3
       have d4 := hc _ _ u4
       rw [Nat.mul_comm 4 i] at d1 d2 d3 d4
       have hlk : gl13 < wr.heap.size := World.block_lt_of_cell? wr _ d1
       have hgne : gl13 ≠ gr := by
        have h9 := HGA13.out
        rcases hlh.2.2.1 with h | h <;> omega
       have htk : (acc ++ (lst3.take i).map fun p => (V.f (.r (.p kk.1 p.1)), p.2)) ++ [(V.f (.r (.p kk.1 hh.1)), hh.2)] = acc ++ (lst3.take (i + 1)).map fun p => (V.f (.r (.p kk.1 p.1)), p.2) := by
        rw [List.take_add_one, hih]
        simp
       have hln1 : (acc ++ (lst3.take (i + 1)).map fun p => (V.f (.r (.p kk.1 p.1)), p.2)).length = (acc ++ (lst3.take i).map fun p => (V.f (.r (.p kk.1 p.1)), p.2)).length + 1 := by
        rw [<- htk, List.length_append]; rfl
       have hln8 : (acc ++ (lst3.take i).map fun p => (V.f (.r (.p kk.1 p.1)), p.2)).length <= (acc : List (V × V)).length + nL := by
        rw [List.length_append, List.length_map, List.length_take]; omega
       generalize hacc : (acc ++ (lst3.take i).map fun p => (V.f (.r (.p kk.1 p.1)), p.2)) = accI at *
       obtain ⟨us, hous, htr⟩ := hlh.1
       have hrow0 := hlh.1.row
       have HM9 : Hid (accI.length + 1 <= 1000001) := by show _ <= _; have := HLN3.out; omega
       generalize hml : accI.length = m0 at *
       have HLN1 := Lib.hid hln1
       have HO : Hid (∀ w2, Below wr.heap.size wr w2 -> w2.ownsRow w.heap.size 146 4 (.slice (some ⟨gr, 0, none⟩) m0 cr) m0 us) := fun w2 h => own_up hous h
       have HSZ : Hid (∀ w2, Below wr.heap.size wr w2 -> w.heap.size <= w2.heap.size) := fun w2 h => Nat.le_trans (Nat.le_trans hrow0.2.1 (Nat.le_of_lt hrow0.2.2)) h.size
       have HAF : Hid (∀ w3 w4, Below wr.heap.size wr w3 -> w3.grownBy w4 (some gr) -> Hid (Keeps 59 wr w4 /\ Keeps 146 wr w4 = Keeps 146 wr w4 /\ ∀ k, k < wr.heap.size -> k ≠ gr -> w4.heap[k]? = wr.heap[k]?)) := fun w3 w4 hb hg => ⟨(Keeps.up hb).trans (Keeps.grown (own_up hous hb) hg (by decide)), rfl, fun k hk hne => by rw [hg.block k (Nat.lt_of_lt_of_le hk hb.size) (by simpa using hne), hb.block k hk]⟩
       have HFIN : Hid (∀ w3 w4 g2 c2 x A n c, Below wr.heap.size wr w3 -> TAt w3 (fun _ => True) (V.f (.r (.p kk.1 hh.1))).toTr (.agg #[.string x, .slice A n c]) -> w3.grownBy w4 (some gr) -> (g2 = gr \/ w3.heap.size <= g2) -> Below w.heap.size w3 w4 -> w4.ownsRow w.heap.size 146 4 (.slice (some ⟨g2, 0, none⟩) (m0 + 1) c2) (m0 + 1) (us ++ [.string x, .slice A n c, .string y0, .slice y1 y2 y3]) -> Hid (LH w13 w.heap.size gC g2 c2 (acc ++ (lst3.take (i + 1)).map fun p => (V.f (.r (.p kk.1 p.1)), p.2)) w4)) := fun w3 w4 g2 c2 x A n c hb ht hg hat hbl ho => by
        subst hml
        have := LH.step hlh HO13.out hous htr hb hg hat hbl ho ht (x := (V.f (.r (.p kk.1 hh.1)), hh.2)) (hy.up hb)
        rw [htk] at this
        exact this
       obtain ⟨v0, v1⟩ := HJK.out wr _ _ _ hlh
       have hgk1 : gl9 < wr.heap.size := World.block_lt_of_cell? wr _ v0
       have hgk2 : gl9 ≠ gr := by
        have h8 := HGN.out
        rcases hlh.2.2.1 with h | h <;> omega
       have HKXW : Hid (TAt wr (fun _ => True) kk.1.toTr (.agg #[.string j0, .slice j1 j2 j3])) := (HXK.out wr ((Keeps.up HB13.out).trans hkp)).out
       have HGR := Lib.hid hrow0.2.2
       have HS : Hid (∀ w', Below wr.heap.size wr w' -> w'.cell? ⟨gl13, i * 4, none⟩ = some (.string x0) /\ w'.cell? ⟨gl13, i * 4 + 1, none⟩ = some (.slice x1 x2 x3) /\ w'.cell? ⟨gl13, i * 4 + 2, none⟩ = some (.string y0) /\ w'.cell? ⟨gl13, i * 4 + 3, none⟩ = some (.slice y1 y2 y3) /\ w'.cell? ⟨gl9, k * 4, none⟩ = some (.string j0) /\ w'.cell? ⟨gl9, k * 4 + 1, none⟩ = some (.slice j1 j2 j3)) := fun w' h => ⟨cell_up h d1, cell_up h d2, cell_up h d3, cell_up h d4, cell_up h v0, cell_up h v1⟩
       have HS9 : Hid (∀ w', Hid (Keeps 59 wr w' /\ Keeps 146 wr w' = Keeps 146 wr w' /\ ∀ k, k < wr.heap.size -> k ≠ gr -> w'.heap[k]? = wr.heap[k]?) -> w'.cell? ⟨gl13, i * 4, none⟩ = some (.string x0) /\ w'.cell? ⟨gl13, i * 4 + 1, none⟩ = some (.slice x1 x2 x3) /\ w'.cell? ⟨gl13, i * 4 + 2, none⟩ = some (.string y0) /\ w'.cell? ⟨gl13, i * 4 + 3, none⟩ = some (.slice y1 y2 y3) /\ w'.cell? ⟨gl9, k * 4, none⟩ = some (.string j0) /\ w'.cell? ⟨gl9, k * 4 + 1, none⟩ = some (.slice j1 j2 j3)) := fun w' h => by
        have h8 := h.out.2.2 gl13 hlk hgne
        have h7 : w'.cell? ⟨gl9, k * 4, none⟩ = some (.string j0) /\ w'.cell? ⟨gl9, k * 4 + 1, none⟩ = some (.slice j1 j2 j3) := by
         have e := h.out.2.2 gl9 hgk1 hgk2
         simp only [World.cell?] at v0 v1 ⊢
         rw [e]
         exact ⟨v0, v1⟩
        simp only [World.cell?] at d1 d2 d3 d4 h7 ⊢
        rw [h8]
        exact ⟨d1, d2, d3, d4, h7⟩
       obtain ⟨s0, s1, s2, s3, s4, s5⟩ := HS.out wr (Below.refl _ _)
       have HBLR : Hid (Below w.heap.size w13 wr) := hlh.2.2.2
       clear hlh hkp hih hc u1 u2 u3 u4 d1 d2 d3 d4 hgne htk hacc hous htr hrow0 hml hln1 hln8 HM HB v0 v1
       go_wp2
       refine wp_region_noPanic ?_
       refine wp_region_held_drew (S := (fun w' => w'.cell? ⟨gl13, i * 4, none⟩ = some (.string x0) /\ w'.cell? ⟨gl13, i * 4 + 1, none⟩ = some (.slice x1 x2 x3) /\ w'.cell? ⟨gl13, i * 4 + 2, none⟩ = some (.string y0) /\ w'.cell? ⟨gl13, i * 4 + 3, none⟩ = some (.slice y1 y2 y3) /\ w'.cell? ⟨gl9, k * 4, none⟩ = some (.string j0) /\ w'.cell? ⟨gl9, k * 4 + 1, none⟩ = some (.slice j1 j2 j3))) (by kernel_rfl) (by exact HS.out _ (up_drew (Below.refl _ _))) (fun hHeld => ?_)
       refine tq 0 rfl ?_
       refine tq 1 rfl ?_
       refine tq 2 rfl ?_
       refine tq 3 rfl ?_
       refine tq 4 rfl ?_
       refine tq 5 rfl ?_
       refine tq 6 rfl ?_
       refine tq 7 rfl ?_
       refine tq 8 rfl ?_
       refine tq 9 rfl ?_
       refine wpAnyH_ready (rs := [10, 12]) (by kernel_rfl) (by simp) ?_
       refine AllReadyH.cons rfl (fun K hK => ?_) (AllReadyH.cons rfl (fun K hK => ?_) AllReadyH.nil)
       · skip
         go_simp
         refine hK.out _ _ (by exact HS.out _ (up_trans (up_drew (Below.refl _ _)) (up1 _ _))) (fun hHeld => ?_)
         clear hK
         try simp only [Act.put, zA, zB, zC, zD, zE, zF]
         refine wpAnyH_ready (rs := [11, 12]) (by kernel_rfl) (by simp) ?_
         refine AllReadyH.cons rfl (fun K hK => ?_) (AllReadyH.cons rfl (fun K hK => ?_) AllReadyH.nil)
         · skip
           go_simp
           go_at_call 71
           refine (mk2K wr.heap.size [112] kk.1.toTr hh.1.toTr wr _ _ _ _ _ _ _ _ _ _ (block_new _ _) (up_trans (up_drew (Below.refl _ _)) (up1 _ _)) (by omega) (lt_of_block (block_new _ _)) HKXW.out hx).mono ?_
           rintro e w5_ ⟨z0, z1, z2, z3, rfl, ht5, hb5⟩
           have HB5 : Hid (Below wr.heap.size wr w5_) := up_trans (up_trans (up_drew (Below.refl _ _)) (up1 _ _)) hb5
           have HT5 := Lib.hid ht5
           have HB5' := Lib.hid hb5
           clear ht5 hb5
           refine hK.out _ _ (by exact HS.out _ HB5.out) (fun hHeld => ?_)
           clear hK
           try simp only [Act.put, zA, zB, zC, zD, zE, zF]
           refine tz 12 rfl fun K hK => ?_
           go_simp
           refine hK.out _ _ (by exact HS.out _ (up_trans HB5.out (up1 _ _))) (fun hHeld => ?_)
           clear hK
           try simp only [Act.put, zA, zB, zC, zD, zE, zF]
           refine tz 13 rfl fun K hK => ?_
           go_simp
           refine hK.out _ _ (by exact HS.out _ (up_trans HB5.out (up1 _ _))) (fun hHeld => ?_)
           clear hK
           try simp only [Act.put, zA, zB, zC, zD, zE, zF]
           refine wpAnyH_done (by kernel_rfl) ?_ _
           refine NoPanic.normal ?_
           go_wp2
           obtain ⟨KB, TP, BF⟩ : (w5_.alloc (.cells #[.string z0, .slice z1 z2 z3] 59)).heap[w5_.heap.size]? = some (.cells #[.string z0, .slice z1 z2 z3] 59 (0, 0)) /\ TAt (w5_.alloc (.cells #[.string z0, .slice z1 z2 z3] 59)) (fun _ => True) (.mk [] [.mk [112] [], kk.1.toTr, hh.1.toTr]) (.agg #[.string z0, .slice z1 z2 z3]) /\ Below wr.heap.size wr (w5_.alloc (.cells #[.string z0, .slice z1 z2 z3] 59)) := ⟨block_new w5_ _, (HT5.out.weak fun _ _ => trivial).up (up1 w5_ _), up_trans HB5.out (up1 w5_ _)⟩
           have hkbw : wr.heap.size <= w5_.heap.size := by first | (have := HB5.out.size; omega) | omega
           generalize (w5_.alloc (.cells #[.string z0, .slice z1 z2 z3] 59)) = W9 at *
           have HKB := Lib.hid KB
           have HTP := Lib.hid TP
           have HBF := Lib.hid BF
           have HS40 : Hid (∀ w', Below W9.heap.size W9 w' -> w'.cell? ⟨w5_.heap.size, 0, none⟩ = some (.string z0) /\ w'.cell? ⟨w5_.heap.size, 1, none⟩ = some (.slice z1 z2 z3) /\ w'.cell? ⟨gl13, i * 4 + 2, none⟩ = some (.string y0) /\ w'.cell? ⟨gl13, i * 4 + 3, none⟩ = some (.slice y1 y2 y3)) := fun w' h => ⟨block_cell (block_up h HKB.out) 0, block_cell (block_up h HKB.out) 1, (HS.out _ (up_trans HBF.out h)).2.2.1, (HS.out _ (up_trans HBF.out h)).2.2.2.1⟩
           have HS49 : Hid (∀ w8 w9, Below W9.heap.size W9 w8 -> w8.grownBy w9 (some gr) -> Hid (Keeps 59 wr w9 /\ Keeps 146 wr w9 = Keeps 146 wr w9 /\ ∀ k, k < wr.heap.size -> k ≠ gr -> w9.heap[k]? = wr.heap[k]?) -> w9.cell? ⟨w5_.heap.size, 0, none⟩ = some (.string z0) /\ w9.cell? ⟨w5_.heap.size, 1, none⟩ = some (.slice z1 z2 z3) /\ w9.cell? ⟨gl13, i * 4 + 2, none⟩ = some (.string y0) /\ w9.cell? ⟨gl13, i * 4 + 3, none⟩ = some (.slice y1 y2 y3)) := fun w8 w9 hb hg hk => by
            have k8 := block_up hb HKB.out
            have k9 := (hg.block (w5_.heap.size) (lt_of_block k8) (by have := HGR.out; simp; omega)).trans k8
            have k7 := HS9.out w9 (by first | exact hk | exact Lib.hid ⟨hk.out.1, trivial, hk.out.2.2⟩)
            exact ⟨block_cell k9 0, block_cell k9 1, k7.2.2.1, k7.2.2.2.1⟩
           obtain ⟨b0, b1, b2, b3⟩ := HS40.out W9 (Below.refl _ _)
           clear KB TP BF HB5 HT5 HB5'
           refine wp_region_noPanic ?_
           refine wp_region_held_drew (S := (fun w' => w'.cell? ⟨w5_.heap.size, 0, none⟩ = some (.string z0) /\ w'.cell? ⟨w5_.heap.size, 1, none⟩ = some (.slice z1 z2 z3) /\ w'.cell? ⟨gl13, i * 4 + 2, none⟩ = some (.string y0) /\ w'.cell? ⟨gl13, i * 4 + 3, none⟩ = some (.slice y1 y2 y3))) (by kernel_rfl) (by exact HS40.out _ (up_drew (Below.refl _ _))) (fun hHeld => ?_)
           refine tq 0 rfl ?_
           refine tq 1 rfl ?_
           refine tq 6 rfl ?_
           refine tq 7 rfl ?_
           refine tq 8 rfl ?_
           refine tq 9 rfl ?_
           refine tq 10 rfl ?_
           refine tz 2 rfl fun K hK => ?_
           go_simp
           refine hK.out _ _ (by exact HS40.out _ (up_trans (up_drew (Below.refl _ _)) (up1 _ _))) (fun hHeld => ?_)
           clear hK
           try simp only [Act.put, zA, zB, zC, zD, zE, zF]
           refine tz 3 rfl fun K hK => ?_
           go_simp
           go_at_call 71
           refine (mk1 [114] _ W9.drew _ _ _ _ (HTP.out.up (up_drew (Below.refl _ _)))).mono ?_
           rintro e w7 ⟨t0, t1, t2, t3, rfl, ht7, hb7⟩
           have HB7 : Hid (Below W9.heap.size W9 w7) := up_trans (up_drew (Below.refl _ _)) hb7
           have HT7 := Lib.hid ht7
           clear ht7 hb7
           refine hK.out _ _ (by exact HS40.out _ HB7.out) (fun hHeld => ?_)
           clear hK
           try simp only [Act.put, zA, zB, zC, zD, zE, zF]
           refine tz 4 rfl fun K hK => ?_
           go_simp
           refine hK.out _ _ (by exact HS40.out _ (up_trans HB7.out (up1 _ _))) (fun hHeld => ?_)
           clear hK
           try simp only [Act.put, zA, zB, zC, zD, zE, zF]
           refine tz 5 rfl fun K hK => ?_
           go_simp
           go_at_call 71
           refine (mk1 [102] _ w7 _ _ _ _ HT7.out).mono ?_
           rintro e w8 ⟨q0, q1, q2, q3, rfl, ht8, hb8⟩
           have HB8' : Hid (Below W9.heap.size W9 w8) := up_trans HB7.out hb8
           have HB8 : Hid (Below wr.heap.size wr w8) := up_trans HBF.out HB8'.out
           have HT8 := Lib.hid ht8
           clear ht8 hb8
           refine hK.out _ _ (by exact HS40.out _ HB8'.out) (fun hHeld => ?_)
           clear hK
           try simp only [Act.put, zA, zB, zC, zD, zE, zF]
           refine tq 11 rfl ?_
           refine tz 12 rfl fun K hK => ?_
           go_simp
           refine hK.out _ _ (by exact HS40.out _ (up_trans HB8'.out (up1 _ _))) (fun hHeld => ?_)
           clear hK
           try simp only [Act.put, zA, zB, zC, zD, zE, zF]
           refine tz 13 rfl fun K hK => ?_
           refine step_append_rows _ rfl _ _ 76 rfl w.heap.size 4 146 i0 (.agg #[.string ⟨#[]⟩, .slice none 0 0, .string ⟨#[]⟩, .slice none 0 0]) 80 Tryz.underlying76 hi0 hz0 hz1 hz2 rfl (by decide) gr m0 cr us rfl (HO.out _ (up_trans HB8.out (up1 _ _))) (some ⟨_, 0, none⟩) 1 1 [.string q0, .slice q1 q2 q3, .string y0, .slice y1 y2 y3] rfl rfl (row_four (block_new w8 _)) (by simp [Value.oneCell']) (by have := HM9.out; omega) (by decide) (HSZ.out _ (up_trans HB8.out (up1 _ _))) (m0 + 1) rfl (us ++ [.string q0, .slice q1 q2 q3, .string y0, .slice y1 y2 y3]) rfl ?_
           intro gn cn w9 hown hgrow hbel hat
           have HK9 := HAF.out _ w9 (up_trans HB8.out (up1 _ _)) hgrow
           have HG9 := Lib.hid hgrow
           have HFF := HFIN.out _ w9 gn cn _ _ _ _ (up_trans HB8.out (up1 _ _)) (HT8.out.up (up1 _ _)) hgrow (by simpa using hat) hbel hown
           clear hown hgrow hbel hat
           refine hK.out _ _ (by exact HS49.out _ w9 (up_trans HB8'.out (up1 _ _)) HG9.out (by first | exact HK9 | exact Lib.hid ⟨HK9.out.1, rfl, HK9.out.2.2⟩)) (fun hHeld => ?_)
           clear hK
           try simp only [Act.put, zA, zB, zC, zD, zE, zF]
           refine tq 14 rfl ?_
           refine wpAnyH_done (by kernel_rfl) ?_ _
           refine NoPanic.normal ?_
           go_wp2
           go_roundg m2
           case measure => omega
           case rel => exact ⟨i + 1, gn, cn, rfl, by rw [HLN1.out], by show m2 + (i + 1) = nL; omega, HFF.out⟩
         · skip
           go_simp
           refine hK.out _ _ (by exact HS.out _ (up_trans (up_trans (up_drew (Below.refl _ _)) (up1 _ _)) (up1 _ _))) (fun hHeld => ?_)
           clear hK
           try simp only [Act.put, zA, zB, zC, zD, zE, zF]
           refine tz 11 rfl fun K hK => ?_
           go_simp
           go_at_call 71
           refine (mk2K (wr.heap.size + 1) [112] kk.1.toTr hh.1.toTr wr _ _ _ _ _ _ _ _ _ _ (old2 _ _ _) (up_trans (up_trans (up_drew (Below.refl _ _)) (up1 _ _)) (up1 _ _)) (by omega) (lt_of_block (new2 wr.drew _ _)) HKXW.out hx).mono ?_
           rintro e w5_ ⟨z0, z1, z2, z3, rfl, ht5, hb5⟩
           have HB5 : Hid (Below wr.heap.size wr w5_) := up_trans (up_trans (up_trans (up_drew (Below.refl _ _)) (up1 _ _)) (up1 _ _)) hb5
           have HT5 := Lib.hid ht5
           have HB5' := Lib.hid hb5
           have KZ : w5_.heap[(wr.heap.size + 1)]? = some (.cells #[.string ⟨#[]⟩, .slice none 0 0] 59 (0, 0)) := block_up hb5 (new2 _ _ _)
           have cz0 := block_cell KZ 0
           have cz1 := block_cell KZ 1
           have fz0 := block_free KZ 0
           have fz1 := block_free KZ 1
           have lz0 := lt_of_block KZ
           clear ht5 hb5
           refine hK.out _ _ (by exact HS.out _ HB5.out) (fun hHeld => ?_)
           clear hK
           try simp only [Act.put, zA, zB, zC, zD, zE, zF]
           refine tz 13 rfl fun K hK => ?_
           go_simp
           refine hK.out _ _ (by exact HS.out _ (set0 (set0 HB5.out (by first | (have := HB5.out.size; omega) | omega)) (by first | (have := HB5.out.size; omega) | omega))) (fun hHeld => ?_)
           clear hK
           try simp only [Act.put, zA, zB, zC, zD, zE, zF]
           refine wpAnyH_done (by kernel_rfl) ?_ _
           refine NoPanic.normal ?_
           go_wp2
           obtain ⟨KB, TP, BF⟩ : ((w5_.setCell ⟨(wr.heap.size + 1), 0, none⟩ (.string z0)).setCell ⟨(wr.heap.size + 1), 1, none⟩ (.slice z1 z2 z3)).heap[(wr.heap.size + 1)]? = some (.cells #[.string z0, .slice z1 z2 z3] 59 (0, 0)) /\ TAt ((w5_.setCell ⟨(wr.heap.size + 1), 0, none⟩ (.string z0)).setCell ⟨(wr.heap.size + 1), 1, none⟩ (.slice z1 z2 z3)) (fun _ => True) (.mk [] [.mk [112] [], kk.1.toTr, hh.1.toTr]) (.agg #[.string z0, .slice z1 z2 z3]) /\ Below wr.heap.size wr ((w5_.setCell ⟨(wr.heap.size + 1), 0, none⟩ (.string z0)).setCell ⟨(wr.heap.size + 1), 1, none⟩ (.slice z1 z2 z3)) := ⟨set_two (block_up HB5'.out (new2 _ _ _)) _ _, HT5.out.move fun k hk hne => ⟨trivial, set_far hne _ _⟩, set0 (set0 HB5.out (by first | (have := HB5.out.size; omega) | omega)) (by first | (have := HB5.out.size; omega) | omega)⟩
           have hkbw : wr.heap.size <= (wr.heap.size + 1) := by first | (have := HB5.out.size; omega) | omega
           generalize ((w5_.setCell ⟨(wr.heap.size + 1), 0, none⟩ (.string z0)).setCell ⟨(wr.heap.size + 1), 1, none⟩ (.slice z1 z2 z3)) = W9 at *
           have HKB := Lib.hid KB
           have HTP := Lib.hid TP
           have HBF := Lib.hid BF
           have HS40 : Hid (∀ w', Below W9.heap.size W9 w' -> w'.cell? ⟨(wr.heap.size + 1), 0, none⟩ = some (.string z0) /\ w'.cell? ⟨(wr.heap.size + 1), 1, none⟩ = some (.slice z1 z2 z3) /\ w'.cell? ⟨gl13, i * 4 + 2, none⟩ = some (.string y0) /\ w'.cell? ⟨gl13, i * 4 + 3, none⟩ = some (.slice y1 y2 y3)) := fun w' h => ⟨block_cell (block_up h HKB.out) 0, block_cell (block_up h HKB.out) 1, (HS.out _ (up_trans HBF.out h)).2.2.1, (HS.out _ (up_trans HBF.out h)).2.2.2.1⟩
           have HS49 : Hid (∀ w8 w9, Below W9.heap.size W9 w8 -> w8.grownBy w9 (some gr) -> Hid (Keeps 59 wr w9 /\ Keeps 146 wr w9 = Keeps 146 wr w9 /\ ∀ k, k < wr.heap.size -> k ≠ gr -> w9.heap[k]? = wr.heap[k]?) -> w9.cell? ⟨(wr.heap.size + 1), 0, none⟩ = some (.string z0) /\ w9.cell? ⟨(wr.heap.size + 1), 1, none⟩ = some (.slice z1 z2 z3) /\ w9.cell? ⟨gl13, i * 4 + 2, none⟩ = some (.string y0) /\ w9.cell? ⟨gl13, i * 4 + 3, none⟩ = some (.slice y1 y2 y3)) := fun w8 w9 hb hg hk => by
            have k8 := block_up hb HKB.out
            have k9 := (hg.block ((wr.heap.size + 1)) (lt_of_block k8) (by have := HGR.out; simp; omega)).trans k8
            have k7 := HS9.out w9 (by first | exact hk | exact Lib.hid ⟨hk.out.1, trivial, hk.out.2.2⟩)
            exact ⟨block_cell k9 0, block_cell k9 1, k7.2.2.1, k7.2.2.2.1⟩
           obtain ⟨b0, b1, b2, b3⟩ := HS40.out W9 (Below.refl _ _)
           clear KB TP BF HB5 HT5 HB5' KZ cz0 cz1 fz0 fz1 lz0
           refine wp_region_noPanic ?_
           refine wp_region_held_drew (S := (fun w' => w'.cell? ⟨(wr.heap.size + 1), 0, none⟩ = some (.string z0) /\ w'.cell? ⟨(wr.heap.size + 1), 1, none⟩ = some (.slice z1 z2 z3) /\ w'.cell? ⟨gl13, i * 4 + 2, none⟩ = some (.string y0) /\ w'.cell? ⟨gl13, i * 4 + 3, none⟩ = some (.slice y1 y2 y3))) (by kernel_rfl) (by exact HS40.out _ (up_drew (Below.refl _ _))) (fun hHeld => ?_)
           refine tq 0 rfl ?_
           refine tq 1 rfl ?_
           refine tq 6 rfl ?_
           refine tq 7 rfl ?_
           refine tq 8 rfl ?_
           refine tq 9 rfl ?_
           refine tq 10 rfl ?_
           refine tz 2 rfl fun K hK => ?_
           go_simp
           refine hK.out _ _ (by exact HS40.out _ (up_trans (up_drew (Below.refl _ _)) (up1 _ _))) (fun hHeld => ?_)
           clear hK
           try simp only [Act.put, zA, zB, zC, zD, zE, zF]
           refine tz 3 rfl fun K hK => ?_
           go_simp
           go_at_call 71
           refine (mk1 [114] _ W9.drew _ _ _ _ (HTP.out.up (up_drew (Below.refl _ _)))).mono ?_
           rintro e w7 ⟨t0, t1, t2, t3, rfl, ht7, hb7⟩
           have HB7 : Hid (Below W9.heap.size W9 w7) := up_trans (up_drew (Below.refl _ _)) hb7
           have HT7 := Lib.hid ht7
           clear ht7 hb7
           refine hK.out _ _ (by exact HS40.out _ HB7.out) (fun hHeld => ?_)
           clear hK
           try simp only [Act.put, zA, zB, zC, zD, zE, zF]
           refine tz 4 rfl fun K hK => ?_
           go_simp
           refine hK.out _ _ (by exact HS40.out _ (up_trans HB7.out (up1 _ _))) (fun hHeld => ?_)
           clear hK
           try simp only [Act.put, zA, zB, zC, zD, zE, zF]
           refine tz 5 rfl fun K hK => ?_
           go_simp
           go_at_call 71
           refine (mk1 [102] _ w7 _ _ _ _ HT7.out).mono ?_
           rintro e w8 ⟨q0, q1, q2, q3, rfl, ht8, hb8⟩
           have HB8' : Hid (Below W9.heap.size W9 w8) := up_trans HB7.out hb8
           have HB8 : Hid (Below wr.heap.size wr w8) := up_trans HBF.out HB8'.out
           have HT8 := Lib.hid ht8
           clear ht8 hb8
           refine hK.out _ _ (by exact HS40.out _ HB8'.out) (fun hHeld => ?_)
           clear hK
           try simp only [Act.put, zA, zB, zC, zD, zE, zF]
           refine tq 11 rfl ?_
           refine tz 12 rfl fun K hK => ?_
           go_simp
           refine hK.out _ _ (by exact HS40.out _ (up_trans HB8'.out (up1 _ _))) (fun hHeld => ?_)
           clear hK
           try simp only [Act.put, zA, zB, zC, zD, zE, zF]
           refine tz 13 rfl fun K hK => ?_
           refine step_append_rows _ rfl _ _ 76 rfl w.heap.size 4 146 i0 (.agg #[.string ⟨#[]⟩, .slice none 0 0, .string ⟨#[]⟩, .slice none 0 0]) 80 Tryz.underlying76 hi0 hz0 hz1 hz2 rfl (by decide) gr m0 cr us rfl (HO.out _ (up_trans HB8.out (up1 _ _))) (some ⟨_, 0, none⟩) 1 1 [.string q0, .slice q1 q2 q3, .string y0, .slice y1 y2 y3] rfl rfl (row_four (block_new w8 _)) (by simp [Value.oneCell']) (by have := HM9.out; omega) (by decide) (HSZ.out _ (up_trans HB8.out (up1 _ _))) (m0 + 1) rfl (us ++ [.string q0, .slice q1 q2 q3, .string y0, .slice y1 y2 y3]) rfl ?_
           intro gn cn w9 hown hgrow hbel hat
           have HK9 := HAF.out _ w9 (up_trans HB8.out (up1 _ _)) hgrow
           have HG9 := Lib.hid hgrow
           have HFF := HFIN.out _ w9 gn cn _ _ _ _ (up_trans HB8.out (up1 _ _)) (HT8.out.up (up1 _ _)) hgrow (by simpa using hat) hbel hown
           clear hown hgrow hbel hat
           refine hK.out _ _ (by exact HS49.out _ w9 (up_trans HB8'.out (up1 _ _)) HG9.out (by first | exact HK9 | exact Lib.hid ⟨HK9.out.1, rfl, HK9.out.2.2⟩)) (fun hHeld => ?_)
           clear hK
           try simp only [Act.put, zA, zB, zC, zD, zE, zF]
           refine tq 14 rfl ?_
           refine wpAnyH_done (by kernel_rfl) ?_ _
           refine NoPanic.normal ?_
           go_wp2
           go_roundg m2
           case measure => omega
           case rel => exact ⟨i + 1, gn, cn, rfl, by rw [HLN1.out], by show m2 + (i + 1) = nL; omega, HFF.out⟩
       · skip
         go_simp
         refine hK.out _ _ (by exact HS.out _ (up_trans (up_drew (Below.refl _ _)) (up1 _ _))) (fun hHeld => ?_)
         clear hK
         try simp only [Act.put, zA, zB, zC, zD, zE, zF]
         refine tz 10 rfl fun K hK => ?_
         go_simp
         refine hK.out _ _ (by exact HS.out _ (up_trans (up_trans (up_drew (Below.refl _ _)) (up1 _ _)) (up1 _ _))) (fun hHeld => ?_)
         clear hK
         try simp only [Act.put, zA, zB, zC, zD, zE, zF]
         refine tz 11 rfl fun K hK => ?_
         go_simp
         go_at_call 71
         refine (mk2K wr.heap.size [112] kk.1.toTr hh.1.toTr wr _ _ _ _ _ _ _ _ _ _ (new2 _ _ _) (up_trans (up_trans (up_drew (Below.refl _ _)) (up1 _ _)) (up1 _ _)) (by omega) (lt_of_block (old2 wr.drew _ _)) HKXW.out hx).mono ?_
         rintro e w5_ ⟨z0, z1, z2, z3, rfl, ht5, hb5⟩
         have HB5 : Hid (Below wr.heap.size wr w5_) := up_trans (up_trans (up_trans (up_drew (Below.refl _ _)) (up1 _ _)) (up1 _ _)) hb5
         have HT5 := Lib.hid ht5
         have HB5' := Lib.hid hb5
         have KZ : w5_.heap[wr.heap.size]? = some (.cells #[.string ⟨#[]⟩, .slice none 0 0] 59 (0, 0)) := block_up hb5 (old2 _ _ _)
         have cz0 := block_cell KZ 0
         have cz1 := block_cell KZ 1
         have fz0 := block_free KZ 0
         have fz1 := block_free KZ 1
         have lz0 := lt_of_block KZ
         clear ht5 hb5
         refine hK.out _ _ (by exact HS.out _ HB5.out) (fun hHeld => ?_)
         clear hK
         try simp only [Act.put, zA, zB, zC, zD, zE, zF]
         refine tz 13 rfl fun K hK => ?_
         go_simp
         refine hK.out _ _ (by exact HS.out _ (set0 (set0 HB5.out (by first | (have := HB5.out.size; omega) | omega)) (by first | (have := HB5.out.size; omega) | omega))) (fun hHeld => ?_)
         clear hK
         try simp only [Act.put, zA, zB, zC, zD, zE, zF]
         refine wpAnyH_done (by kernel_rfl) ?_ _
         refine NoPanic.normal ?_
         go_wp2
         obtain ⟨KB, TP, BF⟩ : ((w5_.setCell ⟨wr.heap.size, 0, none⟩ (.string z0)).setCell ⟨wr.heap.size, 1, none⟩ (.slice z1 z2 z3)).heap[wr.heap.size]? = some (.cells #[.string z0, .slice z1 z2 z3] 59 (0, 0)) /\ TAt ((w5_.setCell ⟨wr.heap.size, 0, none⟩ (.string z0)).setCell ⟨wr.heap.size, 1, none⟩ (.slice z1 z2 z3)) (fun _ => True) (.mk [] [.mk [112] [], kk.1.toTr, hh.1.toTr]) (.agg #[.string z0, .slice z1 z2 z3]) /\ Below wr.heap.size wr ((w5_.setCell ⟨wr.heap.size, 0, none⟩ (.string z0)).setCell ⟨wr.heap.size, 1, none⟩ (.slice z1 z2 z3)) := ⟨set_two (block_up HB5'.out (old2 _ _ _)) _ _, HT5.out.move fun k hk hne => ⟨trivial, set_far hne _ _⟩, set0 (set0 HB5.out (by first | (have := HB5.out.size; omega) | omega)) (by first | (have := HB5.out.size; omega) | omega)⟩
         have hkbw : wr.heap.size <= wr.heap.size := by first | (have := HB5.out.size; omega) | omega
         generalize ((w5_.setCell ⟨wr.heap.size, 0, none⟩ (.string z0)).setCell ⟨wr.heap.size, 1, none⟩ (.slice z1 z2 z3)) = W9 at *
         have HKB := Lib.hid KB
         have HTP := Lib.hid TP
         have HBF := Lib.hid BF
         have HS40 : Hid (∀ w', Below W9.heap.size W9 w' -> w'.cell? ⟨wr.heap.size, 0, none⟩ = some (.string z0) /\ w'.cell? ⟨wr.heap.size, 1, none⟩ = some (.slice z1 z2 z3) /\ w'.cell? ⟨gl13, i * 4 + 2, none⟩ = some (.string y0) /\ w'.cell? ⟨gl13, i * 4 + 3, none⟩ = some (.slice y1 y2 y3)) := fun w' h => ⟨block_cell (block_up h HKB.out) 0, block_cell (block_up h HKB.out) 1, (HS.out _ (up_trans HBF.out h)).2.2.1, (HS.out _ (up_trans HBF.out h)).2.2.2.1⟩
         have HS49 : Hid (∀ w8 w9, Below W9.heap.size W9 w8 -> w8.grownBy w9 (some gr) -> Hid (Keeps 59 wr w9 /\ Keeps 146 wr w9 = Keeps 146 wr w9 /\ ∀ k, k < wr.heap.size -> k ≠ gr -> w9.heap[k]? = wr.heap[k]?) -> w9.cell? ⟨wr.heap.size, 0, none⟩ = some (.string z0) /\ w9.cell? ⟨wr.heap.size, 1, none⟩ = some (.slice z1 z2 z3) /\ w9.cell? ⟨gl13, i * 4 + 2, none⟩ = some (.string y0) /\ w9.cell? ⟨gl13, i * 4 + 3, none⟩ = some (.slice y1 y2 y3)) := fun w8 w9 hb hg hk => by
          have k8 := block_up hb HKB.out
          have k9 := (hg.block (wr.heap.size) (lt_of_block k8) (by have := HGR.out; simp; omega)).trans k8
          have k7 := HS9.out w9 (by first | exact hk | exact Lib.hid ⟨hk.out.1, trivial, hk.out.2.2⟩)
          exact ⟨block_cell k9 0, block_cell k9 1, k7.2.2.1, k7.2.2.2.1⟩
         obtain ⟨b0, b1, b2, b3⟩ := HS40.out W9 (Below.refl _ _)
         clear KB TP BF HB5 HT5 HB5' KZ cz0 cz1 fz0 fz1 lz0
         refine wp_region_noPanic ?_
         refine wp_region_held_drew (S := (fun w' => w'.cell? ⟨wr.heap.size, 0, none⟩ = some (.string z0) /\ w'.cell? ⟨wr.heap.size, 1, none⟩ = some (.slice z1 z2 z3) /\ w'.cell? ⟨gl13, i * 4 + 2, none⟩ = some (.string y0) /\ w'.cell? ⟨gl13, i * 4 + 3, none⟩ = some (.slice y1 y2 y3))) (by kernel_rfl) (by exact HS40.out _ (up_drew (Below.refl _ _))) (fun hHeld => ?_)
         refine tq 0 rfl ?_
         refine tq 1 rfl ?_
         refine tq 6 rfl ?_
         refine tq 7 rfl ?_
         refine tq 8 rfl ?_
         refine tq 9 rfl ?_
         refine tq 10 rfl ?_
         refine tz 2 rfl fun K hK => ?_
         go_simp
         refine hK.out _ _ (by exact HS40.out _ (up_trans (up_drew (Below.refl _ _)) (up1 _ _))) (fun hHeld => ?_)
         clear hK
         try simp only [Act.put, zA, zB, zC, zD, zE, zF]
         refine tz 3 rfl fun K hK => ?_
         go_simp
         go_at_call 71
         refine (mk1 [114] _ W9.drew _ _ _ _ (HTP.out.up (up_drew (Below.refl _ _)))).mono ?_
         rintro e w7 ⟨t0, t1, t2, t3, rfl, ht7, hb7⟩
         have HB7 : Hid (Below W9.heap.size W9 w7) := up_trans (up_drew (Below.refl _ _)) hb7
         have HT7 := Lib.hid ht7
         clear ht7 hb7
         refine hK.out _ _ (by exact HS40.out _ HB7.out) (fun hHeld => ?_)
         clear hK
         try simp only [Act.put, zA, zB, zC, zD, zE, zF]
         refine tz 4 rfl fun K hK => ?_
         go_simp
         refine hK.out _ _ (by exact HS40.out _ (up_trans HB7.out (up1 _ _))) (fun hHeld => ?_)
         clear hK
         try simp only [Act.put, zA, zB, zC, zD, zE, zF]
         refine tz 5 rfl fun K hK => ?_
         go_simp
         go_at_call 71
         refine (mk1 [102] _ w7 _ _ _ _ HT7.out).mono ?_
         rintro e w8 ⟨q0, q1, q2, q3, rfl, ht8, hb8⟩
         have HB8' : Hid (Below W9.heap.size W9 w8) := up_trans HB7.out hb8
         have HB8 : Hid (Below wr.heap.size wr w8) := up_trans HBF.out HB8'.out
         have HT8 := Lib.hid ht8
         clear ht8 hb8
         refine hK.out _ _ (by exact HS40.out _ HB8'.out) (fun hHeld => ?_)
         clear hK
         try simp only [Act.put, zA, zB, zC, zD, zE, zF]
         refine tq 11 rfl ?_
         refine tz 12 rfl fun K hK => ?_
         go_simp
         refine hK.out _ _ (by exact HS40.out _ (up_trans HB8'.out (up1 _ _))) (fun hHeld => ?_)
         clear hK
         try simp only [Act.put, zA, zB, zC, zD, zE, zF]
         refine tz 13 rfl fun K hK => ?_
         refine step_append_rows _ rfl _ _ 76 rfl w.heap.size 4 146 i0 (.agg #[.string ⟨#[]⟩, .slice none 0 0, .string ⟨#[]⟩, .slice none 0 0]) 80 Tryz.underlying76 hi0 hz0 hz1 hz2 rfl (by decide) gr m0 cr us rfl (HO.out _ (up_trans HB8.out (up1 _ _))) (some ⟨_, 0, none⟩) 1 1 [.string q0, .slice q1 q2 q3, .string y0, .slice y1 y2 y3] rfl rfl (row_four (block_new w8 _)) (by simp [Value.oneCell']) (by have := HM9.out; omega) (by decide) (HSZ.out _ (up_trans HB8.out (up1 _ _))) (m0 + 1) rfl (us ++ [.string q0, .slice q1 q2 q3, .string y0, .slice y1 y2 y3]) rfl ?_
         intro gn cn w9 hown hgrow hbel hat
         have HK9 := HAF.out _ w9 (up_trans HB8.out (up1 _ _)) hgrow
         have HG9 := Lib.hid hgrow
         have HFF := HFIN.out _ w9 gn cn _ _ _ _ (up_trans HB8.out (up1 _ _)) (HT8.out.up (up1 _ _)) hgrow (by simpa using hat) hbel hown
         clear hown hgrow hbel hat
         refine hK.out _ _ (by exact HS49.out _ w9 (up_trans HB8'.out (up1 _ _)) HG9.out (by first | exact HK9 | exact Lib.hid ⟨HK9.out.1, rfl, HK9.out.2.2⟩)) (fun hHeld => ?_)
         clear hK
         try simp only [Act.put, zA, zB, zC, zD, zE, zF]
         refine tq 14 rfl ?_
         refine wpAnyH_done (by kernel_rfl) ?_ _
         refine NoPanic.normal ?_
         go_wp2
         go_roundg m2
         case measure => omega
         case rel => exact ⟨i + 1, gn, cn, rfl, by rw [HLN1.out], by show m2 + (i + 1) = nL; omega, HFF.out⟩
  | succ m =>
   have h1 : decide (i < nL) = true := decide_eq_true (by omega)
   have hin : i < nL := by omega
   have hlh := HB.out
   have hkp := hlh.keeps HO5.out
   obtain ⟨hh, hih⟩ : ∃ hh, lst[i]? = some hh := ⟨_, List.getElem?_eq_getElem (by rw [HNL.out]; exact hin)⟩
   obtain ⟨x0, x1, x2, x3, y0, y1, y2, y3, u1, u2, u3, u4, hx, hy⟩ := (HTR5.out.keep hkp).get i hh hih
   have hc : ∀ j u, us5[j]? = some u -> wr.cell? ⟨gl5, j, none⟩ = some u := by
    intro j u hu
    rcases hlh.2.1.cells HRR5.out (fun k o hk => by cases hk; exact ⟨HGA5.out.1, HGA5.out.1⟩) with h | ⟨gl, ol, h, h'⟩
    · rw [h] at u1; simp at u1
    · cases h
      have := h' j u hu
      rwa [Nat.zero_add] at this
   have d1 := hc _ _ u1
   have d2 := hc _ _ u2
   have d3 := hc _ _ u3
   have d4 := hc _ _ u4
   rw [Nat.mul_comm 4 i] at d1 d2 d3 d4
   have hlk : gl5 < wr.heap.size := World.block_lt_of_cell? wr _ d1
   have hgne : gl5 ≠ gr := by
    have h9 := HGA5.out
    rcases hlh.2.2.1 with h | h <;> omega
   have htk : (([] : List (V × V)) ++ (lst.take i).map fun p => (V.f (.l p.1), p.2)) ++ [(V.f (.l hh.1), hh.2)] = ([] : List (V × V)) ++ (lst.take (i + 1)).map fun p => (V.f (.l p.1), p.2) := by
    rw [List.take_add_one, hih]
    simp
   have hln1 : (([] : List (V × V)) ++ (lst.take (i + 1)).map fun p => (V.f (.l p.1), p.2)).length = (([] : List (V × V)) ++ (lst.take i).map fun p => (V.f (.l p.1), p.2)).length + 1 := by
    rw [<- htk, List.length_append]; rfl
   have hln8 : (([] : List (V × V)) ++ (lst.take i).map fun p => (V.f (.l p.1), p.2)).length <= (([] : List (V × V)) : List (V × V)).length + nL := by
    rw [List.length_append, List.length_map, List.length_take]; omega
   generalize hacc : (([] : List (V × V)) ++ (lst.take i).map fun p => (V.f (.l p.1), p.2)) = acc at *
   obtain ⟨us, hous, htr⟩ := hlh.1
   have hrow0 := hlh.1.row
   have HM9 : Hid (acc.length + 1 <= 1000001) := by show _ <= _; have := HLN.out; omega
   generalize hml : acc.length = m0 at *
   have HLN1 := Lib.hid hln1
   have HO : Hid (∀ w2, Below wr.heap.size wr w2 -> w2.ownsRow w.heap.size 146 4 (.slice (some ⟨gr, 0, none⟩) m0 cr) m0 us) := fun w2 h => own_up hous h
   have HSZ : Hid (∀ w2, Below wr.heap.size wr w2 -> w.heap.size <= w2.heap.size) := fun w2 h => Nat.le_trans (Nat.le_trans hrow0.2.1 (Nat.le_of_lt hrow0.2.2)) h.size
   have HAF : Hid (∀ w3 w4, Below wr.heap.size wr w3 -> w3.grownBy w4 (some gr) -> Hid (Keeps 59 wr w4 /\ Keeps 146 wr w4 = Keeps 146 wr w4 /\ ∀ k, k < wr.heap.size -> k ≠ gr -> w4.heap[k]? = wr.heap[k]?)) := fun w3 w4 hb hg => ⟨(Keeps.up hb).trans (Keeps.grown (own_up hous hb) hg (by decide)), rfl, fun k hk hne => by rw [hg.block k (Nat.lt_of_lt_of_le hk hb.size) (by simpa using hne), hb.block k hk]⟩
   have HFIN : Hid (∀ w3 w4 g2 c2 x A n c, Below wr.heap.size wr w3 -> TAt w3 (fun _ => True) (V.f (.l hh.1)).toTr (.agg #[.string x, .slice A n c]) -> w3.grownBy w4 (some gr) -> (g2 = gr \/ w3.heap.size <= g2) -> Below w.heap.size w3 w4 -> w4.ownsRow w.heap.size 146 4 (.slice (some ⟨g2, 0, none⟩) (m0 + 1) c2) (m0 + 1) (us ++ [.string x, .slice A n c, .string y0, .slice y1 y2 y3]) -> Hid (LH w5 w.heap.size (w.heap.size + 2) g2 c2 (([] : List (V × V)) ++ (lst.take (i + 1)).map fun p => (V.f (.l p.1), p.2)) w4)) := fun w3 w4 g2 c2 x A n c hb ht hg hat hbl ho => by
    subst hml
    have := LH.step hlh HO5.out hous htr hb hg hat hbl ho ht (x := (V.f (.l hh.1), hh.2)) (hy.up hb)
    rw [htk] at this
    exact this
   have HS : Hid (∀ w', Below wr.heap.size wr w' -> w'.cell? ⟨gl5, i * 4, none⟩ = some (.string x0) /\ w'.cell? ⟨gl5, i * 4 + 1, none⟩ = some (.slice x1 x2 x3) /\ w'.cell? ⟨gl5, i * 4 + 2, none⟩ = some (.string y0) /\ w'.cell? ⟨gl5, i * 4 + 3, none⟩ = some (.slice y1 y2 y3)) := fun w' h => ⟨cell_up h d1, cell_up h d2, cell_up h d3, cell_up h d4⟩
   have HS9 : Hid (∀ w', Hid (Keeps 59 wr w' /\ Keeps 146 wr w' = Keeps 146 wr w' /\ ∀ k, k < wr.heap.size -> k ≠ gr -> w'.heap[k]? = wr.heap[k]?) -> w'.cell? ⟨gl5, i * 4, none⟩ = some (.string x0) /\ w'.cell? ⟨gl5, i * 4 + 1, none⟩ = some (.slice x1 x2 x3) /\ w'.cell? ⟨gl5, i * 4 + 2, none⟩ = some (.string y0) /\ w'.cell? ⟨gl5, i * 4 + 3, none⟩ = some (.slice y1 y2 y3)) := fun w' h => by
    have h8 := h.out.2.2 gl5 hlk hgne
    skip
    simp only [World.cell?] at d1 d2 d3 d4 ⊢
    rw [h8]
    exact ⟨d1, d2, d3, d4⟩
   obtain ⟨s0, s1, s2, s3⟩ := HS.out wr (Below.refl _ _)
   have HBLR : Hid (Below w.heap.size w5 wr) := hlh.2.2.2
   clear hlh hkp hih hc u1 u2 u3 u4 d1 d2 d3 d4 hgne htk hacc hous htr hrow0 hml hln1 hln8 HM HB
   go_wp2
   refine wp_region_noPanic ?_
   refine wp_region_held_drew (S := (fun w' => w'.cell? ⟨gl5, i * 4, none⟩ = some (.string x0) /\ w'.cell? ⟨gl5, i * 4 + 1, none⟩ = some (.slice x1 x2 x3) /\ w'.cell? ⟨gl5, i * 4 + 2, none⟩ = some (.string y0) /\ w'.cell? ⟨gl5, i * 4 + 3, none⟩ = some (.slice y1 y2 y3))) (by kernel_rfl) (by exact HS.out _ (up_drew (Below.refl _ _))) (fun hHeld => ?_)
   refine tq 0 rfl ?_
   refine tq 1 rfl ?_
   refine tq 2 rfl ?_
   refine tq 3 rfl ?_
   refine tq 4 rfl ?_
   refine tq 5 rfl ?_
   refine tq 10 rfl ?_
   refine tq 11 rfl ?_
   refine tq 12 rfl ?_
   refine tq 13 rfl ?_
   refine tq 14 rfl ?_
   refine tz 6 rfl fun K hK => ?_
   go_simp
   refine hK.out _ _ (by exact HS.out _ (up_trans (up_drew (Below.refl _ _)) (up1 _ _))) (fun hHeld => ?_)
   clear hK
   try simp only [Act.put, zA, zB, zC, zD, zE, zF]
   refine tz 7 rfl fun K hK => ?_
   go_simp
   go_at_call 71
   refine (mk1 [108] hh.1.toTr wr.drew _ _ _ _ (hx.up (up_drew (Below.refl _ _)))).mono ?_
   rintro e w7 ⟨z_0, z_1, z_2, z_3, rfl, ht7, hb7⟩
   have HB7 : Hid (Below wr.heap.size wr w7) := up_trans (up_drew (Below.refl _ _)) hb7
   have HT7 := Lib.hid ht7
   clear ht7 hb7
   refine hK.out _ _ (by exact HS.out _ HB7.out) (fun hHeld => ?_)
   clear hK
   try simp only [Act.put, zA, zB, zC, zD, zE, zF]
   refine tz 8 rfl fun K hK => ?_
   go_simp
   refine hK.out _ _ (by exact HS.out _ (up_trans HB7.out (up1 _ _))) (fun hHeld => ?_)
   clear hK
   try simp only [Act.put, zA, zB, zC, zD, zE, zF]
   refine tz 9 rfl fun K hK => ?_
   go_simp
   go_at_call 71
   refine (mk1 [102] _ w7 _ _ _ _ HT7.out).mono ?_
   rintro e w8 ⟨q0, q1, q2, q3, rfl, ht8, hb8⟩
   have HB8 : Hid (Below wr.heap.size wr w8) := up_trans HB7.out hb8
   have HT8 := Lib.hid ht8
   clear ht8 hb8
   refine hK.out _ _ (by exact HS.out _ HB8.out) (fun hHeld => ?_)
   clear hK
   try simp only [Act.put, zA, zB, zC, zD, zE, zF]
   refine tq 15 rfl ?_
   refine tz 16 rfl fun K hK => ?_
   go_simp
   refine hK.out _ _ (by exact HS.out _ (up_trans HB8.out (up1 _ _))) (fun hHeld => ?_)
   clear hK
   try simp only [Act.put, zA, zB, zC, zD, zE, zF]
   refine tz 17 rfl fun K hK => ?_
   refine step_append_rows _ rfl _ _ 76 rfl w.heap.size 4 146 i0 (.agg #[.string ⟨#[]⟩, .slice none 0 0, .string ⟨#[]⟩, .slice none 0 0]) 80 Tryz.underlying76 hi0 hz0 hz1 hz2 rfl (by decide) gr m0 cr us rfl (HO.out _ (up_trans HB8.out (up1 _ _))) (some ⟨_, 0, none⟩) 1 1 [.string q0, .slice q1 q2 q3, .string y0, .slice y1 y2 y3] rfl rfl (row_four (block_new w8 _)) (by simp [Value.oneCell']) (by have := HM9.out; omega) (by decide) (HSZ.out _ (up_trans HB8.out (up1 _ _))) (m0 + 1) rfl (us ++ [.string q0, .slice q1 q2 q3, .string y0, .slice y1 y2 y3]) rfl ?_
   intro gn cn w9 hown hgrow hbel hat
   have HK9 := HAF.out _ w9 (up_trans HB8.out (up1 _ _)) hgrow
   have HG9 := Lib.hid hgrow
   have HFF := HFIN.out _ w9 gn cn _ _ _ _ (up_trans HB8.out (up1 _ _)) (HT8.out.up (up1 _ _)) hgrow (by simpa using hat) hbel hown
   clear hown hgrow hbel hat
   refine hK.out _ _ (by exact HS9.out _ HK9) (fun hHeld => ?_)
   clear hK
   try simp only [Act.put, zA, zB, zC, zD, zE, zF]
   refine tq 18 rfl ?_
   refine wpAnyH_done (by kernel_rfl) ?_ _
   refine NoPanic.normal ?_
   go_wp2
   go_roundg m
   case measure => omega
   case rel => exact ⟨i + 1, gn, cn, rfl, by rw [HLN1.out], by show m + (i + 1) = nL; omega, HFF.out⟩
theorem l4Holes_any : ∀ n, SHo n := by
 intro n
 induction n with
 | zero => intro N names env x v vt vv w _ _ _ h; have := V.pos v; omega
 | succ n ih =>
  intro N names env x v vt vv w hok hx hty hnd hnd2 ht hv
  cases N with
  | zero => exact l4Holes_leaf n .zero [48] x v (by simp) rfl (by rw [holesN, if_neg (by rintro rfl; exact hx.2.1 rfl)]; all_goals simp) vt vv w ht hv
  | one => exact l4Holes_leaf n .one [49] x v (by simp) rfl (by rw [holesN, if_neg (by rintro rfl; exact hx.2.2.1 rfl)]; all_goals simp) vt vv w ht hv
  | name s => exact l4Holes_leaf n (.name s) s x v hok.1 rfl (by rw [holesN]) vt vv w ht hv
  | sum a b =>
   cases v with
   | l y => exact l4Holes_l n ih a b names env x y vt vv w hok hx hty hnd hnd2 ht hv
   | r y => exact l4Holes_r n ih a b names env x y vt vv w hok hx hty hnd hnd2 ht hv
   | _ => cases hty
  | prod a b =>
   cases v with
   | p y z => exact l4Holes_p n ih a b names env x y z vt vv w hok hx hty hnd hnd2 ht hv
   | _ => cases hty
  | loop y a =>
   cases v with
   | f u => exact l4Holes_f n ih y a names env x u vt vv w hok hx hty hnd hnd2 ht hv
   | _ => cases hty
end Go.Proofs.YtpokompplapkhaaGreatDoor

