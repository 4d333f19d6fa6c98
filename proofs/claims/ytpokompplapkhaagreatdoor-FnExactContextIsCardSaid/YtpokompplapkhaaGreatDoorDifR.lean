/- The program's derivative: recs, and whole. -/
import Derived.Test.YtpokompplapkhaaGreatDoorDifO
namespace Go.Proofs.YtpokompplapkhaaGreatDoor
open Go.RowKit
set_option linter.unusedVariables false
set_option linter.unusedSimpArgs false

theorem tyBound_new (w : World) : TyAt (w.alloc (.cells #[.int .u8 98, .string (St []), .int .i64 0, .pointer none, .pointer none] 124)) (.bound 0) (some ⟨w.heap.size, 0, none⟩) := TyN_new w 98 [] 0 none none
theorem TyAt.cast {w : World} {t : Ty} {a b : Nat} (h : TyAt w t (some ⟨a, 0, none⟩)) (e : a = b) : TyAt w t (some ⟨b, 0, none⟩) := e ▸ h
theorem OfR.next {a : Ty} {l nm : List UInt8} {f : Nat} {rc : Ty} {g1 : Bool} {f1 : Nat} (h : OfR a nm false f rc g1 f1) : f ≤ f1 := by
  obtain ⟨_, _, h3⟩ := h
  obtain ⟨_, _, _, _, h, _⟩ := h3 rfl
  exact h

set_option maxHeartbeats 8000000 in
set_option maxRecDepth 100000 in
theorem of_rec (nm : List UInt8) (a : Ty) (B bx f : Nat) (hf : f ≤ 1000000) (w : World) (g ga : Nat) (h : DX w B bx f false) (hb : w.heap[g]? = some (.cells #[.int .u8 114, .string (St []), .int .i64 0, .pointer (some ⟨ga, 0, none⟩), .pointer none] 124 (0, 0)))
    (ta : TyAt w a (some ⟨ga, 0, none⟩)) (hat : a.atoms ≤ 1000)
    (ihc : ∀ w1 p, w.grownBy w1 (some bx) → DX w1 B bx (f + 1) false → TyAt w1 (a.opened (.name (fnm (f + 1))) 0) p → Calls Tryz.prog 154 #[.pointer (some ⟨bx, 0, none⟩), .pointer p, .string (St nm)] w1 fun e w' => ∃ r g1 f1, OfR (a.opened (.name (fnm (f + 1))) 0) nm false (f + 1) r g1 f1 ∧ XP w1 B bx f1 r g1 e w')
    (ihd : ∀ w1 p g1 f1, w.grownBy w1 (some bx) → DX w1 B bx f1 g1 → (∃ r, OfR (a.opened (.name (fnm (f + 1))) 0) nm false (f + 1) r g1 f1) → TyAt w1 (a.opened (.name (fnm (f + 1))) 0) p → Calls Tryz.prog 154 #[.pointer (some ⟨bx, 0, none⟩), .pointer p, .string (St (fnm (f + 1)))] w1 fun e w' => ∃ r g2 f2, OfR (a.opened (.name (fnm (f + 1))) 0) (fnm (f + 1)) g1 f1 r g2 f2 ∧ XP w1 B bx f2 r g2 e w') :
    Calls Tryz.prog 154 #[.pointer (some ⟨bx, 0, none⟩), .pointer (some ⟨g, 0, none⟩), .string (St nm)] w fun e w' => ∃ rc g1 f1 rd g2 f2, OfR (a.opened (.name (fnm (f + 1))) 0) nm false (f + 1) rc g1 f1 ∧ OfR (a.opened (.name (fnm (f + 1))) 0) (fnm (f + 1)) g1 f1 rd g2 f2 ∧
      XP w B bx f2 (chkR g2 (.loop (.sum (rc.put (fnm (f + 1)) (.loop a)) (.prod (rd.put (fnm (f + 1)) (.loop a)) (.bound 0))))) (chkG g2 (.loop (.sum (rc.put (fnm (f + 1)) (.loop a)) (.prod (rd.put (fnm (f + 1)) (.loop a)) (.bound 0))))) e w' := by
  have hne : g ≠ bx := by
    rintro rfl
    rw [h.h] at hb
    simp at hb
  have HC : Hid (∀ w1, w.grownBy w1 (some bx) → w1.cell? ⟨g, 0, none⟩ = some (.int .u8 114) ∧ w1.cell? ⟨g, 3, none⟩ = some (.pointer (some ⟨ga, 0, none⟩))) := fun w1 hg => by
    have hb1 := (hg.block g (lt_of_block hb) (by simpa using hne)).trans hb
    exact ⟨block_cell hb1 0, block_cell hb1 3⟩
  have HT : Hid (∀ w1, w.grownBy w1 (some bx) → TyAt w1 (.loop a) (some ⟨g, 0, none⟩)) := fun w1 hg => ⟨_, ⟨g, rfl, (hg.block g (lt_of_block hb) (by simpa using hne)).trans hb⟩, ta.keep (h.keeps hg)⟩
  have HTA : Hid (∀ w1, w.grownBy w1 (some bx) → TyAt w1 a (some ⟨ga, 0, none⟩)) := fun w1 hg => ta.keep (h.keeps hg)
  have e1 : w.cell? ⟨bx, 1, none⟩ = some (.bool false) := block_cell h.h 1
  have lt0 := lt_of_block h.h
  have e0 := (HC.out w (World.grownBy.refl _ _)).1
  have HNM : Hid (Calls Tryz.prog 168 #[.pointer (some ⟨bx, 0, none⟩)] w fun e w' => e = .returned (.string (St (fnm (f + 1)))) ∧ DX w' B bx (f + 1) false ∧ w.grownBy w' (some bx)) := dname_any B bx f false w (by omega) h
  have HOP : Hid (∀ (w1 : World) (q : Option Addr), w.grownBy w1 (some bx) → TyAt w1 (.name (fnm (f + 1))) q → Calls Tryz.prog 170 #[.pointer (some ⟨ga, 0, none⟩), .pointer q, .int .i64 0] w1 fun e w' => ∃ p', e = .returned (.pointer p') ∧ TyAt w' (a.opened (.name (fnm (f + 1))) 0) p' ∧ Below w1.heap.size w1 w') := fun w1 q h1 h2 => opened_any (.name (fnm (f + 1))) a w1 _ q 0 (HTA.out w1 h1) h2 (by omega)
  have HK : Hid (∀ (w1 : World) (f2 : Nat) (g2 : Bool) (t : Ty) p, DX w1 B bx f2 g2 → TyAt w1 t p → t.atoms ≤ 1000000000 → Calls Tryz.prog 169 #[.pointer (some ⟨bx, 0, none⟩), .pointer p] w1 (XP w1 B bx f2 (chkR g2 t) (chkG g2 t))) := fun w1 f2 g2 t p h1 h2 h3 => checked_any B bx f2 g2 t p w1 h1 h2 h3
  have HKS : Hid (∀ (nm : List UInt8) (t : Ty) (f0 : Nat) (w1 : World) (f2 : Nat) (g1 g2 : Bool) (r : Ty) p, OfR t nm g1 f0 r g2 f2 → DX w1 B bx f2 g2 → TyAt w1 r p → Calls Tryz.prog 169 #[.pointer (some ⟨bx, 0, none⟩), .pointer p] w1 (XP w1 B bx f2 r g2)) := fun nm t f0 w1 f2 g1 g2 r p h0 h1 h2 => by
    have := checked_any B bx f2 g2 r p w1 h1 h2 (by have := h0.1; omega)
    rw [chkR_of h0.1 h0.zero_, chkG_of h0.1] at this
    exact this
  have HPU : Hid (∀ (t : Ty) (w1 : World) (p : Option Addr), TyAt w1 t p → w.grownBy w1 (some bx) → Calls Tryz.prog 171 #[.pointer p, .string (St (fnm (f + 1))), .pointer (some ⟨g, 0, none⟩)] w1 fun e w' => ∃ p', e = .returned (.pointer p') ∧ TyAt w' (t.put (fnm (f + 1)) (.loop a)) p' ∧ Below w1.heap.size w1 w') := fun t w1 p h1 h2 => put_any (fnm (f + 1)) (.loop a) t w1 p _ h1 (HT.out w1 h2)
  have HSZ : Hid (∀ (rc rd : Ty), rc.atoms ≤ 400 → rd.atoms ≤ 400 → (Ty.loop (.sum (rc.put (fnm (f + 1)) (.loop a)) (.prod (rd.put (fnm (f + 1)) (.loop a)) (.bound 0)))).atoms ≤ 1000000000) := fun rc rd h1 h2 => by
    have k1 := put_atoms_mul (fnm (f + 1)) (.loop a) rc
    have k2 := put_atoms_mul (fnm (f + 1)) (.loop a) rd
    have k3 : rc.atoms * (Ty.loop a).atoms ≤ 400 * 1002 := Nat.mul_le_mul h1 (by simp only [Ty.atoms]; omega)
    have k4 : rd.atoms * (Ty.loop a).atoms ≤ 400 * 1002 := Nat.mul_le_mul h2 (by simp only [Ty.atoms]; omega)
    simp only [Ty.atoms] at *
    omega
  have HX := Lib.hid h
  have IHC := Lib.hid ihc
  have IHD := Lib.hid ihd
  clear h hb ta ihc ihd hat hf
  generalize fnm (f + 1) = l at *
  generalize a.opened (.name l) 0 = ti at *
  go_enter Tryz.func154, Tryz.ntmps154
  go_wp2_with (go_at_call 168; (with_reducible refine HNM.out.mono ?_); rintro e w1 ⟨rfl, hx1, hg1⟩; have HX1 := Lib.hid hx1; have HG1 := Lib.hid hg1; have s1 := (HC.out w1 hg1).2; clear hx1 hg1)
  go_wp2_with (go_at_call 170; (refine (HOP.out _ _ (grow_up2 HG1.out (by repeat (first | exact Below.refl _ _ | refine up_drew ?_ | refine up_alloc ?_ _))) (by first | exact TyN_new _ 110 l 0 none none | exact (show TyN _ _ _ _ _ _ _ from (TyN_new w1 110 l 0 none none).keep (.up (up_drew (Below.refl _ _)))))).mono ?_); rintro e w2 ⟨p2, rfl, hp2, hb2⟩; have HB12 : Hid (Below w1.heap.size w1 w2) := up_trans (by repeat (first | exact Below.refl _ _ | refine up_drew ?_ | refine up_alloc ?_ _)) hb2; have HX2 := Lib.hid (HX1.out.up HB12.out); have HG2 := Lib.hid (grow_up2 HG1.out HB12.out); have HP2 := Lib.hid hp2; clear hp2 hb2)
  go_wp2_with (go_at_call 154; ((refine (IHC.out _ _ HG2.out HX2.out HP2.out).mono ?_); rintro e w3 ⟨rc, g1, f1, hrc, p3, rfl, hp3, hx3, hg3⟩; have HRC := Lib.hid hrc; have HP3 := Lib.hid hp3; have HX3 := Lib.hid hx3; have HG3 : Hid (w.grownBy w3 (some bx)) := grow_grow HG2.out hg3 (.inl rfl); have HP23 := Lib.hid (TyAt.keep (HX2.out.keeps hg3) HP2.out); clear hrc hp3 hx3 hg3))
  go_wp2_with (go_at_call 169; ((refine (HKS.out _ _ _ _ _ _ _ _ _ HRC.out HX3.out HP3.out).mono ?_); rintro e w4 ⟨p4, rfl, hp4, hx4, hg4⟩; have HP4 := Lib.hid hp4; have HX4 := Lib.hid hx4; have HG4 : Hid (w.grownBy w4 (some bx)) := grow_grow HG3.out hg4 (.inl rfl); have HP24 := Lib.hid (TyAt.keep (HX3.out.keeps hg4) HP23.out); clear hp4 hx4 hg4))
  go_wp2_with (go_at_call 171; ((refine (HPU.out _ _ _ HP4.out HG4.out).mono ?_); rintro e w5 ⟨p5, rfl, hp5, hb5⟩; have HP5 := Lib.hid hp5; have HX5 := Lib.hid (HX4.out.up hb5); have HG5 := Lib.hid (grow_up2 HG4.out hb5); have HP25 := Lib.hid (HP24.out.up hb5); clear hp5 hb5))
  go_wp2_with (go_at_call 154; ((refine (IHD.out _ _ _ _ HG5.out HX5.out ⟨_, HRC.out⟩ HP25.out).mono ?_); rintro e w6 ⟨rd, g2, f2, hrd, p6, rfl, hp6, hx6, hg6⟩; have HRD := Lib.hid hrd; have HP6 := Lib.hid hp6; have HX6 := Lib.hid hx6; have HG6 : Hid (w.grownBy w6 (some bx)) := grow_grow HG5.out hg6 (.inl rfl); have HP56 := Lib.hid (TyAt.keep (HX5.out.keeps hg6) HP5.out); clear hrd hp6 hx6 hg6))
  go_wp2_with (go_at_call 169; ((refine (HKS.out _ _ _ _ _ _ _ _ _ HRD.out HX6.out HP6.out).mono ?_); rintro e w7 ⟨p7, rfl, hp7, hx7, hg7⟩; have HP7 := Lib.hid hp7; have HX7 := Lib.hid hx7; have HG7 : Hid (w.grownBy w7 (some bx)) := grow_grow HG6.out hg7 (.inl rfl); have HP57 := Lib.hid (TyAt.keep (HX6.out.keeps hg7) HP56.out); clear hp7 hx7 hg7))
  go_wp2_with (go_at_call 171; ((refine (HPU.out _ _ _ HP7.out HG7.out).mono ?_); rintro e w8 ⟨p8, rfl, hp8, hb8⟩; have HP8 := Lib.hid hp8; have HX8 := Lib.hid (HX7.out.up hb8); have HG8 := Lib.hid (grow_up2 HG7.out hb8); have HP58 := Lib.hid (HP57.out.up hb8); clear hp8 hb8))
  go_wp2_with (go_at_call 196; (have HP8q := HP8.out; have HP58q := HP58.out; clear HP8 HP58; (refine (both_any 42 _ _ _).mono ?_); rintro e w9 ⟨rfl, hn9, hb9⟩; have HB89 : Hid (Below w8.heap.size w8 w9) := up_trans (by repeat (first | exact Below.refl _ _ | refine up_drew ?_ | refine up_alloc ?_ _)) hb9; have HX9 := Lib.hid (HX8.out.up HB89.out); have HG9 := Lib.hid (grow_up2 HG8.out HB89.out); have HP9 : Hid (TyAt w9 (.prod (rd.put l (.loop a)) (.bound 0)) (some ⟨w8.heap.size + 1, 0, none⟩)) := TyAt.cast (show TyAt w9 (.prod (rd.put l (.loop a)) (.bound 0)) _ from ⟨_, _, hn9, HP8q.up HB89.out, TyAt.up hb9 (tyBound_new w8)⟩) (by simp); have HP59 := Lib.hid (HP58q.up HB89.out); clear hn9 hb9 HP8q HP58q))
  go_wp2_with (go_at_call 196; ((refine (both_any 43 _ _ _).mono ?_); rintro e w10 ⟨rfl, hn10, hb10⟩; have HX10 := Lib.hid (HX9.out.up hb10); have HG10 := Lib.hid (grow_up2 HG9.out hb10); have HPB : Hid (TyAt w10 (.sum (rc.put l (.loop a)) (.prod (rd.put l (.loop a)) (.bound 0))) _) := ⟨_, _, hn10, HP59.out.up hb10, HP9.out.up hb10⟩; clear hn10 hb10))
  go_wp2_with (go_at_call 169; ((refine (HK.out _ _ _ (.loop (.sum (rc.put l (.loop a)) (.prod (rd.put l (.loop a)) (.bound 0)))) _ (HX10.out.up (by repeat (first | exact Below.refl _ _ | refine up_drew ?_ | refine up_alloc ?_ _))) (show TyAt _ _ _ from ⟨_, TyN_new w10 114 [] 0 _ none, TyAt.up (up1 _ _) HPB.out⟩) (HSZ.out _ _ HRC.out.1 HRD.out.1)).mono ?_); rintro e w11 ⟨p11, rfl, hp11, hx11, hg11⟩; have HP11 := Lib.hid hp11; have HX11 := Lib.hid hx11; have HG11 : Hid (w.grownBy w11 (some bx)) := grow_grow (grow_up2 HG10.out (up1 _ _)) hg11 (.inl rfl); clear hp11 hx11 hg11))
  go_ret
  exact ⟨rc, g1, f1, rd, g2, f2, HRC.out, HRD.out, _, rfl, HP11.out, HX11.out, HG11.out⟩

/-- of, whole. -/
theorem dof_any (B bx : Nat) : ∀ (n : Nat) (t : Ty) (nm : List UInt8) (f : Nat) (g : Bool) (w : World) (p : Option Addr), t.atoms ≤ n → n ≤ 1000 → DX w B bx f g → TyAt w t p → Fresh t nm f → (g = false → f + 402 * t.atoms ≤ 1000000) →
    Calls Tryz.prog 154 #[.pointer (some ⟨bx, 0, none⟩), .pointer p, .string (St nm)] w fun e w' => ∃ r g' f', OfR t nm g f r g' f' ∧ XP w B bx f' r g' e w'
  | n, t, nm, f, true, w, p, hn, hN, h, hp, hf, hb => (of_great nm B bx f p w h).mono fun e w' hx => ⟨.zero, true, f, .great t nm f, hx⟩
  | 0, t, nm, f, false, w, p, hn, hN, h, hp, hf, hb => by have := ty_pos t; omega
  | n + 1, .zero, nm, f, false, w, p, hn, hN, h, hp, hf, hb => by
    obtain ⟨g, rfl, hb⟩ := hp
    exact (of_zero nm B bx f g w h (block_cell hb 0)).mono fun e w' hx => ⟨.zero, false, f, .leaf f (.zero _), hx⟩
  | n + 1, .one, nm, f, false, w, p, hn, hN, h, hp, hf, hb => by
    obtain ⟨g, rfl, hb⟩ := hp
    exact (of_one nm B bx f g w h (block_cell hb 0)).mono fun e w' hx => ⟨.zero, false, f, .leaf f (.one _), hx⟩
  | n + 1, .bound k, nm, f, false, w, p, hn, hN, h, hp, hf, hb => by
    obtain ⟨g, rfl, hb⟩ := hp
    exact (of_bound nm B bx f g w h (block_cell hb 0)).mono fun e w' hx => ⟨.zero, false, f, .leaf f (.bound _ _), hx⟩
  | n + 1, .name s, nm, f, false, w, p, hn, hN, h, hp, hf, hb => by
    obtain ⟨g, rfl, hb⟩ := hp
    by_cases hs : s = nm
    · subst hs
      exact (of_hit s B bx f g w h (block_cell hb 0) s (block_cell hb 1) (by simp)).mono fun e w' hx => ⟨.one, false, f, .leaf f (.hit _), hx⟩
    · exact (of_miss nm B bx f g w h (block_cell hb 0) s (block_cell hb 1) (by simpa using hs)).mono fun e w' hx => ⟨.zero, false, f, .leaf f (.miss _ _ hs), hx⟩
  | n + 1, .sum a b, nm, f, false, w, p, hn, hN, h, hp, hf, hbd => by
    obtain ⟨pa, pb, ⟨g, rfl, hb⟩, ha, hb'⟩ := hp
    obtain ⟨ga, rfl⟩ := ha.some_
    obtain ⟨gb, rfl⟩ := hb'.some_
    have hbd := hbd rfl
    simp only [Ty.atoms] at hn hbd
    have hfa : Fresh a nm f := fun k hk => ⟨fun h => (hf k hk).1 (.inl h), (hf k hk).2⟩
    have hfb : Fresh b nm f := fun k hk => ⟨fun h => (hf k hk).1 (.inr h), (hf k hk).2⟩
    refine (of_sum nm a b B bx f w g ga gb h hb ha hb' (by omega) (fun w1 hg h1 => dof_any B bx n a nm f false w1 _ (by omega) (by omega) h1 (ha.keep (h.keeps hg)) hfa fun _ => by omega) (fun w1 g1 f1 hg h1 ⟨r, hr⟩ => ?_)).mono fun e w' ⟨ra, g1, f1, rb, g2, f2, h1, h2, h3⟩ => ⟨_, _, f2, .sum h1 h2 (der_ex b.atoms b nm f (Nat.le_refl _) hfb), h3⟩
    obtain ⟨_, _, h2⟩ := hr
    obtain ⟨o, _, _, _, q1, q2, q3⟩ := h2 rfl
    exact dof_any B bx n b nm f1 g1 w1 _ (by omega) (by omega) h1 (hb'.keep (h.keeps hg)) (hfb.le q1) fun _ => by omega
  | n + 1, .prod a b, nm, f, false, w, p, hn, hN, h, hp, hf, hbd => by
    obtain ⟨pa, pb, ⟨g, rfl, hb⟩, ha, hb'⟩ := hp
    obtain ⟨ga, rfl⟩ := ha.some_
    obtain ⟨gb, rfl⟩ := hb'.some_
    have hbd := hbd rfl
    simp only [Ty.atoms] at hn hbd
    have hfa : Fresh a nm f := fun k hk => ⟨fun h => (hf k hk).1 (.inl h), (hf k hk).2⟩
    have hfb : Fresh b nm f := fun k hk => ⟨fun h => (hf k hk).1 (.inr h), (hf k hk).2⟩
    refine (of_prod nm a b B bx f w g ga gb h hb ha hb' (by omega) (fun w1 hg h1 => dof_any B bx n a nm f false w1 _ (by omega) (by omega) h1 (ha.keep (h.keeps hg)) hfa fun _ => by omega) (fun w1 g1 f1 hg h1 ⟨r, hr⟩ => ?_)).mono fun e w' ⟨ra, g1, f1, rb, g2, f2, h1, h2, h3⟩ => ⟨_, _, f2, .prod h1 h2 (der_ex b.atoms b nm f (Nat.le_refl _) hfb), h3⟩
    obtain ⟨_, _, h2⟩ := hr
    obtain ⟨o, _, _, _, q1, q2, q3⟩ := h2 rfl
    exact dof_any B bx n b nm f1 g1 w1 _ (by omega) (by omega) h1 (hb'.keep (h.keeps hg)) (hfb.le q1) fun _ => by omega
  | n + 1, .loop a, nm, f, false, w, p, hn, hN, h, hp, hf, hbd => by
    obtain ⟨pa, ⟨g, rfl, hb⟩, ha⟩ := hp
    obtain ⟨ga, rfl⟩ := ha.some_
    have hbd := hbd rfl
    simp only [Ty.atoms] at hn hbd
    have hin := Fresh.in_ hf
    have hf1 : Fresh (a.opened (.name (fnm (f + 1))) 0) nm (f + 1) := fun k hk => ⟨hin k hk, (hf k (by omega)).2⟩
    have hf2 : Fresh (a.opened (.name (fnm (f + 1))) 0) (fnm (f + 1)) (f + 1) := fun k hk => ⟨hin k hk, fun h => by have := fnm_inj h; omega⟩
    have hat := opened_name_atoms (fnm (f + 1)) a 0
    refine (of_rec nm a B bx f (by omega) w g ga h hb ha (by omega) (fun w1 p1 hg h1 hp1 => dof_any B bx n _ nm (f + 1) false w1 p1 (by omega) (by omega) h1 hp1 hf1 fun _ => by omega) (fun w1 p1 g1 f1 hg h1 ⟨r, hr⟩ hp1 => ?_)).mono fun e w' ⟨rc, g1, f1, rd, g2, f2, h1, h2, h3⟩ => ⟨_, _, f2, .loop (fun h => (hf (f + 1) (by omega)).2 h) (fun h => (hf (f + 1) (by omega)).1 h) h1 h2 (der_ex _ _ _ (f + 1) (Nat.le_refl _) hf2), h3⟩
    obtain ⟨hr1, _, h2⟩ := hr
    obtain ⟨o, _, _, _, q1, q2, q3⟩ := h2 rfl
    have hpos := ty_pos a
    exact dof_any B bx n _ (fnm (f + 1)) f1 g1 w1 p1 (by omega) (by omega) h1 hp1 (hf2.le q1) fun hg1 => by have := q2 hg1; omega

end Go.Proofs.YtpokompplapkhaaGreatDoor
