/- The program's loopDerived. -/
import Derived.Test.YtcfecmlfcjgdbaaGreatDoorDrv
import Derived.Test.YtcfecmlfcjgdbaaGreatDoorDerL
namespace Go.Proofs.YtcfecmlfcjgdbaaGreatDoor
open Go.RowKit
set_option linter.unusedVariables false
set_option linter.unusedSimpArgs false

/-- What loopDerived gives. -/
def DLd (w : World) (a : Ty) (e : Ending) (w' : World) : Prop := ∃ r q b, LDer a r ∧ b = r.isSome ∧ e = .returned (.tuple #[.pointer q, .bool b]) ∧ (∀ d, r = some d → TyAt w' d q) ∧ Below w.heap.size w w'
theorem chk_some (t : Ty) : (chkO (some t)).isSome = !(chkG false t) := by
  rw [chkO_if]
  unfold chkG
  by_cases h : t.atoms ≤ 400
  · rw [if_pos h, decide_eq_false (by omega)]; rfl
  · rw [if_neg h, decide_eq_true (by omega)]; rfl
theorem chk_val {t d : Ty} (h : chkO (some t) = some d) : chkR false t = d := by
  have h2 := (chkO_some h).2
  have h1 := (chkO_some h).1
  injection h1 with h1
  subst h1
  exact chkR_of h2 fun h => nomatch h

set_option maxHeartbeats 8000000 in
set_option maxRecDepth 100000 in
theorem loopDerived_any (a : Ty) (B : Nat) (w : World) (p : Option Addr) (hp : TyAt w (.loop a) p) (hat : a.atoms ≤ 398) (hfr : ∀ k, ¬ a.has (fnm k)) (htab : TabB B w) (hB : B ≤ w.heap.size) :
    Calls Tryz.prog 48 #[.pointer p] w (DLd w a) := by
  have hp0 := hp
  obtain ⟨pa, ⟨g, rfl, hb⟩, ha⟩ := hp
  obtain ⟨ga, rfl⟩ := ha.some_
  have hglt := lt_of_block hb
  have HX0 : DX (w.alloc (.cells #[.int .i64 0, .bool false] 105)) B w.heap.size 0 false := ⟨block_new w _, htab.below ((up1 w _).mono hB), hB⟩
  have HBX : Hid (∀ w1, (w.alloc (.cells #[.int .i64 0, .bool false] 105)).grownBy w1 (some w.heap.size) → Below w.heap.size w w1) := fun w1 hg => up_grown (up1 w _) hg (Nat.le_refl _)
  have HC : Hid (∀ w1, Below w.heap.size w w1 → w1.cell? ⟨g, 3, none⟩ = some (.pointer (some ⟨ga, 0, none⟩)) ∧ TyAt w1 a (some ⟨ga, 0, none⟩) ∧ TyAt w1 (.loop a) (some ⟨g, 0, none⟩)) := fun w1 h => ⟨block_cell (block_up h hb) 3, ha.up h, hp0.up h⟩
  have HNM : Hid (Calls Tryz.prog 89 #[.pointer (some ⟨w.heap.size, 0, none⟩)] (w.alloc (.cells #[.int .i64 0, .bool false] 105)) fun e w' => e = .returned (.string (St (fnm 1))) ∧ DX w' B w.heap.size 1 false ∧ (w.alloc (.cells #[.int .i64 0, .bool false] 105)).grownBy w' (some w.heap.size)) := dname_any B w.heap.size 0 false _ (by omega) HX0
  have HOP : Hid (∀ (w1 : World) (q : Option Addr), Below w.heap.size w w1 → TyAt w1 (.name (fnm 1)) q → Calls Tryz.prog 91 #[.pointer (some ⟨ga, 0, none⟩), .pointer q, .int .i64 0] w1 fun e w' => ∃ p', e = .returned (.pointer p') ∧ TyAt w' (a.opened (.name (fnm 1)) 0) p' ∧ Below w1.heap.size w1 w') := fun w1 q h1 h2 => opened_any (.name (fnm 1)) a w1 _ q 0 (HC.out w1 h1).2.1 h2 (by omega)
  have hf2 : Fresh (a.opened (.name (fnm 1)) 0) (fnm 1) 1 := fun k hk => ⟨fun h => by
    rcases (opened_has (fnm k) (.name (fnm 1)) a 0).2 h with h | h
    · exact hfr k h
    · have := fnm_inj h; omega, fun h => by have := fnm_inj h; omega⟩
  have HOF : Hid (∀ (w1 : World) q, DX w1 B w.heap.size 1 false → TyAt w1 (a.opened (.name (fnm 1)) 0) q → Calls Tryz.prog 76 #[.pointer (some ⟨w.heap.size, 0, none⟩), .pointer q, .string (St (fnm 1))] w1 fun e w' => ∃ r g' f', OfR (a.opened (.name (fnm 1)) 0) (fnm 1) false 1 r g' f' ∧ XP w1 B w.heap.size f' r g' e w') := fun w1 q h1 h2 =>
    dof_any B w.heap.size 400 _ (fnm 1) 1 false w1 q (by rw [opened_name_atoms]; omega) (by omega) h1 h2 hf2 fun _ => by rw [opened_name_atoms]; omega
  have HKS : Hid (∀ (w1 : World) (f2 : Nat) (g2 : Bool) (r : Ty) q, OfR (a.opened (.name (fnm 1)) 0) (fnm 1) false 1 r g2 f2 → DX w1 B w.heap.size f2 g2 → TyAt w1 r q → Calls Tryz.prog 90 #[.pointer (some ⟨w.heap.size, 0, none⟩), .pointer q] w1 (XP w1 B w.heap.size f2 r g2)) := fun w1 f2 g2 r q h0 h1 h2 => by
    have := checked_any B w.heap.size f2 g2 r q w1 h1 h2 (by have := h0.1; omega)
    rw [chkR_of h0.1 h0.zero_, chkG_of h0.1] at this
    exact this
  have HPU : Hid (∀ (t : Ty) (w1 : World) q, TyAt w1 t q → Below w.heap.size w w1 → Calls Tryz.prog 92 #[.pointer q, .string (St (fnm 1)), .pointer (some ⟨g, 0, none⟩)] w1 fun e w' => ∃ p', e = .returned (.pointer p') ∧ TyAt w' (t.put (fnm 1) (.loop a)) p' ∧ Below w1.heap.size w1 w') := fun t w1 q h1 h2 => put_any (fnm 1) (.loop a) t w1 q _ h1 (HC.out w1 h2).2.2
  have HK : Hid (∀ (w1 : World) (f2 : Nat) (r : Ty) q, r.atoms ≤ 400 → DX w1 B w.heap.size f2 false → TyAt w1 (r.put (fnm 1) (.loop a)) q → Calls Tryz.prog 90 #[.pointer (some ⟨w.heap.size, 0, none⟩), .pointer q] w1 (XP w1 B w.heap.size f2 (chkR false (r.put (fnm 1) (.loop a))) (chkG false (r.put (fnm 1) (.loop a))))) := fun w1 f2 r q h0 h1 h2 =>
    checked_any B w.heap.size f2 false _ q w1 h1 h2 (by
      have k1 := put_atoms_mul (fnm 1) (.loop a) r
      have k3 : r.atoms * (Ty.loop a).atoms ≤ 400 * 1002 := Nat.mul_le_mul h0 (by simp only [Ty.atoms]; omega)
      omega)
  have HLN : Hid (∀ f2 g2 r, OfR (a.opened (.name (fnm 1)) 0) (fnm 1) false 1 r g2 f2 → (g2 = true → LDer a none) ∧ (g2 = false → LDer a (chkO (some (r.put (fnm 1) (.loop a)))))) := fun f2 g2 r h => by
    obtain ⟨_, _, h3⟩ := h
    obtain ⟨o, hd, h1, h2, _⟩ := h3 rfl
    refine ⟨fun hg => ⟨fnm 1, o, hfr 1, hd, ?_⟩, fun hg => ⟨fnm 1, o, hfr 1, hd, ?_⟩⟩
    · cases o with
      | none => rfl
      | some d => rw [h1] at hg; cases hg
    · cases o with
      | none => rw [h1] at hg; cases hg
      | some d => rw [h2]; rfl
  have HXH := Lib.hid HX0
  clear hp0 hb ha hat hfr htab hB hf2 HX0
  generalize fnm 1 = l at *
  go_enter Tryz.func48, Tryz.ntmps48
  go_upto_region 4 with (first
    | (go_at_call 89; (with_reducible refine HNM.out.mono ?_); rintro e w1 ⟨rfl, hx1, hg1⟩; have HX1 := Lib.hid hx1; have HB1 := Lib.hid (HBX.out w1 hg1); have HG1 := Lib.hid hg1; have s1 := (HC.out w1 HB1.out).1; clear hx1 hg1)
    | (go_at_call 91; (refine (HOP.out _ _ (up_alloc HB1.out _) (TyN_new w1 110 l 0 none none)).mono ?_); rintro e w2 ⟨p2, rfl, hp2, hb2⟩; have HB12 : Hid (Below w1.heap.size w1 w2) := up_trans (up1 w1 _) hb2; have HX2 := Lib.hid (HX1.out.up HB12.out); have HG2 := Lib.hid (grow_up2 HG1.out HB12.out); have HP2 := Lib.hid hp2; clear hp2 hb2)
    | (go_at_call 76; (refine (HOF.out _ _ HX2.out HP2.out).mono ?_); rintro e w3 ⟨r, g2, f2, hr, p3, rfl, hp3, hx3, hg3⟩; have HR := Lib.hid hr; have HP3 := Lib.hid hp3; have HX3 := Lib.hid hx3; have HG3 := Lib.hid (grow_grow HG2.out hg3 (.inl rfl)); clear hr hp3 hx3 hg3)
    | (go_at_call 90; (refine (HKS.out _ _ _ _ _ HR.out HX3.out HP3.out).mono ?_); rintro e w4 ⟨p4, rfl, hp4, hx4, hg4⟩; have HP4 := Lib.hid hp4; have HX4 := Lib.hid hx4; have HG4 := Lib.hid (grow_grow HG3.out hg4 (.inl rfl)); have HB4 := Lib.hid (HBX.out w4 HG4.out); have c4 : w4.cell? ⟨w.heap.size, 1, none⟩ = some (.bool g2) := block_cell hx4.h 1; have l4 := lt_of_block hx4.h; clear hp4 hx4 hg4))
  cases g2 with
  | true =>
    go_wp2
    go_ret2
    exact ⟨none, none, false, (HLN.out _ _ _ HR.out).1 rfl, rfl, rfl, fun d h => (nomatch h), HB4.out⟩
  | false =>
    go_wp2_with (first
      | (go_at_call 92; (refine (HPU.out _ _ _ HP4.out HB4.out).mono ?_); rintro e w5 ⟨p5, rfl, hp5, hb5⟩; have HP5 := Lib.hid hp5; have HX5 := Lib.hid (HX4.out.up hb5); have HG5 := Lib.hid (grow_up2 HG4.out hb5); clear hp5 hb5)
      | (go_at_call 90; (refine (HK.out _ _ _ _ HR.out.1 HX5.out HP5.out).mono ?_); rintro e w6 ⟨p6, rfl, hp6, hx6, hg6⟩; have HP6 := Lib.hid hp6; have HG6 := Lib.hid (grow_grow HG5.out hg6 (.inl rfl)); have HB6 := Lib.hid (HBX.out w6 HG6.out); have c6 := block_cell hx6.h 1; have l6 := lt_of_block hx6.h; clear hp6 hx6 hg6))
    have HF := (HLN.out _ _ _ HR.out).2 rfl
    have hcs := chk_some (r.put l (.loop a))
    have hcv := fun d => chk_val (t := r.put l (.loop a)) (d := d)
    have HFH := Lib.hid HF
    have HCV := Lib.hid hcv
    have HCS := Lib.hid hcs
    clear HF hcs hcv
    generalize chkO (some (r.put l (.loop a))) = res at *
    generalize chkG false (r.put l (.loop a)) = gb at *
    go_region
    go_wp2
    go_ret2
    refine ⟨res, p6, !gb, HFH.out, HCS.out.symm, rfl, fun d hd => ?_, up_drew HB6.out⟩
    rw [← HCV.out d hd]
    exact HP6.out.up (up_drew (Below.refl _ _))

set_option maxHeartbeats 4000000 in
set_option maxRecDepth 100000 in
theorem DerivLoop_not (s : ByteArray) (w : World) (t : Ty) (hv : Calls Tryz.prog 37 #[.string s] w fun e w' => Below w.heap.size w w' ∧ ∃ g, e = .returned (.pointer (some ⟨g, 0, none⟩)) ∧ ∃ z, z ≠ (114 : Int) ∧ w'.cell? ⟨g, 0, none⟩ = some (.int .u8 z)) :
    Calls Tryz.prog 21 #[.string s] w fun e w' => e = .returned (.tuple #[.string (St []), .bool false]) ∧ Below w.heap.size w w' := by
  go_enter Tryz.func21, Tryz.ntmps21
  go_wp2_with (go_at_call 37; refine hv.mono ?_; rintro e w1 ⟨hb1, g, rfl, z, hz, hc⟩; have HB1 := Lib.hid hb1; have h0 : (z != 114) = true := bne_iff_ne.2 hz; clear hb1 hz)
  go_ret2
  exact ⟨rfl, HB1.out⟩
set_option maxHeartbeats 4000000 in
set_option maxRecDepth 100000 in
theorem DerivLoop_any (s : ByteArray) (B : Nat) (w : World) (hs : s.size ≤ 9223372036854775807) (htab : TabB B w) (hB : B ≤ w.heap.size) :
    Calls Tryz.prog 21 #[.string s] w fun e w' => e = .returned (.tuple #[.string (St ((derivLoopOf (rdTy s.data.toList)).getD [])), .bool (derivLoopOf (rdTy s.data.toList)).isSome]) ∧ Below w.heap.size w w' := by
  have hv := readType_rt s w hs
  have hn := fun v h => rdTy_some (l := s.data.toList) (n := v) h
  clear hs
  generalize rdTy s.data.toList = o at *
  cases o with
  | none =>
    clear hn htab hB
    show Calls _ _ _ _ (fun e w' => e = .returned (.tuple #[.string (St []), .bool false]) ∧ _)
    go_enter Tryz.func21, Tryz.ntmps21
    go_wp2_with (go_at_call 37; refine hv.mono ?_; rintro e w1 ⟨hb1, rfl⟩)
    go_ret2
    exact ⟨rfl, hb1⟩
  | some n =>
    obtain ⟨hok, hat⟩ := hn n rfl
    have hsc := db_scoped n []
    have hnm := fun s => db_ok n [] s (ok_ok3 hok)
    have hat2 : (n.db []).atoms ≤ 400 := by rw [NT.db_atoms]; exact hat
    have hv : Calls Tryz.prog 37 #[.string s] w fun e w' => Below w.heap.size w w' ∧ ∃ g, e = .returned (.pointer (some ⟨g, 0, none⟩)) ∧ TyAt w' (n.db []) (some ⟨g, 0, none⟩) := hv
    show Calls _ _ _ _ (fun e w' => e = .returned (.tuple #[.string (St ((n.db []).ld.getD [])), .bool (n.db []).ld.isSome]) ∧ _)
    clear hn hok hat
    generalize n.db [] = t at *
    have hno : ∀ (z : Int), z ≠ 114 → (∀ (w' : World) (g : Nat), TyAt w' t (some ⟨g, 0, none⟩) → w'.cell? ⟨g, 0, none⟩ = some (.int .u8 z)) → t.ld = none →
        Calls Tryz.prog 21 #[.string s] w fun e w' => e = .returned (.tuple #[.string (St (t.ld.getD [])), .bool t.ld.isSome]) ∧ Below w.heap.size w w' := fun z hz hc hu => by
      rw [hu]
      exact DerivLoop_not s w t (hv.mono fun e w' ⟨h1, g, h2, h3⟩ => ⟨h1, g, h2, z, hz, hc w' g h3⟩)
    cases t with
    | zero => exact hno 48 (by decide) (fun w' g h => by obtain ⟨g', he, hb⟩ := h; cases he; exact block_cell hb 0) rfl
    | one => exact hno 49 (by decide) (fun w' g h => by obtain ⟨g', he, hb⟩ := h; cases he; exact block_cell hb 0) rfl
    | name x => exact hno 110 (by decide) (fun w' g h => by obtain ⟨g', he, hb⟩ := h; cases he; exact block_cell hb 0) rfl
    | bound k => exact hno 98 (by decide) (fun w' g h => by obtain ⟨g', he, hb⟩ := h; cases he; exact block_cell hb 0) rfl
    | sum a b => exact hno 43 (by decide) (fun w' g h => by obtain ⟨pa, pb, ⟨g', he, hb⟩, _⟩ := h; cases he; exact block_cell hb 0) rfl
    | prod a b => exact hno 42 (by decide) (fun w' g h => by obtain ⟨pa, pb, ⟨g', he, hb⟩, _⟩ := h; cases he; exact block_cell hb 0) rfl
    | loop a =>
      have hsc : a.scoped 1 := hsc
      have hnm : ∀ s, a.has s → nmOk s := hnm
      simp only [Ty.atoms] at hat2
      have hfr : ∀ k, ¬ a.has (fnm k) := fun k h => fnm_no (hnm _ h)
      have HU : Hid (∀ (w1 : World) p, Below w.heap.size w w1 → TyAt w1 (.loop a) p → Calls Tryz.prog 48 #[.pointer p] w1 (DLd w1 a)) := fun w1 p hw hp => loopDerived_any a B w1 p hp (by omega) hfr (htab.below (hw.mono hB)) (by have := hw.size; omega)
      have HT : Hid (∀ d w1 p, LDer a (some d) → Below w.heap.size w w1 → TyAt w1 d p → Calls Tryz.prog 42 #[.pointer p] w1 fun e w' => e = .returned (.tuple #[.string (St (d.told.getD [])), .bool d.told.isSome]) ∧ Below w1.heap.size w1 w') := fun d w1 p hd hw hp =>
        told_two d B w1 p hp (by have := hd.atoms d rfl; omega) (hd.scoped hsc d rfl) (nmle_has d fun s hs => (hnm s (hd.names d s rfl hs)).2.2.2.2) (htab.below (hw.mono hB)) (by have := hw.size; omega)
      have HE : Hid (∀ r, LDer a r → (Ty.loop a).ld = r.bind Ty.told) := fun r hr => by
        show (ldO a).bind Ty.told = _
        rw [ldO_eq hr]
      clear hno htab hB hsc hnm hat2 hfr
      have HV : Hid (Calls Tryz.prog 37 #[.string s] w fun e w' => Below w.heap.size w w' ∧ ∃ g, e = .returned (.pointer (some ⟨g, 0, none⟩)) ∧ w'.cell? ⟨g, 0, none⟩ = some (.int .u8 114) ∧ TyAt w' (.loop a) (some ⟨g, 0, none⟩)) := hv.mono fun e w' ⟨h1, g, h2, h3⟩ => ⟨h1, g, h2, (by obtain ⟨pa, ⟨g', he, hb⟩, _⟩ := h3; cases he; exact block_cell hb 0), h3⟩
      generalize (Ty.loop a).ld = res at *
      clear hv
      go_enter Tryz.func21, Tryz.ntmps21
      go_upto_region 5 with (first
        | (go_at_call 37; (with_reducible refine HV.out.mono ?_); rintro e w1 ⟨hb1, g, rfl, hc, hp⟩; have HB1 := Lib.hid hb1; have HP := Lib.hid hp; clear hb1 hp)
        | (go_at_call 48; (with_reducible refine (HU.out _ _ HB1.out HP.out).mono ?_); rintro e w2 ⟨r, q, rb, hr, hrb, rfl, hq, hb2⟩; have HB2 := Lib.hid (up_trans HB1.out hb2); have HR := Lib.hid hr; have HQ := Lib.hid hq; have HRB := Lib.hid hrb; clear hb2 hr hq hrb))
      cases r with
      | none =>
        obtain rfl : rb = false := HRB.out
        obtain rfl : res = none := HE.out none HR.out
        go_wp2
        go_ret2
        exact ⟨rfl, HB2.out⟩
      | some d =>
        obtain rfl : rb = true := HRB.out
        obtain rfl : res = d.told := HE.out (some d) HR.out
        go_wp2_with (go_at_call 42; (with_reducible refine (HT.out d _ _ HR.out HB2.out (HQ.out d rfl)).mono ?_); rintro e w3 ⟨rfl, hb3⟩; have HB3 := Lib.hid (up_trans HB2.out hb3); clear hb3)
        go_ret2
        exact ⟨rfl, HB3.out⟩

end Go.Proofs.YtcfecmlfcjgdbaaGreatDoor
