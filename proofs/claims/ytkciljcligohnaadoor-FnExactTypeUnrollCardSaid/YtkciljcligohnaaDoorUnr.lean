/- TypeUnroll of both. -/
import Derived.Test.YtkciljcligohnaaDoorTPut
namespace Go.Proofs.YtkciljcligohnaaDoor
open Go.RowKit
set_option linter.unusedVariables false
set_option linter.unusedSimpArgs false

/-- What TypeUnroll gives. -/
def Ty.unrl : Ty → Option (List UInt8)
  | .loop a => (a.opened (.loop a) 0).told
  | _ => none
def unrollOf (o : Option NT) : Option (List UInt8) := o.bind fun n => (n.db []).unrl
theorem opened_atoms_le (u : Ty) : ∀ (t : Ty) (k : Nat), (t.opened u k).atoms ≤ t.atoms * u.atoms + t.atoms
  | .zero, _ => by simp [Ty.opened, Ty.atoms]
  | .one, _ => by simp [Ty.opened, Ty.atoms]
  | .name _, _ => by simp [Ty.opened, Ty.atoms]
  | .bound j, k => by
    simp only [Ty.opened]
    split
    · simp [Ty.atoms]
    · simp [Ty.atoms]
  | .sum a b, k => by
    have h1 := opened_atoms_le u a k
    have h2 := opened_atoms_le u b k
    simp only [Ty.opened, Ty.atoms, Nat.add_mul] at *
    omega
  | .prod a b, k => by
    have h1 := opened_atoms_le u a k
    have h2 := opened_atoms_le u b k
    simp only [Ty.opened, Ty.atoms, Nat.add_mul] at *
    omega
  | .loop a, k => by
    have h1 := opened_atoms_le u a (k + 1)
    simp only [Ty.opened, Ty.atoms, Nat.add_mul] at *
    omega
/-- What is in a named rec, with the rec put for its name, is the nameless one opened. -/
theorem unroll_db (s : List UInt8) (a : NT) (h : (NT.loop s a).ok) : (subN s (.loop s a) a).db [] = (a.db [s]).opened ((NT.loop s a).db []) 0 := by
  have h3 : a.ok3 := (ok_ok3 h).2
  rw [subN_db s (.loop s a) a h3, opened_db s (loop_noparam h.1) _ a []]
  rfl

set_option maxHeartbeats 4000000 in
set_option maxRecDepth 100000 in
theorem TypeUnroll_not (s : ByteArray) (w : World) (t : Ty) (hv : Calls Tryd.prog 46 #[.string s] w fun e w' => Below w.heap.size w w' ∧ ∃ g, e = .returned (.pointer (some ⟨g, 0, none⟩)) ∧ ∃ z, z ≠ (114 : Int) ∧ w'.cell? ⟨g, 0, none⟩ = some (.int .u8 z)) :
    Calls Tryd.prog 19 #[.string s] w fun e w' => e = .returned (.tuple #[.string (St []), .bool false]) ∧ Below w.heap.size w w' := by
  go_enter Tryd.func19, Tryd.ntmps19
  go_wp2_with (go_at_call 46; refine hv.mono ?_; rintro e w1 ⟨hb1, g, rfl, z, hz, hc⟩; have HB1 := Lib.hid hb1; have h0 : (z != 114) = true := bne_iff_ne.2 hz; clear hb1 hz)
  go_ret2
  exact ⟨rfl, HB1.out⟩
set_option maxHeartbeats 4000000 in
set_option maxRecDepth 100000 in
theorem TypeUnroll_any (s : ByteArray) (B : Nat) (w : World) (hs : s.size ≤ 9223372036854775807) (htab : TabB B w) (hB : B ≤ w.heap.size) :
    Calls Tryd.prog 19 #[.string s] w fun e w' => e = .returned (.tuple #[.string (St ((unrollOf (rdTy s.data.toList)).getD [])), .bool (unrollOf (rdTy s.data.toList)).isSome]) ∧ Below w.heap.size w w' := by
  have hv := readType_rt s w hs
  have hn := fun v h => rdTy_some (l := s.data.toList) (n := v) h
  clear hs
  generalize rdTy s.data.toList = o at *
  cases o with
  | none =>
    clear hn htab hB
    show Calls _ _ _ _ (fun e w' => e = .returned (.tuple #[.string (St []), .bool false]) ∧ _)
    go_enter Tryd.func19, Tryd.ntmps19
    go_wp2_with (go_at_call 46; refine hv.mono ?_; rintro e w1 ⟨hb1, rfl⟩)
    go_ret2
    exact ⟨rfl, hb1⟩
  | some n =>
    obtain ⟨hok, hat⟩ := hn n rfl
    have hsc := db_scoped n []
    have hnm := db_nmle n [] (ok_ok3 hok)
    have hat2 : (n.db []).atoms ≤ 400 := by rw [NT.db_atoms]; exact hat
    have hv : Calls Tryd.prog 46 #[.string s] w fun e w' => Below w.heap.size w w' ∧ ∃ g, e = .returned (.pointer (some ⟨g, 0, none⟩)) ∧ TyAt w' (n.db []) (some ⟨g, 0, none⟩) := hv
    show Calls _ _ _ _ (fun e w' => e = .returned (.tuple #[.string (St ((n.db []).unrl.getD [])), .bool (n.db []).unrl.isSome]) ∧ _)
    clear hn hok hat
    generalize n.db [] = t at *
    have hno : ∀ (z : Int), z ≠ 114 → (∀ (w' : World) (g : Nat), TyAt w' t (some ⟨g, 0, none⟩) → w'.cell? ⟨g, 0, none⟩ = some (.int .u8 z)) → t.unrl = none →
        Calls Tryd.prog 19 #[.string s] w fun e w' => e = .returned (.tuple #[.string (St (t.unrl.getD [])), .bool t.unrl.isSome]) ∧ Below w.heap.size w w' := fun z hz hc hu => by
      rw [hu]
      exact TypeUnroll_not s w t (hv.mono fun e w' ⟨h1, g, h2, h3⟩ => ⟨h1, g, h2, z, hz, hc w' g h3⟩)
    cases t with
    | zero => exact hno 48 (by decide) (fun w' g h => by obtain ⟨g', he, hb⟩ := h; cases he; exact block_cell hb 0) rfl
    | one => exact hno 49 (by decide) (fun w' g h => by obtain ⟨g', he, hb⟩ := h; cases he; exact block_cell hb 0) rfl
    | name x => exact hno 110 (by decide) (fun w' g h => by obtain ⟨g', he, hb⟩ := h; cases he; exact block_cell hb 0) rfl
    | bound k => exact hno 98 (by decide) (fun w' g h => by obtain ⟨g', he, hb⟩ := h; cases he; exact block_cell hb 0) rfl
    | sum a b => exact hno 43 (by decide) (fun w' g h => by obtain ⟨pa, pb, ⟨g', he, hb⟩, _⟩ := h; cases he; exact block_cell hb 0) rfl
    | prod a b => exact hno 42 (by decide) (fun w' g h => by obtain ⟨pa, pb, ⟨g', he, hb⟩, _⟩ := h; cases he; exact block_cell hb 0) rfl
    | loop a =>
      have hsc : a.scoped 1 := hsc
      have hnm : a.nmle := hnm
      simp only [Ty.atoms] at hat2
      have HU : Hid (∀ (w1 : World) p, TyAt w1 (.loop a) p → Calls Tryd.prog 57 #[.pointer p] w1 fun e w' => ∃ p', e = .returned (.pointer p') ∧ TyAt w' (a.opened (.loop a) 0) p' ∧ Below w1.heap.size w1 w') := fun w1 p hp => unrolled_any a w1 p hp (by omega)
      have HT : Hid (∀ w1 p, Below w.heap.size w w1 → TyAt w1 (a.opened (.loop a) 0) p → Calls Tryd.prog 47 #[.pointer p] w1 fun e w' => e = .returned (.tuple #[.string (St ((a.opened (.loop a) 0).told.getD [])), .bool (a.opened (.loop a) 0).told.isSome]) ∧ Below w1.heap.size w1 w') := fun w1 p hw hp => by
        have h1 := opened_atoms_le (.loop a) a 0
        have h2 : a.atoms * (Ty.loop a).atoms ≤ 400 * 402 := Nat.mul_le_mul (by omega) (by simp only [Ty.atoms]; omega)
        exact told_two _ B w1 p hp (by omega) (opened_scoped (.loop a) hsc a 0 hsc) (opened_nmle (.loop a) hnm a 0 hnm) (htab.below (hw.mono hB)) (by have := hw.size; omega)
      clear hno htab hB hsc hnm hat2
      have HV : Hid (Calls Tryd.prog 46 #[.string s] w fun e w' => Below w.heap.size w w' ∧ ∃ g, e = .returned (.pointer (some ⟨g, 0, none⟩)) ∧ w'.cell? ⟨g, 0, none⟩ = some (.int .u8 114) ∧ TyAt w' (.loop a) (some ⟨g, 0, none⟩)) := hv.mono fun e w' ⟨h1, g, h2, h3⟩ => ⟨h1, g, h2, (by obtain ⟨pa, ⟨g', he, hb⟩, _⟩ := h3; cases he; exact block_cell hb 0), h3⟩
      show Calls _ _ _ _ (fun e w' => e = .returned (.tuple #[.string (St ((a.opened (.loop a) 0).told.getD [])), .bool (a.opened (.loop a) 0).told.isSome]) ∧ _)
      generalize a.opened (.loop a) 0 = tt at *
      generalize tt.told.getD [] = tx at *
      generalize tt.told.isSome = b at *
      clear hv
      go_enter Tryd.func19, Tryd.ntmps19
      go_wp2_with (first
        | (go_at_call 46; (with_reducible refine HV.out.mono ?_); rintro e w1 ⟨hb1, g, rfl, hc, hp⟩; have HB1 := Lib.hid hb1; have HP := Lib.hid hp; clear hb1 hp)
        | (go_at_call 57; (with_reducible refine (HU.out _ _ HP.out).mono ?_); rintro e w2 ⟨p', rfl, hp2, hb2⟩; have HB2 := Lib.hid (up_trans HB1.out hb2); have HP2 := Lib.hid hp2; clear hb2 hp2)
        | (go_at_call 47; (with_reducible refine (HT.out _ _ HB2.out HP2.out).mono ?_); rintro e w3 ⟨rfl, hb3⟩; have HB3 := Lib.hid (up_trans HB2.out hb3); clear hb3))
      go_ret2
      exact ⟨rfl, HB3.out⟩

theorem un_drew {w w1 : World} (h : Below w.drew.heap.size w.drew w1) : Below w.heap.size w w1 := ⟨h.os, h.tape, h.output, h.size, h.block⟩
/-- The three parts of a rec, in whatever world follows. -/
theorem rec_cells {w : World} {s : List UInt8} {a : NT} {v : Value} (hp : TAt w (fun _ => True) (NT.loop s a).toTr v) :
    ∃ bl o c, v = .agg #[.string (St []), .slice (some ⟨bl, o, none⟩) 3 c] ∧ bl < w.heap.size ∧ ∃ xa A4 n4 c4, Hid (∀ w1, Below w.heap.size w w1 → (w1.cell? ⟨bl, o + 2, none⟩ = some (.string (St s)) ∧ w1.cell? ⟨bl, o + 4, none⟩ = some (.string (St xa)) ∧ w1.cell? ⟨bl, o + 5, none⟩ = some (.slice A4 n4 c4)) ∧
      TAt w1 (fun k => k < w.heap.size) a.toTr (.agg #[.string (St xa), .slice A4 n4 c4]) ∧ TAt w1 (fun k => k < w.heap.size) (NT.loop s a).toTr v) := by
  have hp' : TAt w (fun k => k < w.heap.size) (NT.loop s a).toTr v := hp.move fun k hk _ => ⟨hk, rfl⟩
  have hp0 := hp'
  obtain ⟨A, c, rfl, hr⟩ := hp'.parts
  obtain ⟨bl, o, A', c', rfl, d0, _, _, _, hr⟩ := hr.uncons
  obtain ⟨A2, n2, c2, d2, d3, ha, hr⟩ := hr.at3
  obtain ⟨A4, n4, c4, d4, d5, hb, _⟩ := hr.at3
  refine ⟨bl, o, c, rfl, World.block_lt_of_cell? w _ d0, a.toTr.atom, A4, n4, c4, fun w1 hb' => ⟨⟨cell_up hb' d2, cell_up hb' d4, cell_up hb' d5⟩, hb.move fun k hk h => ⟨h, hb'.block k hk⟩, hp0.move fun k hk h => ⟨h, hb'.block k hk⟩⟩⟩

set_option maxHeartbeats 8000000 in
set_option maxRecDepth 100000 in
theorem l1Unroll_no (s : List UInt8) (a : NT) (hok : (NT.loop s a).ok) (hat : (NT.loop s a).atoms ≤ 400) (hf : fitsN s (.loop s a) a = false) (v : Value) (w : World) (hp : TAt w (fun _ => True) (NT.loop s a).toTr v) :
    Calls Tryd.prog 56 #[v] w fun e w' => Below w.heap.size w w' ∧ ∃ x A m c, e = .returned (.tuple #[.agg #[.string x, .slice A m c], .bool false]) := by
  obtain ⟨bl, o, c, rfl, HBL, xa, A4, n4, c4, HC⟩ := rec_cells hp
  have hn3 : a.ok3 := (ok_ok3 hok).2
  have hu3 : (NT.loop s a).ok3 := ok_ok3 hok
  have hsl : paramB s = true ∨ loopB s = true := .inr hok.1
  simp only [NT.atoms] at hat
  have HF : Hid (∀ w1, Below w.heap.size w w1 → Calls Tryd.prog 50 #[(.agg #[.string (St xa), .slice A4 n4 c4]), .string (St s), (.agg #[.string (St []), .slice (some ⟨bl, o, none⟩) 3 c])] w1 fun e w' => e = .returned (.bool false) ∧ Below w1.heap.size w1 w') := fun w1 hb => by
    have h := HC.out w1 hb
    have := l1Fits_any s (name_ne hsl) (.loop s a) a hn3 (by omega) hu3 (by simp only [NT.atoms]; omega) (.agg #[.string (St xa), .slice A4 n4 c4]) (.agg #[.string (St []), .slice (some ⟨bl, o, none⟩) 3 c]) w1 (h.2.1.weak fun _ _ => trivial) (h.2.2.weak fun _ _ => trivial)
    rw [hf] at this
    exact this
  clear hp hok hat hf hn3 hu3 hsl
  have X2 : Hid (((w.alloc (.cells #[.string (St []), .slice (some ⟨bl, o, none⟩) 3 c] 43)).alloc (.cells #[.string (St []), .slice none 0 0] 43)).heap[w.heap.size]? = some (.cells #[.string (St []), .slice (some ⟨bl, o, none⟩) 3 c] 43 (0, 0))) := old2 w _ _
  have R2 : Hid (((w.alloc (.cells #[.string (St []), .slice (some ⟨bl, o, none⟩) 3 c] 43)).alloc (.cells #[.string (St []), .slice none 0 0] 43)).heap[w.heap.size + 1]? = some (.cells #[.string (St []), .slice none 0 0] 43 (0, 0))) := new2 w _ _
  have HB2 : Hid (Below w.heap.size w ((w.alloc (.cells #[.string (St []), .slice (some ⟨bl, o, none⟩) 3 c] 43)).alloc (.cells #[.string (St []), .slice none 0 0] 43))) := up_alloc (up1 w _) _
  have s2 : ((w.alloc (.cells #[.string (St []), .slice (some ⟨bl, o, none⟩) 3 c] 43)).alloc (.cells #[.string (St []), .slice none 0 0] 43)).cell? ⟨w.heap.size, 0, none⟩ = some (.string (St [])) ∧ ((w.alloc (.cells #[.string (St []), .slice (some ⟨bl, o, none⟩) 3 c] 43)).alloc (.cells #[.string (St []), .slice none 0 0] 43)).cell? ⟨w.heap.size, 1, none⟩ = some (.slice (some ⟨bl, o, none⟩) 3 c) ∧ ((w.alloc (.cells #[.string (St []), .slice (some ⟨bl, o, none⟩) 3 c] 43)).alloc (.cells #[.string (St []), .slice none 0 0] 43)).cell? ⟨bl, o + 2, none⟩ = some (.string (St s)) ∧ ((w.alloc (.cells #[.string (St []), .slice (some ⟨bl, o, none⟩) 3 c] 43)).alloc (.cells #[.string (St []), .slice none 0 0] 43)).cell? ⟨bl, o + 4, none⟩ = some (.string (St xa)) ∧ ((w.alloc (.cells #[.string (St []), .slice (some ⟨bl, o, none⟩) 3 c] 43)).alloc (.cells #[.string (St []), .slice none 0 0] 43)).cell? ⟨bl, o + 5, none⟩ = some (.slice A4 n4 c4) := ⟨block_cell X2.out 0, block_cell X2.out 1, (HC.out _ HB2.out).1⟩
  go_enter Tryd.func56, Tryd.ntmps56
  go_wp2
  go_region_held3 (fun w' => w'.cell? ⟨w.heap.size, 0, none⟩ = some (.string (St [])) ∧ w'.cell? ⟨w.heap.size, 1, none⟩ = some (.slice (some ⟨bl, o, none⟩) 3 c) ∧ w'.cell? ⟨bl, o + 2, none⟩ = some (.string (St s)) ∧ w'.cell? ⟨bl, o + 4, none⟩ = some (.string (St xa)) ∧ w'.cell? ⟨bl, o + 5, none⟩ = some (.slice A4 n4 c4))
    (first | exact s5 | exact s2 | go_keep)
    ((go_at_call 50; (refine (HF.out _ (by repeat (first | exact Below.refl _ _ | refine up_drew ?_ | refine up_alloc ?_ _))).mono ?_); rintro e w5 ⟨rfl, hb5⟩; have HB5 : Hid (Below w.heap.size w w5) := up_trans (by repeat (first | exact Below.refl _ _ | refine up_drew ?_ | refine up_alloc ?_ _)) hb5; have X5 : Hid (w5.heap[w.heap.size]? = some (.cells #[.string (St []), .slice (some ⟨bl, o, none⟩) 3 c] 43 (0, 0))) := block_up hb5 X2.out; have R5 : Hid (w5.heap[w.heap.size + 1]? = some (.cells #[.string (St []), .slice none 0 0] 43 (0, 0))) := block_up hb5 R2.out; have s5 : w5.cell? ⟨w.heap.size, 0, none⟩ = some (.string (St [])) ∧ w5.cell? ⟨w.heap.size, 1, none⟩ = some (.slice (some ⟨bl, o, none⟩) 3 c) ∧ w5.cell? ⟨bl, o + 2, none⟩ = some (.string (St s)) ∧ w5.cell? ⟨bl, o + 4, none⟩ = some (.string (St xa)) ∧ w5.cell? ⟨bl, o + 5, none⟩ = some (.slice A4 n4 c4) := ⟨block_cell X5.out 0, block_cell X5.out 1, (HC.out _ HB5.out).1⟩; clear hb5))
  have rc0 : w5.cell? ⟨w.heap.size + 1, 0, none⟩ = some (.string (St [])) := block_cell R5.out 0
  have rc1 : w5.cell? ⟨w.heap.size + 1, 1, none⟩ = some (.slice none 0 0) := block_cell R5.out 1
  have fr0 := block_free R5.out 0
  have fr1 := block_free R5.out 1
  have lr5 := lt_of_block R5.out
  obtain ⟨z0, z1, _⟩ := s5
  go_wp2
  refine bodyPost_ret (v := .tuple #[.agg #[.string (St []), .slice (some ⟨bl, o, none⟩) 3 c], .bool false]) (by simp [results, Tryd.results56, go_sem, rc0, rc1, lr5]) rfl ?_
  exact ⟨set0 (set0 HB5.out (by omega)) (by omega), _, _, _, _, rfl⟩

set_option maxHeartbeats 8000000 in
set_option maxRecDepth 100000 in
theorem l1Unroll_yes (s : List UInt8) (a : NT) (hok : (NT.loop s a).ok) (hat : (NT.loop s a).atoms ≤ 400) (hf : fitsN s (.loop s a) a = true) (v : Value) (w : World) (hp : TAt w (fun _ => True) (NT.loop s a).toTr v) :
    Calls Tryd.prog 56 #[v] w fun e w' => Below w.heap.size w w' ∧ ∃ x A m c, e = .returned (.tuple #[.agg #[.string x, .slice A m c], .bool true]) ∧ TAt w' (fun _ => True) (subN s (.loop s a) a).toTr (.agg #[.string x, .slice A m c]) := by
  obtain ⟨bl, o, c, rfl, HBL, xa, A4, n4, c4, HC⟩ := rec_cells hp
  have hn3 : a.ok3 := (ok_ok3 hok).2
  have hu3 : (NT.loop s a).ok3 := ok_ok3 hok
  have hsl : paramB s = true ∨ loopB s = true := .inr hok.1
  simp only [NT.atoms] at hat
  have HF : Hid (∀ w1, Below w.heap.size w w1 → Calls Tryd.prog 50 #[(.agg #[.string (St xa), .slice A4 n4 c4]), .string (St s), (.agg #[.string (St []), .slice (some ⟨bl, o, none⟩) 3 c])] w1 fun e w' => e = .returned (.bool true) ∧ Below w1.heap.size w1 w') := fun w1 hb => by
    have h := HC.out w1 hb
    have := l1Fits_any s (name_ne hsl) (.loop s a) a hn3 (by omega) hu3 (by simp only [NT.atoms]; omega) (.agg #[.string (St xa), .slice A4 n4 c4]) (.agg #[.string (St []), .slice (some ⟨bl, o, none⟩) 3 c]) w1 (h.2.1.weak fun _ _ => trivial) (h.2.2.weak fun _ _ => trivial)
    rw [hf] at this
    exact this
  have HS : Hid (∀ w1, Below w.heap.size w w1 → Calls Tryd.prog 51 #[(.agg #[.string (St xa), .slice A4 n4 c4]), .string (St s), (.agg #[.string (St []), .slice (some ⟨bl, o, none⟩) 3 c])] w1 fun e w' => (∃ x A m c, e = .returned (.agg #[.string x, .slice A m c]) ∧ TAt w' (fun k => k < w.heap.size ∨ w1.heap.size ≤ k) (subN s (.loop s a) a).toTr (.agg #[.string x, .slice A m c])) ∧ Below w1.heap.size w1 w') := fun w1 hb => by
    have h := HC.out w1 hb
    exact l1Sub_any s hsl (.loop s a) a hn3 (by omega) hu3 (by simp only [NT.atoms]; omega) (.agg #[.string (St xa), .slice A4 n4 c4]) (.agg #[.string (St []), .slice (some ⟨bl, o, none⟩) 3 c]) w1 (fun k => k < w.heap.size) (fun k => k < w.heap.size) (fun k hk => by have := hb.size; omega) h.2.1 h.2.2
  generalize (subN s (.loop s a) a).toTr = tr at *
  clear hp hok hat hf hn3 hu3 hsl
  have X2 : Hid (((w.alloc (.cells #[.string (St []), .slice (some ⟨bl, o, none⟩) 3 c] 43)).alloc (.cells #[.string (St []), .slice none 0 0] 43)).heap[w.heap.size]? = some (.cells #[.string (St []), .slice (some ⟨bl, o, none⟩) 3 c] 43 (0, 0))) := old2 w _ _
  have R2 : Hid (((w.alloc (.cells #[.string (St []), .slice (some ⟨bl, o, none⟩) 3 c] 43)).alloc (.cells #[.string (St []), .slice none 0 0] 43)).heap[w.heap.size + 1]? = some (.cells #[.string (St []), .slice none 0 0] 43 (0, 0))) := new2 w _ _
  have HB2 : Hid (Below w.heap.size w ((w.alloc (.cells #[.string (St []), .slice (some ⟨bl, o, none⟩) 3 c] 43)).alloc (.cells #[.string (St []), .slice none 0 0] 43))) := up_alloc (up1 w _) _
  have s2 : ((w.alloc (.cells #[.string (St []), .slice (some ⟨bl, o, none⟩) 3 c] 43)).alloc (.cells #[.string (St []), .slice none 0 0] 43)).cell? ⟨w.heap.size, 0, none⟩ = some (.string (St [])) ∧ ((w.alloc (.cells #[.string (St []), .slice (some ⟨bl, o, none⟩) 3 c] 43)).alloc (.cells #[.string (St []), .slice none 0 0] 43)).cell? ⟨w.heap.size, 1, none⟩ = some (.slice (some ⟨bl, o, none⟩) 3 c) ∧ ((w.alloc (.cells #[.string (St []), .slice (some ⟨bl, o, none⟩) 3 c] 43)).alloc (.cells #[.string (St []), .slice none 0 0] 43)).cell? ⟨bl, o + 2, none⟩ = some (.string (St s)) ∧ ((w.alloc (.cells #[.string (St []), .slice (some ⟨bl, o, none⟩) 3 c] 43)).alloc (.cells #[.string (St []), .slice none 0 0] 43)).cell? ⟨bl, o + 4, none⟩ = some (.string (St xa)) ∧ ((w.alloc (.cells #[.string (St []), .slice (some ⟨bl, o, none⟩) 3 c] 43)).alloc (.cells #[.string (St []), .slice none 0 0] 43)).cell? ⟨bl, o + 5, none⟩ = some (.slice A4 n4 c4) := ⟨block_cell X2.out 0, block_cell X2.out 1, (HC.out _ HB2.out).1⟩
  go_enter Tryd.func56, Tryd.ntmps56
  go_wp2
  go_region_held3 (fun w' => w'.cell? ⟨w.heap.size, 0, none⟩ = some (.string (St [])) ∧ w'.cell? ⟨w.heap.size, 1, none⟩ = some (.slice (some ⟨bl, o, none⟩) 3 c) ∧ w'.cell? ⟨bl, o + 2, none⟩ = some (.string (St s)) ∧ w'.cell? ⟨bl, o + 4, none⟩ = some (.string (St xa)) ∧ w'.cell? ⟨bl, o + 5, none⟩ = some (.slice A4 n4 c4))
    (first | exact s5 | exact s2 | go_keep)
    ((go_at_call 50; (refine (HF.out _ (by repeat (first | exact Below.refl _ _ | refine up_drew ?_ | refine up_alloc ?_ _))).mono ?_); rintro e w5 ⟨rfl, hb5⟩; have HB5 : Hid (Below w.heap.size w w5) := up_trans (by repeat (first | exact Below.refl _ _ | refine up_drew ?_ | refine up_alloc ?_ _)) hb5; have X5 : Hid (w5.heap[w.heap.size]? = some (.cells #[.string (St []), .slice (some ⟨bl, o, none⟩) 3 c] 43 (0, 0))) := block_up hb5 X2.out; have R5 : Hid (w5.heap[w.heap.size + 1]? = some (.cells #[.string (St []), .slice none 0 0] 43 (0, 0))) := block_up hb5 R2.out; have s5 : w5.cell? ⟨w.heap.size, 0, none⟩ = some (.string (St [])) ∧ w5.cell? ⟨w.heap.size, 1, none⟩ = some (.slice (some ⟨bl, o, none⟩) 3 c) ∧ w5.cell? ⟨bl, o + 2, none⟩ = some (.string (St s)) ∧ w5.cell? ⟨bl, o + 4, none⟩ = some (.string (St xa)) ∧ w5.cell? ⟨bl, o + 5, none⟩ = some (.slice A4 n4 c4) := ⟨block_cell X5.out 0, block_cell X5.out 1, (HC.out _ HB5.out).1⟩; clear hb5))
  go_wp2
  go_region_held3 (fun w' => w'.cell? ⟨w.heap.size, 0, none⟩ = some (.string (St [])) ∧ w'.cell? ⟨w.heap.size, 1, none⟩ = some (.slice (some ⟨bl, o, none⟩) 3 c) ∧ w'.cell? ⟨bl, o + 2, none⟩ = some (.string (St s)) ∧ w'.cell? ⟨bl, o + 4, none⟩ = some (.string (St xa)) ∧ w'.cell? ⟨bl, o + 5, none⟩ = some (.slice A4 n4 c4))
    (first | exact s7 | exact s6 | exact s5 | go_keep)
    ((go_at_call 51; (refine (HS.out _ (by first | exact HB5.out | exact up_drew HB5.out)).mono ?_); rintro e w6 ⟨⟨x6, B6, m6, q6, rfl, ht6⟩, hb6⟩; have hb6' : Below w5.heap.size w5 w6 := (by first | exact hb6 | exact un_drew hb6); have HB6 : Hid (Below w.heap.size w w6) := up_trans HB5.out hb6'; have X6 := Lib.hid (block_up hb6' X5.out); have R6 := Lib.hid (block_up hb6' R5.out); have s6 : w6.cell? ⟨w.heap.size, 0, none⟩ = some (.string (St [])) ∧ w6.cell? ⟨w.heap.size, 1, none⟩ = some (.slice (some ⟨bl, o, none⟩) 3 c) ∧ w6.cell? ⟨bl, o + 2, none⟩ = some (.string (St s)) ∧ w6.cell? ⟨bl, o + 4, none⟩ = some (.string (St xa)) ∧ w6.cell? ⟨bl, o + 5, none⟩ = some (.slice A4 n4 c4) := ⟨block_cell X6.out 0, block_cell X6.out 1, (HC.out _ HB6.out).1⟩; have rc0 : w6.cell? ⟨w.heap.size + 1, 0, none⟩ = some (.string (St [])) := block_cell R6.out 0; have rc1 : w6.cell? ⟨w.heap.size + 1, 1, none⟩ = some (.slice none 0 0) := block_cell R6.out 1; have fr0 := block_free R6.out 0; have fr1 := block_free R6.out 1; have lr6 := lt_of_block R6.out; have l5 := lt_of_block R5.out; have HB7 : Hid (Below w.heap.size w ((w6.setCell ⟨w.heap.size + 1, 0, none⟩ (.string x6)).setCell ⟨w.heap.size + 1, 1, none⟩ (.slice B6 m6 q6))) := set0 (set0 HB6.out (by omega)) (by omega); have X7 : Hid (((w6.setCell ⟨w.heap.size + 1, 0, none⟩ (.string x6)).setCell ⟨w.heap.size + 1, 1, none⟩ (.slice B6 m6 q6)).heap[w.heap.size]? = some (.cells #[.string (St []), .slice (some ⟨bl, o, none⟩) 3 c] 43 (0, 0))) := (set2_block w6 _ _ (by omega)).trans X6.out; have s7 : ((w6.setCell ⟨w.heap.size + 1, 0, none⟩ (.string x6)).setCell ⟨w.heap.size + 1, 1, none⟩ (.slice B6 m6 q6)).cell? ⟨w.heap.size, 0, none⟩ = some (.string (St [])) ∧ ((w6.setCell ⟨w.heap.size + 1, 0, none⟩ (.string x6)).setCell ⟨w.heap.size + 1, 1, none⟩ (.slice B6 m6 q6)).cell? ⟨w.heap.size, 1, none⟩ = some (.slice (some ⟨bl, o, none⟩) 3 c) ∧ ((w6.setCell ⟨w.heap.size + 1, 0, none⟩ (.string x6)).setCell ⟨w.heap.size + 1, 1, none⟩ (.slice B6 m6 q6)).cell? ⟨bl, o + 2, none⟩ = some (.string (St s)) ∧ ((w6.setCell ⟨w.heap.size + 1, 0, none⟩ (.string x6)).setCell ⟨w.heap.size + 1, 1, none⟩ (.slice B6 m6 q6)).cell? ⟨bl, o + 4, none⟩ = some (.string (St xa)) ∧ ((w6.setCell ⟨w.heap.size + 1, 0, none⟩ (.string x6)).setCell ⟨w.heap.size + 1, 1, none⟩ (.slice B6 m6 q6)).cell? ⟨bl, o + 5, none⟩ = some (.slice A4 n4 c4) := ⟨block_cell X7.out 0, block_cell X7.out 1, (HC.out _ HB7.out).1⟩; have HT7 : Hid (TAt ((w6.setCell ⟨w.heap.size + 1, 0, none⟩ (.string x6)).setCell ⟨w.heap.size + 1, 1, none⟩ (.slice B6 m6 q6)) (fun _ => True) tr (.agg #[.string x6, .slice B6 m6 q6])) := ht6.move (fun k hk ho => ⟨trivial, set2_block w6 _ _ (by have ho : k < w.heap.size ∨ w5.heap.size ≤ k := ho; omega)⟩); clear ht6 hb6 hb6'))
  all_goals go_wp2
  all_goals refine bodyPost_ret (v := .tuple #[.agg #[.string x6, .slice B6 m6 q6], .bool true]) (by simp [results, Tryd.results56, go_sem, rc0, rc1, lr6]) rfl ?_
  all_goals exact ⟨HB7.out, _, _, _, _, rfl, HT7.out⟩

theorem headOf_loop (s : List UInt8) (a : NT) : headOf (NT.loop s a).toTr = [114, 101, 99] := rfl
set_option maxHeartbeats 4000000 in
set_option maxRecDepth 100000 in
theorem specTypeUnroll_any (s : ByteArray) (w : World) (hs : s.size ≤ 9223372036854775807) :
    Calls Tryd.prog 18 #[.string s] w fun e w' => e = .returned (.tuple #[.string (St ((unrollOf (rdTy s.data.toList)).getD [])), .bool (unrollOf (rdTy s.data.toList)).isSome]) ∧ Below w.heap.size w w' := by
  have hv := fun w => l1Type_any s w hs
  have hn := fun v h => rdTy_some (l := s.data.toList) (n := v) h
  clear hs
  generalize rdTy s.data.toList = o at *
  have HV := Lib.hid hv
  clear hv
  cases o with
  | none =>
    clear hn
    show Calls _ _ _ _ (fun e w' => e = .returned (.tuple #[.string (St []), .bool false]) ∧ _)
    go_enter Tryd.func18, Tryd.ntmps18
    go_wp2_with (go_at_call 44; refine (HV.out _).mono ?_; rintro e w1 ⟨hb1, x, A, n, c, rfl⟩; have HB1 := Lib.hid hb1; clear hb1)
    go_ret2
    exact ⟨rfl, up_alloc HB1.out _⟩
  | some n =>
    obtain ⟨hok, hat⟩ := hn n rfl
    clear hn
    replace HV : Hid (∀ w, Calls Tryd.prog 44 #[.string s] w fun e w' => Below w.heap.size w w' ∧ ∃ x A n' c, e = .returned (.tuple #[.agg #[.string x, .slice A n' c], .bool true]) ∧ TAt w' (fun k => w.heap.size ≤ k) n.toTr (.agg #[.string x, .slice A n' c])) := HV
    show Calls _ _ _ _ (fun e w' => e = .returned (.tuple #[.string (St ((n.db []).unrl.getD [])), .bool (n.db []).unrl.isSome]) ∧ _)
    have hno : ∀ (h : List UInt8), headOf n.toTr = h → h ≠ [114, 101, 99] → (n.db []).unrl = none → Calls Tryd.prog 18 #[.string s] w fun e w' => e = .returned (.tuple #[.string (St ((n.db []).unrl.getD [])), .bool (n.db []).unrl.isSome]) ∧ Below w.heap.size w w' := fun h hh hne hu => by
      rw [hu]
      have HH : Hid (∀ w1 v, TAt w1 (fun _ => True) n.toTr v → Calls Tryd.prog 55 #[v] w1 fun e w' => e = .returned (.string (St h)) ∧ Below w1.heap.size w1 w') := fun w1 v hp => by
        have := l1Head_any n.toTr v w1 hp
        rw [hh] at this
        exact this
      have q : (h != [114, 101, 99]) = true := bne_iff_ne.2 hne
      have q2 : (h == [114, 101, 99]) = false := St_ne hne
      clear hh hne hu hok hat
      show Calls _ _ _ _ (fun e w' => e = .returned (.tuple #[.string (St []), .bool false]) ∧ _)
      go_enter Tryd.func18, Tryd.ntmps18
      go_wp2_with (first
        | (go_at_call 44; refine (HV.out _).mono ?_; rintro e w1 ⟨hb1, x, A, n', c, rfl, hp⟩; have HB1 := Lib.hid hb1; have HP := Lib.hid (TAt.weak (fun _ _ => trivial) hp); clear hb1 hp)
        | (go_at_call 55; refine (HH.out _ _ (TAt.up (up1 _ _) HP.out)).mono ?_; rintro e w2 ⟨rfl, hb2⟩; have HB2 := Lib.hid (up_trans (up_alloc HB1.out _) hb2); clear hb2))
      go_ret2
      exact ⟨rfl, HB2.out⟩
    cases n with
    | zero => exact hno [] rfl (by decide) rfl
    | one => exact hno [] rfl (by decide) rfl
    | name x =>
      refine hno [] ?_ (by decide) ?_
      · simp only [NT.toTr, headOf]
        split <;> rfl
      · simp only [NT.db]
        split
        · rfl
        · rfl
    | sum a b => exact hno [43] rfl (by decide) rfl
    | prod a b => exact hno [42] rfl (by decide) rfl
    | loop x a =>
      clear hno
      have hun : ((NT.loop x a).db []).unrl = ((subN x (.loop x a) a).db []).told := by
        rw [unroll_db x a hok]
        rfl
      have HH : Hid (∀ w1 v, TAt w1 (fun _ => True) (NT.loop x a).toTr v → Calls Tryd.prog 55 #[v] w1 fun e w' => e = .returned (.string (St [114, 101, 99])) ∧ Below w1.heap.size w1 w') := fun w1 v hp => l1Head_any (NT.loop x a).toTr v w1 hp
      have hat1 : a.atoms ≤ 400 := by simp only [NT.atoms] at hat; omega
      cases hf : fitsN x (.loop x a) a with
      | false =>
        have HU : Hid (∀ w1 v, TAt w1 (fun _ => True) (NT.loop x a).toTr v → Calls Tryd.prog 56 #[v] w1 fun e w' => Below w1.heap.size w1 w' ∧ ∃ x A m c, e = .returned (.tuple #[.agg #[.string x, .slice A m c], .bool false])) := fun w1 v hp => l1Unroll_no x a hok hat hf v w1 hp
        have hbig : ((subN x (.loop x a) a).db []).told = none := by
          rw [subN_db x _ a (ok_ok3 hok).2]
          exact told_big (by rw [fits_put x _ a (ok_ok3 hok).2] at hf; simpa using hf)
        rw [hun, hbig]
        clear hun hbig hf hok hat hat1
        show Calls _ _ _ _ (fun e w' => e = .returned (.tuple #[.string (St []), .bool false]) ∧ _)
        go_enter Tryd.func18, Tryd.ntmps18
        go_wp2_with (first
          | (go_at_call 44; refine (HV.out _).mono ?_; rintro e w1 ⟨hb1, x1, A, n', c, rfl, hp⟩; have HB1 := Lib.hid hb1; have HP := Lib.hid (TAt.weak (fun _ _ => trivial) hp); have X1 := Lib.hid (block_new w1 (.cells #[.string x1, .slice A n' c] 43)); clear hb1 hp)
          | (go_at_call 55; refine (HH.out _ _ (TAt.up (up1 _ _) HP.out)).mono ?_; rintro e w2 ⟨rfl, hb2⟩; have HB2 := Lib.hid (up_trans (up_alloc HB1.out _) hb2); have HP2 := Lib.hid (TAt.up hb2 (TAt.up (up1 _ _) HP.out)); have e0 := block_cell (block_up hb2 X1.out) 0; have e1 := block_cell (block_up hb2 X1.out) 1; clear hb2)
          | (go_at_call 56; refine (HU.out _ _ HP2.out).mono ?_; rintro e w3 ⟨hb3, x3, A3, n3, c3, rfl⟩; have HB3 := Lib.hid (up_trans HB2.out hb3); clear hb3))
        go_ret2
        exact ⟨rfl, up_alloc HB3.out _⟩
      | true =>
        have HU : Hid (∀ w1 v, TAt w1 (fun _ => True) (NT.loop x a).toTr v → Calls Tryd.prog 56 #[v] w1 fun e w' => Below w1.heap.size w1 w' ∧ ∃ x1 A m c, e = .returned (.tuple #[.agg #[.string x1, .slice A m c], .bool true]) ∧ TAt w' (fun _ => True) (subN x (.loop x a) a).toTr (.agg #[.string x1, .slice A m c])) := fun w1 v hp => l1Unroll_yes x a hok hat hf v w1 hp
        have HC : Hid (∀ (w : World) (v : Value), TAt w (fun _ => True) (subN x (.loop x a) a).toTr v → Calls Tryd.prog 45 #[v] w fun e w' => e = .returned (.tuple #[.string (St (((subN x (.loop x a) a).db []).told.getD [])), .bool ((subN x (.loop x a) a).db []).told.isSome]) ∧ Below w.heap.size w w') := fun w v h => by
          have := subN_canon x (.inr hok.1) (.loop x a) a (ok_ok3 hok).2 hat1 (ok_ok3 hok) hat hf v w h
          rw [← subN_db x _ a (ok_ok3 hok).2] at this
          exact this
        rw [hun]
        generalize ((subN x (.loop x a) a).db []).told.getD [] = tx at *
        generalize ((subN x (.loop x a) a).db []).told.isSome = b at *
        clear hun hf hok hat hat1
        generalize (subN x (.loop x a) a).toTr = tr at *
        go_enter Tryd.func18, Tryd.ntmps18
        go_wp2_with (first
          | (go_at_call 44; refine (HV.out _).mono ?_; rintro e w1 ⟨hb1, x1, A, n', c, rfl, hp⟩; have HB1 := Lib.hid hb1; have HP := Lib.hid (TAt.weak (fun _ _ => trivial) hp); have X1 := Lib.hid (block_new w1 (.cells #[.string x1, .slice A n' c] 43)); clear hb1 hp)
          | (go_at_call 55; refine (HH.out _ _ (TAt.up (up1 _ _) HP.out)).mono ?_; rintro e w2 ⟨rfl, hb2⟩; have HB2 := Lib.hid (up_trans (up_alloc HB1.out _) hb2); have HP2 := Lib.hid (TAt.up hb2 (TAt.up (up1 _ _) HP.out)); have e0 := block_cell (block_up hb2 X1.out) 0; have e1 := block_cell (block_up hb2 X1.out) 1; clear hb2)
          | (go_at_call 56; refine (HU.out _ _ HP2.out).mono ?_; rintro e w3 ⟨hb3, x3, A3, n3, c3, rfl, ht⟩; have HB3 := Lib.hid (up_trans HB2.out hb3); have HT := Lib.hid ht; clear hb3 ht)
          | (go_at_call 45; refine (HC.out _ _ (TAt.up (up1 _ _) HT.out)).mono ?_; rintro e w4 ⟨rfl, hb4⟩; have HB4 := Lib.hid (up_trans (up_alloc HB3.out _) hb4); clear hb4))
        go_ret2
        exact ⟨rfl, HB4.out⟩

end Go.Proofs.YtkciljcligohnaaDoor
