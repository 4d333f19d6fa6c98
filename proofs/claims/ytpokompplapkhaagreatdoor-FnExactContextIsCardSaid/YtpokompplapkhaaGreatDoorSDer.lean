/- The reference's l3Put and l3Deriv. -/
import Derived.Test.YtpokompplapkhaaGreatDoorDerS
import Derived.Test.YtpokompplapkhaaGreatDoorMH
namespace Go.Proofs.YtpokompplapkhaaGreatDoor
open Go.RowKit
set_option linter.unusedVariables false
set_option linter.unusedSimpArgs false

set_option maxHeartbeats 4000000 in
set_option maxRecDepth 100000 in
theorem l3Put_yes (nm : List UInt8) (hnm : nmOk nm) (u n : NT) (hn : n.ok3) (hna : n.atoms ≤ 400) (hu3 : u.ok3) (hua : u.atoms ≤ 400) (hf : fitsN nm u n = true) (v vu : Value) (w : World) (P : Nat → Prop) (hP : ∀ k, w.heap.size ≤ k → P k) (hp : TAt w P n.toTr v) (hu : TAt w P u.toTr vu) :
    Calls Tryz.prog 167 #[v, .string (St nm), vu] w fun e w' => (∃ x A m c, e = .returned (.tuple #[.agg #[.string x, .slice A m c], .bool true]) ∧ TAt w' P (subN nm u n).toTr (.agg #[.string x, .slice A m c])) ∧ Below w.heap.size w w' := by
  obtain ⟨x, A, n0, c, rfl⟩ := hp.form
  obtain ⟨y, By, ny, cy, rfl⟩ := hu.form
  have HF : Hid (∀ w1, Below w.heap.size w w1 → Calls Tryz.prog 207 #[.agg #[.string x, .slice A n0 c], .string (St nm), .agg #[.string y, .slice By ny cy]] w1 fun e w' => e = .returned (.bool true) ∧ Below w1.heap.size w1 w') := fun w1 hb => by
    have := l1Fits_any nm ⟨hnm.2.1, hnm.2.2.1⟩ u n hn hna hu3 hua _ _ w1 ((hp.up hb).weak fun _ _ => trivial) ((hu.up hb).weak fun _ _ => trivial)
    rw [hf] at this
    exact this
  have HS : Hid (∀ w1, Below w.heap.size w w1 → Calls Tryz.prog 208 #[.agg #[.string x, .slice A n0 c], .string (St nm), .agg #[.string y, .slice By ny cy]] w1 (PPost w1 (fun k => P k ∧ k < w.heap.size) (subN nm u n))) := fun w1 hb =>
    l1Sub_any nm hnm u n hn hna hu3 hua _ _ w1 P (fun k => P k ∧ k < w.heap.size) (fun k hk => Nat.lt_of_lt_of_le hk.2 hb.size) (hp.up hb) (hu.move fun k hk ho => ⟨⟨ho, hk⟩, hb.block k hk⟩)
  have HPP : Hid (∀ k, w.heap.size ≤ k → P k) := hP
  clear hp hu hn hna hu3 hua hf hnm
  generalize subN nm u n = res at *
  go_enter Tryz.func167, Tryz.ntmps167
  go_wp2_with (first
    | (go_at_call 207; (refine (HF.out _ (by repeat (first | exact Below.refl _ _ | refine up_alloc ?_ _))).mono ?_); rintro e w4 ⟨rfl, hb4⟩; have HB4 : Hid (Below w.heap.size w w4) := up_trans (up_alloc (up_alloc (up1 w _) _) _) hb4; have X4 : Hid (w4.heap[w.heap.size]? = some (.cells #[.string x, .slice A n0 c] 59 (0, 0))) := block_up hb4 (block_alloc (old2 w _ _) _); have Y4 : Hid (w4.heap[w.heap.size + 1]? = some (.cells #[.string y, .slice By ny cy] 59 (0, 0))) := block_up hb4 (block_alloc (new2 w _ _) _); have R4 : Hid (w4.heap[w.heap.size + 2]? = some (.cells #[.string (St []), .slice none 0 0] 59 (0, 0))) := block_up hb4 (new3 w _ _ _); have x0 := block_cell X4.out 0; have x1 := block_cell X4.out 1; have y0 := block_cell Y4.out 0; have y1 := block_cell Y4.out 1; have rc0 := block_cell R4.out 0; have rc1 := block_cell R4.out 1; have fr0 := block_free R4.out 0; have fr1 := block_free R4.out 1; have lr4 := lt_of_block R4.out; clear hb4)
    | (go_at_call 208; (with_reducible refine (HS.out _ HB4.out).mono ?_); rintro e w5 ⟨⟨x5, B5, m5, c5, rfl, ht5⟩, hb5⟩; have HB5 := Lib.hid (up_trans HB4.out hb5); have R5 := Lib.hid (block_up hb5 R4.out); have rd0 := block_cell R5.out 0; have rd1 := block_cell R5.out 1; have fs0 := block_free R5.out 0; have fs1 := block_free R5.out 1; have lr5 := lt_of_block R5.out; have HT5 := Lib.hid ht5; clear ht5 hb5))
  refine bodyPost_ret (v := .tuple #[.agg #[.string x5, .slice B5 m5 c5], .bool true]) (by simp [results, Tryz.results167, go_sem, rd0, rd1, lr5]) rfl ?_
  refine ⟨⟨x5, B5, m5, c5, rfl, HT5.out.move fun k hk ho => ?_⟩, set0 (set0 HB5.out (by omega)) (by omega)⟩
  rcases ho with ⟨h1, h2⟩ | h1
  · exact ⟨h1, set2_block w5 _ _ (by omega)⟩
  · exact ⟨HPP.out k (by omega), set2_block w5 _ _ (by omega)⟩

set_option maxHeartbeats 4000000 in
set_option maxRecDepth 100000 in
theorem l3Put_no (nm : List UInt8) (hnm : nmOk nm) (u n : NT) (hn : n.ok3) (hna : n.atoms ≤ 400) (hu3 : u.ok3) (hua : u.atoms ≤ 400) (hf : fitsN nm u n = false) (v vu : Value) (w : World) (P : Nat → Prop) (hP : ∀ k, w.heap.size ≤ k → P k) (hp : TAt w P n.toTr v) (hu : TAt w P u.toTr vu) :
    Calls Tryz.prog 167 #[v, .string (St nm), vu] w fun e w' => (∃ x A m c, e = .returned (.tuple #[.agg #[.string x, .slice A m c], .bool false])) ∧ Below w.heap.size w w' := by
  obtain ⟨x, A, n0, c, rfl⟩ := hp.form
  obtain ⟨y, By, ny, cy, rfl⟩ := hu.form
  have HF : Hid (∀ w1, Below w.heap.size w w1 → Calls Tryz.prog 207 #[.agg #[.string x, .slice A n0 c], .string (St nm), .agg #[.string y, .slice By ny cy]] w1 fun e w' => e = .returned (.bool false) ∧ Below w1.heap.size w1 w') := fun w1 hb => by
    have := l1Fits_any nm ⟨hnm.2.1, hnm.2.2.1⟩ u n hn hna hu3 hua _ _ w1 ((hp.up hb).weak fun _ _ => trivial) ((hu.up hb).weak fun _ _ => trivial)
    rw [hf] at this
    exact this
  clear hp hu hn hna hu3 hua hf hnm
  go_enter Tryz.func167, Tryz.ntmps167
  go_wp2_with (first
    | (go_at_call 207; (refine (HF.out _ (by repeat (first | exact Below.refl _ _ | refine up_alloc ?_ _))).mono ?_); rintro e w4 ⟨rfl, hb4⟩; have HB4 : Hid (Below w.heap.size w w4) := up_trans (up_alloc (up_alloc (up1 w _) _) _) hb4; have X4 : Hid (w4.heap[w.heap.size]? = some (.cells #[.string x, .slice A n0 c] 59 (0, 0))) := block_up hb4 (block_alloc (old2 w _ _) _); have Y4 : Hid (w4.heap[w.heap.size + 1]? = some (.cells #[.string y, .slice By ny cy] 59 (0, 0))) := block_up hb4 (block_alloc (new2 w _ _) _); have R4 : Hid (w4.heap[w.heap.size + 2]? = some (.cells #[.string (St []), .slice none 0 0] 59 (0, 0))) := block_up hb4 (new3 w _ _ _); have x0 := block_cell X4.out 0; have x1 := block_cell X4.out 1; have y0 := block_cell Y4.out 0; have y1 := block_cell Y4.out 1; have rc0 := block_cell R4.out 0; have rc1 := block_cell R4.out 1; have fr0 := block_free R4.out 0; have fr1 := block_free R4.out 1; have lr4 := lt_of_block R4.out; clear hb4))
  refine bodyPost_ret (v := .tuple #[.agg #[.string x, .slice A n0 c], .bool false]) (by simp [results, Tryz.results167, go_sem, rc0, rc1, lr4]) rfl ?_
  exact ⟨⟨x, A, n0, c, rfl⟩, set0 (set0 HB4.out (by omega)) (by omega)⟩

/-- A derivative behind l3Deriv. -/
def DvPost (w : World) (P : Nat → Prop) (n : NT) (x : List UInt8) (e : Ending) (w' : World) : Prop := ∃ out ok, DRes n x out ok ∧ (∃ y A m c, e = .returned (.tuple #[.agg #[.string y, .slice A m c], .bool ok]) ∧ TAt w' P out.toTr (.agg #[.string y, .slice A m c])) ∧ Below w.heap.size w w'
def DV (x : List UInt8) (n : NT) : Prop := ∀ (v : Value) (w : World) (P : Nat → Prop), (∀ k, w.heap.size ≤ k → P k) → TAt w P n.toTr v → Calls Tryz.prog 105 #[v, .string (St x)] w (DvPost w P n x)
theorem TAt.leaf_ (w : World) (P : Nat → Prop) (s : List UInt8) : TAt w P (.mk s []) (.agg #[.string (St s), .slice none 0 0]) := ⟨none, 0, rfl, Nat.le_refl _, .nil _⟩

set_option maxHeartbeats 4000000 in
set_option maxRecDepth 100000 in
theorem l3Deriv_hit (s x : List UInt8) (hs : s ≠ []) (hx : (s == x) = true) (w : World) (A : Option Addr) (n c : Nat) :
    Calls Tryz.prog 105 #[.agg #[.string (St s), .slice A n c], .string (St x)] w fun e w' => e = .returned (.tuple #[.agg #[.string (St [49]), .slice none 0 0], .bool true]) ∧ Below w.heap.size w w' := by
  have k0 : (s == []) = false := by simpa using hs
  have k1 : (s != []) = true := by simpa using hs
  clear hs
  have R2 : Hid (((w.alloc (.cells #[.string (St s), .slice A n c] 59)).alloc (.cells #[.string (St []), .slice none 0 0] 59)).heap[w.heap.size + 1]? = some (.cells #[.string (St []), .slice none 0 0] 59 (0, 0))) := new2 w _ _
  have rc0 := block_cell R2.out 0
  have rc1 := block_cell R2.out 1
  have fr0 := block_free R2.out 0
  have fr1 := block_free R2.out 1
  go_enter Tryz.func105, Tryz.ntmps105
  go_wp2
  refine bodyPost_ret (v := .tuple #[.agg #[.string (St [49]), .slice none 0 0], .bool true]) (by simp [results, Tryz.results105, go_sem, rc0, rc1]) rfl ?_
  exact ⟨rfl, up_alloc (up1 w _) _⟩

set_option maxHeartbeats 4000000 in
set_option maxRecDepth 100000 in
theorem l3Deriv_miss (s x : List UInt8) (hs : s ≠ []) (hx : (s == x) = false) (w : World) (A : Option Addr) (n c : Nat) :
    Calls Tryz.prog 105 #[.agg #[.string (St s), .slice A n c], .string (St x)] w fun e w' => e = .returned (.tuple #[.agg #[.string (St [48]), .slice none 0 0], .bool true]) ∧ Below w.heap.size w w' := by
  have k0 : (s == []) = false := by simpa using hs
  have k1 : (s != []) = true := by simpa using hs
  clear hs
  have R2 : Hid (((w.alloc (.cells #[.string (St s), .slice A n c] 59)).alloc (.cells #[.string (St []), .slice none 0 0] 59)).heap[w.heap.size + 1]? = some (.cells #[.string (St []), .slice none 0 0] 59 (0, 0))) := new2 w _ _
  have rc0 := block_cell R2.out 0
  have rc1 := block_cell R2.out 1
  have fr0 := block_free R2.out 0
  have fr1 := block_free R2.out 1
  go_enter Tryz.func105, Tryz.ntmps105
  go_wp2
  refine bodyPost_ret (v := .tuple #[.agg #[.string (St [48]), .slice none 0 0], .bool true]) (by simp [results, Tryz.results105, go_sem, rc0, rc1]) rfl ?_
  exact ⟨rfl, up_alloc (up1 w _) _⟩

theorem DV.leaf {n : NT} {x s : List UInt8} (hs : s ≠ []) (ht : n.toTr = .mk s []) (hh : s = x → DRes n x .one true) (hm : s ≠ x → DRes n x .zero true) : DV x n := by
  intro v w P hP hp
  rw [ht] at hp
  obtain ⟨A, c, rfl, _⟩ := hp.parts
  by_cases h : s = x
  · refine (l3Deriv_hit s x hs (by simpa using h) w _ _ _).mono fun e w' ⟨h1, h2⟩ => ⟨.one, true, hh h, ⟨_, _, _, _, h1, TAt.leaf_ w' P [49]⟩, h2⟩
  · refine (l3Deriv_miss s x hs (by simpa using h) w _ _ _).mono fun e w' ⟨h1, h2⟩ => ⟨.zero, true, hm h, ⟨_, _, _, _, h1, TAt.leaf_ w' P [48]⟩, h2⟩

end Go.Proofs.YtpokompplapkhaaGreatDoor
