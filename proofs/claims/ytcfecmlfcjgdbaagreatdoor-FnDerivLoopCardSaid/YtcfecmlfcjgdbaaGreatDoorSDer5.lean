/- The reference's l3Around. -/
import Derived.Test.YtcfecmlfcjgdbaaGreatDoorSDer4
import Derived.Test.YtcfecmlfcjgdbaaGreatDoorDerL
import Derived.Test.YtcfecmlfcjgdbaaGreatDoorMK
namespace Go.Proofs.YtcfecmlfcjgdbaaGreatDoor
open Go.RowKit
set_option linter.unusedVariables false
set_option linter.unusedSimpArgs false

/-- What l3Around gives. -/
def ArPost (w : World) (s : List UInt8) (a : NT) (e : Ending) (w' : World) : Prop :=
  ∃ ok x A m c, e = .returned (.tuple #[.agg #[.string x, .slice A m c], .bool ok]) ∧ (ok = false → LDer (a.db [s]) none) ∧ (ok = true → ∃ out : NT, TAt w' (fun _ => True) out.toTr (.agg #[.string x, .slice A m c]) ∧ out.ok3 ∧ out.atoms ≤ 400 ∧ LDer (a.db [s]) (some (out.db []))) ∧ Below w.heap.size w w'
set_option maxHeartbeats 8000000 in
set_option maxRecDepth 100000 in
theorem l3Around_any (s : List UInt8) (a : NT) (hok : (NT.loop s a).ok3) (hat : (NT.loop s a).atoms ≤ 400) (v : Value) (w : World) (hp : TAt w (fun _ => True) (NT.loop s a).toTr v) :
    Calls Tryz.prog 50 #[v] w (ArPost w s a) := by
  obtain ⟨bl, o, c', rfl, HBL, xa, A4, n4, c4, HC⟩ := rec_cells hp
  have hsl : nmOk s := hok.1.1
  have HD : Hid (∀ w1, Below w.heap.size w w1 → w.heap.size + 2 ≤ w1.heap.size → Calls Tryz.prog 45 #[.agg #[.string (St xa), .slice A4 n4 c4], .string (St s)] w1 (DvPost w1 (fun k => k ≠ w.heap.size + 1) a s)) := fun w1 hb hs =>
    l3Deriv_any a hok.2 (by simp only [NT.atoms] at hat; omega) s hsl _ w1 _ (fun k hk => by omega) ((HC.out w1 hb).2.1.weak fun k hk => by have : k < w.heap.size := hk; show k ≠ _; omega)
  have HTT : Hid (∀ w1, Below w.heap.size w w1 → TAt w1 (fun k => k ≠ w.heap.size + 1) (NT.loop s a).toTr (.agg #[.string (St []), .slice (some ⟨bl, o, none⟩) 3 c'])) := fun w1 hb => (HC.out w1 hb).2.2.weak fun k hk => by have : k < w.heap.size := hk; show k ≠ _; omega
  have HPU : Hid (∀ out, DRes a s out true → ∀ w1 v, Below w.heap.size w w1 → w.heap.size + 2 ≤ w1.heap.size → TAt w1 (fun k => k ≠ w.heap.size + 1) out.toTr v → Calls Tryz.prog 93 #[v, .string (St s), .agg #[.string (St []), .slice (some ⟨bl, o, none⟩) 3 c']] w1 (PuPost w1 (fun k => k ≠ w.heap.size + 1) s (.loop s a) out)) := fun out hd w1 v hb hs h =>
    l3Put_any s hsl (.loop s a) out hd.1 hd.small hok hat v _ w1 _ (fun k hk => by omega) h (HTT.out w1 hb)
  have HA : Hid (∀ out ok, DRes a s out ok → (ok = false → LDer (a.db [s]) none) ∧ (ok = true → out.atoms ≤ 400 ∧ (fitsN s (.loop s a) out = false → LDer (a.db [s]) none) ∧ (fitsN s (.loop s a) out = true → (subN s (.loop s a) out).ok3 ∧ (subN s (.loop s a) out).atoms ≤ 400 ∧ LDer (a.db [s]) (some ((subN s (.loop s a) out).db []))))) := fun out ok h => around_der hok hat h
  have HC1 : Hid (∀ w1, Below w.heap.size w w1 → w1.cell? ⟨bl, o + 2, none⟩ = some (.string (St s)) ∧ w1.cell? ⟨bl, o + 4, none⟩ = some (.string (St xa)) ∧ w1.cell? ⟨bl, o + 5, none⟩ = some (.slice A4 n4 c4)) := fun w1 hb => (HC.out w1 hb).1
  clear hp hok hat hsl HC HTT
  have X2 : Hid (((w.alloc (.cells #[.string (St []), .slice (some ⟨bl, o, none⟩) 3 c'] 56)).alloc (.cells #[.string (St []), .slice none 0 0] 56)).heap[w.heap.size]? = some (.cells #[.string (St []), .slice (some ⟨bl, o, none⟩) 3 c'] 56 (0, 0))) := old2 w _ _
  have R2 : Hid (((w.alloc (.cells #[.string (St []), .slice (some ⟨bl, o, none⟩) 3 c'] 56)).alloc (.cells #[.string (St []), .slice none 0 0] 56)).heap[w.heap.size + 1]? = some (.cells #[.string (St []), .slice none 0 0] 56 (0, 0))) := new2 w _ _
  have HB2 : Hid (Below w.heap.size w ((w.alloc (.cells #[.string (St []), .slice (some ⟨bl, o, none⟩) 3 c'] 56)).alloc (.cells #[.string (St []), .slice none 0 0] 56))) := up_alloc (up1 w _) _
  have z20 := block_cell X2.out 1
  obtain ⟨z21, z22, z23⟩ := HC1.out _ HB2.out
  go_enter Tryz.func50, Tryz.ntmps50
  go_upto_region 3 with (go_at_call 45; (refine (HD.out _ HB2.out (by simp)).mono ?_); rintro e w3 ⟨out, ok, hd, ⟨x3, B3, m3, c3, rfl, ht3⟩, hb3⟩; have HB3 := Lib.hid (up_trans HB2.out hb3); have X3 := Lib.hid (block_alloc (block_up hb3 X2.out) (.cells #[.string x3, .slice B3 m3 c3] 56)); have R3 := Lib.hid (block_alloc (block_up hb3 R2.out) (.cells #[.string x3, .slice B3 m3 c3] 56)); have x30 := block_cell X3.out 0; have x31 := block_cell X3.out 1; have r30 := block_cell R3.out 0; have r31 := block_cell R3.out 1; have fr0 := block_free R3.out 0; have fr1 := block_free R3.out 1; have lr3 := lt_of_block R3.out; have HT3 := Lib.hid ht3; have HDR := Lib.hid hd; clear hb3 ht3 hd)
  cases ok with
  | false =>
    go_wp2
    refine bodyPost_ret (v := .tuple #[.agg #[.string (St []), .slice (some ⟨bl, o, none⟩) 3 c'], .bool false]) (by simp [results, Tryz.results50, go_sem, r30, r31, lr3]) rfl ?_
    exact ⟨false, _, _, _, _, rfl, fun _ => (HA.out _ _ HDR.out).1 rfl, fun h => (nomatch h), by repeat (first | exact HB3.out | refine up_drew ?_ | refine set0 ?_ (by omega) | refine up_alloc ?_ _)⟩
  | true =>
    go_wp2_with (go_at_call 93; (refine (HPU.out out HDR.out _ _ (up_alloc HB3.out _) (by have := lr3; omega) (HT3.out.up (up1 _ _))).mono ?_); rintro e w4 ⟨x4, B4, m4, c4', rfl, ht4, hb4⟩; have HB4 := Lib.hid (up_trans (up_alloc HB3.out _) hb4); have R4 := Lib.hid (block_up hb4 R3.out); have rc0 := block_cell R4.out 0; have rc1 := block_cell R4.out 1; have fs0 := block_free R4.out 0; have fs1 := block_free R4.out 1; have lr4 := lt_of_block R4.out; have HT4 := Lib.hid ht4; clear hb4 ht4)
    refine bodyPost_ret (v := .tuple #[.agg #[.string x4, .slice B4 m4 c4'], .bool (fitsN s (.loop s a) out)]) (by simp [results, Tryz.results50, go_sem, rc0, rc1, lr4]) rfl ?_
    refine ⟨_, _, _, _, _, rfl, ((HA.out _ _ HDR.out).2 rfl).2.1, fun hf => ?_, by repeat (first | exact HB4.out | refine up_drew ?_ | refine set0 ?_ (by omega) | refine up_alloc ?_ _)⟩
    obtain ⟨h1, h2, h3⟩ := ((HA.out _ _ HDR.out).2 rfl).2.2 hf
    exact ⟨_, (HT4.out hf).move fun k hk ho => by
      have h2 : k ≠ w.heap.size + 1 := ho
      refine ⟨trivial, ?_⟩
      repeat (first | rfl | rw [drew_heap] | rw [Below.heap_setCell _ ⟨w.heap.size + 1, 0, none⟩ _ k (by show k ≠ w.heap.size + 1; omega)] | rw [Below.heap_setCell _ ⟨w.heap.size + 1, 1, none⟩ _ k (by show k ≠ w.heap.size + 1; omega)]), h1, h2, h3⟩

end Go.Proofs.YtcfecmlfcjgdbaaGreatDoor
