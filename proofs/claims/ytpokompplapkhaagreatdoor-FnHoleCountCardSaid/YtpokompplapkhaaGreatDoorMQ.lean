/- TypeCanon and TypePut of both. TypePut of the reference. TypeUnroll of both. -/
import Derived.Test.YtpokompplapkhaaGreatDoorMP
import Derived.Test.YtpokompplapkhaaGreatDoorMH
import Derived.Test.YtpokompplapkhaaGreatDoorMI
namespace Go.Proofs.YtpokompplapkhaaGreatDoor
set_option maxHeartbeats 8000000
set_option maxRecDepth 100000
open Go.RowKit
set_option linter.unusedVariables false
set_option linter.unusedSimpArgs false
end Go.Proofs.YtpokompplapkhaaGreatDoor
namespace Go.Proofs.YtpokompplapkhaaGreatDoor
set_option maxHeartbeats 8000000
set_option maxRecDepth 100000
open Go.RowKit
set_option linter.unusedVariables false
set_option linter.unusedSimpArgs false
end Go.Proofs.YtpokompplapkhaaGreatDoor
namespace Go.Proofs.YtpokompplapkhaaGreatDoor
set_option maxHeartbeats 8000000
set_option maxRecDepth 100000
open Go.RowKit
set_option linter.unusedVariables false
set_option linter.unusedSimpArgs false
theorem un_drew {w w1 : World} (h : Below w.drew.heap.size w.drew w1) : Below w.heap.size w w1 := ⟨h.os, h.tape, h.output, h.size, h.block⟩
theorem rec_cells {w : World} {s : List UInt8} {a : NT} {v : Value} (hp : TAt w (fun _ => True) (NT.loop s a).toTr v) :
 ∃ bl o c, v = .agg #[.string (St []), .slice (some ⟨bl, o, none⟩) 3 c] /\ bl < w.heap.size /\ ∃ xa A4 n4 c4, Hid (∀ w1, Below w.heap.size w w1 -> (w1.cell? ⟨bl, o + 2, none⟩ = some (.string (St s)) /\ w1.cell? ⟨bl, o + 4, none⟩ = some (.string (St xa)) /\ w1.cell? ⟨bl, o + 5, none⟩ = some (.slice A4 n4 c4)) /\
  TAt w1 (fun k => k < w.heap.size) a.toTr (.agg #[.string (St xa), .slice A4 n4 c4]) /\ TAt w1 (fun k => k < w.heap.size) (NT.loop s a).toTr v) := by
 have hp' : TAt w (fun k => k < w.heap.size) (NT.loop s a).toTr v := hp.move fun k hk _ => ⟨hk, rfl⟩
 have hp0 := hp'
 obtain ⟨A, c, rfl, hr⟩ := hp'.parts
 obtain ⟨bl, o, A', c', rfl, d0, _, _, _, hr⟩ := hr.uncons
 obtain ⟨A2, n2, c2, d2, d3, ha, hr⟩ := hr.at3
 obtain ⟨A4, n4, c4, d4, d5, hb, _⟩ := hr.at3
 refine ⟨bl, o, c, rfl, World.block_lt_of_cell? w _ d0, a.toTr.atom, A4, n4, c4, fun w1 hb' => ⟨⟨cell_up hb' d2, cell_up hb' d4, cell_up hb' d5⟩, hb.move fun k hk h => ⟨h, hb'.block k hk⟩, hp0.move fun k hk h => ⟨h, hb'.block k hk⟩⟩⟩
theorem l1Unroll_no (s : List UInt8) (a : NT) (hok : (NT.loop s a).ok3) (hat : (NT.loop s a).atoms <= 400) (hf : fitsN s (.loop s a) a = false) (v : Value) (w : World) (hp : TAt w (fun _ => True) (NT.loop s a).toTr v) :
 Calls Tryz.prog 172 #[v] w fun e w' => Below w.heap.size w w' /\ ∃ x A m c, e = .returned (.tuple #[.agg #[.string x, .slice A m c], .bool false]) := by
 obtain ⟨bl, o, c, rfl, HBL, xa, A4, n4, c4, HC⟩ := rec_cells hp
 have hn3 : a.ok3 := hok.2
 have hu3 : (NT.loop s a).ok3 := hok
 have hsl : nmOk s := hok.1.1
 simp only [NT.atoms] at hat
 have HF : Hid (∀ w1, Below w.heap.size w w1 -> Calls Tryz.prog 207 #[(.agg #[.string (St xa), .slice A4 n4 c4]), .string (St s), (.agg #[.string (St []), .slice (some ⟨bl, o, none⟩) 3 c])] w1 fun e w' => e = .returned (.bool false) /\ Below w1.heap.size w1 w') := fun w1 hb => by
  have h := HC.out w1 hb
  have := l1Fits_any s ⟨hsl.2.1, hsl.2.2.1⟩ (.loop s a) a hn3 (by omega) hu3 (by simp only [NT.atoms]; omega) (.agg #[.string (St xa), .slice A4 n4 c4]) (.agg #[.string (St []), .slice (some ⟨bl, o, none⟩) 3 c]) w1 (h.2.1.weak fun _ _ => trivial) (h.2.2.weak fun _ _ => trivial)
  rw [hf] at this
  exact this
 clear hp hok hat hf hn3 hu3 hsl
 have X2 : Hid (((w.alloc (.cells #[.string (St []), .slice (some ⟨bl, o, none⟩) 3 c] 59)).alloc (.cells #[.string (St []), .slice none 0 0] 59)).heap[w.heap.size]? = some (.cells #[.string (St []), .slice (some ⟨bl, o, none⟩) 3 c] 59 (0, 0))) := old2 w _ _
 have R2 : Hid (((w.alloc (.cells #[.string (St []), .slice (some ⟨bl, o, none⟩) 3 c] 59)).alloc (.cells #[.string (St []), .slice none 0 0] 59)).heap[w.heap.size + 1]? = some (.cells #[.string (St []), .slice none 0 0] 59 (0, 0))) := new2 w _ _
 have HB2 : Hid (Below w.heap.size w ((w.alloc (.cells #[.string (St []), .slice (some ⟨bl, o, none⟩) 3 c] 59)).alloc (.cells #[.string (St []), .slice none 0 0] 59))) := up_alloc (up1 w _) _
 have s2 : ((w.alloc (.cells #[.string (St []), .slice (some ⟨bl, o, none⟩) 3 c] 59)).alloc (.cells #[.string (St []), .slice none 0 0] 59)).cell? ⟨w.heap.size, 0, none⟩ = some (.string (St [])) /\ ((w.alloc (.cells #[.string (St []), .slice (some ⟨bl, o, none⟩) 3 c] 59)).alloc (.cells #[.string (St []), .slice none 0 0] 59)).cell? ⟨w.heap.size, 1, none⟩ = some (.slice (some ⟨bl, o, none⟩) 3 c) /\ ((w.alloc (.cells #[.string (St []), .slice (some ⟨bl, o, none⟩) 3 c] 59)).alloc (.cells #[.string (St []), .slice none 0 0] 59)).cell? ⟨bl, o + 2, none⟩ = some (.string (St s)) /\ ((w.alloc (.cells #[.string (St []), .slice (some ⟨bl, o, none⟩) 3 c] 59)).alloc (.cells #[.string (St []), .slice none 0 0] 59)).cell? ⟨bl, o + 4, none⟩ = some (.string (St xa)) /\ ((w.alloc (.cells #[.string (St []), .slice (some ⟨bl, o, none⟩) 3 c] 59)).alloc (.cells #[.string (St []), .slice none 0 0] 59)).cell? ⟨bl, o + 5, none⟩ = some (.slice A4 n4 c4) := ⟨block_cell X2.out 0, block_cell X2.out 1, (HC.out _ HB2.out).1⟩
 go_enter Tryz.func172, Tryz.ntmps172
 go_wp2
 go_region_held3 (fun w' => w'.cell? ⟨w.heap.size, 0, none⟩ = some (.string (St [])) /\ w'.cell? ⟨w.heap.size, 1, none⟩ = some (.slice (some ⟨bl, o, none⟩) 3 c) /\ w'.cell? ⟨bl, o + 2, none⟩ = some (.string (St s)) /\ w'.cell? ⟨bl, o + 4, none⟩ = some (.string (St xa)) /\ w'.cell? ⟨bl, o + 5, none⟩ = some (.slice A4 n4 c4))
  (first | exact s5 | exact s2 | go_keep)
  ((go_at_call 207; (refine (HF.out _ (by repeat (first | exact Below.refl _ _ | refine up_drew ?_ | refine up_alloc ?_ _))).mono ?_); rintro e w5 ⟨rfl, hb5⟩; have HB5 : Hid (Below w.heap.size w w5) := up_trans (by repeat (first | exact Below.refl _ _ | refine up_drew ?_ | refine up_alloc ?_ _)) hb5; have X5 : Hid (w5.heap[w.heap.size]? = some (.cells #[.string (St []), .slice (some ⟨bl, o, none⟩) 3 c] 59 (0, 0))) := block_up hb5 X2.out; have R5 : Hid (w5.heap[w.heap.size + 1]? = some (.cells #[.string (St []), .slice none 0 0] 59 (0, 0))) := block_up hb5 R2.out; have s5 : w5.cell? ⟨w.heap.size, 0, none⟩ = some (.string (St [])) /\ w5.cell? ⟨w.heap.size, 1, none⟩ = some (.slice (some ⟨bl, o, none⟩) 3 c) /\ w5.cell? ⟨bl, o + 2, none⟩ = some (.string (St s)) /\ w5.cell? ⟨bl, o + 4, none⟩ = some (.string (St xa)) /\ w5.cell? ⟨bl, o + 5, none⟩ = some (.slice A4 n4 c4) := ⟨block_cell X5.out 0, block_cell X5.out 1, (HC.out _ HB5.out).1⟩; clear hb5))
 have rc0 : w5.cell? ⟨w.heap.size + 1, 0, none⟩ = some (.string (St [])) := block_cell R5.out 0
 have rc1 : w5.cell? ⟨w.heap.size + 1, 1, none⟩ = some (.slice none 0 0) := block_cell R5.out 1
 have fr0 := block_free R5.out 0
 have fr1 := block_free R5.out 1
 have lr5 := lt_of_block R5.out
 obtain ⟨z0, z1, _⟩ := s5
 go_wp2
 refine bodyPost_ret (v := .tuple #[.agg #[.string (St []), .slice (some ⟨bl, o, none⟩) 3 c], .bool false]) (by simp [results, Tryz.results172, go_sem, rc0, rc1, lr5]) rfl ?_
 exact ⟨set0 (set0 HB5.out (by omega)) (by omega), _, _, _, _, rfl⟩
theorem l1Unroll_yes (s : List UInt8) (a : NT) (hok : (NT.loop s a).ok3) (hat : (NT.loop s a).atoms <= 400) (hf : fitsN s (.loop s a) a = true) (v : Value) (w : World) (hp : TAt w (fun _ => True) (NT.loop s a).toTr v) :
 Calls Tryz.prog 172 #[v] w fun e w' => Below w.heap.size w w' /\ ∃ x A m c, e = .returned (.tuple #[.agg #[.string x, .slice A m c], .bool true]) /\ TAt w' (fun _ => True) (subN s (.loop s a) a).toTr (.agg #[.string x, .slice A m c]) := by
 obtain ⟨bl, o, c, rfl, HBL, xa, A4, n4, c4, HC⟩ := rec_cells hp
 have hn3 : a.ok3 := hok.2
 have hu3 : (NT.loop s a).ok3 := hok
 have hsl : nmOk s := hok.1.1
 simp only [NT.atoms] at hat
 have HF : Hid (∀ w1, Below w.heap.size w w1 -> Calls Tryz.prog 207 #[(.agg #[.string (St xa), .slice A4 n4 c4]), .string (St s), (.agg #[.string (St []), .slice (some ⟨bl, o, none⟩) 3 c])] w1 fun e w' => e = .returned (.bool true) /\ Below w1.heap.size w1 w') := fun w1 hb => by
  have h := HC.out w1 hb
  have := l1Fits_any s ⟨hsl.2.1, hsl.2.2.1⟩ (.loop s a) a hn3 (by omega) hu3 (by simp only [NT.atoms]; omega) (.agg #[.string (St xa), .slice A4 n4 c4]) (.agg #[.string (St []), .slice (some ⟨bl, o, none⟩) 3 c]) w1 (h.2.1.weak fun _ _ => trivial) (h.2.2.weak fun _ _ => trivial)
  rw [hf] at this
  exact this
 have HS : Hid (∀ w1, Below w.heap.size w w1 -> Calls Tryz.prog 208 #[(.agg #[.string (St xa), .slice A4 n4 c4]), .string (St s), (.agg #[.string (St []), .slice (some ⟨bl, o, none⟩) 3 c])] w1 fun e w' => (∃ x A m c, e = .returned (.agg #[.string x, .slice A m c]) /\ TAt w' (fun k => k < w.heap.size \/ w1.heap.size <= k) (subN s (.loop s a) a).toTr (.agg #[.string x, .slice A m c])) /\ Below w1.heap.size w1 w') := fun w1 hb => by
  have h := HC.out w1 hb
  exact l1Sub_any s hsl (.loop s a) a hn3 (by omega) hu3 (by simp only [NT.atoms]; omega) (.agg #[.string (St xa), .slice A4 n4 c4]) (.agg #[.string (St []), .slice (some ⟨bl, o, none⟩) 3 c]) w1 (fun k => k < w.heap.size) (fun k => k < w.heap.size) (fun k hk => by have := hb.size; omega) h.2.1 h.2.2
 generalize (subN s (.loop s a) a).toTr = tr at *
 clear hp hok hat hf hn3 hu3 hsl
 have X2 : Hid (((w.alloc (.cells #[.string (St []), .slice (some ⟨bl, o, none⟩) 3 c] 59)).alloc (.cells #[.string (St []), .slice none 0 0] 59)).heap[w.heap.size]? = some (.cells #[.string (St []), .slice (some ⟨bl, o, none⟩) 3 c] 59 (0, 0))) := old2 w _ _
 have R2 : Hid (((w.alloc (.cells #[.string (St []), .slice (some ⟨bl, o, none⟩) 3 c] 59)).alloc (.cells #[.string (St []), .slice none 0 0] 59)).heap[w.heap.size + 1]? = some (.cells #[.string (St []), .slice none 0 0] 59 (0, 0))) := new2 w _ _
 have HB2 : Hid (Below w.heap.size w ((w.alloc (.cells #[.string (St []), .slice (some ⟨bl, o, none⟩) 3 c] 59)).alloc (.cells #[.string (St []), .slice none 0 0] 59))) := up_alloc (up1 w _) _
 have s2 : ((w.alloc (.cells #[.string (St []), .slice (some ⟨bl, o, none⟩) 3 c] 59)).alloc (.cells #[.string (St []), .slice none 0 0] 59)).cell? ⟨w.heap.size, 0, none⟩ = some (.string (St [])) /\ ((w.alloc (.cells #[.string (St []), .slice (some ⟨bl, o, none⟩) 3 c] 59)).alloc (.cells #[.string (St []), .slice none 0 0] 59)).cell? ⟨w.heap.size, 1, none⟩ = some (.slice (some ⟨bl, o, none⟩) 3 c) /\ ((w.alloc (.cells #[.string (St []), .slice (some ⟨bl, o, none⟩) 3 c] 59)).alloc (.cells #[.string (St []), .slice none 0 0] 59)).cell? ⟨bl, o + 2, none⟩ = some (.string (St s)) /\ ((w.alloc (.cells #[.string (St []), .slice (some ⟨bl, o, none⟩) 3 c] 59)).alloc (.cells #[.string (St []), .slice none 0 0] 59)).cell? ⟨bl, o + 4, none⟩ = some (.string (St xa)) /\ ((w.alloc (.cells #[.string (St []), .slice (some ⟨bl, o, none⟩) 3 c] 59)).alloc (.cells #[.string (St []), .slice none 0 0] 59)).cell? ⟨bl, o + 5, none⟩ = some (.slice A4 n4 c4) := ⟨block_cell X2.out 0, block_cell X2.out 1, (HC.out _ HB2.out).1⟩
 go_enter Tryz.func172, Tryz.ntmps172
 go_wp2
 go_region_held3 (fun w' => w'.cell? ⟨w.heap.size, 0, none⟩ = some (.string (St [])) /\ w'.cell? ⟨w.heap.size, 1, none⟩ = some (.slice (some ⟨bl, o, none⟩) 3 c) /\ w'.cell? ⟨bl, o + 2, none⟩ = some (.string (St s)) /\ w'.cell? ⟨bl, o + 4, none⟩ = some (.string (St xa)) /\ w'.cell? ⟨bl, o + 5, none⟩ = some (.slice A4 n4 c4))
  (first | exact s5 | exact s2 | go_keep)
  ((go_at_call 207; (refine (HF.out _ (by repeat (first | exact Below.refl _ _ | refine up_drew ?_ | refine up_alloc ?_ _))).mono ?_); rintro e w5 ⟨rfl, hb5⟩; have HB5 : Hid (Below w.heap.size w w5) := up_trans (by repeat (first | exact Below.refl _ _ | refine up_drew ?_ | refine up_alloc ?_ _)) hb5; have X5 : Hid (w5.heap[w.heap.size]? = some (.cells #[.string (St []), .slice (some ⟨bl, o, none⟩) 3 c] 59 (0, 0))) := block_up hb5 X2.out; have R5 : Hid (w5.heap[w.heap.size + 1]? = some (.cells #[.string (St []), .slice none 0 0] 59 (0, 0))) := block_up hb5 R2.out; have s5 : w5.cell? ⟨w.heap.size, 0, none⟩ = some (.string (St [])) /\ w5.cell? ⟨w.heap.size, 1, none⟩ = some (.slice (some ⟨bl, o, none⟩) 3 c) /\ w5.cell? ⟨bl, o + 2, none⟩ = some (.string (St s)) /\ w5.cell? ⟨bl, o + 4, none⟩ = some (.string (St xa)) /\ w5.cell? ⟨bl, o + 5, none⟩ = some (.slice A4 n4 c4) := ⟨block_cell X5.out 0, block_cell X5.out 1, (HC.out _ HB5.out).1⟩; clear hb5))
 go_wp2
 go_region_held3 (fun w' => w'.cell? ⟨w.heap.size, 0, none⟩ = some (.string (St [])) /\ w'.cell? ⟨w.heap.size, 1, none⟩ = some (.slice (some ⟨bl, o, none⟩) 3 c) /\ w'.cell? ⟨bl, o + 2, none⟩ = some (.string (St s)) /\ w'.cell? ⟨bl, o + 4, none⟩ = some (.string (St xa)) /\ w'.cell? ⟨bl, o + 5, none⟩ = some (.slice A4 n4 c4))
  (first | exact s7 | exact s6 | exact s5 | go_keep)
  ((go_at_call 208; (refine (HS.out _ (by first | exact HB5.out | exact up_drew HB5.out)).mono ?_); rintro e w6 ⟨⟨x6, B6, m6, q6, rfl, ht6⟩, hb6⟩; have hb6' : Below w5.heap.size w5 w6 := (by first | exact hb6 | exact un_drew hb6); have HB6 : Hid (Below w.heap.size w w6) := up_trans HB5.out hb6'; have X6 := Lib.hid (block_up hb6' X5.out); have R6 := Lib.hid (block_up hb6' R5.out); have s6 : w6.cell? ⟨w.heap.size, 0, none⟩ = some (.string (St [])) /\ w6.cell? ⟨w.heap.size, 1, none⟩ = some (.slice (some ⟨bl, o, none⟩) 3 c) /\ w6.cell? ⟨bl, o + 2, none⟩ = some (.string (St s)) /\ w6.cell? ⟨bl, o + 4, none⟩ = some (.string (St xa)) /\ w6.cell? ⟨bl, o + 5, none⟩ = some (.slice A4 n4 c4) := ⟨block_cell X6.out 0, block_cell X6.out 1, (HC.out _ HB6.out).1⟩; have rc0 : w6.cell? ⟨w.heap.size + 1, 0, none⟩ = some (.string (St [])) := block_cell R6.out 0; have rc1 : w6.cell? ⟨w.heap.size + 1, 1, none⟩ = some (.slice none 0 0) := block_cell R6.out 1; have fr0 := block_free R6.out 0; have fr1 := block_free R6.out 1; have lr6 := lt_of_block R6.out; have l5 := lt_of_block R5.out; have HB7 : Hid (Below w.heap.size w ((w6.setCell ⟨w.heap.size + 1, 0, none⟩ (.string x6)).setCell ⟨w.heap.size + 1, 1, none⟩ (.slice B6 m6 q6))) := set0 (set0 HB6.out (by omega)) (by omega); have X7 : Hid (((w6.setCell ⟨w.heap.size + 1, 0, none⟩ (.string x6)).setCell ⟨w.heap.size + 1, 1, none⟩ (.slice B6 m6 q6)).heap[w.heap.size]? = some (.cells #[.string (St []), .slice (some ⟨bl, o, none⟩) 3 c] 59 (0, 0))) := (set2_block w6 _ _ (by omega)).trans X6.out; have s7 : ((w6.setCell ⟨w.heap.size + 1, 0, none⟩ (.string x6)).setCell ⟨w.heap.size + 1, 1, none⟩ (.slice B6 m6 q6)).cell? ⟨w.heap.size, 0, none⟩ = some (.string (St [])) /\ ((w6.setCell ⟨w.heap.size + 1, 0, none⟩ (.string x6)).setCell ⟨w.heap.size + 1, 1, none⟩ (.slice B6 m6 q6)).cell? ⟨w.heap.size, 1, none⟩ = some (.slice (some ⟨bl, o, none⟩) 3 c) /\ ((w6.setCell ⟨w.heap.size + 1, 0, none⟩ (.string x6)).setCell ⟨w.heap.size + 1, 1, none⟩ (.slice B6 m6 q6)).cell? ⟨bl, o + 2, none⟩ = some (.string (St s)) /\ ((w6.setCell ⟨w.heap.size + 1, 0, none⟩ (.string x6)).setCell ⟨w.heap.size + 1, 1, none⟩ (.slice B6 m6 q6)).cell? ⟨bl, o + 4, none⟩ = some (.string (St xa)) /\ ((w6.setCell ⟨w.heap.size + 1, 0, none⟩ (.string x6)).setCell ⟨w.heap.size + 1, 1, none⟩ (.slice B6 m6 q6)).cell? ⟨bl, o + 5, none⟩ = some (.slice A4 n4 c4) := ⟨block_cell X7.out 0, block_cell X7.out 1, (HC.out _ HB7.out).1⟩; have HT7 : Hid (TAt ((w6.setCell ⟨w.heap.size + 1, 0, none⟩ (.string x6)).setCell ⟨w.heap.size + 1, 1, none⟩ (.slice B6 m6 q6)) (fun _ => True) tr (.agg #[.string x6, .slice B6 m6 q6])) := ht6.move (fun k hk ho => ⟨trivial, set2_block w6 _ _ (by have ho : k < w.heap.size \/ w5.heap.size <= k := ho; omega)⟩); clear ht6 hb6 hb6'))
 all_goals go_wp2
 all_goals refine bodyPost_ret (v := .tuple #[.agg #[.string x6, .slice B6 m6 q6], .bool true]) (by simp [results, Tryz.results172, go_sem, rc0, rc1, lr6]) rfl ?_
 all_goals exact ⟨HB7.out, _, _, _, _, rfl, HT7.out⟩
end Go.Proofs.YtpokompplapkhaaGreatDoor

