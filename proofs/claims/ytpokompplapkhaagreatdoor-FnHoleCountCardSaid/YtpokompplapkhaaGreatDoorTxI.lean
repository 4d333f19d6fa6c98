/- The program's text of a value. -/
import Derived.Test.YtpokompplapkhaaGreatDoorNB
import Derived.Test.YtpokompplapkhaaGreatDoorTk
namespace Go.Proofs.YtpokompplapkhaaGreatDoor
set_option maxHeartbeats 4000000
set_option maxRecDepth 100000
open Go.RowKit
set_option linter.unusedVariables false
set_option linter.unusedSimpArgs false
def TxP (v : V) : Prop := ∀ (w : World) (p : Option Addr), VAt w v p -> Calls Tryz.prog 90 #[.pointer p] w fun e w' => e = .returned (.string (St v.toTr.txt)) /\ Below w.heap.size w w'
theorem text_u : TxP .u := by
 rintro w p ⟨g, rfl, hb⟩
 have c0 : w.cell? ⟨g, 0, none⟩ = some (.int .u8 117) := block_cell hb 0
 clear hb
 go_enter Tryz.func90, Tryz.ntmps90
 go_wp2_with fail
 go_ret
 exact ⟨rfl, Below.refl _ _⟩
theorem text_el (s : List UInt8) (hs : s ≠ []) : TxP (.el s) := by
 rintro w p ⟨g, rfl, hb⟩
 have c0 : w.cell? ⟨g, 0, none⟩ = some (.int .u8 101) := block_cell hb 0
 have c1 : w.cell? ⟨g, 1, none⟩ = some (.string (St s)) := block_cell hb 1
 have hr : (V.el s).toTr.txt = s := by simp [V.toTr, Tr.txt, if_neg hs]
 rw [hr]
 clear hb hr
 go_enter Tryz.func90, Tryz.ntmps90
 go_wp2_with fail
 go_ret
 exact ⟨rfl, Below.refl _ _⟩
theorem text_p (x y : V) (hx : x.toTr.txt.length <= 1000000000) (hy : y.toTr.txt.length <= 1000000000) (iha : TxP x) (ihb : TxP y) : TxP (.p x y) := by
 rintro w p ⟨pa, pb, ⟨g, rfl, hb⟩, ha, hb'⟩
 have c0 : w.cell? ⟨g, 0, none⟩ = some (.int .u8 112) := block_cell hb 0
 have hr : (V.p x y).toTr.txt = [40, 112, 32] ++ x.toTr.txt ++ [32] ++ y.toTr.txt ++ [41] := by simp [V.toTr, Tr.txt, Tr.txts]
 have HA : Hid (∀ w1, Below w.heap.size w w1 -> Calls Tryz.prog 90 #[.pointer pa] w1 fun e w' => e = .returned (.string (St x.toTr.txt)) /\ Below w1.heap.size w1 w') := fun w1 h => iha w1 pa (ha.up h)
 have HB : Hid (∀ w1, Below w.heap.size w w1 -> Calls Tryz.prog 90 #[.pointer pb] w1 fun e w' => e = .returned (.string (St y.toTr.txt)) /\ Below w1.heap.size w1 w') := fun w1 h => ihb w1 pb (hb'.up h)
 have HS : Hid (∀ w', Below w.heap.size w w' -> w'.cell? ⟨g, 2, none⟩ = some (.pointer pa) /\ w'.cell? ⟨g, 3, none⟩ = some (.pointer pb)) := fun w' h => ⟨block_cell (block_up h hb) 2, block_cell (block_up h hb) 3⟩
 obtain ⟨c2, c3⟩ := HS.out w (Below.refl _ _)
 rw [hr]
 have lg := lt_of_block hb
 have q0 : ¬ 9223372036854775807 < 3 + x.toTr.txt.length := by omega
 have q1 : ¬ 9223372036854775807 < 3 + x.toTr.txt.length + 1 := by omega
 have q2 : ¬ 9223372036854775807 < 3 + x.toTr.txt.length + 1 + y.toTr.txt.length := by omega
 have q3 : ¬ 9223372036854775807 < 3 + x.toTr.txt.length + 1 + y.toTr.txt.length + 1 := by omega
 generalize x.toTr.txt = ra at *
 generalize y.toTr.txt = rb at *
 have HST : Hid ((⟨#[40, 112, 32]⟩ : ByteArray) ++ St ra ++ ⟨#[32]⟩ ++ St rb ++ ⟨#[41]⟩ = St ([40, 112, 32] ++ ra ++ [32] ++ rb ++ [41])) := by
  show _ = _
  apply ByteArray.ext; simp [ByteArray.data_append]
 generalize [40, 112, 32] ++ ra ++ [32] ++ rb ++ [41] = res at *
 clear hb ha hb' hx hy iha ihb hr
 go_enter Tryz.func90, Tryz.ntmps90
 go_wp2_with fail
 refine wp_region_noPanic ?_
 refine wp_region_held_drew (S := (fun w' => w'.cell? ⟨g, 2, none⟩ = some (.pointer pa) /\ w'.cell? ⟨g, 3, none⟩ = some (.pointer pb))) (by kernel_rfl) (by exact HS.out _ (up_drew (Below.refl _ _))) (fun hHeld => ?_)
 refine tq 0 rfl ?_
 refine tq 1 rfl ?_
 refine tq 2 rfl ?_
 refine tq 3 rfl ?_
 refine tq 7 rfl ?_
 refine tq 8 rfl ?_
 refine tq 9 rfl ?_
 refine tq 10 rfl ?_
 refine tz 4 rfl fun K hK => ?_
 go_simp
 go_at_call 90
 (with_reducible refine (HA.out _ (up_drew (Below.refl _ _))).mono ?_)
 rintro e w2 ⟨rfl, hb2⟩
 have B2 : Hid (Below w.heap.size w w2) := up_trans (up_drew (Below.refl _ _)) hb2
 clear hb2
 refine hK.out _ _ (by exact HS.out _ B2.out) (fun hHeld => ?_)
 clear hK
 try simp only [Act.put, zA, zB, zC, zD, zE, zF]
 refine tq 5 rfl ?_
 refine tq 6 rfl ?_
 refine tz 11 rfl fun K hK => ?_
 go_simp
 go_at_call 90
 (with_reducible refine (HB.out _ B2.out).mono ?_)
 rintro e w3 ⟨rfl, hb3⟩
 have B3 : Hid (Below w.heap.size w w3) := up_trans B2.out hb3
 clear hb3
 refine hK.out _ _ (by exact HS.out _ B3.out) (fun hHeld => ?_)
 clear hK
 try simp only [Act.put, zA, zB, zC, zD, zE, zF]
 refine tq 12 rfl ?_
 refine tq 13 rfl ?_
 refine tq 14 rfl ?_
 refine wpAnyH_done (by kernel_rfl) ?_ _
 refine NoPanic.normal ?_
 all_goals go_wp2
 all_goals go_ret
 all_goals exact ⟨by show _ = Ending.returned (.string (St res)); rw [<- HST.out]; rfl, B3.out⟩
theorem text_l (x : V) (hx : x.toTr.txt.length <= 1000000000) (iha : TxP x) : TxP (.l x) := by
 rintro w p ⟨pa, ⟨g, rfl, hb⟩, ha⟩
 have hr : (V.l x).toTr.txt = [40, 108, 32] ++ x.toTr.txt ++ [41] := by simp [V.toTr, Tr.txt, Tr.txts]
 have HA : Hid (∀ w1, Below w.heap.size w w1 -> Calls Tryz.prog 90 #[.pointer pa] w1 fun e w' => e = .returned (.string (St x.toTr.txt)) /\ Below w1.heap.size w1 w') := fun w1 h => iha w1 pa (ha.up h)
 have HS : Hid (∀ w', Below w.heap.size w w' -> w'.cell? ⟨g, 0, none⟩ = some (.int .u8 108) /\ w'.cell? ⟨g, 2, none⟩ = some (.pointer pa)) := fun w' h => ⟨block_cell (block_up h hb) 0, block_cell (block_up h hb) 2⟩
 obtain ⟨c0, c2⟩ := HS.out w (Below.refl _ _)
 have hsz : ∀ z, (strOfNums [z]).size = 1 := fun z => strOfNums_size _
 have kc : ∀ (W : World) (g : Nat) (z : Int), W.cell? ⟨g, 0, none⟩ = some (.int .u8 z) -> (convert 35 9 (.slice (some ⟨g, 0, none⟩) 1 1)).run Tryz.prog W = .ok (.string (strOfNums [z])) W := fun W g z hc =>
  run_convert_bytes_arg (P := Tryz.prog) _ 35 5 Tryz.underlying35 Tryz.underlying5 g 0 1 1 [_] rfl (fun i hi => by
   obtain rfl : i = 0 := by omega
   exact hc) 9 Tryz.underlying9
 rw [hr]
 have lg := lt_of_block hb
 have q0 : ¬ 9223372036854775807 < 3 + x.toTr.txt.length := by omega
 have q1 : ¬ 9223372036854775807 < 3 + x.toTr.txt.length + 1 := by omega
 generalize x.toTr.txt = ra at *
 have HST : Hid ((⟨#[40]⟩ : ByteArray) ++ strOfNums [108] ++ ⟨#[32]⟩ ++ St ra ++ ⟨#[41]⟩ = St ([40, 108, 32] ++ ra ++ [41])) := by
  show _ = _
  apply ByteArray.ext; simp [ByteArray.data_append, strOfNums]
 generalize [40, 108, 32] ++ ra ++ [41] = res at *
 clear hb ha hx iha hr
 go_enter Tryz.func90, Tryz.ntmps90
 go_wp2_with fail
 refine wp_region_noPanic ?_
 refine wp_region_held_drew (S := (fun w' => w'.cell? ⟨g, 0, none⟩ = some (.int .u8 108) /\ w'.cell? ⟨g, 2, none⟩ = some (.pointer pa))) (by kernel_rfl) (by exact HS.out _ (up_drew (Below.refl _ _))) (fun hHeld => ?_)
 refine tq 0 rfl ?_
 refine tq 1 rfl ?_
 refine tq 2 rfl ?_
 refine tq 3 rfl ?_
 refine tq 8 rfl ?_
 refine tq 9 rfl ?_
 refine tq 10 rfl ?_
 refine tq 11 rfl ?_
 refine wpAnyH_ready (rs := [4, 12]) (by kernel_rfl) (by simp) ?_
 refine AllReadyH.cons rfl (fun K hK => ?_) (AllReadyH.cons rfl (fun K hK => ?_) AllReadyH.nil)
 · skip
   go_simp
   refine hK.out _ _ (by exact HS.out _ (up_alloc (up_drew (Below.refl _ _)) _)) (fun hHeld => ?_)
   clear hK
   try simp only [Act.put, zA, zB, zC, zD, zE, zF]
   refine wpAnyH_more (C := fun W => W.cell? ⟨w.heap.size, 0, none⟩ = some (.int .u8 108)) (by assumption) (by exact block_cell (block_new _ _) 0) (fun hHeld2 => ?_)
   clear hHeld
   have hHeld := hHeld2
   refine tq 5 rfl ?_
   refine tq 6 rfl ?_
   refine tq 7 rfl ?_
   refine tz 12 rfl fun K hK => ?_
   go_simp
   go_at_call 90
   (with_reducible refine (HA.out _ (up_drew (up_alloc (Below.refl _ _) _))).mono ?_)
   rintro e w2 ⟨rfl, hb2⟩
   have B2 : Hid (Below w.heap.size w w2) := up_trans (up_drew (up_alloc (Below.refl _ _) _)) hb2
   have C2 : w2.cell? ⟨w.heap.size, 0, none⟩ = some (.int .u8 108) := cell_up hb2 (by exact block_cell (block_new w _) 0)
   clear hb2
   refine hK.out _ _ (by exact ⟨HS.out _ B2.out, C2⟩) (fun hHeld => ?_)
   clear hK
   try simp only [Act.put, zA, zB, zC, zD, zE, zF]
   refine tq 13 rfl ?_
   refine tq 14 rfl ?_
   refine tq 15 rfl ?_
   refine wpAnyH_done (by kernel_rfl) ?_ _
   refine NoPanic.normal ?_
   go_wp2
   go_ret
   exact ⟨by show _ = Ending.returned (.string (St res)); rw [<- HST.out]; rfl, B2.out⟩
 · skip
   go_simp
   go_at_call 90
   (with_reducible refine (HA.out _ (up_drew (Below.refl _ _))).mono ?_)
   rintro e w2 ⟨rfl, hb2⟩
   have B2 : Hid (Below w.heap.size w w2) := up_trans (up_drew (Below.refl _ _)) hb2
   clear hb2
   refine hK.out _ _ (by exact HS.out _ B2.out) (fun hHeld => ?_)
   clear hK
   try simp only [Act.put, zA, zB, zC, zD, zE, zF]
   refine tz 4 rfl fun K hK => ?_
   go_simp
   refine hK.out _ _ (by exact HS.out _ (up_alloc B2.out _)) (fun hHeld => ?_)
   clear hK
   try simp only [Act.put, zA, zB, zC, zD, zE, zF]
   refine wpAnyH_more (C := fun W => W.cell? ⟨w2.heap.size, 0, none⟩ = some (.int .u8 108)) (by assumption) (by exact block_cell (block_new _ _) 0) (fun hHeld2 => ?_)
   clear hHeld
   have hHeld := hHeld2
   refine tq 5 rfl ?_
   refine tq 6 rfl ?_
   refine tq 7 rfl ?_
   refine tq 13 rfl ?_
   refine tq 14 rfl ?_
   refine tq 15 rfl ?_
   refine wpAnyH_done (by kernel_rfl) ?_ _
   refine NoPanic.normal ?_
   go_wp2
   go_ret
   exact ⟨by show _ = Ending.returned (.string (St res)); rw [<- HST.out]; rfl, up_alloc B2.out _⟩
theorem text_r (x : V) (hx : x.toTr.txt.length <= 1000000000) (iha : TxP x) : TxP (.r x) := by
 rintro w p ⟨pa, ⟨g, rfl, hb⟩, ha⟩
 have hr : (V.r x).toTr.txt = [40, 114, 32] ++ x.toTr.txt ++ [41] := by simp [V.toTr, Tr.txt, Tr.txts]
 have HA : Hid (∀ w1, Below w.heap.size w w1 -> Calls Tryz.prog 90 #[.pointer pa] w1 fun e w' => e = .returned (.string (St x.toTr.txt)) /\ Below w1.heap.size w1 w') := fun w1 h => iha w1 pa (ha.up h)
 have HS : Hid (∀ w', Below w.heap.size w w' -> w'.cell? ⟨g, 0, none⟩ = some (.int .u8 114) /\ w'.cell? ⟨g, 2, none⟩ = some (.pointer pa)) := fun w' h => ⟨block_cell (block_up h hb) 0, block_cell (block_up h hb) 2⟩
 obtain ⟨c0, c2⟩ := HS.out w (Below.refl _ _)
 have hsz : ∀ z, (strOfNums [z]).size = 1 := fun z => strOfNums_size _
 have kc : ∀ (W : World) (g : Nat) (z : Int), W.cell? ⟨g, 0, none⟩ = some (.int .u8 z) -> (convert 35 9 (.slice (some ⟨g, 0, none⟩) 1 1)).run Tryz.prog W = .ok (.string (strOfNums [z])) W := fun W g z hc =>
  run_convert_bytes_arg (P := Tryz.prog) _ 35 5 Tryz.underlying35 Tryz.underlying5 g 0 1 1 [_] rfl (fun i hi => by
   obtain rfl : i = 0 := by omega
   exact hc) 9 Tryz.underlying9
 rw [hr]
 have lg := lt_of_block hb
 have q0 : ¬ 9223372036854775807 < 3 + x.toTr.txt.length := by omega
 have q1 : ¬ 9223372036854775807 < 3 + x.toTr.txt.length + 1 := by omega
 generalize x.toTr.txt = ra at *
 have HST : Hid ((⟨#[40]⟩ : ByteArray) ++ strOfNums [114] ++ ⟨#[32]⟩ ++ St ra ++ ⟨#[41]⟩ = St ([40, 114, 32] ++ ra ++ [41])) := by
  show _ = _
  apply ByteArray.ext; simp [ByteArray.data_append, strOfNums]
 generalize [40, 114, 32] ++ ra ++ [41] = res at *
 clear hb ha hx iha hr
 go_enter Tryz.func90, Tryz.ntmps90
 go_wp2_with fail
 refine wp_region_noPanic ?_
 refine wp_region_held_drew (S := (fun w' => w'.cell? ⟨g, 0, none⟩ = some (.int .u8 114) /\ w'.cell? ⟨g, 2, none⟩ = some (.pointer pa))) (by kernel_rfl) (by exact HS.out _ (up_drew (Below.refl _ _))) (fun hHeld => ?_)
 refine tq 0 rfl ?_
 refine tq 1 rfl ?_
 refine tq 2 rfl ?_
 refine tq 3 rfl ?_
 refine tq 8 rfl ?_
 refine tq 9 rfl ?_
 refine tq 10 rfl ?_
 refine tq 11 rfl ?_
 refine wpAnyH_ready (rs := [4, 12]) (by kernel_rfl) (by simp) ?_
 refine AllReadyH.cons rfl (fun K hK => ?_) (AllReadyH.cons rfl (fun K hK => ?_) AllReadyH.nil)
 · skip
   go_simp
   refine hK.out _ _ (by exact HS.out _ (up_alloc (up_drew (Below.refl _ _)) _)) (fun hHeld => ?_)
   clear hK
   try simp only [Act.put, zA, zB, zC, zD, zE, zF]
   refine wpAnyH_more (C := fun W => W.cell? ⟨w.heap.size, 0, none⟩ = some (.int .u8 114)) (by assumption) (by exact block_cell (block_new _ _) 0) (fun hHeld2 => ?_)
   clear hHeld
   have hHeld := hHeld2
   refine tq 5 rfl ?_
   refine tq 6 rfl ?_
   refine tq 7 rfl ?_
   refine tz 12 rfl fun K hK => ?_
   go_simp
   go_at_call 90
   (with_reducible refine (HA.out _ (up_drew (up_alloc (Below.refl _ _) _))).mono ?_)
   rintro e w2 ⟨rfl, hb2⟩
   have B2 : Hid (Below w.heap.size w w2) := up_trans (up_drew (up_alloc (Below.refl _ _) _)) hb2
   have C2 : w2.cell? ⟨w.heap.size, 0, none⟩ = some (.int .u8 114) := cell_up hb2 (by exact block_cell (block_new w _) 0)
   clear hb2
   refine hK.out _ _ (by exact ⟨HS.out _ B2.out, C2⟩) (fun hHeld => ?_)
   clear hK
   try simp only [Act.put, zA, zB, zC, zD, zE, zF]
   refine tq 13 rfl ?_
   refine tq 14 rfl ?_
   refine tq 15 rfl ?_
   refine wpAnyH_done (by kernel_rfl) ?_ _
   refine NoPanic.normal ?_
   go_wp2
   go_ret
   exact ⟨by show _ = Ending.returned (.string (St res)); rw [<- HST.out]; rfl, B2.out⟩
 · skip
   go_simp
   go_at_call 90
   (with_reducible refine (HA.out _ (up_drew (Below.refl _ _))).mono ?_)
   rintro e w2 ⟨rfl, hb2⟩
   have B2 : Hid (Below w.heap.size w w2) := up_trans (up_drew (Below.refl _ _)) hb2
   clear hb2
   refine hK.out _ _ (by exact HS.out _ B2.out) (fun hHeld => ?_)
   clear hK
   try simp only [Act.put, zA, zB, zC, zD, zE, zF]
   refine tz 4 rfl fun K hK => ?_
   go_simp
   refine hK.out _ _ (by exact HS.out _ (up_alloc B2.out _)) (fun hHeld => ?_)
   clear hK
   try simp only [Act.put, zA, zB, zC, zD, zE, zF]
   refine wpAnyH_more (C := fun W => W.cell? ⟨w2.heap.size, 0, none⟩ = some (.int .u8 114)) (by assumption) (by exact block_cell (block_new _ _) 0) (fun hHeld2 => ?_)
   clear hHeld
   have hHeld := hHeld2
   refine tq 5 rfl ?_
   refine tq 6 rfl ?_
   refine tq 7 rfl ?_
   refine tq 13 rfl ?_
   refine tq 14 rfl ?_
   refine tq 15 rfl ?_
   refine wpAnyH_done (by kernel_rfl) ?_ _
   refine NoPanic.normal ?_
   go_wp2
   go_ret
   exact ⟨by show _ = Ending.returned (.string (St res)); rw [<- HST.out]; rfl, up_alloc B2.out _⟩
theorem text_f (x : V) (hx : x.toTr.txt.length <= 1000000000) (iha : TxP x) : TxP (.f x) := by
 rintro w p ⟨pa, ⟨g, rfl, hb⟩, ha⟩
 have hr : (V.f x).toTr.txt = [40, 102, 32] ++ x.toTr.txt ++ [41] := by simp [V.toTr, Tr.txt, Tr.txts]
 have HA : Hid (∀ w1, Below w.heap.size w w1 -> Calls Tryz.prog 90 #[.pointer pa] w1 fun e w' => e = .returned (.string (St x.toTr.txt)) /\ Below w1.heap.size w1 w') := fun w1 h => iha w1 pa (ha.up h)
 have HS : Hid (∀ w', Below w.heap.size w w' -> w'.cell? ⟨g, 0, none⟩ = some (.int .u8 102) /\ w'.cell? ⟨g, 2, none⟩ = some (.pointer pa)) := fun w' h => ⟨block_cell (block_up h hb) 0, block_cell (block_up h hb) 2⟩
 obtain ⟨c0, c2⟩ := HS.out w (Below.refl _ _)
 have hsz : ∀ z, (strOfNums [z]).size = 1 := fun z => strOfNums_size _
 have kc : ∀ (W : World) (g : Nat) (z : Int), W.cell? ⟨g, 0, none⟩ = some (.int .u8 z) -> (convert 35 9 (.slice (some ⟨g, 0, none⟩) 1 1)).run Tryz.prog W = .ok (.string (strOfNums [z])) W := fun W g z hc =>
  run_convert_bytes_arg (P := Tryz.prog) _ 35 5 Tryz.underlying35 Tryz.underlying5 g 0 1 1 [_] rfl (fun i hi => by
   obtain rfl : i = 0 := by omega
   exact hc) 9 Tryz.underlying9
 rw [hr]
 have lg := lt_of_block hb
 have q0 : ¬ 9223372036854775807 < 3 + x.toTr.txt.length := by omega
 have q1 : ¬ 9223372036854775807 < 3 + x.toTr.txt.length + 1 := by omega
 generalize x.toTr.txt = ra at *
 have HST : Hid ((⟨#[40]⟩ : ByteArray) ++ strOfNums [102] ++ ⟨#[32]⟩ ++ St ra ++ ⟨#[41]⟩ = St ([40, 102, 32] ++ ra ++ [41])) := by
  show _ = _
  apply ByteArray.ext; simp [ByteArray.data_append, strOfNums]
 generalize [40, 102, 32] ++ ra ++ [41] = res at *
 clear hb ha hx iha hr
 go_enter Tryz.func90, Tryz.ntmps90
 go_wp2_with fail
 refine wp_region_noPanic ?_
 refine wp_region_held_drew (S := (fun w' => w'.cell? ⟨g, 0, none⟩ = some (.int .u8 102) /\ w'.cell? ⟨g, 2, none⟩ = some (.pointer pa))) (by kernel_rfl) (by exact HS.out _ (up_drew (Below.refl _ _))) (fun hHeld => ?_)
 refine tq 0 rfl ?_
 refine tq 1 rfl ?_
 refine tq 2 rfl ?_
 refine tq 3 rfl ?_
 refine tq 8 rfl ?_
 refine tq 9 rfl ?_
 refine tq 10 rfl ?_
 refine tq 11 rfl ?_
 refine wpAnyH_ready (rs := [4, 12]) (by kernel_rfl) (by simp) ?_
 refine AllReadyH.cons rfl (fun K hK => ?_) (AllReadyH.cons rfl (fun K hK => ?_) AllReadyH.nil)
 · skip
   go_simp
   refine hK.out _ _ (by exact HS.out _ (up_alloc (up_drew (Below.refl _ _)) _)) (fun hHeld => ?_)
   clear hK
   try simp only [Act.put, zA, zB, zC, zD, zE, zF]
   refine wpAnyH_more (C := fun W => W.cell? ⟨w.heap.size, 0, none⟩ = some (.int .u8 102)) (by assumption) (by exact block_cell (block_new _ _) 0) (fun hHeld2 => ?_)
   clear hHeld
   have hHeld := hHeld2
   refine tq 5 rfl ?_
   refine tq 6 rfl ?_
   refine tq 7 rfl ?_
   refine tz 12 rfl fun K hK => ?_
   go_simp
   go_at_call 90
   (with_reducible refine (HA.out _ (up_drew (up_alloc (Below.refl _ _) _))).mono ?_)
   rintro e w2 ⟨rfl, hb2⟩
   have B2 : Hid (Below w.heap.size w w2) := up_trans (up_drew (up_alloc (Below.refl _ _) _)) hb2
   have C2 : w2.cell? ⟨w.heap.size, 0, none⟩ = some (.int .u8 102) := cell_up hb2 (by exact block_cell (block_new w _) 0)
   clear hb2
   refine hK.out _ _ (by exact ⟨HS.out _ B2.out, C2⟩) (fun hHeld => ?_)
   clear hK
   try simp only [Act.put, zA, zB, zC, zD, zE, zF]
   refine tq 13 rfl ?_
   refine tq 14 rfl ?_
   refine tq 15 rfl ?_
   refine wpAnyH_done (by kernel_rfl) ?_ _
   refine NoPanic.normal ?_
   go_wp2
   go_ret
   exact ⟨by show _ = Ending.returned (.string (St res)); rw [<- HST.out]; rfl, B2.out⟩
 · skip
   go_simp
   go_at_call 90
   (with_reducible refine (HA.out _ (up_drew (Below.refl _ _))).mono ?_)
   rintro e w2 ⟨rfl, hb2⟩
   have B2 : Hid (Below w.heap.size w w2) := up_trans (up_drew (Below.refl _ _)) hb2
   clear hb2
   refine hK.out _ _ (by exact HS.out _ B2.out) (fun hHeld => ?_)
   clear hK
   try simp only [Act.put, zA, zB, zC, zD, zE, zF]
   refine tz 4 rfl fun K hK => ?_
   go_simp
   refine hK.out _ _ (by exact HS.out _ (up_alloc B2.out _)) (fun hHeld => ?_)
   clear hK
   try simp only [Act.put, zA, zB, zC, zD, zE, zF]
   refine wpAnyH_more (C := fun W => W.cell? ⟨w2.heap.size, 0, none⟩ = some (.int .u8 102)) (by assumption) (by exact block_cell (block_new _ _) 0) (fun hHeld2 => ?_)
   clear hHeld
   have hHeld := hHeld2
   refine tq 5 rfl ?_
   refine tq 6 rfl ?_
   refine tq 7 rfl ?_
   refine tq 13 rfl ?_
   refine tq 14 rfl ?_
   refine tq 15 rfl ?_
   refine wpAnyH_done (by kernel_rfl) ?_ _
   refine NoPanic.normal ?_
   go_wp2
   go_ret
   exact ⟨by show _ = Ending.returned (.string (St res)); rw [<- HST.out]; rfl, up_alloc B2.out _⟩
theorem text_any : ∀ (v : V), v.ok -> v.nodes <= 100000000 -> TxP v
 | .u, _, _ => text_u
 | .el s, h, _ => text_el s (elemB_form h).1
 | .l x, h, hn => by
  simp only [V.nodes] at hn
  have := V.len_nodes (v := x) h
  exact text_l x (by omega) (text_any x h (by omega))
 | .r x, h, hn => by
  simp only [V.nodes] at hn
  have := V.len_nodes (v := x) h
  exact text_r x (by omega) (text_any x h (by omega))
 | .f x, h, hn => by
  simp only [V.nodes] at hn
  have := V.len_nodes (v := x) h
  exact text_f x (by omega) (text_any x h (by omega))
 | .p x y, h, hn => by
  simp only [V.nodes] at hn
  have := V.len_nodes h.1
  have := V.len_nodes h.2
  exact text_p x y (by omega) (by omega) (text_any x h.1 (by omega)) (text_any y h.2 (by omega))
end Go.Proofs.YtpokompplapkhaaGreatDoor

