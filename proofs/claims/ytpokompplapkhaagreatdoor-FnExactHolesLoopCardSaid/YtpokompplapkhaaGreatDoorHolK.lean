/- The reference's l4Loop, HolesLoop. -/
import Derived.Test.YtpokompplapkhaaGreatDoorHolF
import Derived.Test.YtpokompplapkhaaGreatDoorHolL
import Derived.Test.YtpokompplapkhaaGreatDoorTk
namespace Go.Proofs.YtpokompplapkhaaGreatDoor
open Go.RowKit
set_option linter.unusedVariables false
set_option linter.unusedSimpArgs false
set_option linter.constructorNameAsVariable false


set_option maxHeartbeats 8000000 in
set_option maxRecDepth 100000 in
theorem l4Loop_none (s : ByteArray) (w : World) (hs : s.size ≤ 9223372036854775807) (hc : clTy s.data.toList = none) : Calls Tryz.prog 61 #[.string s] w fun e w' => Below w.heap.size w w' ∧ ∃ x A n c, e = .returned (.tuple #[.agg #[.string x, .slice A n c], .bool false]) := by
  have HC := Lib.hid fun w1 => (l1Closed_any s w1 hs).mono (fun e w' (h : CLPost w1 (rdTy s.data.toList) e w') => (show Below w1.heap.size w1 w' ∧ ∃ x A n' c, e = .returned (.tuple #[.agg #[.string x, .slice A n' c], .bool false]) from ⟨h.1, by obtain ⟨_, x, A, n', c, he, _⟩ := h; exact ⟨x, A, n', c, by rw [he, clTy_none hc]⟩⟩))
  clear hs hc
  go_enter Tryz.func61, Tryz.ntmps61
  go_wp2_with (go_at_call 48; (with_reducible refine (HC.out _).mono ?_); rintro e w1 ⟨hb1, x1, A1, m1, c1, rfl⟩; have G0 := Lib.hid (block_up hb1 (block_new w (.cells #[.string ⟨#[]⟩, .slice none 0 0] 59))); have HB1 := Lib.hid (up_trans (up1 w (.cells #[.string ⟨#[]⟩, .slice none 0 0] 59)) hb1); clear hb1)
  have BW := up1 w1 (.cells #[.string x1, .slice A1 m1 c1] 59)
  have CW := block_new w1 (.cells #[.string x1, .slice A1 m1 c1] 59)
  have lw1 := lt_of_block G0.out
  generalize (w1.alloc (.cells #[.string x1, .slice A1 m1 c1] 59)) = W1 at *
  have HBW : Hid (Below w.heap.size w W1) := up_trans HB1.out BW
  have G0W := Lib.hid (block_up BW G0.out)
  have HS : Hid (∀ w', Below W1.heap.size W1 w' → w'.cell? ⟨w1.heap.size, 0, none⟩ = some (.string x1) ∧ w'.cell? ⟨w1.heap.size, 1, none⟩ = some (.slice A1 m1 c1)) := fun w' h => ⟨block_cell (block_up h CW) 0, block_cell (block_up h CW) 1⟩
  have HS9 : Hid (∀ w5 w' : World, Below W1.heap.size W1 w5 → (∀ k, k ≠ w.heap.size → w'.heap[k]? = w5.heap[k]?) → w'.cell? ⟨w1.heap.size, 0, none⟩ = some (.string x1) ∧ w'.cell? ⟨w1.heap.size, 1, none⟩ = some (.slice A1 m1 c1)) := fun w5 w' hb h => by
    have e := (h w1.heap.size (by omega)).trans (hb.block _ (lt_of_block CW))
    have hx := CW
    rw [← e] at hx
    exact ⟨block_cell hx 0, block_cell hx 1⟩
  obtain ⟨s0, s1⟩ := HS.out W1 (Below.refl _ _)
  have K0 := G0W.out
  have cz0 := block_cell K0 0
  have cz1 := block_cell K0 1
  have fz0 := block_free K0 0
  have fz1 := block_free K0 1
  have lz0 := lt_of_block K0
  clear BW CW
  refine wp_region_noPanic ?_
  refine wp_region_held_drew (S := (fun w' => w'.cell? ⟨w1.heap.size, 0, none⟩ = some (.string x1) ∧ w'.cell? ⟨w1.heap.size, 1, none⟩ = some (.slice A1 m1 c1))) (by kernel_rfl) (by exact HS.out _ (up_drew (Below.refl _ _))) (fun hHeld => ?_)
  refine tk 0 ?_ rfl ?_ ?_
  rotate_left
  · intro W hSW; (try dsimp only at hSW); go_simp; try with_reducible rfl
  try simp only [Act.put, zA, zB, zC, zD, zE, zF]
  refine tk 1 ?_ rfl ?_ ?_
  rotate_left
  · intro W hSW; (try dsimp only at hSW); go_simp; try with_reducible rfl
  try simp only [Act.put, zA, zB, zC, zD, zE, zF]
  refine tk 2 ?_ rfl ?_ ?_
  rotate_left
  · intro W hSW; (try dsimp only at hSW); go_simp; try with_reducible rfl
  try simp only [Act.put, zA, zB, zC, zD, zE, zF]
  refine tn 3 rfl ?_
  try simp only [Act.put, zA, zB, zC, zD, zE, zF]
  refine tn 4 rfl ?_
  try simp only [Act.put, zA, zB, zC, zD, zE, zF]
  refine tn 5 rfl ?_
  try simp only [Act.put, zA, zB, zC, zD, zE, zF]
  refine tk 6 ?_ rfl ?_ ?_
  rotate_left
  · intro W hSW; (try dsimp only at hSW); go_simp; try with_reducible rfl
  try simp only [Act.put, zA, zB, zC, zD, zE, zF]
  refine wpAnyH_ready (rs := [7]) (by kernel_rfl) (by simp) ?_
  refine AllReadyH.cons rfl (fun K hK => ?_) AllReadyH.nil
  go_simp
  refine hK.out _ _ (by exact HS9.out W1 _ (Below.refl _ _) (by intro k hk; exact set_far hk _ _)) (fun hHeld => ?_)
  clear hK
  try simp only [Act.put, zA, zB, zC, zD, zE, zF]
  refine tk 8 ?_ rfl ?_ ?_
  rotate_left
  · intro W hSW; (try dsimp only at hSW); go_simp; try with_reducible rfl
  try simp only [Act.put, zA, zB, zC, zD, zE, zF]
  refine wpAnyH_done (by kernel_rfl) ?_ _
  refine NoPanic.normal ?_
  go_wp2
  refine bodyPost_ret (v := .tuple #[.agg #[.string x1, .slice A1 m1 c1], .bool false]) (by simp [results, Tryz.results61, go_sem, cz0, cz1, lz0]) rfl ?_
  exact ⟨set0 (set0 (up_trans HBW.out (up_drew (Below.refl _ _))) (Nat.le_refl _)) (Nat.le_refl _), _, _, _, _, rfl⟩
set_option maxHeartbeats 8000000 in
set_option maxRecDepth 100000 in
theorem l4Loop_no (s : ByteArray) (w : World) (hs : s.size ≤ 9223372036854775807) (N : NT) (hc : clTy s.data.toList = some N) (hl : isLoop N = false) : Calls Tryz.prog 61 #[.string s] w fun e w' => Below w.heap.size w w' ∧ ∃ x A n c, e = .returned (.tuple #[.agg #[.string x, .slice A n c], .bool false]) ∧ TAt w' (fun _ => True) N.toTr (.agg #[.string x, .slice A n c]) := by
  have HC := Lib.hid fun w1 => (l1Closed_any s w1 hs).mono (fun e w' (h : CLPost w1 (rdTy s.data.toList) e w') => (show Below w1.heap.size w1 w' ∧ ∃ x A n' c, e = .returned (.tuple #[.agg #[.string x, .slice A n' c], .bool true]) ∧ TAt w' (fun k => w1.heap.size < k) N.toTr (.agg #[.string x, .slice A n' c]) from ⟨h.1, by obtain ⟨_, x, A, n', c, he, ht⟩ := h; exact ⟨x, A, n', c, by rw [he, clTy_closed hc], ht N (clTy_some hc).1⟩⟩))
  have hh : ∃ h, headOf N.toTr = h ∧ h ≠ [114, 101, 99] := by
    cases N with
    | zero => exact ⟨[], rfl, by decide⟩
    | one => exact ⟨[], rfl, by decide⟩
    | name x => exact ⟨[], by simp only [NT.toTr, headOf]; split <;> rfl, by decide⟩
    | sum a b => exact ⟨[43], rfl, by decide⟩
    | prod a b => exact ⟨[42], rfl, by decide⟩
    | loop y a => cases hl
  obtain ⟨h, hh, hne⟩ := hh
  have q1 : (h != [114, 101, 99]) = true := bne_iff_ne.2 hne
  have q2 : (h == [114, 101, 99]) = false := St_ne hne
  have HH : Hid (∀ w1 v, TAt w1 (fun _ => True) N.toTr v → Calls Tryz.prog 125 #[v] w1 fun e w' => e = .returned (.string (St h)) ∧ Below w1.heap.size w1 w') := fun w1 v hp => by
    have := l1Head_any N.toTr v w1 hp
    rw [hh] at this
    exact this
  clear hs hc hl hh hne
  go_enter Tryz.func61, Tryz.ntmps61
  go_wp2_with (go_at_call 48; (with_reducible refine (HC.out _).mono ?_); rintro e w1 ⟨hb1, x1, A1, m1, c1, rfl, ht1⟩; have G0 := Lib.hid (block_up hb1 (block_new w (.cells #[.string ⟨#[]⟩, .slice none 0 0] 59))); have HB1 := Lib.hid (up_trans (up1 w (.cells #[.string ⟨#[]⟩, .slice none 0 0] 59)) hb1); have HT1 := Lib.hid ht1; clear hb1 ht1)
  have BW := up1 w1 (.cells #[.string x1, .slice A1 m1 c1] 59)
  have CW := block_new w1 (.cells #[.string x1, .slice A1 m1 c1] 59)
  have lw1 := lt_of_block G0.out
  generalize (w1.alloc (.cells #[.string x1, .slice A1 m1 c1] 59)) = W1 at *
  have HBW : Hid (Below w.heap.size w W1) := up_trans HB1.out BW
  have G0W := Lib.hid (block_up BW G0.out)
  have HS : Hid (∀ w', Below W1.heap.size W1 w' → w'.cell? ⟨w1.heap.size, 0, none⟩ = some (.string x1) ∧ w'.cell? ⟨w1.heap.size, 1, none⟩ = some (.slice A1 m1 c1)) := fun w' h => ⟨block_cell (block_up h CW) 0, block_cell (block_up h CW) 1⟩
  have HS9 : Hid (∀ w5 w' : World, Below W1.heap.size W1 w5 → (∀ k, k ≠ w.heap.size → w'.heap[k]? = w5.heap[k]?) → w'.cell? ⟨w1.heap.size, 0, none⟩ = some (.string x1) ∧ w'.cell? ⟨w1.heap.size, 1, none⟩ = some (.slice A1 m1 c1)) := fun w5 w' hb h => by
    have e := (h w1.heap.size (by omega)).trans (hb.block _ (lt_of_block CW))
    have hx := CW
    rw [← e] at hx
    exact ⟨block_cell hx 0, block_cell hx 1⟩
  have HTW : Hid (TAt W1 (fun k => w.heap.size < k) N.toTr (.agg #[.string x1, .slice A1 m1 c1])) := (HT1.out.up BW).weak fun k hk => by
    have : (w.alloc (.cells #[.string ⟨#[]⟩, .slice none 0 0] 59)).heap.size < k := hk
    simp at this
    omega
  obtain ⟨s0, s1⟩ := HS.out W1 (Below.refl _ _)
  clear BW CW
  refine wp_region_noPanic ?_
  refine wp_region_held_drew (S := (fun w' => w'.cell? ⟨w1.heap.size, 0, none⟩ = some (.string x1) ∧ w'.cell? ⟨w1.heap.size, 1, none⟩ = some (.slice A1 m1 c1))) (by kernel_rfl) (by exact HS.out _ (up_drew (Below.refl _ _))) (fun hHeld => ?_)
  refine tk 0 ?_ rfl ?_ ?_
  rotate_left
  · intro W hSW; (try dsimp only at hSW); go_simp; try with_reducible rfl
  try simp only [Act.put, zA, zB, zC, zD, zE, zF]
  refine tk 1 ?_ rfl ?_ ?_
  rotate_left
  · intro W hSW; (try dsimp only at hSW); go_simp; try with_reducible rfl
  try simp only [Act.put, zA, zB, zC, zD, zE, zF]
  refine tk 2 ?_ rfl ?_ ?_
  rotate_left
  · intro W hSW; (try dsimp only at hSW); go_simp; try with_reducible rfl
  try simp only [Act.put, zA, zB, zC, zD, zE, zF]
  refine tk 3 ?_ rfl ?_ ?_
  rotate_left
  · intro W hSW; (try dsimp only at hSW); go_simp; try with_reducible rfl
  try simp only [Act.put, zA, zB, zC, zD, zE, zF]
  refine wpAnyH_ready (rs := [4]) (by kernel_rfl) (by simp) ?_
  refine AllReadyH.cons rfl (fun K hK => ?_) AllReadyH.nil
  go_simp
  go_at_call 125
  (with_reducible refine (HH.out _ _ ((HTW.out.up (up_drew (Below.refl _ _))).weak fun _ _ => trivial)).mono ?_)
  rintro e w5 ⟨rfl, hb5⟩
  have HB5 : Hid (Below W1.heap.size W1 w5) := up_trans (up_drew (Below.refl _ _)) hb5
  clear hb5
  have K0 := block_up HB5.out G0W.out
  have cz0 := block_cell K0 0
  have cz1 := block_cell K0 1
  have fz0 := block_free K0 0
  have fz1 := block_free K0 1
  have lz0 := lt_of_block K0
  refine hK.out _ _ (by exact HS.out _ HB5.out) (fun hHeld => ?_)
  clear hK
  try simp only [Act.put, zA, zB, zC, zD, zE, zF]
  refine tk 5 ?_ rfl ?_ ?_
  rotate_left
  · intro W hSW; (try dsimp only at hSW); go_simp; try with_reducible rfl
  try simp only [Act.put, zA, zB, zC, zD, zE, zF]
  refine tk 6 ?_ rfl ?_ ?_
  rotate_left
  · intro W hSW; (try dsimp only at hSW); go_simp; try with_reducible rfl
  try simp only [Act.put, zA, zB, zC, zD, zE, zF]
  refine wpAnyH_ready (rs := [7]) (by kernel_rfl) (by simp) ?_
  refine AllReadyH.cons rfl (fun K hK => ?_) AllReadyH.nil
  go_simp
  refine hK.out _ _ (by exact HS9.out w5 _ HB5.out (by intro k hk; exact set_far hk _ _)) (fun hHeld => ?_)
  clear hK
  try simp only [Act.put, zA, zB, zC, zD, zE, zF]
  refine tk 8 ?_ rfl ?_ ?_
  rotate_left
  · intro W hSW; (try dsimp only at hSW); go_simp; try with_reducible rfl
  try simp only [Act.put, zA, zB, zC, zD, zE, zF]
  refine wpAnyH_done (by kernel_rfl) ?_ _
  refine NoPanic.normal ?_
  go_wp2
  refine bodyPost_ret (v := .tuple #[.agg #[.string x1, .slice A1 m1 c1], .bool false]) (by simp [results, Tryz.results61, go_sem, cz0, cz1, lz0]) rfl ?_
  exact ⟨set0 (set0 (up_trans HBW.out HB5.out) (Nat.le_refl _)) (Nat.le_refl _), _, _, _, _, rfl, (HTW.out.up HB5.out).move fun k hk hok => ⟨trivial, set_far (by have : w.heap.size < k := hok; omega) _ _⟩⟩
set_option maxHeartbeats 8000000 in
set_option maxRecDepth 100000 in
theorem l4Loop_yes (s : ByteArray) (w : World) (hs : s.size ≤ 9223372036854775807) (N : NT) (hc : clTy s.data.toList = some N) (hl : isLoop N = true) : Calls Tryz.prog 61 #[.string s] w fun e w' => Below w.heap.size w w' ∧ ∃ x A n c, e = .returned (.tuple #[.agg #[.string x, .slice A n c], .bool true]) ∧ TAt w' (fun _ => True) N.toTr (.agg #[.string x, .slice A n c]) := by
  have HC := Lib.hid fun w1 => (l1Closed_any s w1 hs).mono (fun e w' (h : CLPost w1 (rdTy s.data.toList) e w') => (show Below w1.heap.size w1 w' ∧ ∃ x A n' c, e = .returned (.tuple #[.agg #[.string x, .slice A n' c], .bool true]) ∧ TAt w' (fun k => w1.heap.size < k) N.toTr (.agg #[.string x, .slice A n' c]) from ⟨h.1, by obtain ⟨_, x, A, n', c, he, ht⟩ := h; exact ⟨x, A, n', c, by rw [he, clTy_closed hc], ht N (clTy_some hc).1⟩⟩))
  have hh : headOf N.toTr = [114, 101, 99] := by
    cases N with
    | loop y a => rfl
    | _ => cases hl
  have HH : Hid (∀ w1 v, TAt w1 (fun _ => True) N.toTr v → Calls Tryz.prog 125 #[v] w1 fun e w' => e = .returned (.string (St [114, 101, 99])) ∧ Below w1.heap.size w1 w') := fun w1 v hp => by
    have := l1Head_any N.toTr v w1 hp
    rw [hh] at this
    exact this
  clear hs hc hl hh
  go_enter Tryz.func61, Tryz.ntmps61
  go_wp2_with (go_at_call 48; (with_reducible refine (HC.out _).mono ?_); rintro e w1 ⟨hb1, x1, A1, m1, c1, rfl, ht1⟩; have G0 := Lib.hid (block_up hb1 (block_new w (.cells #[.string ⟨#[]⟩, .slice none 0 0] 59))); have HB1 := Lib.hid (up_trans (up1 w (.cells #[.string ⟨#[]⟩, .slice none 0 0] 59)) hb1); have HT1 := Lib.hid ht1; clear hb1 ht1)
  have BW := up1 w1 (.cells #[.string x1, .slice A1 m1 c1] 59)
  have CW := block_new w1 (.cells #[.string x1, .slice A1 m1 c1] 59)
  have lw1 := lt_of_block G0.out
  generalize (w1.alloc (.cells #[.string x1, .slice A1 m1 c1] 59)) = W1 at *
  have HBW : Hid (Below w.heap.size w W1) := up_trans HB1.out BW
  have G0W := Lib.hid (block_up BW G0.out)
  have HS : Hid (∀ w', Below W1.heap.size W1 w' → w'.cell? ⟨w1.heap.size, 0, none⟩ = some (.string x1) ∧ w'.cell? ⟨w1.heap.size, 1, none⟩ = some (.slice A1 m1 c1)) := fun w' h => ⟨block_cell (block_up h CW) 0, block_cell (block_up h CW) 1⟩
  have HS9 : Hid (∀ w5 w' : World, Below W1.heap.size W1 w5 → (∀ k, k ≠ w.heap.size → w'.heap[k]? = w5.heap[k]?) → w'.cell? ⟨w1.heap.size, 0, none⟩ = some (.string x1) ∧ w'.cell? ⟨w1.heap.size, 1, none⟩ = some (.slice A1 m1 c1)) := fun w5 w' hb h => by
    have e := (h w1.heap.size (by omega)).trans (hb.block _ (lt_of_block CW))
    have hx := CW
    rw [← e] at hx
    exact ⟨block_cell hx 0, block_cell hx 1⟩
  have HTW : Hid (TAt W1 (fun k => w.heap.size < k) N.toTr (.agg #[.string x1, .slice A1 m1 c1])) := (HT1.out.up BW).weak fun k hk => by
    have : (w.alloc (.cells #[.string ⟨#[]⟩, .slice none 0 0] 59)).heap.size < k := hk
    simp at this
    omega
  obtain ⟨s0, s1⟩ := HS.out W1 (Below.refl _ _)
  clear BW CW
  refine wp_region_noPanic ?_
  refine wp_region_held_drew (S := (fun w' => w'.cell? ⟨w1.heap.size, 0, none⟩ = some (.string x1) ∧ w'.cell? ⟨w1.heap.size, 1, none⟩ = some (.slice A1 m1 c1))) (by kernel_rfl) (by exact HS.out _ (up_drew (Below.refl _ _))) (fun hHeld => ?_)
  refine tk 0 ?_ rfl ?_ ?_
  rotate_left
  · intro W hSW; (try dsimp only at hSW); go_simp; try with_reducible rfl
  try simp only [Act.put, zA, zB, zC, zD, zE, zF]
  refine tk 1 ?_ rfl ?_ ?_
  rotate_left
  · intro W hSW; (try dsimp only at hSW); go_simp; try with_reducible rfl
  try simp only [Act.put, zA, zB, zC, zD, zE, zF]
  refine tk 2 ?_ rfl ?_ ?_
  rotate_left
  · intro W hSW; (try dsimp only at hSW); go_simp; try with_reducible rfl
  try simp only [Act.put, zA, zB, zC, zD, zE, zF]
  refine tk 3 ?_ rfl ?_ ?_
  rotate_left
  · intro W hSW; (try dsimp only at hSW); go_simp; try with_reducible rfl
  try simp only [Act.put, zA, zB, zC, zD, zE, zF]
  refine wpAnyH_ready (rs := [4]) (by kernel_rfl) (by simp) ?_
  refine AllReadyH.cons rfl (fun K hK => ?_) AllReadyH.nil
  go_simp
  go_at_call 125
  (with_reducible refine (HH.out _ _ ((HTW.out.up (up_drew (Below.refl _ _))).weak fun _ _ => trivial)).mono ?_)
  rintro e w5 ⟨rfl, hb5⟩
  have HB5 : Hid (Below W1.heap.size W1 w5) := up_trans (up_drew (Below.refl _ _)) hb5
  clear hb5
  have K0 := block_up HB5.out G0W.out
  have cz0 := block_cell K0 0
  have cz1 := block_cell K0 1
  have fz0 := block_free K0 0
  have fz1 := block_free K0 1
  have lz0 := lt_of_block K0
  refine hK.out _ _ (by exact HS.out _ HB5.out) (fun hHeld => ?_)
  clear hK
  try simp only [Act.put, zA, zB, zC, zD, zE, zF]
  refine tk 5 ?_ rfl ?_ ?_
  rotate_left
  · intro W hSW; (try dsimp only at hSW); go_simp; try with_reducible rfl
  try simp only [Act.put, zA, zB, zC, zD, zE, zF]
  refine tk 6 ?_ rfl ?_ ?_
  rotate_left
  · intro W hSW; (try dsimp only at hSW); go_simp; try with_reducible rfl
  try simp only [Act.put, zA, zB, zC, zD, zE, zF]
  refine wpAnyH_ready (rs := [7]) (by kernel_rfl) (by simp) ?_
  refine AllReadyH.cons rfl (fun K hK => ?_) AllReadyH.nil
  go_simp
  refine hK.out _ _ (by exact HS9.out w5 _ HB5.out (by intro k hk; exact set_far hk _ _)) (fun hHeld => ?_)
  clear hK
  try simp only [Act.put, zA, zB, zC, zD, zE, zF]
  refine tk 8 ?_ rfl ?_ ?_
  rotate_left
  · intro W hSW; (try dsimp only at hSW); go_simp; try with_reducible rfl
  try simp only [Act.put, zA, zB, zC, zD, zE, zF]
  refine wpAnyH_done (by kernel_rfl) ?_ _
  refine NoPanic.normal ?_
  go_wp2
  refine bodyPost_ret (v := .tuple #[.agg #[.string x1, .slice A1 m1 c1], .bool true]) (by simp [results, Tryz.results61, go_sem, cz0, cz1, lz0]) rfl ?_
  exact ⟨set0 (set0 (up_trans HBW.out HB5.out) (Nat.le_refl _)) (Nat.le_refl _), _, _, _, _, rfl, (HTW.out.up HB5.out).move fun k hk hok => ⟨trivial, set_far (by have : w.heap.size < k := hok; omega) _ _⟩⟩
/-- l4Loop where the type is no rec. -/
theorem l4Loop_not (s : ByteArray) (w : World) (hs : s.size ≤ 9223372036854775807) (h : ∀ N, clTy s.data.toList = some N → isLoop N = false) : Calls Tryz.prog 61 #[.string s] w fun e w' => Below w.heap.size w w' ∧ ∃ x A n c, e = .returned (.tuple #[.agg #[.string x, .slice A n c], .bool false]) := by
  cases hc : clTy s.data.toList with
  | none => exact l4Loop_none s w hs hc
  | some N => exact (l4Loop_no s w hs N hc (h N hc)).mono fun e w' ⟨hb, x, A, n, c, he, _⟩ => ⟨hb, x, A, n, c, he⟩
set_option maxHeartbeats 8000000 in
set_option maxRecDepth 100000 in
theorem specHolesLoop_any (s v : ByteArray) (w : World) (hs : s.size ≤ 9223372036854775807) (hv : v.size ≤ 9223372036854775807) :
    Calls Tryz.prog 23 #[.string s, .string v] w (HTPost w (hlB s.data.toList v.data.toList)) := by
  have HIS := Lib.hid fun w1 => specValueIs_any s v 100 w1 hs hv
  have HNONE : Hid (∀ w', Below w.heap.size w w' → HTPost w none (.returned (.tuple #[.slice (some ⟨w'.heap.size, 0, none⟩) 0 0, .bool false])) (w'.alloc (.cells #[] 42))) := fun w' hb => ⟨up_alloc hb _, _, _, rfl⟩
  have HVF := Lib.hid fun w1 => l2Value_form v w1 hv
  by_cases hN : ∃ y a, clTy s.data.toList = some (.loop y a)
  · obtain ⟨y, a, hc⟩ := hN
    have HC := Lib.hid (l4Loop_yes s w hs (.loop y a) hc rfl)
    obtain ⟨_, hNo, hNa, _⟩ := clTy_some hc
    cases ho : valsOf s.data.toList v.data.toList 100 with
    | none =>
      have hz : isB s.data.toList v.data.toList 100 = false := by unfold isB; rw [ho]; rfl
      have hz2 : hlB s.data.toList v.data.toList = none := by unfold hlB lvOf; rw [ho]; rfl
      rw [hz] at HIS
      rw [hz2]
      replace HC : Hid (Calls Tryz.prog 61 #[.string s] w fun e w' => Below w.heap.size w w' ∧ ∃ x A n c, e = .returned (.tuple #[.agg #[.string x, .slice A n c], .bool true])) := HC.out.mono fun e w' ⟨hb, x, A, n, c, he, _⟩ => ⟨hb, x, A, n, c, he⟩
      generalize HTPost w none = Q at *
      clear hs hv ho hz hz2 hc hNo hNa
      go_enter Tryz.func23, Tryz.ntmps23
      go_wp2_with (first
        | (go_at_call 61; (with_reducible refine HC.out.mono ?_); rintro e w1 ⟨hb1, x1, A1, m1, c1, rfl⟩; have HB1 := Lib.hid (up_alloc hb1 (.cells #[.string x1, .slice A1 m1 c1] 59)); clear hb1)
        | (go_at_call 54; (with_reducible refine (HVF.out _).mono ?_); rintro e w2 ⟨hb2, x2, A2, m2, c2, b2, rfl⟩; have HB2 := Lib.hid (up_alloc (up_trans HB1.out hb2) (.cells #[.string x2, .slice A2 m2 c2] 59)); clear hb2)
        | (go_at_call 33; (with_reducible refine (HIS.out _).mono ?_); rintro e w3 ⟨rfl, hb3⟩; have HB3 := Lib.hid (up_trans HB2.out hb3); clear hb3))
      exact HNONE.out _ HB3.out
    | some q =>
    obtain ⟨N', x⟩ := q
    obtain ⟨hc', hr, _, _, hty⟩ := valsOf_some ho
    obtain rfl : NT.loop y a = N' := by rw [hc] at hc'; exact Option.some.inj hc'
    obtain ⟨u, rfl⟩ : ∃ u, x = .f u := by
      cases x with
      | f u => exact ⟨u, rfl⟩
      | _ => cases hty
    have hok := rdVal_ok hr
    have hnd := rdVal_nodes hr
    simp only [V.nodes] at hnd
    have HV := Lib.hid fun w1 => l2Value_tree (v := v) (x := .f u) w1 hv hr
    have hz : isB s.data.toList v.data.toList 100 = true := by unfold isB; rw [ho]; rfl
    rw [hz] at HIS
    have hz2 : hlB s.data.toList v.data.toList = some (hol (a.db [y]) (.bd 0) u) := by unfold hlB lvOf; rw [ho]; rfl
    obtain ⟨hok2, hl⟩ := hlB_ok hz2
    have heq : holesN u.nodes a y u = hol (a.db [y]) (.bd 0) u := (holesN_db u.nodes a [y] y u (ok_ok3 hNo).2).2 0 (ok_ok3 hNo).1.2 (by simp [look])
    have HHA : Hid (∀ w1 vt vv, TAt w1 (fun _ => True) a.toTr vt → TAt w1 (fun _ => True) u.toTr vv → Calls Tryz.prog 57 #[vt, .string (St y), vv] w1 (SHPost w1 (hol (a.db [y]) (.bd 0) u))) := fun w1 vt vv h1 h2 => by
      rw [← heq]
      exact l4Holes_any u.nodes a [y] [.loop (a.db [y])] y u vt vv w1 (ok_ok3 hNo).2 (ok_ok3 hNo).1.1 hty (Nat.le_refl _) (by omega) h1 h2
    have HTX : Hid (∀ w1 A c us, RCells w1 A us → TR w1 (hol (a.db [y]) (.bd 0) u) us → (∀ k o, A = some ⟨k, o, none⟩ → k < w1.heap.size) → Calls Tryz.prog 56 #[.slice A (hol (a.db [y]) (.bd 0) u).length c] w1 fun e w' => Below w1.heap.size w1 w' ∧ ∃ g c', e = .returned (.slice (some ⟨g, 0, none⟩) (hol (a.db [y]) (.bd 0) u).length c') ∧ POwn w' w1.heap.size (fl (hol (a.db [y]) (.bd 0) u)) g (hol (a.db [y]) (.bd 0) u).length c') := fun w1 A c us h1 h2 h3 => l4Told_any _ A c us w1 h1 h2 h3 hok2 (by omega)
    rw [hz2]
    clear heq
    generalize hol (a.db [y]) (.bd 0) u = out at *
    have HQ : Hid (∀ w1 w' g c, Below w.heap.size w w1 → Below w1.heap.size w1 w' → POwn w' w1.heap.size (fl out) g out.length c → Below w1.heap.size w1 w' → HTPost w (some out) (.returned (.tuple #[.slice (some ⟨g, 0, none⟩) out.length c, .bool true])) w') := fun w1 w' g c h1 h2 h3 _ => ⟨up_trans h1 h2, g, c, rfl, World.ownsRow.mono h3 h1.size⟩
    generalize HTPost w (some out) = Q at *
    clear hs hv ho hz hz2 hc hc' hr hty hok hnd hNo hNa HVF HNONE
    go_enter Tryz.func23, Tryz.ntmps23
    go_upto_region 5 with (first
      | (go_at_call 61; (with_reducible refine HC.out.mono ?_); rintro e w1 ⟨hb1, x1, A1, m1, c1, rfl, ht1⟩; have HB1 := Lib.hid (up_alloc hb1 (.cells #[.string x1, .slice A1 m1 c1] 59)); have HT1 := Lib.hid (ht1.up (up1 w1 (.cells #[.string x1, .slice A1 m1 c1] 59))); have KB1 := Lib.hid (block_new w1 (.cells #[.string x1, .slice A1 m1 c1] 59)); clear hb1 ht1)
      | (go_at_call 54; (with_reducible refine (HV.out _).mono ?_); rintro e w2 ⟨hb2, x2, A2, m2, c2, rfl, ht2⟩; have HB2 := Lib.hid (up_alloc (up_trans HB1.out hb2) (.cells #[.string x2, .slice A2 m2 c2] 59)); have HT2 := Lib.hid (HT1.out.up (up_alloc hb2 (.cells #[.string x2, .slice A2 m2 c2] 59))); have HV2 := Lib.hid (ht2.up (up1 w2 (.cells #[.string x2, .slice A2 m2 c2] 59))); have KB2 := Lib.hid (block_up (up_alloc hb2 (.cells #[.string x2, .slice A2 m2 c2] 59)) KB1.out); have KC2 := Lib.hid (block_new w2 (.cells #[.string x2, .slice A2 m2 c2] 59)); clear hb2 ht2)
      | (go_at_call 33; (with_reducible refine (HIS.out _).mono ?_); rintro e w3 ⟨rfl, hb3⟩; have HB3 := Lib.hid (up_trans HB2.out hb3); have HT3 := Lib.hid (HT2.out.up hb3); have HV3 := Lib.hid (HV2.out.up hb3); have KB3 := Lib.hid (block_up hb3 KB2.out); have KC3 := Lib.hid (block_up hb3 KC2.out); clear hb3))
    generalize w3 = W3 at *
    obtain ⟨bt, ot, ct, hvt, A2', n2, c2', A4, n4, c4, HTT, _⟩ := three_keeps HT3.out
    obtain ⟨bv, ov, cv, hvv, hbl, Ay, ny, cy, HVV, _⟩ := two_keeps2 HV3.out
    cases hvt
    cases hvv
    simp only [Tr.atom] at HTT
    have HS : Hid (∀ w', Below W3.heap.size W3 w' → w'.cell? ⟨w1.heap.size, 1, none⟩ = some (.slice (some ⟨bt, ot, none⟩) 3 c1) ∧ w'.cell? ⟨bt, ot + 2, none⟩ = some (.string (St y)) ∧ w'.cell? ⟨bt, ot + 4, none⟩ = some (.string (St a.toTr.atom)) ∧ w'.cell? ⟨bt, ot + 5, none⟩ = some (.slice A4 n4 c4) ∧ w'.cell? ⟨w2.heap.size, 1, none⟩ = some (.slice (some ⟨bv, ov, none⟩) 2 c2) ∧ w'.cell? ⟨bv, ov + 2, none⟩ = some (.string (St u.toTr.atom)) ∧ w'.cell? ⟨bv, ov + 3, none⟩ = some (.slice Ay ny cy)) := fun w' h => by
      obtain ⟨t2, t3, t4, t5, _, _⟩ := HTT.out w' (.up h)
      obtain ⟨z2, z3, _⟩ := HVV.out w' (.up h)
      exact ⟨block_cell (block_up h KB3.out) 1, t2, t4, t5, block_cell (block_up h KC3.out) 1, z2, z3⟩
    have HH : Hid (∀ w', Below W3.heap.size W3 w' → Calls Tryz.prog 57 #[.agg #[.string (St a.toTr.atom), .slice A4 n4 c4], .string (St y), .agg #[.string (St u.toTr.atom), .slice Ay ny cy]] w' (SHPost w' out)) := fun w' h => HHA.out w' _ _ (HTT.out w' (.up h)).2.2.2.2.2.out (HVV.out w' (.up h)).2.2.out
    clear HHA HTT HVV HT3 HV3 KB3 KC3 HT1 HT2 KB1 KB2 KC2 HV2 hbl
    obtain ⟨s0, s1, s2, s3, s4, s5, s6⟩ := HS.out W3 (Below.refl _ _)
    refine wp_region_noPanic ?_
    refine wp_region_held_drew (S := (fun w' => w'.cell? ⟨w1.heap.size, 1, none⟩ = some (.slice (some ⟨bt, ot, none⟩) 3 c1) ∧ w'.cell? ⟨bt, ot + 2, none⟩ = some (.string (St y)) ∧ w'.cell? ⟨bt, ot + 4, none⟩ = some (.string (St a.toTr.atom)) ∧ w'.cell? ⟨bt, ot + 5, none⟩ = some (.slice A4 n4 c4) ∧ w'.cell? ⟨w2.heap.size, 1, none⟩ = some (.slice (some ⟨bv, ov, none⟩) 2 c2) ∧ w'.cell? ⟨bv, ov + 2, none⟩ = some (.string (St u.toTr.atom)) ∧ w'.cell? ⟨bv, ov + 3, none⟩ = some (.slice Ay ny cy))) (by kernel_rfl) (by exact HS.out _ (up_drew (Below.refl _ _))) (fun hHeld => ?_)
    refine tk 0 ?_ rfl ?_ ?_
    rotate_left
    · intro W hSW; (try dsimp only at hSW); go_simp; try with_reducible rfl
    try simp only [Act.put, zA, zB, zC, zD, zE, zF]
    refine tk 1 ?_ rfl ?_ ?_
    rotate_left
    · intro W hSW; (try dsimp only at hSW); go_simp; try with_reducible rfl
    try simp only [Act.put, zA, zB, zC, zD, zE, zF]
    refine tk 2 ?_ rfl ?_ ?_
    rotate_left
    · intro W hSW; (try dsimp only at hSW); go_simp; try with_reducible rfl
    try simp only [Act.put, zA, zB, zC, zD, zE, zF]
    refine tk 3 ?_ rfl ?_ ?_
    rotate_left
    · intro W hSW; (try dsimp only at hSW); go_simp; try with_reducible rfl
    try simp only [Act.put, zA, zB, zC, zD, zE, zF]
    refine tk 4 ?_ rfl ?_ ?_
    rotate_left
    · intro W hSW; (try dsimp only at hSW); go_simp; try with_reducible rfl
    try simp only [Act.put, zA, zB, zC, zD, zE, zF]
    refine tk 5 ?_ rfl ?_ ?_
    rotate_left
    · intro W hSW; (try dsimp only at hSW); go_simp; try with_reducible rfl
    try simp only [Act.put, zA, zB, zC, zD, zE, zF]
    refine tk 6 ?_ rfl ?_ ?_
    rotate_left
    · intro W hSW; (try dsimp only at hSW); go_simp; try with_reducible rfl
    try simp only [Act.put, zA, zB, zC, zD, zE, zF]
    refine tk 7 ?_ rfl ?_ ?_
    rotate_left
    · intro W hSW; (try dsimp only at hSW); go_simp; try with_reducible rfl
    try simp only [Act.put, zA, zB, zC, zD, zE, zF]
    refine tk 8 ?_ rfl ?_ ?_
    rotate_left
    · intro W hSW; (try dsimp only at hSW); go_simp; try with_reducible rfl
    try simp only [Act.put, zA, zB, zC, zD, zE, zF]
    refine tk 9 ?_ rfl ?_ ?_
    rotate_left
    · intro W hSW; (try dsimp only at hSW); go_simp; try with_reducible rfl
    try simp only [Act.put, zA, zB, zC, zD, zE, zF]
    refine tk 10 ?_ rfl ?_ ?_
    rotate_left
    · intro W hSW; (try dsimp only at hSW); go_simp; try with_reducible rfl
    try simp only [Act.put, zA, zB, zC, zD, zE, zF]
    refine tk 11 ?_ rfl ?_ ?_
    rotate_left
    · intro W hSW; (try dsimp only at hSW); go_simp; try with_reducible rfl
    try simp only [Act.put, zA, zB, zC, zD, zE, zF]
    refine tk 12 ?_ rfl ?_ ?_
    rotate_left
    · intro W hSW; (try dsimp only at hSW); go_simp; try with_reducible rfl
    try simp only [Act.put, zA, zB, zC, zD, zE, zF]
    refine wpAnyH_ready (rs := [13]) (by kernel_rfl) (by simp) ?_
    refine AllReadyH.cons rfl (fun K hK => ?_) AllReadyH.nil
    go_simp
    go_at_call 57
    (with_reducible refine (HH.out _ (up_drew (Below.refl _ _))).mono ?_)
    rintro e w5 ⟨hb5, g5, c5, rfl, us5, hu5, ht5⟩
    have HB5 : Hid (Below W3.heap.size W3 w5) := up_trans (up_drew (Below.refl _ _)) hb5
    have HR5 := Lib.hid (HOw.reads hu5 ht5)
    have HT5 := Lib.hid ht5
    have HG5 := Lib.hid (World.ownsRow.lt hu5 g5 rfl)
    clear hb5 hu5 ht5
    refine hK.out _ _ (by exact HS.out _ HB5.out) (fun hHeld => ?_)
    clear hK
    try simp only [Act.put, zA, zB, zC, zD, zE, zF]
    refine wpAnyH_ready (rs := [14]) (by kernel_rfl) (by simp) ?_
    refine AllReadyH.cons rfl (fun K hK => ?_) AllReadyH.nil
    go_simp
    go_at_call 56
    (with_reducible refine (HTX.out _ _ _ _ HR5.out HT5.out (fun k o h => by cases h; exact HG5.out.2)).mono ?_)
    rintro e w6 ⟨hb6, g6, c6, rfl, ho6⟩
    have HB6 : Hid (Below W3.heap.size W3 w6) := up_trans HB5.out hb6
    have HB65 := Lib.hid hb6
    have HO6 := Lib.hid ho6
    clear hb6 ho6
    refine hK.out _ _ (by exact HS.out _ HB6.out) (fun hHeld => ?_)
    clear hK
    try simp only [Act.put, zA, zB, zC, zD, zE, zF]
    refine tk 15 ?_ rfl ?_ ?_
    rotate_left
    · intro W hSW; (try dsimp only at hSW); go_simp; try with_reducible rfl
    try simp only [Act.put, zA, zB, zC, zD, zE, zF]
    refine tk 16 ?_ rfl ?_ ?_
    rotate_left
    · intro W hSW; (try dsimp only at hSW); go_simp; try with_reducible rfl
    try simp only [Act.put, zA, zB, zC, zD, zE, zF]
    refine wpAnyH_done (by kernel_rfl) ?_ _
    refine NoPanic.normal ?_
    go_wp2
    exact HQ.out w5 _ _ _ (up_trans HB3.out HB5.out) (by exact HB65.out) HO6.out HB65.out
  · have hnl : ∀ N, clTy s.data.toList = some N → isLoop N = false := fun N hN' => by
      cases N with
      | loop y a => exact absurd ⟨y, a, hN'⟩ hN
      | _ => rfl
    have HC := Lib.hid (l4Loop_not s w hs hnl)
    have hz2 : hlB s.data.toList v.data.toList = none := by
      unfold hlB lvOf
      split
      · rename_i y a u ho
        exact absurd ⟨y, a, (valsOf_some ho).1⟩ hN
      · rfl
    rw [hz2]
    generalize HTPost w none = Q at *
    clear hs hv hN hnl hz2 HIS
    go_enter Tryz.func23, Tryz.ntmps23
    go_wp2_with (first
      | (go_at_call 61; (with_reducible refine HC.out.mono ?_); rintro e w1 ⟨hb1, x1, A1, m1, c1, rfl⟩; have HB1 := Lib.hid (up_alloc hb1 (.cells #[.string x1, .slice A1 m1 c1] 59)); clear hb1)
      | (go_at_call 54; (with_reducible refine (HVF.out _).mono ?_); rintro e w2 ⟨hb2, x2, A2, m2, c2, b2, rfl⟩; have HB2 := Lib.hid (up_alloc (up_trans HB1.out hb2) (.cells #[.string x2, .slice A2 m2 c2] 59)); clear hb2))
    have hq := HNONE.out _ HB2.out
    rw [show (w2.alloc (.cells #[.string x2, .slice A2 m2 c2] 59)).heap.size = w2.heap.size + 1 by simp] at hq
    exact hq
end Go.Proofs.YtpokompplapkhaaGreatDoor
