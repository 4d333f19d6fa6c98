/- The reference's HolesOf, HoleCount. -/
import Derived.Test.YtpokompplapkhaaGreatDoorHolE
import Derived.Test.YtpokompplapkhaaGreatDoorHolX
import Derived.Test.YtpokompplapkhaaGreatDoorMH
import Derived.Test.YtpokompplapkhaaGreatDoorVIs
import Derived.Test.YtpokompplapkhaaGreatDoorClT
import Derived.Test.YtpokompplapkhaaGreatDoorTk
namespace Go.Proofs.YtpokompplapkhaaGreatDoor
open Go.RowKit
set_option linter.unusedVariables false
set_option linter.unusedSimpArgs false
set_option linter.constructorNameAsVariable false
set_option maxHeartbeats 8000000 in
set_option maxRecDepth 100000 in
theorem l4Told_any (hs : List (V × V)) (A : Option Addr) (c : Nat) (us : List Value) (w : World) (hr : RCells w A us) (hl : TR w hs us) (hA : ∀ k o, A = some ⟨k, o, none⟩ → k < w.heap.size) (hok : HsOk hs) (hn : hs.length ≤ 100000) :
    Calls Tryz.prog 56 #[.slice A hs.length c] w fun e w' => Below w.heap.size w w' ∧ ∃ g c', e = .returned (.slice (some ⟨g, 0, none⟩) hs.length c') ∧ POwn w' w.heap.size (fl hs) g hs.length c' := by
  obtain ⟨i0, hi0, hz0, hz1, hz2⟩ := info_parts Tryz.infoHoleT
  have HR := Lib.hid hr
  have H2 := Lib.hid hl
  have HOK := Lib.hid hok
  have HA := Lib.hid hA
  clear hr hl hok hA
  generalize hL : hs.length = n at *
  have HL2 := Lib.hid hL
  clear hL
  go_enter Tryz.func56, Tryz.ntmps56
  go_wp2
  go_loopg [3, 4] n (fun m v3 v9 wr => ∃ (i gr cr : Nat), v9 = .int .i64 i ∧ v3 = .slice (some ⟨gr, 0, none⟩) i cr ∧ Hid (m + i = n) ∧ Hid (POwn wr w.heap.size (fl (hs.take i)) gr i cr ∧ Below w.heap.size w wr))
  case atStart => exact ⟨0, w.heap.size, 0, rfl, rfl, rfl, own_nils w _ 2 (Nat.le_refl _) (by decide) _, up1 w _⟩
  case round =>
    obtain ⟨i, gr, cr, rfl, rfl, HM, HB⟩ := hrel
    have hm := HM.out
    cases gk with
    | zero =>
      have h1 : decide (i < n) = false := decide_eq_false (by omega)
      obtain rfl : i = n := by omega
      have HP := HB.out
      rw [List.take_of_length_le (by rw [HL2.out]; omega)] at HP
      have HP := Lib.hid HP
      clear HM hm HB
      go_wp2
      go_ret
      exact ⟨HP.out.2, _, _, rfl, HP.out.1⟩
    | succ m =>
      have h1 : decide (i < n) = true := decide_eq_true (by omega)
      have hin : i < n := by omega
      obtain ⟨hous, hbl⟩ := HB.out
      have HBL := Lib.hid hbl
      obtain ⟨hh, hih⟩ : ∃ hh, hs[i]? = some hh := ⟨_, List.getElem?_eq_getElem (by rw [HL2.out]; exact hin)⟩
      obtain ⟨ok1, ok2, nd1, nd2⟩ := HOK.out hh (List.mem_of_getElem? hih)
      obtain ⟨x0, x1, x2, x3, y0, y1, y2, y3, u1, u2, u3, u4, hx, hy⟩ := (H2.out.keep (.up hbl)).get i hh hih
      have hgA : ∀ k o, A = some ⟨k, o, none⟩ → k < w.heap.size := HA.out
      obtain ⟨gl, ol, rfl, hc⟩ : ∃ gl ol, A = some ⟨gl, ol, none⟩ ∧ ∀ j u, us[j]? = some u → wr.cell? ⟨gl, ol + j, none⟩ = some u := by
        rcases HR.out.up hbl with h | ⟨gl, ol, h, h'⟩
        · rw [h] at u1; simp at u1
        · exact ⟨gl, ol, h, h'⟩
      have hgl := hgA gl ol rfl
      have d1 := hc _ _ u1
      have d2 := hc _ _ u2
      have d3 := hc _ _ u3
      have d4 := hc _ _ u4
      rw [Nat.mul_comm 4 i] at d1 d2 d3 d4
      rw [← Nat.add_assoc] at d2 d3 d4
      have HO : Hid (∀ w2, Below wr.heap.size wr w2 → w2.ownsRow w.heap.size 42 2 (.slice (some ⟨gr, 0, none⟩) i cr) i (strs (fl (hs.take i)))) := fun w2 h => own_up hous h
      have HSZ : Hid (∀ w2, Below wr.heap.size wr w2 → w.heap.size ≤ w2.heap.size) := fun w2 h => Nat.le_trans HBL.out.size h.size
      have hgr := World.ownsRow.lt hous gr rfl
      have HAF : Hid (∀ w3 w4, Below wr.heap.size wr w3 → w3.grownBy w4 (some gr) → Hid (∀ k, k < w3.heap.size → k ≠ gr → w4.heap[k]? = w3.heap[k]?)) := fun w3 w4 hb hg => fun k hk hne => hg.block k hk (by simpa using hne)
      have HFIN : Hid (∀ w3 w4 g2 c2, Below wr.heap.size wr w3 → w3.grownBy w4 (some gr) → Below w.heap.size w3 w4 → w4.ownsRow w.heap.size 42 2 (.slice (some ⟨g2, 0, none⟩) (i + 1) c2) (i + 1) (strs (fl (hs.take i)) ++ [.string (St hh.1.toTr.txt), .string (St hh.2.toTr.txt)]) → Hid (POwn w4 w.heap.size (fl (hs.take (i + 1))) g2 (i + 1) c2 ∧ Below w.heap.size w w4)) := fun w3 w4 g2 c2 hb hg hbl ho => by
        refine ⟨?_, Below.trans (up_trans HBL.out hb) hbl⟩
        unfold POwn
        rw [fl_take hih]
        simpa [strs] using ho
      have HTA : Hid (∀ w2, Below wr.heap.size wr w2 → Calls Tryz.prog 65 #[.agg #[.string x0, .slice x1 x2 x3]] w2 fun e w' => e = .returned (.string (St hh.1.toTr.txt)) ∧ Below w2.heap.size w2 w') := fun w2 h => l1Text_any _ _ (Nat.le_refl _) (V.wf ok1) (by have := V.len_nodes ok1; omega) _ w2 (hx.up h)
      have HTB : Hid (∀ w2, Below wr.heap.size wr w2 → Calls Tryz.prog 65 #[.agg #[.string y0, .slice y1 y2 y3]] w2 fun e w' => e = .returned (.string (St hh.2.toTr.txt)) ∧ Below w2.heap.size w2 w') := fun w2 h => l1Text_any _ _ (Nat.le_refl _) (V.wf ok2) (by have := V.len_nodes ok2; omega) _ w2 (hy.up h)
      have HS : Hid (∀ w', Below wr.heap.size wr w' → w'.cell? ⟨gl, ol + i * 4, none⟩ = some (.string x0) ∧ w'.cell? ⟨gl, ol + i * 4 + 1, none⟩ = some (.slice x1 x2 x3) ∧ w'.cell? ⟨gl, ol + i * 4 + 2, none⟩ = some (.string y0) ∧ w'.cell? ⟨gl, ol + i * 4 + 3, none⟩ = some (.slice y1 y2 y3)) := fun w' h => ⟨cell_up h d1, cell_up h d2, cell_up h d3, cell_up h d4⟩
      have HS9 : Hid (∀ w3 w' : World, Below wr.heap.size wr w3 → Hid (∀ k, k < w3.heap.size → k ≠ gr → w'.heap[k]? = w3.heap[k]?) → w'.cell? ⟨gl, ol + i * 4, none⟩ = some (.string x0) ∧ w'.cell? ⟨gl, ol + i * 4 + 1, none⟩ = some (.slice x1 x2 x3) ∧ w'.cell? ⟨gl, ol + i * 4 + 2, none⟩ = some (.string y0) ∧ w'.cell? ⟨gl, ol + i * 4 + 3, none⟩ = some (.slice y1 y2 y3)) := fun w3 w' hb h => by
        have hlk : gl < wr.heap.size := World.block_lt_of_cell? wr _ d1
        have e := (h.out gl (Nat.lt_of_lt_of_le hlk hb.size) (by omega)).trans (hb.block gl hlk)
        simp only [World.cell?] at d1 d2 d3 d4 ⊢
        rw [e]
        exact ⟨d1, d2, d3, d4⟩
      obtain ⟨s0, s1, s2, s3⟩ := HS.out wr (Below.refl _ _)
      clear hous hbl hih ok1 ok2 nd1 nd2 hx hy hc u1 u2 u3 u4 d1 d2 d3 d4 hgr HM HB hgA hgl
      go_wp2
      refine wp_region_noPanic ?_
      refine wp_region_held_drew (S := (fun w' => w'.cell? ⟨gl, ol + i * 4, none⟩ = some (.string x0) ∧ w'.cell? ⟨gl, ol + i * 4 + 1, none⟩ = some (.slice x1 x2 x3) ∧ w'.cell? ⟨gl, ol + i * 4 + 2, none⟩ = some (.string y0) ∧ w'.cell? ⟨gl, ol + i * 4 + 3, none⟩ = some (.slice y1 y2 y3))) (by kernel_rfl) (by exact HS.out _ (up_drew (Below.refl _ _))) (fun hHeld => ?_)
      refine tk 0 ?_ rfl ?_ ?_
      rotate_left
      · intro W hSW; (try dsimp only at hSW); go_simp; try with_reducible rfl
      try simp only [Act.put, zA, zB, zC, zD, zE, zF]
      refine tk 1 ?_ rfl ?_ ?_
      rotate_left
      · intro W hSW; (try dsimp only at hSW); go_simp; try with_reducible rfl
      try simp only [Act.put, zA, zB, zC, zD, zE, zF]
      refine tk 2 ?_ rfl ?_ ?_
      rotate_left
      · intro W hSW; (try dsimp only at hSW); go_simp; try with_reducible rfl
      try simp only [Act.put, zA, zB, zC, zD, zE, zF]
      refine tk 3 ?_ rfl ?_ ?_
      rotate_left
      · intro W hSW; (try dsimp only at hSW); go_simp; try with_reducible rfl
      try simp only [Act.put, zA, zB, zC, zD, zE, zF]
      refine tk 4 ?_ rfl ?_ ?_
      rotate_left
      · intro W hSW; (try dsimp only at hSW); go_simp; try with_reducible rfl
      try simp only [Act.put, zA, zB, zC, zD, zE, zF]
      refine tk 5 ?_ rfl ?_ ?_
      rotate_left
      · intro W hSW; (try dsimp only at hSW); go_simp; try with_reducible rfl
      try simp only [Act.put, zA, zB, zC, zD, zE, zF]
      refine tk 7 ?_ rfl ?_ ?_
      rotate_left
      · intro W hSW; (try dsimp only at hSW); go_simp; try with_reducible rfl
      try simp only [Act.put, zA, zB, zC, zD, zE, zF]
      refine tk 8 ?_ rfl ?_ ?_
      rotate_left
      · intro W hSW; (try dsimp only at hSW); go_simp; try with_reducible rfl
      try simp only [Act.put, zA, zB, zC, zD, zE, zF]
      refine tk 9 ?_ rfl ?_ ?_
      rotate_left
      · intro W hSW; (try dsimp only at hSW); go_simp; try with_reducible rfl
      try simp only [Act.put, zA, zB, zC, zD, zE, zF]
      refine tk 10 ?_ rfl ?_ ?_
      rotate_left
      · intro W hSW; (try dsimp only at hSW); go_simp; try with_reducible rfl
      try simp only [Act.put, zA, zB, zC, zD, zE, zF]
      refine tk 11 ?_ rfl ?_ ?_
      rotate_left
      · intro W hSW; (try dsimp only at hSW); go_simp; try with_reducible rfl
      try simp only [Act.put, zA, zB, zC, zD, zE, zF]
      refine wpAnyH_ready (rs := [6]) (by kernel_rfl) (by simp) ?_
      refine AllReadyH.cons rfl (fun K hK => ?_) AllReadyH.nil
      go_simp
      go_at_call 65
      (with_reducible refine (HTA.out _ (up_drew (Below.refl _ _))).mono ?_)
      rintro e w5 ⟨rfl, hb5⟩
      have HB5 : Hid (Below wr.heap.size wr w5) := up_trans (up_drew (Below.refl _ _)) hb5
      clear hb5
      refine hK.out _ _ (by exact HS.out _ HB5.out) (fun hHeld => ?_)
      clear hK
      try simp only [Act.put, zA, zB, zC, zD, zE, zF]
      refine wpAnyH_ready (rs := [12]) (by kernel_rfl) (by simp) ?_
      refine AllReadyH.cons rfl (fun K hK => ?_) AllReadyH.nil
      go_simp
      go_at_call 65
      (with_reducible refine (HTB.out _ HB5.out).mono ?_)
      rintro e w6 ⟨rfl, hb6⟩
      have HB6 : Hid (Below wr.heap.size wr w6) := up_trans HB5.out hb6
      clear hb6
      refine hK.out _ _ (by exact HS.out _ HB6.out) (fun hHeld => ?_)
      clear hK
      try simp only [Act.put, zA, zB, zC, zD, zE, zF]
      refine tk 13 ?_ rfl ?_ ?_
      rotate_left
      · intro W hSW; (try dsimp only at hSW); go_simp; try with_reducible rfl
      try simp only [Act.put, zA, zB, zC, zD, zE, zF]
      refine wpAnyH_ready (rs := [14]) (by kernel_rfl) (by simp) ?_
      refine AllReadyH.cons rfl (fun K hK => ?_) AllReadyH.nil
      go_simp
      refine hK.out _ _ (by exact HS.out _ (up_trans HB6.out (up1 _ _))) (fun hHeld => ?_)
      clear hK
      try simp only [Act.put, zA, zB, zC, zD, zE, zF]
      refine wpAnyH_ready (rs := [15]) (by kernel_rfl) (by simp) ?_
      refine AllReadyH.cons rfl (fun K hK => ?_) AllReadyH.nil
      refine step_append_rows _ rfl _ _ 24 rfl w.heap.size 2 42 i0 (.agg #[.string ⟨#[]⟩, .string ⟨#[]⟩]) 32 Tryz.underlying24 hi0 hz0 hz1 hz2 rfl (by decide) gr i cr (strs (fl (hs.take i))) rfl (HO.out _ (up_trans HB6.out (up1 _ _))) (some ⟨_, 0, none⟩) 1 1 [.string (St hh.1.toTr.txt), .string (St hh.2.toTr.txt)] rfl rfl (row_two (block_new w6 _)) (by simp [Value.oneCell']) (by omega) (by decide) (HSZ.out _ (up_trans HB6.out (up1 _ _))) (i + 1) rfl (strs (fl (hs.take i)) ++ [.string (St hh.1.toTr.txt), .string (St hh.2.toTr.txt)]) rfl ?_
      intro gn cn w9 hown hgrow hbel hat
      have HK9 := HAF.out _ w9 (up_trans HB6.out (up1 _ _)) hgrow
      have HFF := HFIN.out _ w9 gn cn (up_trans HB6.out (up1 _ _)) hgrow hbel hown
      clear hown hgrow hbel hat
      refine hK.out _ _ (by exact HS9.out _ _ (up_trans HB6.out (up1 _ _)) HK9) (fun hHeld => ?_)
      clear hK
      try simp only [Act.put, zA, zB, zC, zD, zE, zF]
      refine tk 16 ?_ rfl ?_ ?_
      rotate_left
      · intro W hSW; (try dsimp only at hSW); go_simp; try with_reducible rfl
      try simp only [Act.put, zA, zB, zC, zD, zE, zF]
      refine wpAnyH_done (by kernel_rfl) ?_ _
      refine NoPanic.normal ?_
      go_wp2
      go_roundg m
      case measure => omega
      case rel => exact ⟨i + 1, gn, cn, rfl, rfl, by show m + (i + 1) = n; omega, HFF.out⟩
end Go.Proofs.YtpokompplapkhaaGreatDoor

