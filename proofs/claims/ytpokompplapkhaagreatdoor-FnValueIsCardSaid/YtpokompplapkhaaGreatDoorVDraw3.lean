/- Draws of types with values: holes; a number. -/
import Derived.Test.YtpokompplapkhaaGreatDoorVDraw2
import Derived.Test.YtpokompplapkhaaGreatDoorTk
namespace Go.Proofs.YtpokompplapkhaaGreatDoor
open Go.RowKit
set_option linter.unusedVariables false
set_option linter.unusedSimpArgs false

/-- What DrawHolesOf gives. -/
def HolPost (w : World) (e : Ending) (w' : World) : Prop := ∃ s nm v : ByteArray, s.size ≤ 100000 ∧ nm.size ≤ 1000 ∧ v.size ≤ 100000000000 ∧ e = .returned (.tuple #[.string s, .string nm, .string v]) ∧ Below w.heap.size w w'
set_option maxHeartbeats 2000000 in
theorem DrawHolesOf_any (a : Option Addr) (n c : Nat) (w : World) (h : CodeRow w a n c) : Calls Tryz.prog 45 #[.slice a n c] w (HolPost w) := by
  have HO := Lib.hid (l6Open_any a n c w h.1 h.2)
  have HT : Hid (∀ (w : World) (r : Nat) (B : Option Addr) (n c : Nat), RB w r B n c 0 → Calls Tryz.prog 85 #[.pointer (some ⟨r, 0, none⟩)] w fun e w' => ∃ s v : ByteArray, s.size ≤ 100000 ∧ v.size ≤ 100000000000 ∧ e = .returned (.tuple #[.string s, .string v]) ∧ RB w' r B n c (0 + 20000 + 5000000000) ∧ w.grownBy w' (some r)) := fun w r B n c h => l91Given_any r B n c 0 w h (by omega)
  have HN : Hid (∀ (w : World) (r : Nat) (B : Option Addr) (n c : Nat), RB w r B n c (0 + 20000 + 5000000000) → Calls Tryz.prog 86 #[.pointer (some ⟨r, 0, none⟩)] w (DPost w r B n c (0 + 20000 + 5000000000 + 1) 1000)) := fun w r B n c h => l91Name_any r B n c _ w h (by omega)
  clear h
  go_enter Tryz.func45, Tryz.ntmps45
  go_wp2_with (first
    | (go_at_call 76; refine HO.out.mono ?_; rintro e w1 ⟨r, B', n', c', rfl, hr, hb, hlt⟩; have HR := Lib.hid hr; have HB := Lib.hid hb; have HL := Lib.hid hlt; clear hr hb hlt)
    | (go_at_call 85; (with_reducible refine (HT.out _ _ _ _ _ HR.out).mono ?_); rintro e w2 ⟨s, v, hs, hv, rfl, hr, hg⟩; have HS := Lib.hid hs; have HV := Lib.hid hv; have HR2 := Lib.hid hr; have HB2 := Lib.hid (up_grown HB.out hg HL.out); clear hs hv hr hg)
    | (go_at_call 86; (with_reducible refine (HN.out _ _ _ _ _ HR2.out).mono ?_); rintro e w3 ⟨s2, hs2, rfl, _, hg⟩; have HS2 := Lib.hid hs2; have HB3 := Lib.hid (up_grown HB2.out hg HL.out); clear hs2 hg))
  refine bodyPost_ret (v := .tuple #[.string s, .string s2, .string v]) (by simp [results, Tryz.results45, go_sem]) rfl ?_
  exact ⟨s, s2, v, HS.out, HS2.out, HV.out, rfl, HB3.out⟩
set_option maxHeartbeats 2000000 in
theorem DrawHoleCount_any (a : Option Addr) (n c : Nat) (w : World) (h : CodeRow w a n c) : Calls Tryz.prog 29 #[.slice a n c] w (HolPost w) := by
  have HD := Lib.hid (DrawHolesOf_any a n c w h)
  clear h
  go_enter Tryz.func29, Tryz.ntmps29
  go_wp2_with (go_at_call 45; (with_reducible refine HD.out.mono ?_); rintro e w1 ⟨s, s2, v, hs, hs2, hv, rfl, hb⟩; have HS := Lib.hid hs; have HS2 := Lib.hid hs2; have HV := Lib.hid hv; have HB1 := Lib.hid hb; clear hs hs2 hv hb)
  refine bodyPost_ret (v := .tuple #[.string s, .string s2, .string v]) (by simp [results, Tryz.results29, go_sem]) rfl ?_
  exact ⟨s, s2, v, HS.out, HS2.out, HV.out, rfl, HB1.out⟩
/-- The sizes that are drawn. -/
def drawN : Nat → Int
  | 0 => 3
  | 1 => 100
  | 2 => 1
  | 3 => 0
  | 4 => -1
  | _ => 101
theorem drawN_lo (k : Nat) : -1 ≤ drawN k := by
  unfold drawN
  split <;> omega
theorem drawN_hi (k : Nat) : drawN k ≤ 101 := by
  unfold drawN
  split <;> omega
theorem drawN_cell (W : World) (T : TypeId) (k : Nat) (hk : k < 6) : (W.alloc (.cells #[.int .i64 3, .int .i64 100, .int .i64 1, .int .i64 0, .int .i64 (-1), .int .i64 101] T)).cell? ⟨W.heap.size, k, none⟩ = some (.int .i64 (drawN k)) := by
  refine (block_cell (block_new W _) k).trans ?_
  rcases (show k = 0 ∨ k = 1 ∨ k = 2 ∨ k = 3 ∨ k = 4 ∨ k = 5 by omega) with rfl | rfl | rfl | rfl | rfl | rfl <;> rfl
/-- What DrawValueIs gives. -/
def VIsPost (w : World) (e : Ending) (w' : World) : Prop := ∃ (s v : ByteArray) (n : Int), s.size ≤ 100000 ∧ v.size ≤ 100000000000 ∧ -1 ≤ n ∧ n ≤ 101 ∧ e = .returned (.tuple #[.string s, .string v, .int .i64 n]) ∧ Below w.heap.size w w'
set_option maxHeartbeats 4000000 in
theorem DrawValueIs_any (a : Option Addr) (n c : Nat) (w : World) (h : CodeRow w a n c) : Calls Tryz.prog 31 #[.slice a n c] w (VIsPost w) := by
  have HO := Lib.hid (l6Open_any a n c w h.1 h.2)
  have HT : Hid (∀ (w : World) (r : Nat) (B : Option Addr) (n c : Nat), RB w r B n c 0 → Calls Tryz.prog 77 #[.pointer (some ⟨r, 0, none⟩)] w (DPost w r B n c (0 + 20000) 100000)) := fun w r B n c h => l91Closed_any r B n c 0 w h (by omega)
  have HV : Hid (∀ (s : ByteArray) (w : World) (r : Nat) (B : Option Addr) (n c : Nat), s.size ≤ 100000 → RB w r B n c (0 + 20000) → Calls Tryz.prog 78 #[.pointer (some ⟨r, 0, none⟩), .string s] w (DPost w r B n c (0 + 20000 + 5000000000) 100000000000)) := fun s w r B n c hs h => l91Value_any s (by omega) r B n c _ w h (by omega)
  have HPK : Hid (∀ w1 r B n c, RB w1 r B n c (0 + 20000 + 5000000000) → Calls Tryz.prog 79 #[.pointer (some ⟨r, 0, none⟩), .int .i64 6] w1 fun e w' => ∃ x : Int, 0 ≤ x ∧ x < 6 ∧ e = .returned (.int .i64 x) ∧ RB w' r B n c (0 + 20000 + 5000000000 + 1) ∧ w1.grownBy w' (some r)) := fun w1 r B n c h => pick_rb r B n c _ 6 w1 h (by omega) (by decide) (by decide)
  have HQ : Hid (∀ (s v : ByteArray) (n : Int) w', s.size ≤ 100000 → v.size ≤ 100000000000 → -1 ≤ n → n ≤ 101 → Below w.heap.size w w' → VIsPost w (.returned (.tuple #[.string s, .string v, .int .i64 n])) w') := fun s v n w' h1 h2 h3 h4 h5 => ⟨s, v, n, h1, h2, h3, h4, rfl, h5⟩
  generalize VIsPost w = Q at *
  clear h
  go_enter Tryz.func31, Tryz.ntmps31
  go_upto_region 4 with (first
    | (go_at_call 76; refine HO.out.mono ?_; rintro e w1 ⟨r, B', n', c', rfl, hr, hb, hlt⟩; have HR := Lib.hid hr; have HB := Lib.hid hb; have HL := Lib.hid hlt; clear hr hb hlt)
    | (go_at_call 77; (with_reducible refine (HT.out _ _ _ _ _ HR.out).mono ?_); rintro e w2 ⟨s, hs, rfl, hr, hg⟩; have HS := Lib.hid hs; have HR2 := Lib.hid hr; have HB2 := Lib.hid (up_grown HB.out hg HL.out); clear hs hr hg)
    | (go_at_call 78; (with_reducible refine (HV.out _ _ _ _ _ _ HS.out HR2.out).mono ?_); rintro e w3 ⟨s2, hs2, rfl, hr, hg⟩; have HS2 := Lib.hid hs2; have HR3 := Lib.hid hr; have HB3 := Lib.hid (up_grown HB2.out hg HL.out); clear hs2 hr hg))
  refine wp_region_noPanic ?_
  refine wp_region_held_drew (S := (fun w' : World => True)) (by kernel_rfl) (by exact trivial) (fun hHeld => ?_)
  refine tk 0 ?_ rfl ?_ ?_
  rotate_left
  · intro W hSW; (try dsimp only at hSW); go_simp; try with_reducible rfl
  try simp only [Act.put, zA, zB, zC, zD, zE, zF]
  refine tk 1 ?_ rfl ?_ ?_
  rotate_left
  · intro W hSW; (try dsimp only at hSW); go_simp; try with_reducible rfl
  try simp only [Act.put, zA, zB, zC, zD, zE, zF]
  refine tk 3 ?_ rfl ?_ ?_
  rotate_left
  · intro W hSW; (try dsimp only at hSW); go_simp; try with_reducible rfl
  try simp only [Act.put, zA, zB, zC, zD, zE, zF]
  refine wpAnyH_ready (rs := [2, 4]) (by kernel_rfl) (by simp) ?_
  refine AllReadyH.cons rfl (fun K hK => ?_) (AllReadyH.cons rfl (fun K hK => ?_) AllReadyH.nil)
  · skip
    go_simp
    refine hK.out _ _ (by exact trivial) (fun hHeld => ?_)
    clear hK
    try simp only [Act.put, zA, zB, zC, zD, zE, zF]
    refine wpAnyH_more (C := fun W => ∀ j : Nat, j < 6 → W.cell? ⟨w3.heap.size, j, none⟩ = some (.int .i64 (drawN j))) (by assumption) (by exact fun j hj => drawN_cell w3 _ j hj) (fun hHeld2 => ?_)
    clear hHeld
    have hHeld := hHeld2
    refine wpAnyH_ready (rs := [4]) (by kernel_rfl) (by simp) ?_
    refine AllReadyH.cons rfl (fun K hK => ?_) AllReadyH.nil
    go_simp
    go_at_call 79
    (with_reducible refine (HPK.out _ _ _ _ _ (HR3.out.up (up_drew (up_alloc (Below.refl _ _) _)))).mono ?_)
    rintro e w4 ⟨x, hx0, hx6, rfl, _, hg4⟩
    obtain ⟨k, rfl, hk⟩ : ∃ k : Nat, x = k ∧ k < 6 := ⟨x.toNat, by omega, by omega⟩
    have B4 := Lib.hid (up_grown (up_drew (up_alloc HB3.out _)) hg4 HL.out)
    have hlt := HR3.out.lt
    have C4 : ∀ j : Nat, j < 6 → w4.cell? ⟨w3.heap.size, j, none⟩ = some (.int .i64 (drawN j)) := fun j hj => by
      have e := hg4.block w3.heap.size (by simp) (by simp; omega)
      have h9 := drawN_cell w3 3 j hj
      simp only [World.cell?] at h9 ⊢
      rw [e]
      exact h9
    clear hg4
    refine hK.out _ _ (by exact ⟨trivial, C4⟩) (fun hHeld => ?_)
    clear hK
    try simp only [Act.put, zA, zB, zC, zD, zE, zF]
    refine wpAnyH_more (C := fun W => W.cell? ⟨w3.heap.size, k, none⟩ = some (.int .i64 (drawN k))) (by assumption) (by exact hHeld.2 k hk) (fun hHeld2 => ?_)
    clear hHeld
    have hHeld := hHeld2
    refine tk 5 ?_ rfl ?_ ?_
    rotate_left
    · intro W hSW; (try dsimp only at hSW); go_simp; try with_reducible rfl
    try simp only [Act.put, zA, zB, zC, zD, zE, zF]
    refine tk 6 ?_ rfl ?_ ?_
    rotate_left
    · intro W hSW; (try dsimp only at hSW); go_simp; try with_reducible rfl
    try simp only [Act.put, zA, zB, zC, zD, zE, zF]
    refine tk 7 ?_ rfl ?_ ?_
    rotate_left
    · intro W hSW; (try dsimp only at hSW); go_simp; try with_reducible rfl
    try simp only [Act.put, zA, zB, zC, zD, zE, zF]
    refine tk 8 ?_ rfl ?_ ?_
    rotate_left
    · intro W hSW; (try dsimp only at hSW); go_simp; try with_reducible rfl
    try simp only [Act.put, zA, zB, zC, zD, zE, zF]
    refine tk 9 ?_ rfl ?_ ?_
    rotate_left
    · intro W hSW; (try dsimp only at hSW); go_simp; try with_reducible rfl
    try simp only [Act.put, zA, zB, zC, zD, zE, zF]
    refine wpAnyH_done (by kernel_rfl) ?_ _
    refine NoPanic.normal ?_
    go_wp2
    refine bodyPost_ret (v := .tuple #[.string s, .string s2, .int .i64 (drawN k)]) (by simp [results, Tryz.results31, go_sem]) rfl ?_
    exact HQ.out _ _ _ _ HS.out HS2.out (drawN_lo k) (drawN_hi k) B4.out
  · skip
    go_simp
    go_at_call 79
    (with_reducible refine (HPK.out _ _ _ _ _ (HR3.out.up (up_drew (Below.refl _ _)))).mono ?_)
    rintro e w4 ⟨x, hx0, hx6, rfl, _, hg4⟩
    obtain ⟨k, rfl, hk⟩ : ∃ k : Nat, x = k ∧ k < 6 := ⟨x.toNat, by omega, by omega⟩
    have B4 := Lib.hid (up_grown (up_drew HB3.out) hg4 HL.out)
    clear hg4
    refine hK.out _ _ (by exact trivial) (fun hHeld => ?_)
    clear hK
    try simp only [Act.put, zA, zB, zC, zD, zE, zF]
    skip
    refine tk 7 ?_ rfl ?_ ?_
    rotate_left
    · intro W hSW; (try dsimp only at hSW); go_simp; try with_reducible rfl
    try simp only [Act.put, zA, zB, zC, zD, zE, zF]
    refine tk 8 ?_ rfl ?_ ?_
    rotate_left
    · intro W hSW; (try dsimp only at hSW); go_simp; try with_reducible rfl
    try simp only [Act.put, zA, zB, zC, zD, zE, zF]
    refine wpAnyH_ready (rs := [2]) (by kernel_rfl) (by simp) ?_
    refine AllReadyH.cons rfl (fun K hK => ?_) AllReadyH.nil
    go_simp
    refine hK.out _ _ (by exact trivial) (fun hHeld => ?_)
    clear hK
    try simp only [Act.put, zA, zB, zC, zD, zE, zF]
    refine wpAnyH_more (C := fun W => W.cell? ⟨w4.heap.size, k, none⟩ = some (.int .i64 (drawN k))) (by assumption) (by exact drawN_cell w4 _ k hk) (fun hHeld2 => ?_)
    clear hHeld
    have hHeld := hHeld2
    refine tk 5 ?_ rfl ?_ ?_
    rotate_left
    · intro W hSW; (try dsimp only at hSW); go_simp; try with_reducible rfl
    try simp only [Act.put, zA, zB, zC, zD, zE, zF]
    refine tk 6 ?_ rfl ?_ ?_
    rotate_left
    · intro W hSW; (try dsimp only at hSW); go_simp; try with_reducible rfl
    try simp only [Act.put, zA, zB, zC, zD, zE, zF]
    refine tk 9 ?_ rfl ?_ ?_
    rotate_left
    · intro W hSW; (try dsimp only at hSW); go_simp; try with_reducible rfl
    try simp only [Act.put, zA, zB, zC, zD, zE, zF]
    refine wpAnyH_done (by kernel_rfl) ?_ _
    refine NoPanic.normal ?_
    go_wp2
    refine bodyPost_ret (v := .tuple #[.string s, .string s2, .int .i64 (drawN k)]) (by simp [results, Tryz.results31, go_sem]) rfl ?_
    exact HQ.out _ _ _ _ HS.out HS2.out (drawN_lo k) (drawN_hi k) (up_alloc B4.out _)

end Go.Proofs.YtpokompplapkhaaGreatDoor
