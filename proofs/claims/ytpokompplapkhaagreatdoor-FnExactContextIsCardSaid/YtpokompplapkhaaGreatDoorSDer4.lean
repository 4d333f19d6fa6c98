/- The reference's l3Deriv, whole. -/
import Derived.Test.YtpokompplapkhaaGreatDoorSDer2
import Derived.Test.YtpokompplapkhaaGreatDoorSDer3
namespace Go.Proofs.YtpokompplapkhaaGreatDoor
open Go.RowKit
set_option linter.unusedVariables false
set_option linter.unusedSimpArgs false

set_option maxHeartbeats 8000000 in
set_option maxRecDepth 100000 in
theorem l3Deriv_rec (x s : List UInt8) (a : NT) (hl : LV x (.loop s a)) : DV x (.loop s a) := by
  intro v w P hP hp
  have hp0 := hp
  have hp : TAt w P (.mk [] [.mk [114, 101, 99] [], .mk s [], a.toTr]) v := hp
  obtain ⟨bl, o, c', rfl, A2, n2, cc2, A4, n4, c4, HC0, HH0⟩ := three_keeps hp
  have HH : Hid (∀ w1, Below w.heap.size w w1 → Calls Tryz.prog 125 #[.agg #[.string (St []), .slice (some ⟨bl, o, none⟩) 3 c']] w1 fun e w' => e = .returned (.string (St [114, 101, 99])) ∧ Below w1.heap.size w1 w') := fun w1 hb => HH0.out w1 (.up hb)
  have HL : Hid (∀ w1, Below w.heap.size w w1 → w.heap.size + 2 ≤ w1.heap.size → Calls Tryz.prog 159 #[.agg #[.string (St []), .slice (some ⟨bl, o, none⟩) 3 c'], .string (St x)] w1 (DvPost w1 (fun k => P k ∧ k ≠ w.heap.size + 1) (.loop s a) x)) := fun w1 hb hs =>
    hl _ w1 _ (fun k hk => ⟨hP k (by omega), by omega⟩) (hp0.move fun k hk ho => ⟨⟨ho, by omega⟩, hb.block k hk⟩)
  clear hp hp0 hP HC0 HH0 hl
  have X2 : Hid (((w.alloc (.cells #[.string (St []), .slice (some ⟨bl, o, none⟩) 3 c'] 59)).alloc (.cells #[.string (St []), .slice none 0 0] 59)).heap[w.heap.size]? = some (.cells #[.string (St []), .slice (some ⟨bl, o, none⟩) 3 c'] 59 (0, 0))) := old2 w _ _
  have R2 : Hid (((w.alloc (.cells #[.string (St []), .slice (some ⟨bl, o, none⟩) 3 c'] 59)).alloc (.cells #[.string (St []), .slice none 0 0] 59)).heap[w.heap.size + 1]? = some (.cells #[.string (St []), .slice none 0 0] 59 (0, 0))) := new2 w _ _
  go_enter Tryz.func105, Tryz.ntmps105
  go_wp2_with (first
    | (go_at_call 125; (refine (HH.out _ (up_alloc (up1 w _) _)).mono ?_); rintro e w3 ⟨rfl, hb3⟩; have HB3 := Lib.hid (up_trans (up_alloc (up1 w _) _) hb3); have X3 := Lib.hid (block_up hb3 X2.out); have R3 := Lib.hid (block_up hb3 R2.out); have x30 := block_cell X3.out 0; have x31 := block_cell X3.out 1; have HS3 : Hid (w.heap.size + 2 ≤ w3.heap.size) := lt_of_block R3.out; clear hb3)
    | (go_at_call 159; (with_reducible refine (HL.out _ HB3.out HS3.out).mono ?_); rintro e w4 ⟨out, ok, hd, ⟨x4, B4, m4, c4', rfl, ht4⟩, hb4⟩; have HB4 := Lib.hid (up_trans HB3.out hb4); have R4 := Lib.hid (block_up hb4 R3.out); have rc0 := block_cell R4.out 0; have rc1 := block_cell R4.out 1; have fr0 := block_free R4.out 0; have fr1 := block_free R4.out 1; have lr4 := lt_of_block R4.out; have HT4 := Lib.hid ht4; have HDR := Lib.hid hd; clear ht4 hb4 hd))
  refine bodyPost_ret (v := .tuple #[.agg #[.string x4, .slice B4 m4 c4'], .bool ok]) (by simp [results, Tryz.results105, go_sem, rc0, rc1, lr4]) rfl ?_
  exact ⟨out, ok, HDR.out, ⟨_, _, _, _, rfl, HT4.out.move fun k hk ho => by
    have h1 : P k := ho.1
    have h2 : k ≠ w.heap.size + 1 := ho.2
    refine ⟨h1, ?_⟩
    repeat (first | rfl | rw [drew_heap] | rw [Below.heap_setCell _ ⟨w.heap.size + 1, 0, none⟩ _ k (by show k ≠ w.heap.size + 1; omega)] | rw [Below.heap_setCell _ ⟨w.heap.size + 1, 1, none⟩ _ k (by show k ≠ w.heap.size + 1; omega)])⟩, by repeat (first | exact HB4.out | refine up_drew ?_ | refine set0 ?_ (by omega))⟩

theorem DV_any (x : List UInt8) (hx : nmOk x) : ∀ (m : Nat) (n : NT), n.atoms ≤ m → n.ok3 → n.atoms ≤ 400 → DV x n
  | 0, n, h, _, _ => by have := atoms_pos n; omega
  | m + 1, .zero, _, _, _ => .leaf (s := [48]) (by simp) rfl (fun h => absurd h.symm hx.2.1) fun _ => .zero_ x
  | m + 1, .one, _, _, _ => .leaf (s := [49]) (by simp) rfl (fun h => absurd h.symm hx.2.2.1) fun _ => .one_ x
  | m + 1, .name s, _, h, _ => .leaf (s := s) h.1 rfl (fun e => by rw [e]; exact .hit_ x) fun e => .miss_ e
  | m + 1, .sum a b, hm, h, ha => by
    have ha' := ha
    simp only [NT.atoms] at hm ha'
    have h1 := atoms_pos a
    have h2 := atoms_pos b
    exact l3Deriv_sum x a b (DV_any x hx m a (by omega) h.1 (by omega)) (DV_any x hx m b (by omega) h.2 (by omega))
  | m + 1, .prod a b, hm, h, ha => by
    have ha' := ha
    simp only [NT.atoms] at hm ha'
    have h1 := atoms_pos a
    have h2 := atoms_pos b
    exact l3Deriv_prod x a b h ha (DV_any x hx m a (by omega) h.1 (by omega)) (DV_any x hx m b (by omega) h.2 (by omega))
  | m + 1, .loop s a, hm, h, ha => by
    refine l3Deriv_rec x s a (l3Loop_any x hx s a h ha fun l b hl hb => ?_)
    have hm' := hm
    simp only [NT.atoms] at hm' hb
    have ha' := ha
    simp only [NT.atoms] at ha'
    exact ⟨DV_any x hx m b (by omega) hl.2 (by omega), DV_any l hl.1.1 m b (by omega) hl.2 (by omega)⟩
theorem l3Deriv_any (n : NT) (h : n.ok3) (ha : n.atoms ≤ 400) (x : List UInt8) (hx : nmOk x) : DV x n := DV_any x hx n.atoms n (Nat.le_refl _) h ha

end Go.Proofs.YtpokompplapkhaaGreatDoor
