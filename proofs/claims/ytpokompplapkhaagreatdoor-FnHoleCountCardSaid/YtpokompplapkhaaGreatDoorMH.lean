/- The reference's l1Put. l1Put whole. The canonical text, in plain Lean: of a type with names it is that of its nameless form. The reference's l1Sub. The reference's l1Uses and DerivPlaces. The reference's l1Text. The reference's l1Fits, l1Canon. -/
import Derived.Test.YtpokompplapkhaaGreatDoorMG
import Derived.Test.YtpokompplapkhaaGreatDoorMF
import Derived.Test.YtpokompplapkhaaGreatDoorMD
import Derived.Deep.RegionHeld3
namespace Go.Proofs.YtpokompplapkhaaGreatDoor
set_option maxHeartbeats 8000000
set_option maxRecDepth 100000
open Go.RowKit
set_option linter.unusedVariables false
set_option linter.unusedSimpArgs false
def putT (nm : List UInt8) (u : NT) : NT -> NT
 | .name s => if s = nm then u else .name s
 | .sum a b => .sum (putT nm u a) (putT nm u b)
 | .prod a b => .prod (putT nm u a) (putT nm u b)
 | .loop s a => if s = nm then .loop s a else .loop s (putT nm u a)
 | t => t
theorem new3 (w : World) (o1 o2 o3 : Obj) : (((w.alloc o1).alloc o2).alloc o3).heap[w.heap.size + 2]? = some o3 := by
 have := block_new ((w.alloc o1).alloc o2) o3
 rw [show ((w.alloc o1).alloc o2).heap.size = w.heap.size + 2 by simp] at this
 exact this
def PPost (w : World) (ok : Nat -> Prop) (n : NT) (e : Ending) (w' : World) : Prop :=
 (∃ x A m c, e = .returned (.agg #[.string x, .slice A m c]) /\ TAt w' (fun k => ok k \/ w.heap.size <= k) n.toTr (.agg #[.string x, .slice A m c])) /\ Below w.heap.size w w'
def LPt (nm : List UInt8) (u : NT) (n : NT) : Prop := ∀ (v vu : Value) (w : World) (ok : Nat -> Prop), (∀ k, ok k -> k < w.heap.size) -> TAt w ok n.toTr v -> TAt w ok u.toTr vu -> Calls Tryz.prog 231 #[v, .string (St nm), vu] w (PPost w ok (putT nm u n))
theorem l1Put_atom (nm s : List UInt8) (hs : s ≠ []) (u f2 : NT) (hf : f2 = if s = nm then u else f2) (hf2 : ¬ s = nm -> f2.toTr = .mk s []) (v vu : Value) (w : World) (ok : Nat -> Prop) (hok : ∀ k, ok k -> k < w.heap.size) (hp : TAt w ok (.mk s []) v) (hu : TAt w ok u.toTr vu) :
 Calls Tryz.prog 231 #[v, .string (St nm), vu] w (PPost w ok f2) := by
 have HP := Lib.hid hp
 have HU := Lib.hid hu
 obtain ⟨A, c, rfl, _⟩ := TAt.parts hp
 obtain ⟨y, By, ny, cy, rfl⟩ := hu.form
 have k0 := St_ne hs
 have HOK := Lib.hid hok
 have HMV : Hid (∀ (t : Tr) (v : Value) (o : Obj), TAt w ok t v -> TAt (((w.alloc (.cells #[.string (St s), .slice A 0 c] 59)).alloc (.cells #[.string y, .slice By ny cy] 59)).alloc o) (fun k => ok k \/ w.heap.size <= k) t v) := fun t v o h => h.move fun k hk ho => ⟨.inl ho, (up_alloc (up_alloc (up1 w _) _) _ : Below w.heap.size w _).block k hk⟩
 clear hp hu hs hok
 by_cases h : s = nm
 · have q : (s == nm) = true := by rw [h]; simp
   rw [if_pos h] at hf
   subst hf
   clear h hf2
   go_enter Tryz.func231, Tryz.ntmps231
   go_wp2
   refine bodyPost_ret (v := .agg #[.string y, .slice By ny cy]) (by simp [results, Tryz.results231, go_sem]) rfl ?_
   exact ⟨⟨_, _, _, _, rfl, HMV.out _ _ _ HU.out⟩, up_alloc (up_alloc (up1 w _) _) _⟩
 · have q : (s == nm) = false := St_ne h
   have hf3 := Lib.hid (hf2 h)
   clear h hf2 hf
   go_enter Tryz.func231, Tryz.ntmps231
   go_wp2
   refine bodyPost_ret (v := .agg #[.string (St s), .slice A 0 c]) (by simp [results, Tryz.results231, go_sem]) rfl ?_
   refine ⟨⟨_, _, _, _, rfl, ?_⟩, up_alloc (up_alloc (up1 w _) _) _⟩
   rw [hf3.out]
   exact HMV.out _ _ _ HP.out
end Go.Proofs.YtpokompplapkhaaGreatDoor
namespace Go.Proofs.YtpokompplapkhaaGreatDoor
set_option maxHeartbeats 8000000
set_option maxRecDepth 100000
open Go.RowKit
set_option linter.unusedVariables false
set_option linter.unusedSimpArgs false
theorem list2 (h : List UInt8) (f2 : NT) (ta tb : Tr) (hf : f2.toTr = .mk [] [.mk h [], ta, tb]) (w5 : World) (x2 x5 : ByteArray) (B2 B5 : Option Addr) (n2 c2 n5 c5 : Nat) (ok : Nat -> Prop) (h1 : TAt w5 ok ta (.agg #[.string x2, .slice B2 n2 c2])) (h2 : TAt w5 ok tb (.agg #[.string x5, .slice B5 n5 c5])) :
 Calls Tryz.prog 71 #[.string (St h), .slice (some ⟨w5.heap.size, 0, none⟩) 2 2] (w5.alloc (.cells #[.string x2, .slice B2 n2 c2, .string x5, .slice B5 n5 c5] 59)) fun e w' => (∃ x A n c, e = .returned (.agg #[.string x, .slice A n c]) /\ TAt w' (fun k => w5.heap.size < k \/ ok k) f2.toTr (.agg #[.string x, .slice A n c])) /\ Below w5.heap.size w5 w' := by
 have ht := trees2 (h1.up (up1 w5 (.cells #[.string x2, .slice B2 n2 c2, .string x5, .slice B5 n5 c5] 59))) (h2.up (up1 w5 (.cells #[.string x2, .slice B2 n2 c2, .string x5, .slice B5 n5 c5] 59)))
 refine (l1List_any h [ta, tb] w5.heap.size 0 2 _ ok _ ht (fun j u hu => ?_) (by simp) (by simp)).mono ?_
 · rw [Nat.zero_add, block_cell (block_new w5 _) j]
   simpa using hu
 · rintro e w' ⟨⟨x, A, n, c, he, htt⟩, hb⟩
   refine ⟨⟨x, A, n, c, he, ?_⟩, up_trans (up1 w5 _) hb⟩
   rw [hf]
   refine htt.move fun k hk ho => ⟨?_, rfl⟩
   rcases ho with ho | ho
   · exact .inl (show w5.heap.size < k from Nat.lt_of_succ_le (by simpa using ho))
   · exact .inr ho
theorem l1Put_two (nm h : List UInt8) (hne : h ≠ [114, 101, 99]) (u a b f2 a' b' : NT) (hf : f2.toTr = .mk [] [.mk h [], a'.toTr, b'.toTr]) (v vu : Value) (w : World) (ok : Nat -> Prop) (hok : ∀ k, ok k -> k < w.heap.size) (hp : TAt w ok (.mk [] [.mk h [], a.toTr, b.toTr]) v) (hu : TAt w ok u.toTr vu)
 (iha : ∀ w1 v vu, Below w.heap.size w w1 -> TAt w1 ok a.toTr v -> TAt w1 ok u.toTr vu -> Calls Tryz.prog 231 #[v, .string (St nm), vu] w1 (PPost w1 ok a'))
 (ihb : ∀ w1 v vu, Below w.heap.size w w1 -> TAt w1 ok b.toTr v -> TAt w1 ok u.toTr vu -> Calls Tryz.prog 231 #[v, .string (St nm), vu] w1 (PPost w1 ok b')) :
 Calls Tryz.prog 231 #[v, .string (St nm), vu] w (PPost w ok f2) := by
 obtain ⟨bl, o, c', rfl, A2, n2, cc2, A4, n4, c4, HC, HH⟩ := three_far (r := w.heap.size) (fun j hj => by have := hok j hj; omega) hp
 have k0 : (h == [114, 101, 99]) = false := St_ne hne
 obtain ⟨y, By, ny, cy, rfl⟩ := hu.form
 have HU : Hid (∀ w1, Below w.heap.size w w1 -> TAt w1 ok u.toTr (.agg #[.string y, .slice By ny cy])) := fun w1 hb => hu.up hb
 have HOK : Hid (∀ k, ok k -> k < w.heap.size) := hok
 have IHA := Lib.hid iha
 have IHB := Lib.hid ihb
 have HLS : Hid (∀ (w5 : World) (x2 x5 : ByteArray) (B2 B5 : Option Addr) (n2 c2 n5 c5 : Nat) (ok : Nat -> Prop), TAt w5 ok a'.toTr (.agg #[.string x2, .slice B2 n2 c2]) -> TAt w5 ok b'.toTr (.agg #[.string x5, .slice B5 n5 c5]) -> Calls Tryz.prog 71 #[.string (St h), .slice (some ⟨w5.heap.size, 0, none⟩) 2 2] (w5.alloc (.cells #[.string x2, .slice B2 n2 c2, .string x5, .slice B5 n5 c5] 59)) fun e w' => (∃ x A n c, e = .returned (.agg #[.string x, .slice A n c]) /\ TAt w' (fun k => w5.heap.size < k \/ ok k) f2.toTr (.agg #[.string x, .slice A n c])) /\ Below w5.heap.size w5 w') := fun w5 x2 x5 B2 B5 n2 c2 n5 c5 ok h1 h2 => list2 h f2 a'.toTr b'.toTr hf w5 x2 x5 B2 B5 n2 c2 n5 c5 ok h1 h2
 clear hp hu hok iha ihb hne hf
 generalize a.toTr.atom = xa at *
 generalize b.toTr.atom = xb at *
 go_enter Tryz.func231, Tryz.ntmps231
 go_wp2_with (go_at_call 125; refine (HH.out _ (below_grow (up_alloc (up_alloc (up1 w _) _) _))).mono ?_; rintro e w1 ⟨rfl, hb1⟩; have X1 : Hid (w1.heap[w.heap.size]? = some (.cells #[.string (St []), .slice (some ⟨bl, o, none⟩) 3 c'] 59 (0, 0))) := block_up hb1 (block_alloc (old2 w (.cells #[.string (St []), .slice (some ⟨bl, o, none⟩) 3 c'] 59) (.cells #[.string y, .slice By ny cy] 59)) (.cells #[.string (St []), .slice none 0 0] 59)); have Y1 : Hid (w1.heap[w.heap.size + 1]? = some (.cells #[.string y, .slice By ny cy] 59 (0, 0))) := block_up hb1 (block_alloc (new2 w (.cells #[.string (St []), .slice (some ⟨bl, o, none⟩) 3 c'] 59) (.cells #[.string y, .slice By ny cy] 59)) (.cells #[.string (St []), .slice none 0 0] 59)); have R1 : Hid (w1.heap[w.heap.size + 2]? = some (.cells #[.string (St []), .slice none 0 0] 59 (0, 0))) := block_up hb1 (new3 w (.cells #[.string (St []), .slice (some ⟨bl, o, none⟩) 3 c'] 59) (.cells #[.string y, .slice By ny cy] 59) (.cells #[.string (St []), .slice none 0 0] 59)); have HB1 := Lib.hid (up_trans (up_alloc (up_alloc (up1 w _) _) _) hb1); have s1 : w1.cell? ⟨w.heap.size, 0, none⟩ = some (.string (St [])) /\ w1.cell? ⟨w.heap.size, 1, none⟩ = some (.slice (some ⟨bl, o, none⟩) 3 c') /\ w1.cell? ⟨w.heap.size + 1, 0, none⟩ = some (.string y) /\ w1.cell? ⟨w.heap.size + 1, 1, none⟩ = some (.slice By ny cy) /\ w1.cell? ⟨bl, o + 2, none⟩ = some (.string (St xa)) /\ w1.cell? ⟨bl, o + 3, none⟩ = some (.slice A2 n2 cc2) /\ w1.cell? ⟨bl, o + 4, none⟩ = some (.string (St xb)) /\ w1.cell? ⟨bl, o + 5, none⟩ = some (.slice A4 n4 c4) := ⟨block_cell X1.out 0, block_cell X1.out 1, block_cell Y1.out 0, block_cell Y1.out 1, (HC.out _ (below_grow HB1.out)).1, (HC.out _ (below_grow HB1.out)).2.1, (HC.out _ (below_grow HB1.out)).2.2.1, (HC.out _ (below_grow HB1.out)).2.2.2.1⟩; have lw1 := lt_of_block R1.out; clear hb1)
 go_region_held3 (fun w' => w'.cell? ⟨w.heap.size, 0, none⟩ = some (.string (St [])) /\ w'.cell? ⟨w.heap.size, 1, none⟩ = some (.slice (some ⟨bl, o, none⟩) 3 c') /\ w'.cell? ⟨w.heap.size + 1, 0, none⟩ = some (.string y) /\ w'.cell? ⟨w.heap.size + 1, 1, none⟩ = some (.slice By ny cy) /\ w'.cell? ⟨bl, o + 2, none⟩ = some (.string (St xa)) /\ w'.cell? ⟨bl, o + 3, none⟩ = some (.slice A2 n2 cc2) /\ w'.cell? ⟨bl, o + 4, none⟩ = some (.string (St xb)) /\ w'.cell? ⟨bl, o + 5, none⟩ = some (.slice A4 n4 c4))
  (first | exact s8 | exact s7 | exact s6 | exact ⟨cell_up (up1 w6 (.cells #[.string x5, .slice B5 m5 q5, .string x6, .slice B6 m6 q6] 59)) s6.1, cell_up (up1 w6 (.cells #[.string x5, .slice B5 m5 q5, .string x6, .slice B6 m6 q6] 59)) s6.2.1, cell_up (up1 w6 (.cells #[.string x5, .slice B5 m5 q5, .string x6, .slice B6 m6 q6] 59)) s6.2.2.1, cell_up (up1 w6 (.cells #[.string x5, .slice B5 m5 q5, .string x6, .slice B6 m6 q6] 59)) s6.2.2.2.1, cell_up (up1 w6 (.cells #[.string x5, .slice B5 m5 q5, .string x6, .slice B6 m6 q6] 59)) s6.2.2.2.2.1, cell_up (up1 w6 (.cells #[.string x5, .slice B5 m5 q5, .string x6, .slice B6 m6 q6] 59)) s6.2.2.2.2.2.1, cell_up (up1 w6 (.cells #[.string x5, .slice B5 m5 q5, .string x6, .slice B6 m6 q6] 59)) s6.2.2.2.2.2.2.1, cell_up (up1 w6 (.cells #[.string x5, .slice B5 m5 q5, .string x6, .slice B6 m6 q6] 59)) s6.2.2.2.2.2.2.2⟩ | exact s5 | exact s4 | exact s1 | go_keep)
  (first
   | (go_at_call 125; (with_reducible refine (HH.out _ (below_grow (up_drew HB1.out))).mono ?_); rintro e w4 ⟨rfl, hb4⟩; have hb4' : Below w1.heap.size w1 w4 := up_trans (up_drew (Below.refl _ w1)) hb4; have X4 := Lib.hid (block_up hb4' X1.out); have Y4 := Lib.hid (block_up hb4' Y1.out); have R4 := Lib.hid (block_up hb4' R1.out); have HB4 := Lib.hid (up_trans HB1.out hb4'); have s4 : w4.cell? ⟨w.heap.size, 0, none⟩ = some (.string (St [])) /\ w4.cell? ⟨w.heap.size, 1, none⟩ = some (.slice (some ⟨bl, o, none⟩) 3 c') /\ w4.cell? ⟨w.heap.size + 1, 0, none⟩ = some (.string y) /\ w4.cell? ⟨w.heap.size + 1, 1, none⟩ = some (.slice By ny cy) /\ w4.cell? ⟨bl, o + 2, none⟩ = some (.string (St xa)) /\ w4.cell? ⟨bl, o + 3, none⟩ = some (.slice A2 n2 cc2) /\ w4.cell? ⟨bl, o + 4, none⟩ = some (.string (St xb)) /\ w4.cell? ⟨bl, o + 5, none⟩ = some (.slice A4 n4 c4) := ⟨block_cell X4.out 0, block_cell X4.out 1, block_cell Y4.out 0, block_cell Y4.out 1, (HC.out _ (below_grow HB4.out)).1, (HC.out _ (below_grow HB4.out)).2.1, (HC.out _ (below_grow HB4.out)).2.2.1, (HC.out _ (below_grow HB4.out)).2.2.2.1⟩; have HL4 : Hid (w.heap.size + 2 < w4.heap.size) := lt_of_block R4.out; have TA4 := (HC.out _ (below_grow HB4.out)).2.2.2.2.1; clear hb4)
   | (go_at_call 231; first
    | ((with_reducible refine (IHB.out _ _ _ HB5.out TB5.out (HU.out _ HB5.out)).mono ?_); rintro e w6 ⟨⟨x6, B6, m6, q6, rfl, ht6⟩, hb6⟩; have X6 := Lib.hid (block_up hb6 X5.out); have Y6 := Lib.hid (block_up hb6 Y5.out); have R6 := Lib.hid (block_up hb6 R5.out); have HB6 := Lib.hid (up_trans HB5.out hb6); have s6 : w6.cell? ⟨w.heap.size, 0, none⟩ = some (.string (St [])) /\ w6.cell? ⟨w.heap.size, 1, none⟩ = some (.slice (some ⟨bl, o, none⟩) 3 c') /\ w6.cell? ⟨w.heap.size + 1, 0, none⟩ = some (.string y) /\ w6.cell? ⟨w.heap.size + 1, 1, none⟩ = some (.slice By ny cy) /\ w6.cell? ⟨bl, o + 2, none⟩ = some (.string (St xa)) /\ w6.cell? ⟨bl, o + 3, none⟩ = some (.slice A2 n2 cc2) /\ w6.cell? ⟨bl, o + 4, none⟩ = some (.string (St xb)) /\ w6.cell? ⟨bl, o + 5, none⟩ = some (.slice A4 n4 c4) := ⟨block_cell X6.out 0, block_cell X6.out 1, block_cell Y6.out 0, block_cell Y6.out 1, (HC.out _ (below_grow HB6.out)).1, (HC.out _ (below_grow HB6.out)).2.1, (HC.out _ (below_grow HB6.out)).2.2.1, (HC.out _ (below_grow HB6.out)).2.2.2.1⟩; have HT6 : Hid (TAt w6 (fun k => ok k \/ w4.heap.size <= k) b'.toTr (.agg #[.string x6, .slice B6 m6 q6])) := ht6.weak (fun k ho => ho.elim .inl (fun h => .inr (Nat.le_trans HS45.out h))); have HT56 := Lib.hid (HT5.out.up hb6); clear ht6 hb6)
    | ((with_reducible refine (IHA.out _ _ _ HB4.out TA4.out (HU.out _ HB4.out)).mono ?_); rintro e w5 ⟨⟨x5, B5, m5, q5, rfl, ht5⟩, hb5⟩; have X5 := Lib.hid (block_up hb5 X4.out); have Y5 := Lib.hid (block_up hb5 Y4.out); have R5 := Lib.hid (block_up hb5 R4.out); have HB5 := Lib.hid (up_trans HB4.out hb5); have s5 : w5.cell? ⟨w.heap.size, 0, none⟩ = some (.string (St [])) /\ w5.cell? ⟨w.heap.size, 1, none⟩ = some (.slice (some ⟨bl, o, none⟩) 3 c') /\ w5.cell? ⟨w.heap.size + 1, 0, none⟩ = some (.string y) /\ w5.cell? ⟨w.heap.size + 1, 1, none⟩ = some (.slice By ny cy) /\ w5.cell? ⟨bl, o + 2, none⟩ = some (.string (St xa)) /\ w5.cell? ⟨bl, o + 3, none⟩ = some (.slice A2 n2 cc2) /\ w5.cell? ⟨bl, o + 4, none⟩ = some (.string (St xb)) /\ w5.cell? ⟨bl, o + 5, none⟩ = some (.slice A4 n4 c4) := ⟨block_cell X5.out 0, block_cell X5.out 1, block_cell Y5.out 0, block_cell Y5.out 1, (HC.out _ (below_grow HB5.out)).1, (HC.out _ (below_grow HB5.out)).2.1, (HC.out _ (below_grow HB5.out)).2.2.1, (HC.out _ (below_grow HB5.out)).2.2.2.1⟩; have HT5 : Hid (TAt w5 (fun k => ok k \/ w4.heap.size <= k) a'.toTr (.agg #[.string x5, .slice B5 m5 q5])) := ht5; have HS45 : Hid (w4.heap.size <= w5.heap.size) := hb5.size; have TB5 := (HC.out _ (below_grow HB5.out)).2.2.2.2.2; clear ht5 hb5))
   | (go_at_call 71; (with_reducible refine (HLS.out w6 x5 x6 B5 B6 m5 q5 m6 q6 (fun k => ok k \/ w4.heap.size <= k) HT56.out HT6.out).mono ?_); rintro e w7 ⟨⟨x7, B7, m7, q7, rfl, ht7⟩, hb7⟩; have X7 := Lib.hid (block_up hb7 X6.out); have Y7 := Lib.hid (block_up hb7 Y6.out); have R7 := Lib.hid (block_up hb7 R6.out); have HB7 := Lib.hid (up_trans HB6.out hb7); have s7 : w7.cell? ⟨w.heap.size, 0, none⟩ = some (.string (St [])) /\ w7.cell? ⟨w.heap.size, 1, none⟩ = some (.slice (some ⟨bl, o, none⟩) 3 c') /\ w7.cell? ⟨w.heap.size + 1, 0, none⟩ = some (.string y) /\ w7.cell? ⟨w.heap.size + 1, 1, none⟩ = some (.slice By ny cy) /\ w7.cell? ⟨bl, o + 2, none⟩ = some (.string (St xa)) /\ w7.cell? ⟨bl, o + 3, none⟩ = some (.slice A2 n2 cc2) /\ w7.cell? ⟨bl, o + 4, none⟩ = some (.string (St xb)) /\ w7.cell? ⟨bl, o + 5, none⟩ = some (.slice A4 n4 c4) := ⟨block_cell X7.out 0, block_cell X7.out 1, block_cell Y7.out 0, block_cell Y7.out 1, (HC.out _ (below_grow HB7.out)).1, (HC.out _ (below_grow HB7.out)).2.1, (HC.out _ (below_grow HB7.out)).2.2.1, (HC.out _ (below_grow HB7.out)).2.2.2.1⟩; have rc0 : w7.cell? ⟨w.heap.size + 2, 0, none⟩ = some (.string (St [])) := block_cell R7.out 0; have rc1 : w7.cell? ⟨w.heap.size + 2, 1, none⟩ = some (.slice none 0 0) := block_cell R7.out 1; have fr0 := block_free R7.out 0; have fr1 := block_free R7.out 1; have lr7 := lt_of_block R7.out; have HB8 : Hid (Below w.heap.size w ((w7.setCell ⟨w.heap.size + 2, 0, none⟩ (.string x7)).setCell ⟨w.heap.size + 2, 1, none⟩ (.slice B7 m7 q7))) := set0 (set0 HB7.out (by omega)) (by omega); have X8 : Hid (((w7.setCell ⟨w.heap.size + 2, 0, none⟩ (.string x7)).setCell ⟨w.heap.size + 2, 1, none⟩ (.slice B7 m7 q7)).heap[w.heap.size]? = some (.cells #[.string (St []), .slice (some ⟨bl, o, none⟩) 3 c'] 59 (0, 0))) := (set2_block w7 _ _ (by omega)).trans X7.out; have Y8 : Hid (((w7.setCell ⟨w.heap.size + 2, 0, none⟩ (.string x7)).setCell ⟨w.heap.size + 2, 1, none⟩ (.slice B7 m7 q7)).heap[w.heap.size + 1]? = some (.cells #[.string y, .slice By ny cy] 59 (0, 0))) := (set2_block w7 _ _ (by omega)).trans Y7.out; have s8 : ((w7.setCell ⟨w.heap.size + 2, 0, none⟩ (.string x7)).setCell ⟨w.heap.size + 2, 1, none⟩ (.slice B7 m7 q7)).cell? ⟨w.heap.size, 0, none⟩ = some (.string (St [])) /\ ((w7.setCell ⟨w.heap.size + 2, 0, none⟩ (.string x7)).setCell ⟨w.heap.size + 2, 1, none⟩ (.slice B7 m7 q7)).cell? ⟨w.heap.size, 1, none⟩ = some (.slice (some ⟨bl, o, none⟩) 3 c') /\ ((w7.setCell ⟨w.heap.size + 2, 0, none⟩ (.string x7)).setCell ⟨w.heap.size + 2, 1, none⟩ (.slice B7 m7 q7)).cell? ⟨w.heap.size + 1, 0, none⟩ = some (.string y) /\ ((w7.setCell ⟨w.heap.size + 2, 0, none⟩ (.string x7)).setCell ⟨w.heap.size + 2, 1, none⟩ (.slice B7 m7 q7)).cell? ⟨w.heap.size + 1, 1, none⟩ = some (.slice By ny cy) /\ ((w7.setCell ⟨w.heap.size + 2, 0, none⟩ (.string x7)).setCell ⟨w.heap.size + 2, 1, none⟩ (.slice B7 m7 q7)).cell? ⟨bl, o + 2, none⟩ = some (.string (St xa)) /\ ((w7.setCell ⟨w.heap.size + 2, 0, none⟩ (.string x7)).setCell ⟨w.heap.size + 2, 1, none⟩ (.slice B7 m7 q7)).cell? ⟨bl, o + 3, none⟩ = some (.slice A2 n2 cc2) /\ ((w7.setCell ⟨w.heap.size + 2, 0, none⟩ (.string x7)).setCell ⟨w.heap.size + 2, 1, none⟩ (.slice B7 m7 q7)).cell? ⟨bl, o + 4, none⟩ = some (.string (St xb)) /\ ((w7.setCell ⟨w.heap.size + 2, 0, none⟩ (.string x7)).setCell ⟨w.heap.size + 2, 1, none⟩ (.slice B7 m7 q7)).cell? ⟨bl, o + 5, none⟩ = some (.slice A4 n4 c4) := ⟨block_cell X8.out 0, block_cell X8.out 1, block_cell Y8.out 0, block_cell Y8.out 1, (HC.out _ (below_grow HB8.out)).1, (HC.out _ (below_grow HB8.out)).2.1, (HC.out _ (below_grow HB8.out)).2.2.1, (HC.out _ (below_grow HB8.out)).2.2.2.1⟩; have HFIN : Hid (PPost w ok f2 (.returned (.agg #[.string x7, .slice B7 m7 q7])) ((w7.setCell ⟨w.heap.size + 2, 0, none⟩ (.string x7)).setCell ⟨w.heap.size + 2, 1, none⟩ (.slice B7 m7 q7))) := ⟨⟨x7, B7, m7, q7, rfl, ht7.move (fun k hk ho => ⟨(by (have ho2 : w6.heap.size < k \/ ok k \/ w4.heap.size <= k := ho); have lR := lt_of_block R6.out; have l4 := HL4.out; show ok k \/ w.heap.size <= k; rcases ho2 with h | h | h; exact .inr (by omega); exact .inl h; exact .inr (by omega)), set2_block w7 _ _ (show k ≠ w.heap.size + 2 by (have ho2 : w6.heap.size < k \/ ok k \/ w4.heap.size <= k := ho); have lR := lt_of_block R6.out; have l4 := HL4.out; rcases ho2 with h | h | h; omega; (have := HOK.out k h; omega); omega)⟩)⟩, HB8.out⟩; clear ht7 hb7))
 all_goals go_wp2
 all_goals refine bodyPost_ret (v := .agg #[.string x7, .slice B7 m7 q7]) (by simp [results, Tryz.results231, go_sem, rc0, rc1, lr7]) rfl ?_
 all_goals exact HFIN.out
theorem l1Put_rec (nm xa : List UInt8) (hne : xa ≠ nm) (u b f2 b' : NT) (hf : f2.toTr = .mk [] [.mk [114, 101, 99] [], .mk xa [], b'.toTr]) (v vu : Value) (w : World) (ok : Nat -> Prop) (hok : ∀ k, ok k -> k < w.heap.size) (hp : TAt w ok (.mk [] [.mk [114, 101, 99] [], .mk xa [], b.toTr]) v) (hu : TAt w ok u.toTr vu)
 (ihb : ∀ w1 v vu, Below w.heap.size w w1 -> TAt w1 ok b.toTr v -> TAt w1 ok u.toTr vu -> Calls Tryz.prog 231 #[v, .string (St nm), vu] w1 (PPost w1 ok b')) :
 Calls Tryz.prog 231 #[v, .string (St nm), vu] w (PPost w ok f2) := by
 obtain ⟨bl, o, c', rfl, A2, n2, cc2, A4, n4, c4, HC, HH⟩ := three_far (r := w.heap.size) (fun j hj => by have := hok j hj; omega) hp
 have hxa : (Tr.mk xa []).atom = xa := rfl
 rw [hxa] at HC
 have k1 : (xa == nm) = false := St_ne hne
 obtain ⟨y, By, ny, cy, rfl⟩ := hu.form
 have HU : Hid (∀ w1, Below w.heap.size w w1 -> TAt w1 ok u.toTr (.agg #[.string y, .slice By ny cy])) := fun w1 hb => hu.up hb
 have HOK : Hid (∀ k, ok k -> k < w.heap.size) := hok
 have IHB := Lib.hid ihb
 have HLS : Hid (∀ (w5 : World) (x2 x5 : ByteArray) (B2 B5 : Option Addr) (n2 c2 n5 c5 : Nat) (ok : Nat -> Prop), TAt w5 ok (.mk xa []) (.agg #[.string x2, .slice B2 n2 c2]) -> TAt w5 ok b'.toTr (.agg #[.string x5, .slice B5 n5 c5]) -> Calls Tryz.prog 71 #[.string ⟨#[114, 101, 99]⟩, .slice (some ⟨w5.heap.size, 0, none⟩) 2 2] (w5.alloc (.cells #[.string x2, .slice B2 n2 c2, .string x5, .slice B5 n5 c5] 59)) fun e w' => (∃ x A n c, e = .returned (.agg #[.string x, .slice A n c]) /\ TAt w' (fun k => w5.heap.size < k \/ ok k) f2.toTr (.agg #[.string x, .slice A n c])) /\ Below w5.heap.size w5 w') := fun w5 x2 x5 B2 B5 n2 c2 n5 c5 ok h1 h2 => list2 [114, 101, 99] f2 (.mk xa []) b'.toTr hf w5 x2 x5 B2 B5 n2 c2 n5 c5 ok h1 h2
 clear hp hu hok ihb hne hf
 generalize b.toTr.atom = xb at *
 go_enter Tryz.func231, Tryz.ntmps231
 go_wp2_with (go_at_call 125; refine (HH.out _ (below_grow (up_alloc (up_alloc (up1 w _) _) _))).mono ?_; rintro e w1 ⟨rfl, hb1⟩; have X1 : Hid (w1.heap[w.heap.size]? = some (.cells #[.string (St []), .slice (some ⟨bl, o, none⟩) 3 c'] 59 (0, 0))) := block_up hb1 (block_alloc (old2 w (.cells #[.string (St []), .slice (some ⟨bl, o, none⟩) 3 c'] 59) (.cells #[.string y, .slice By ny cy] 59)) (.cells #[.string (St []), .slice none 0 0] 59)); have Y1 : Hid (w1.heap[w.heap.size + 1]? = some (.cells #[.string y, .slice By ny cy] 59 (0, 0))) := block_up hb1 (block_alloc (new2 w (.cells #[.string (St []), .slice (some ⟨bl, o, none⟩) 3 c'] 59) (.cells #[.string y, .slice By ny cy] 59)) (.cells #[.string (St []), .slice none 0 0] 59)); have R1 : Hid (w1.heap[w.heap.size + 2]? = some (.cells #[.string (St []), .slice none 0 0] 59 (0, 0))) := block_up hb1 (new3 w (.cells #[.string (St []), .slice (some ⟨bl, o, none⟩) 3 c'] 59) (.cells #[.string y, .slice By ny cy] 59) (.cells #[.string (St []), .slice none 0 0] 59)); have HB1 := Lib.hid (up_trans (up_alloc (up_alloc (up1 w _) _) _) hb1); have s1 : w1.cell? ⟨w.heap.size, 0, none⟩ = some (.string (St [])) /\ w1.cell? ⟨w.heap.size, 1, none⟩ = some (.slice (some ⟨bl, o, none⟩) 3 c') /\ w1.cell? ⟨w.heap.size + 1, 0, none⟩ = some (.string y) /\ w1.cell? ⟨w.heap.size + 1, 1, none⟩ = some (.slice By ny cy) /\ w1.cell? ⟨bl, o + 2, none⟩ = some (.string (St xa)) /\ w1.cell? ⟨bl, o + 3, none⟩ = some (.slice A2 n2 cc2) /\ w1.cell? ⟨bl, o + 4, none⟩ = some (.string (St xb)) /\ w1.cell? ⟨bl, o + 5, none⟩ = some (.slice A4 n4 c4) := ⟨block_cell X1.out 0, block_cell X1.out 1, block_cell Y1.out 0, block_cell Y1.out 1, (HC.out _ (below_grow HB1.out)).1, (HC.out _ (below_grow HB1.out)).2.1, (HC.out _ (below_grow HB1.out)).2.2.1, (HC.out _ (below_grow HB1.out)).2.2.2.1⟩; have lw1 := lt_of_block R1.out; clear hb1)
 have TB1 := (HC.out _ (below_grow HB1.out)).2.2.2.2.2
 go_region_held3 (fun w' => w'.cell? ⟨w.heap.size, 0, none⟩ = some (.string (St [])) /\ w'.cell? ⟨w.heap.size, 1, none⟩ = some (.slice (some ⟨bl, o, none⟩) 3 c') /\ w'.cell? ⟨w.heap.size + 1, 0, none⟩ = some (.string y) /\ w'.cell? ⟨w.heap.size + 1, 1, none⟩ = some (.slice By ny cy) /\ w'.cell? ⟨bl, o + 2, none⟩ = some (.string (St xa)) /\ w'.cell? ⟨bl, o + 3, none⟩ = some (.slice A2 n2 cc2) /\ w'.cell? ⟨bl, o + 4, none⟩ = some (.string (St xb)) /\ w'.cell? ⟨bl, o + 5, none⟩ = some (.slice A4 n4 c4))
  (first | exact s8 | exact s7 | exact s6 | exact ⟨cell_up (up1 w6 (.cells #[.string (St xa), .slice A2 n2 cc2, .string x6, .slice B6 m6 q6] 59)) s6.1, cell_up (up1 w6 (.cells #[.string (St xa), .slice A2 n2 cc2, .string x6, .slice B6 m6 q6] 59)) s6.2.1, cell_up (up1 w6 (.cells #[.string (St xa), .slice A2 n2 cc2, .string x6, .slice B6 m6 q6] 59)) s6.2.2.1, cell_up (up1 w6 (.cells #[.string (St xa), .slice A2 n2 cc2, .string x6, .slice B6 m6 q6] 59)) s6.2.2.2.1, cell_up (up1 w6 (.cells #[.string (St xa), .slice A2 n2 cc2, .string x6, .slice B6 m6 q6] 59)) s6.2.2.2.2.1, cell_up (up1 w6 (.cells #[.string (St xa), .slice A2 n2 cc2, .string x6, .slice B6 m6 q6] 59)) s6.2.2.2.2.2.1, cell_up (up1 w6 (.cells #[.string (St xa), .slice A2 n2 cc2, .string x6, .slice B6 m6 q6] 59)) s6.2.2.2.2.2.2.1, cell_up (up1 w6 (.cells #[.string (St xa), .slice A2 n2 cc2, .string x6, .slice B6 m6 q6] 59)) s6.2.2.2.2.2.2.2⟩ | exact s1 | go_keep)
  (first
   | (go_at_call 231; (with_reducible refine (IHB.out _ _ _ (up_drew HB1.out) (TAt.up (up_drew (Below.refl _ w1)) TB1.out) (HU.out _ (up_drew HB1.out))).mono ?_); rintro e w6 ⟨⟨x6, B6, m6, q6, rfl, ht6⟩, hb6⟩; have hb6' : Below w1.heap.size w1 w6 := up_trans (up_drew (Below.refl _ w1)) hb6; have X6 := Lib.hid (block_up hb6' X1.out); have Y6 := Lib.hid (block_up hb6' Y1.out); have R6 := Lib.hid (block_up hb6' R1.out); have HB6 := Lib.hid (up_trans HB1.out hb6'); have s6 : w6.cell? ⟨w.heap.size, 0, none⟩ = some (.string (St [])) /\ w6.cell? ⟨w.heap.size, 1, none⟩ = some (.slice (some ⟨bl, o, none⟩) 3 c') /\ w6.cell? ⟨w.heap.size + 1, 0, none⟩ = some (.string y) /\ w6.cell? ⟨w.heap.size + 1, 1, none⟩ = some (.slice By ny cy) /\ w6.cell? ⟨bl, o + 2, none⟩ = some (.string (St xa)) /\ w6.cell? ⟨bl, o + 3, none⟩ = some (.slice A2 n2 cc2) /\ w6.cell? ⟨bl, o + 4, none⟩ = some (.string (St xb)) /\ w6.cell? ⟨bl, o + 5, none⟩ = some (.slice A4 n4 c4) := ⟨block_cell X6.out 0, block_cell X6.out 1, block_cell Y6.out 0, block_cell Y6.out 1, (HC.out _ (below_grow HB6.out)).1, (HC.out _ (below_grow HB6.out)).2.1, (HC.out _ (below_grow HB6.out)).2.2.1, (HC.out _ (below_grow HB6.out)).2.2.2.1⟩; have HT6 : Hid (TAt w6 (fun k => ok k \/ w1.heap.size <= k) b'.toTr (.agg #[.string x6, .slice B6 m6 q6])) := ht6; have HX6 : Hid (TAt w6 (fun k => ok k \/ w1.heap.size <= k) (.mk xa []) (.agg #[.string (St xa), .slice A2 n2 cc2])) := ((HC.out _ (below_grow HB6.out)).2.2.2.2.1.out).weak (fun k h => .inl h); have HL4 : Hid (w.heap.size + 2 < w1.heap.size) := lt_of_block R1.out; clear ht6 hb6 hb6')
   | (go_at_call 71; (with_reducible refine (HLS.out w6 (St xa) x6 A2 B6 n2 cc2 m6 q6 (fun k => ok k \/ w1.heap.size <= k) HX6.out HT6.out).mono ?_); rintro e w7 ⟨⟨x7, B7, m7, q7, rfl, ht7⟩, hb7⟩; have X7 := Lib.hid (block_up hb7 X6.out); have Y7 := Lib.hid (block_up hb7 Y6.out); have R7 := Lib.hid (block_up hb7 R6.out); have HB7 := Lib.hid (up_trans HB6.out hb7); have s7 : w7.cell? ⟨w.heap.size, 0, none⟩ = some (.string (St [])) /\ w7.cell? ⟨w.heap.size, 1, none⟩ = some (.slice (some ⟨bl, o, none⟩) 3 c') /\ w7.cell? ⟨w.heap.size + 1, 0, none⟩ = some (.string y) /\ w7.cell? ⟨w.heap.size + 1, 1, none⟩ = some (.slice By ny cy) /\ w7.cell? ⟨bl, o + 2, none⟩ = some (.string (St xa)) /\ w7.cell? ⟨bl, o + 3, none⟩ = some (.slice A2 n2 cc2) /\ w7.cell? ⟨bl, o + 4, none⟩ = some (.string (St xb)) /\ w7.cell? ⟨bl, o + 5, none⟩ = some (.slice A4 n4 c4) := ⟨block_cell X7.out 0, block_cell X7.out 1, block_cell Y7.out 0, block_cell Y7.out 1, (HC.out _ (below_grow HB7.out)).1, (HC.out _ (below_grow HB7.out)).2.1, (HC.out _ (below_grow HB7.out)).2.2.1, (HC.out _ (below_grow HB7.out)).2.2.2.1⟩; have rc0 : w7.cell? ⟨w.heap.size + 2, 0, none⟩ = some (.string (St [])) := block_cell R7.out 0; have rc1 : w7.cell? ⟨w.heap.size + 2, 1, none⟩ = some (.slice none 0 0) := block_cell R7.out 1; have fr0 := block_free R7.out 0; have fr1 := block_free R7.out 1; have lr7 := lt_of_block R7.out; have HB8 : Hid (Below w.heap.size w ((w7.setCell ⟨w.heap.size + 2, 0, none⟩ (.string x7)).setCell ⟨w.heap.size + 2, 1, none⟩ (.slice B7 m7 q7))) := set0 (set0 HB7.out (by omega)) (by omega); have X8 : Hid (((w7.setCell ⟨w.heap.size + 2, 0, none⟩ (.string x7)).setCell ⟨w.heap.size + 2, 1, none⟩ (.slice B7 m7 q7)).heap[w.heap.size]? = some (.cells #[.string (St []), .slice (some ⟨bl, o, none⟩) 3 c'] 59 (0, 0))) := (set2_block w7 _ _ (by omega)).trans X7.out; have Y8 : Hid (((w7.setCell ⟨w.heap.size + 2, 0, none⟩ (.string x7)).setCell ⟨w.heap.size + 2, 1, none⟩ (.slice B7 m7 q7)).heap[w.heap.size + 1]? = some (.cells #[.string y, .slice By ny cy] 59 (0, 0))) := (set2_block w7 _ _ (by omega)).trans Y7.out; have s8 : ((w7.setCell ⟨w.heap.size + 2, 0, none⟩ (.string x7)).setCell ⟨w.heap.size + 2, 1, none⟩ (.slice B7 m7 q7)).cell? ⟨w.heap.size, 0, none⟩ = some (.string (St [])) /\ ((w7.setCell ⟨w.heap.size + 2, 0, none⟩ (.string x7)).setCell ⟨w.heap.size + 2, 1, none⟩ (.slice B7 m7 q7)).cell? ⟨w.heap.size, 1, none⟩ = some (.slice (some ⟨bl, o, none⟩) 3 c') /\ ((w7.setCell ⟨w.heap.size + 2, 0, none⟩ (.string x7)).setCell ⟨w.heap.size + 2, 1, none⟩ (.slice B7 m7 q7)).cell? ⟨w.heap.size + 1, 0, none⟩ = some (.string y) /\ ((w7.setCell ⟨w.heap.size + 2, 0, none⟩ (.string x7)).setCell ⟨w.heap.size + 2, 1, none⟩ (.slice B7 m7 q7)).cell? ⟨w.heap.size + 1, 1, none⟩ = some (.slice By ny cy) /\ ((w7.setCell ⟨w.heap.size + 2, 0, none⟩ (.string x7)).setCell ⟨w.heap.size + 2, 1, none⟩ (.slice B7 m7 q7)).cell? ⟨bl, o + 2, none⟩ = some (.string (St xa)) /\ ((w7.setCell ⟨w.heap.size + 2, 0, none⟩ (.string x7)).setCell ⟨w.heap.size + 2, 1, none⟩ (.slice B7 m7 q7)).cell? ⟨bl, o + 3, none⟩ = some (.slice A2 n2 cc2) /\ ((w7.setCell ⟨w.heap.size + 2, 0, none⟩ (.string x7)).setCell ⟨w.heap.size + 2, 1, none⟩ (.slice B7 m7 q7)).cell? ⟨bl, o + 4, none⟩ = some (.string (St xb)) /\ ((w7.setCell ⟨w.heap.size + 2, 0, none⟩ (.string x7)).setCell ⟨w.heap.size + 2, 1, none⟩ (.slice B7 m7 q7)).cell? ⟨bl, o + 5, none⟩ = some (.slice A4 n4 c4) := ⟨block_cell X8.out 0, block_cell X8.out 1, block_cell Y8.out 0, block_cell Y8.out 1, (HC.out _ (below_grow HB8.out)).1, (HC.out _ (below_grow HB8.out)).2.1, (HC.out _ (below_grow HB8.out)).2.2.1, (HC.out _ (below_grow HB8.out)).2.2.2.1⟩; have HFIN : Hid (PPost w ok f2 (.returned (.agg #[.string x7, .slice B7 m7 q7])) ((w7.setCell ⟨w.heap.size + 2, 0, none⟩ (.string x7)).setCell ⟨w.heap.size + 2, 1, none⟩ (.slice B7 m7 q7))) := ⟨⟨x7, B7, m7, q7, rfl, ht7.move (fun k hk ho => ⟨(by (have ho2 : w6.heap.size < k \/ ok k \/ w1.heap.size <= k := ho); have lR := lt_of_block R6.out; have l4 := HL4.out; show ok k \/ w.heap.size <= k; rcases ho2 with h | h | h; exact .inr (by omega); exact .inl h; exact .inr (by omega)), set2_block w7 _ _ (show k ≠ w.heap.size + 2 by (have ho2 : w6.heap.size < k \/ ok k \/ w1.heap.size <= k := ho); have lR := lt_of_block R6.out; have l4 := HL4.out; rcases ho2 with h | h | h; omega; (have := HOK.out k h; omega); omega)⟩)⟩, HB8.out⟩; clear ht7 hb7))
 all_goals go_wp2
 all_goals refine bodyPost_ret (v := .agg #[.string x7, .slice B7 m7 q7]) (by simp [results, Tryz.results231, go_sem, rc0, rc1, lr7]) rfl ?_
 all_goals exact HFIN.out
theorem l1Put_same (nm : List UInt8) (u b : NT) (v vu : Value) (w : World) (ok : Nat -> Prop) (hok : ∀ k, ok k -> k < w.heap.size) (hp : TAt w ok (.mk [] [.mk [114, 101, 99] [], .mk nm [], b.toTr]) v) (hu : TAt w ok u.toTr vu) :
 Calls Tryz.prog 231 #[v, .string (St nm), vu] w (PPost w ok (.loop nm b)) := by
 have HP : Hid (∀ w1, Below w.heap.size w w1 -> TAt w1 ok (NT.loop nm b).toTr v) := fun w1 hb => hp.up hb
 obtain ⟨bl, o, c', rfl, A2, n2, cc2, A4, n4, c4, HC, HH⟩ := three_far (r := w.heap.size) (fun j hj => by have := hok j hj; omega) hp
 have hxa : (Tr.mk nm []).atom = nm := rfl
 rw [hxa] at HC
 have k1 : (nm == nm) = true := by simp
 obtain ⟨y, By, ny, cy, rfl⟩ := hu.form
 have HU : Hid (∀ w1, Below w.heap.size w w1 -> TAt w1 ok u.toTr (.agg #[.string y, .slice By ny cy])) := fun w1 hb => hu.up hb
 have HOK : Hid (∀ k, ok k -> k < w.heap.size) := hok
 clear hp hu hok
 generalize b.toTr.atom = xb at *
 obtain ⟨xa, hxa2⟩ : ∃ xa, xa = nm := ⟨_, rfl⟩
 rw [<- hxa2] at HC
 have k2 : (xa == nm) = true := by rw [hxa2]; simp
 clear hxa2 k1
 go_enter Tryz.func231, Tryz.ntmps231
 go_wp2_with (go_at_call 125; refine (HH.out _ (below_grow (up_alloc (up_alloc (up1 w _) _) _))).mono ?_; rintro e w1 ⟨rfl, hb1⟩; have X1 : Hid (w1.heap[w.heap.size]? = some (.cells #[.string (St []), .slice (some ⟨bl, o, none⟩) 3 c'] 59 (0, 0))) := block_up hb1 (block_alloc (old2 w (.cells #[.string (St []), .slice (some ⟨bl, o, none⟩) 3 c'] 59) (.cells #[.string y, .slice By ny cy] 59)) (.cells #[.string (St []), .slice none 0 0] 59)); have Y1 : Hid (w1.heap[w.heap.size + 1]? = some (.cells #[.string y, .slice By ny cy] 59 (0, 0))) := block_up hb1 (block_alloc (new2 w (.cells #[.string (St []), .slice (some ⟨bl, o, none⟩) 3 c'] 59) (.cells #[.string y, .slice By ny cy] 59)) (.cells #[.string (St []), .slice none 0 0] 59)); have R1 : Hid (w1.heap[w.heap.size + 2]? = some (.cells #[.string (St []), .slice none 0 0] 59 (0, 0))) := block_up hb1 (new3 w (.cells #[.string (St []), .slice (some ⟨bl, o, none⟩) 3 c'] 59) (.cells #[.string y, .slice By ny cy] 59) (.cells #[.string (St []), .slice none 0 0] 59)); have HB1 := Lib.hid (up_trans (up_alloc (up_alloc (up1 w _) _) _) hb1); have s1 : w1.cell? ⟨w.heap.size, 0, none⟩ = some (.string (St [])) /\ w1.cell? ⟨w.heap.size, 1, none⟩ = some (.slice (some ⟨bl, o, none⟩) 3 c') /\ w1.cell? ⟨w.heap.size + 1, 0, none⟩ = some (.string y) /\ w1.cell? ⟨w.heap.size + 1, 1, none⟩ = some (.slice By ny cy) /\ w1.cell? ⟨bl, o + 2, none⟩ = some (.string (St xa)) /\ w1.cell? ⟨bl, o + 3, none⟩ = some (.slice A2 n2 cc2) /\ w1.cell? ⟨bl, o + 4, none⟩ = some (.string (St xb)) /\ w1.cell? ⟨bl, o + 5, none⟩ = some (.slice A4 n4 c4) := ⟨block_cell X1.out 0, block_cell X1.out 1, block_cell Y1.out 0, block_cell Y1.out 1, (HC.out _ (below_grow HB1.out)).1, (HC.out _ (below_grow HB1.out)).2.1, (HC.out _ (below_grow HB1.out)).2.2.1, (HC.out _ (below_grow HB1.out)).2.2.2.1⟩; have lw1 := lt_of_block R1.out; have rc0 : w1.cell? ⟨w.heap.size + 2, 0, none⟩ = some (.string (St [])) := block_cell R1.out 0; have rc1 : w1.cell? ⟨w.heap.size + 2, 1, none⟩ = some (.slice none 0 0) := block_cell R1.out 1; have fr0 := block_free R1.out 0; have fr1 := block_free R1.out 1; obtain ⟨g1, g2, g3, g4, g5, g6, g7, g8⟩ := s1;  clear hb1)
 refine bodyPost_ret (v := .agg #[.string (St []), .slice (some ⟨bl, o, none⟩) 3 c']) (by simp [results, Tryz.results231, go_sem, rc0, rc1, lw1]) rfl ?_
 exact ⟨⟨_, _, _, _, rfl, (HP.out w1 HB1.out).move fun k hk ho => ⟨.inl ho, set2_block w1 _ _ (show k ≠ w.heap.size + 2 by have := HOK.out k ho; omega)⟩⟩, set0 (set0 HB1.out (by omega)) (by omega)⟩
theorem l1Put_any (nm : List UInt8) (hnm : nmOk nm) (u : NT) : ∀ (n : NT), n.ok' -> LPt nm u n
 | .zero, _ => fun v vu w ok hok hp hu => l1Put_atom nm [48] (by simp) u .zero (by rw [if_neg (fun h => hnm.2.1 h.symm)]) (fun _ => rfl) v vu w ok hok hp hu
 | .one, _ => fun v vu w ok hok hp hu => l1Put_atom nm [49] (by simp) u .one (by rw [if_neg (fun h => hnm.2.2.1 h.symm)]) (fun _ => rfl) v vu w ok hok hp hu
 | .name s, h => fun v vu w ok hok hp hu => by
  have := l1Put_atom nm s h.1 u (putT nm u (.name s)) (by simp only [putT]; split <;> rfl) (fun hn => by simp only [putT]; rw [if_neg hn]; rfl) v vu w ok hok hp hu
  exact this
 | .sum a b, h => fun v vu w ok hok hp hu => l1Put_two nm [43] (by decide) u a b (.sum (putT nm u a) (putT nm u b)) (putT nm u a) (putT nm u b) rfl v vu w ok hok hp hu
  (fun w1 v vu hb h1 h2 => l1Put_any nm hnm u a h.1 v vu w1 ok (fun k hk => Nat.lt_of_lt_of_le (hok k hk) hb.size) h1 h2) (fun w1 v vu hb h1 h2 => l1Put_any nm hnm u b h.2 v vu w1 ok (fun k hk => Nat.lt_of_lt_of_le (hok k hk) hb.size) h1 h2)
 | .prod a b, h => fun v vu w ok hok hp hu => l1Put_two nm [42] (by decide) u a b (.prod (putT nm u a) (putT nm u b)) (putT nm u a) (putT nm u b) rfl v vu w ok hok hp hu
  (fun w1 v vu hb h1 h2 => l1Put_any nm hnm u a h.1 v vu w1 ok (fun k hk => Nat.lt_of_lt_of_le (hok k hk) hb.size) h1 h2) (fun w1 v vu hb h1 h2 => l1Put_any nm hnm u b h.2 v vu w1 ok (fun k hk => Nat.lt_of_lt_of_le (hok k hk) hb.size) h1 h2)
 | .loop s a, h => fun v vu w ok hok hp hu => by
  by_cases hs : s = nm
  · subst hs
    rw [show putT s u (.loop s a) = .loop s a from by simp [putT]]
    exact l1Put_same s u a v vu w ok hok hp hu
  · rw [show putT nm u (.loop s a) = .loop s (putT nm u a) from by simp only [putT]; rw [if_neg hs]]
    exact l1Put_rec nm s hs u a (.loop s (putT nm u a)) (putT nm u a) rfl v vu w ok hok hp hu
     (fun w1 v vu hb h1 h2 => l1Put_any nm hnm u a h v vu w1 ok (fun k hk => Nat.lt_of_lt_of_le (hok k hk) hb.size) h1 h2)
end Go.Proofs.YtpokompplapkhaaGreatDoor
namespace Go.Proofs.YtpokompplapkhaaGreatDoor
set_option maxHeartbeats 8000000
set_option maxRecDepth 100000
open Go.RowKit
set_option linter.unusedVariables false
set_option linter.unusedSimpArgs false
def Ty.cw (free : List (List UInt8)) : Ty -> List (List UInt8) -> Nat -> List UInt8 × Nat
 | .zero, _, k => ([48], k)
 | .one, _, k => ([49], k)
 | .name s, _, k => (s, k)
 | .bound i, ar, k => ((ar[i]?).getD [], k)
 | .sum a b, ar, k => ([40, 43, 32] ++ (a.cw free ar k).1 ++ [32] ++ (b.cw free ar (a.cw free ar k).2).1 ++ [41], (b.cw free ar (a.cw free ar k).2).2)
 | .prod a b, ar, k => ([40, 42, 32] ++ (a.cw free ar k).1 ++ [32] ++ (b.cw free ar (a.cw free ar k).2).1 ++ [41], (b.cw free ar (a.cw free ar k).2).2)
 | .loop a, ar, k => ([40, 114, 101, 99, 32] ++ tN (freshN free k) ++ [32] ++ (a.cw free (tN (freshN free k) :: ar) (freshN free k + 1)).1 ++ [41], (a.cw free (tN (freshN free k) :: ar) (freshN free k + 1)).2)
def Ty.fnames (t : Ty) : List (List UInt8) := t.pre.foldl nstep []
theorem fnames_db (n : NT) (hok : n.ok3) : (n.db []).fnames = n.names := by
 exact names_fr3 n [] [] hok (by simp)
theorem decL_digit : ∀ (n : Nat), ∀ b ∈ decL n, digitB b = true := by
 intro n
 induction n using Nat.strongRecOn with
 | ind n ih =>
  have hd : ∀ m, m < 10 -> digitB (UInt8.ofNat (48 + m)) = true := by
   intro m hm
   have : m = 0 \/ m = 1 \/ m = 2 \/ m = 3 \/ m = 4 \/ m = 5 \/ m = 6 \/ m = 7 \/ m = 8 \/ m = 9 := by omega
   rcases this with rfl | rfl | rfl | rfl | rfl | rfl | rfl | rfl | rfl | rfl <;> decide
  rw [decL]
  split
  · intro b hb
    simp only [List.mem_singleton] at hb
    subst hb
    exact hd n (by assumption)
  · intro b hb
    rcases List.mem_append.1 hb with hb | hb
    · exact ih (n / 10) (by omega) b hb
    · simp only [List.mem_singleton] at hb
      subst hb
      exact hd _ (by omega)
theorem tN_ok (j : Nat) (h : j < 100000000) : nmOk (tN j) := by
 have hl := decL_len 8 j (by omega)
 refine ⟨(tN_ne j).1, (tN_ne j).2.1, (tN_ne j).2.2, fun b hb => ?_, by simp only [tN, List.length_cons]; omega⟩
 simp only [tN] at hb
 rcases List.mem_cons.1 hb with rfl | hb
 · decide
 · exact digit_atom (decL_digit j b hb)
theorem sub_ok3 {s : List UInt8} (hs : nmOk s) : ∀ {env : List (List UInt8 × List UInt8)}, (∀ p ∈ env, nmOk p.2) -> nmOk (sub s env)
 | [], _ => hs
 | (a, b) :: r, h => by
  rw [sub]
  split
  · exact h (a, b) (by simp)
  · exact sub_ok3 hs fun p hp => h p (by simp [hp])
theorem ren_ok3 (free : List (List UInt8)) : ∀ (n : NT) (env) (k : Nat), n.ok3 -> (∀ p ∈ env, nmOk p.2) -> k + n.atoms * (free.length + 1) < 100000000 -> (n.ren free env k).1.ok3
 | .zero, _, _, _, _, _ => trivial
 | .one, _, _, _, _, _ => trivial
 | .name s, env, k, h, he, hk => sub_ok3 h he
 | .sum a b, env, k, h, he, hk => by
  simp only [NT.atoms, Nat.add_mul] at hk
  have hle := ren_le free a env k
  exact ⟨ren_ok3 free a _ _ h.1 he (by omega), ren_ok3 free b _ _ h.2 he (by omega)⟩
 | .prod a b, env, k, h, he, hk => by
  simp only [NT.atoms, Nat.add_mul] at hk
  have hle := ren_le free a env k
  exact ⟨ren_ok3 free a _ _ h.1 he (by omega), ren_ok3 free b _ _ h.2 he (by omega)⟩
 | .loop s a, env, k, h, he, hk => by
  simp only [NT.atoms, Nat.add_mul] at hk
  have hle := fresh_le free free.length k
  have hfr : freshN free k <= k + free.length := hle.2
  have hn := tN_ok (freshN free k) (by omega)
  refine ⟨⟨hn, tN_param _⟩, ren_ok3 free a _ _ h.2 (fun p hp => ?_) (by omega)⟩
  rcases List.mem_cons.1 hp with rfl | hp
  · exact hn
  · exact he p hp
def Ty.put : Ty -> List UInt8 -> Ty -> Ty
 | .name s, nm, u => if s = nm then u else .name s
 | .sum a b, nm, u => .sum (a.put nm u) (b.put nm u)
 | .prod a b, nm, u => .prod (a.put nm u) (b.put nm u)
 | .loop a, nm, u => .loop (a.put nm u)
 | t, _, _ => t
def Ty.opened : Ty -> Ty -> Nat -> Ty
 | .bound k, u, up => if k = up then u else .bound k
 | .sum a b, u, up => .sum (a.opened u up) (b.opened u up)
 | .prod a b, u, up => .prod (a.opened u up) (b.opened u up)
 | .loop a, u, up => .loop (a.opened u (up + 1))
 | t, _, _ => t
def NT.bnd (P : List UInt8 -> Prop) : NT -> Prop
 | .sum a b => a.bnd P /\ b.bnd P
 | .prod a b => a.bnd P /\ b.bnd P
 | .loop s a => P s /\ a.bnd P
 | _ => True
theorem ren_bnd (free : List (List UInt8)) : ∀ (n : NT) (env) (k : Nat), (n.ren free env k).1.bnd fun s => s ∉ free /\ paramB s = false
 | .zero, _, _ => trivial
 | .one, _, _ => trivial
 | .name s, _, _ => trivial
 | .sum a b, env, k => ⟨ren_bnd free a _ _, ren_bnd free b _ _⟩
 | .prod a b, env, k => ⟨ren_bnd free a _ _, ren_bnd free b _ _⟩
 | .loop s a, env, k => ⟨⟨freshN_not free k, tN_param _⟩, ren_bnd free a _ _⟩
theorem look_app {s : List UInt8} : ∀ {bd env : List (List UInt8)}, s ∉ env -> look s (bd ++ env) = look s bd
 | [], env, h => by simpa [look] using look_none.2 h
 | e :: r, env, h => by
  simp only [List.cons_append, look, look_app (bd := r) h]
theorem look_in {s : List UInt8} : ∀ {bd : List (List UInt8)} (env : List (List UInt8)), s ∈ bd -> look s (bd ++ env) = look s bd
 | [], env, h => by cases h
 | e :: r, env, h => by
  simp only [List.cons_append, look]
  by_cases he : e = s
  · rw [if_pos he, if_pos he]
  · rw [if_neg he, if_neg he, look_in env (by rcases List.mem_cons.1 h with rfl | h; exact absurd rfl he; exact h)]
theorem db_far (F : List (List UInt8)) : ∀ (u : NT) (bd env : List (List UInt8)), u.cov F bd -> (∀ e ∈ env, e ∉ F) -> u.db (bd ++ env) = u.db bd
 | .zero, _, _, _, _ => rfl
 | .one, _, _, _, _ => rfl
 | .name s, bd, env, hc, he => by
  simp only [NT.db]
  split
  · rfl
  · by_cases hb : s ∈ bd
    · rw [look_in env hb]
    · have hF : s ∈ F := by rcases hc with hc | hc; exact absurd hc hb; exact hc
      rw [look_app fun hm => he s hm hF]
 | .sum a b, bd, env, hc, he => by simp only [NT.db, db_far F a bd env hc.1 he, db_far F b bd env hc.2 he]
 | .prod a b, bd, env, hc, he => by simp only [NT.db, db_far F a bd env hc.1 he, db_far F b bd env hc.2 he]
 | .loop s a, bd, env, hc, he => by
  have := db_far F a (s :: bd) env hc he
  simp only [List.cons_append] at this
  simp only [NT.db, this]
theorem put_db (F : List (List UInt8)) (nm : List UInt8) (u : NT) (hu : u.cov F []) : ∀ (m : NT) (env : List (List UInt8)), (m.bnd fun s => s ∉ F /\ s ≠ nm) -> (∀ e ∈ env, e ∉ F /\ e ≠ nm) -> (putT nm u m).db env = (m.db env).put nm (u.db [])
 | .zero, _, _, _ => rfl
 | .one, _, _, _ => rfl
 | .name s, env, _, he => by
  simp only [putT]
  by_cases hs : s = nm
  · subst hs
    rw [if_pos rfl]
    have h1 : u.db env = u.db [] := by
     have := db_far F u [] env hu fun e hm => (he e hm).1
     simpa using this
    have h2 : look s env = none := look_none.2 fun hm => (he s hm).2 rfl
    rw [h1]
    simp [NT.db, h2, Ty.put]
  · rw [if_neg hs]
    simp only [NT.db]
    split
    · simp [Ty.put, hs]
    · split
      · simp [Ty.put]
      · simp [Ty.put, hs]
 | .sum a b, env, hb, he => by simp only [putT, NT.db, Ty.put, put_db F nm u hu a env hb.1 he, put_db F nm u hu b env hb.2 he]
 | .prod a b, env, hb, he => by simp only [putT, NT.db, Ty.put, put_db F nm u hu a env hb.1 he, put_db F nm u hu b env hb.2 he]
 | .loop s a, env, hb, he => by
  have := put_db F nm u hu a (s :: env) hb.2 (by
   intro e hm
   rcases List.mem_cons.1 hm with rfl | hm
   · exact hb.1
   · exact he e hm)
  simp only [putT]
  rw [if_neg hb.1.2]
  simp only [NT.db, Ty.put, this]
def subN (nm : List UInt8) (u n : NT) : NT := putT nm u (n.ren (n.names ++ frees [u, .name nm]) [] 0).1
theorem bnd_mono {P Q : List UInt8 -> Prop} (h : ∀ s, P s -> Q s) : ∀ {n : NT}, n.bnd P -> n.bnd Q
 | .zero, _ => trivial
 | .one, _ => trivial
 | .name _, _ => trivial
 | .sum a b, hb => ⟨bnd_mono h hb.1, bnd_mono h hb.2⟩
 | .prod a b, hb => ⟨bnd_mono h hb.1, bnd_mono h hb.2⟩
 | .loop s a, hb => ⟨h s hb.1, bnd_mono h hb.2⟩
theorem frees_two (u : NT) (nm : List UInt8) : frees [u, .name nm] = u.names ++ [nm] := by simp [frees, NT.names, NT.fr]
theorem cov_own (n : NT) (F : List (List UInt8)) (h : ∀ s ∈ n.names, s ∈ F) : n.cov F [] := fr_cov F n [] [] [] (fun s h => h) h
theorem subN_db (nm : List UInt8) (u n : NT) (hn : n.ok3) : (subN nm u n).db [] = (n.db []).put nm (u.db []) := by
 have h1 := ren_db (n.names ++ frees [u, .name nm]) n [] 0 hn ⟨by simp, by simp⟩ (cov_own n _ fun s hs => by simp [hs])
 simp only [List.map_nil] at h1
 rw [<- h1]
 refine put_db u.names nm u (cov_own u _ fun s h => h) _ [] (bnd_mono ?_ (ren_bnd (n.names ++ frees [u, .name nm]) n [] 0)) (by simp)
 rintro s ⟨hs, _⟩
 rw [frees_two] at hs
 simp only [List.mem_append, List.mem_singleton, not_or] at hs
 exact ⟨hs.2.1, hs.2.2⟩
theorem putT_ok3 (nm : List UInt8) (u : NT) (hu : u.ok3) : ∀ {m : NT}, m.ok3 -> (putT nm u m).ok3
 | .zero, _ => trivial
 | .one, _ => trivial
 | .name s, h => by
  simp only [putT]
  split
  · exact hu
  · exact h
 | .sum a b, h => ⟨putT_ok3 nm u hu h.1, putT_ok3 nm u hu h.2⟩
 | .prod a b, h => ⟨putT_ok3 nm u hu h.1, putT_ok3 nm u hu h.2⟩
 | .loop s a, h => by
  simp only [putT]
  split
  · exact h
  · exact ⟨h.1, putT_ok3 nm u hu h.2⟩
theorem subN_ok3 (nm : List UInt8) (u n : NT) (hn : n.ok3) (hu : u.ok3) (ha : n.atoms <= 400) (hf : (frees [u, .name nm]).length <= 500) : (subN nm u n).ok3 := by
 refine putT_ok3 nm u hu (ren_ok3 _ n [] 0 hn (by simp) ?_)
 have h1 : n.atoms * ((n.names ++ frees [u, .name nm]).length + 1) <= 400 * 901 := Nat.mul_le_mul ha (by
  have := names_len n
  rw [List.length_append]
  omega)
 omega
def Ty.usesT (nm : List UInt8) : Ty -> Nat
 | .name s => if s = nm then 1 else 0
 | .sum a b => a.usesT nm + b.usesT nm
 | .prod a b => a.usesT nm + b.usesT nm
 | .loop a => a.usesT nm
 | _ => 0
theorem put_atoms (nm : List UInt8) (u : Ty) : ∀ (t : Ty), (t.put nm u).atoms + t.usesT nm = t.atoms + t.usesT nm * u.atoms
 | .zero => by simp [Ty.put, Ty.usesT]
 | .one => by simp [Ty.put, Ty.usesT]
 | .bound _ => by simp [Ty.put, Ty.usesT]
 | .name s => by
  simp only [Ty.put, Ty.usesT]
  split
  · simp [Ty.atoms]; omega
  · simp [Ty.atoms]
 | .sum a b => by
  have h1 := put_atoms nm u a
  have h2 := put_atoms nm u b
  simp only [Ty.put, Ty.usesT, Ty.atoms, Nat.add_mul]
  omega
 | .prod a b => by
  have h1 := put_atoms nm u a
  have h2 := put_atoms nm u b
  simp only [Ty.put, Ty.usesT, Ty.atoms, Nat.add_mul]
  omega
 | .loop a => by
  have h1 := put_atoms nm u a
  simp only [Ty.put, Ty.usesT, Ty.atoms]
  omega
theorem usesT_in (nm : List UInt8) (hp : paramB nm = false) : ∀ (n : NT) (env : List (List UInt8)), nm ∈ env -> (n.db env).usesT nm = 0
 | .zero, _, _ => rfl
 | .one, _, _ => rfl
 | .name s, env, h => by
  simp only [NT.db]
  split
  · rename_i hs
    have : s ≠ nm := by rintro rfl; rw [hp] at hs; cases hs
    simp [Ty.usesT, this]
  · cases hl : look s env with
    | some k => rfl
    | none =>
     have : s ≠ nm := by rintro rfl; exact look_none.1 hl h
     simp [Ty.usesT, this]
 | .sum a b, env, h => by simp only [NT.db, Ty.usesT, usesT_in nm hp a env h, usesT_in nm hp b env h]
 | .prod a b, env, h => by simp only [NT.db, Ty.usesT, usesT_in nm hp a env h, usesT_in nm hp b env h]
 | .loop s a, env, h => by simp only [NT.db, Ty.usesT, usesT_in nm hp a (s :: env) (by simp [h])]
theorem usesT_out (nm : List UInt8) : ∀ (n : NT) (env : List (List UInt8)), n.ok3 -> nm ∉ env -> (∀ e ∈ env, paramB e = false) -> (n.db env).usesT nm = n.uses nm
 | .zero, _, _, _, _ => rfl
 | .one, _, _, _, _ => rfl
 | .name s, env, _, h, _ => by
  simp only [NT.db, NT.uses]
  split
  · rfl
  · cases hl : look s env with
    | none => rfl
    | some k =>
     have : s ≠ nm := by rintro rfl; rw [look_none.2 h] at hl; cases hl
     simp [Ty.usesT, this]
 | .sum a b, env, hok, h, he => by simp only [NT.db, Ty.usesT, NT.uses, usesT_out nm a env hok.1 h he, usesT_out nm b env hok.2 h he]
 | .prod a b, env, hok, h, he => by simp only [NT.db, Ty.usesT, NT.uses, usesT_out nm a env hok.1 h he, usesT_out nm b env hok.2 h he]
 | .loop s a, env, hok, h, he => by
  simp only [NT.db, Ty.usesT, NT.uses]
  split
  · rename_i hs
    exact usesT_in nm (by rw [<- hs]; exact hok.1.2) a (s :: env) (by simp [hs])
  · rename_i hs
    exact usesT_out nm a (s :: env) hok.2 (by simp only [List.mem_cons, not_or]; exact ⟨fun h2 => hs h2.symm, h⟩) (by
     intro e hm
     rcases List.mem_cons.1 hm with rfl | hm
     · exact hok.1.2
     · exact he e hm)
theorem atoms_pos : ∀ (n : NT), 1 <= n.atoms
 | .zero => by simp [NT.atoms]
 | .one => by simp [NT.atoms]
 | .name _ => by simp [NT.atoms]
 | .sum a b => by simp only [NT.atoms]; omega
 | .prod a b => by simp only [NT.atoms]; omega
 | .loop s a => by simp only [NT.atoms]; omega
def fitsN (nm : List UInt8) (u n : NT) : Bool := decide ((n.atoms : Int) + (n.uses nm : Int) * ((u.atoms : Int) - 1) <= 400)
theorem fits_put (nm : List UInt8) (u n : NT) (hn : n.ok3) : fitsN nm u n = decide (((n.db []).put nm (u.db [])).atoms <= 400) := by
 have h1 := put_atoms nm (u.db []) (n.db [])
 rw [usesT_out nm n [] hn (by simp) (by simp), NT.db_atoms, NT.db_atoms] at h1
 have h2 : (n.uses nm : Int) * ((u.atoms : Int) - 1) = ((n.uses nm * u.atoms : Nat) : Int) - (n.uses nm : Int) := by
  rw [Int.mul_sub, Int.mul_one]
  simp
 rw [fitsN, h2]
 exact decide_eq_decide.2 (by omega)
end Go.Proofs.YtpokompplapkhaaGreatDoor
namespace Go.Proofs.YtpokompplapkhaaGreatDoor
set_option maxHeartbeats 8000000
set_option maxRecDepth 100000
open Go.RowKit
set_option linter.unusedVariables false
set_option linter.unusedSimpArgs false
theorem new4 (w : World) (o1 o2 o3 o4 : Obj) : ((((w.alloc o1).alloc o2).alloc o3).alloc o4).heap[w.heap.size + 3]? = some o4 := by
 have := block_new (((w.alloc o1).alloc o2).alloc o3) o4
 rw [show (((w.alloc o1).alloc o2).alloc o3).heap.size = w.heap.size + 3 by simp] at this
 exact this
theorem size4 {w : World} {o1 o2 o3 o4 : Obj} {n : Nat} (h : ((((w.alloc o1).alloc o2).alloc o3).alloc o4).heap.size <= n) : w.heap.size + 4 <= n := by
 simp at h
 omega
theorem ok3_ok' : ∀ {n : NT}, n.ok3 -> n.ok'
 | .zero, _ => trivial
 | .one, _ => trivial
 | .name s, h => ⟨h.1, h.2.1⟩
 | .sum a b, h => ⟨ok3_ok' h.1, ok3_ok' h.2⟩
 | .prod a b, h => ⟨ok3_ok' h.1, ok3_ok' h.2⟩
 | .loop s a, h => (show a.ok' from ok3_ok' h.2)
theorem l1Sub_any (nm : List UInt8) (hnm : nmOk nm) (u n : NT) (hn : n.ok3) (hna : n.atoms <= 400) (hu3 : u.ok3) (hua : u.atoms <= 400) (v vu : Value) (w : World) (okv ok : Nat -> Prop) (hok : ∀ k, ok k -> k < w.heap.size) (hp : TAt w okv n.toTr v) (hu : TAt w ok u.toTr vu) :
 Calls Tryz.prog 208 #[v, .string (St nm), vu] w (PPost w ok (subN nm u n)) := by
 obtain ⟨x, A, n', c, rfl⟩ := hp.form
 obtain ⟨y, By, ny, cy, rfl⟩ := hu.form
 have hfl : (frees [u, .name nm]).length <= 500 := by
  rw [frees_two, List.length_append]
  have := names_len u
  simp
  omega
 have hat3 : (n.ren (n.names ++ frees [u, .name nm]) [] 0).1.ok3 := ren_ok3 _ n [] 0 hn (by simp) (by
  have h1 : n.atoms * ((n.names ++ frees [u, .name nm]).length + 1) <= 400 * 901 := Nat.mul_le_mul hna (by
   have := names_len n
   rw [List.length_append]
   omega)
  omega)
 have HAP : Hid (∀ w1 : World, Below w.heap.size w w1 -> w1.heap[w.heap.size + 3]? = some (.cells #[.string y, .slice By ny cy, .string (St nm), .slice none 0 0] 59 (0, 0)) -> Calls Tryz.prog 139 #[.agg #[.string x, .slice A n' c], .slice (some ⟨w.heap.size + 1 + 1 + 1, 0, none⟩) 2 2] w1 fun e w' => (∃ x A n' c, e = .returned (.agg #[.string x, .slice A n' c]) /\ Hid (TAt w' (fun k => w1.heap.size <= k) (n.ren (n.names ++ frees [u, .name nm]) [] 0).1.toTr (.agg #[.string x, .slice A n' c]))) /\ Below w1.heap.size w1 w') := fun w1 hb hrow => by
  have hoth : Oth w1 (some ⟨w.heap.size + 3, 0, none⟩) [u, .name nm] := by
   refine .inr ⟨_, _, rfl, fun i t ht => ?_⟩
   match i, ht with
   | 0, ht =>
    simp at ht
    subst ht
    exact ⟨y, By, ny, cy, block_cell hrow 0, block_cell hrow 1, (hu.up hb).weak fun _ _ => trivial⟩
   | 1, ht =>
    simp at ht
    subst ht
    exact ⟨St nm, none, 0, 0, block_cell hrow 2, block_cell hrow 3, none, 0, rfl, Nat.le_refl _, .nil _⟩
   | i + 2, ht => simp at ht
  exact l1Apart_with n [u, .name nm] hn hna (by
   intro t ht
   simp at ht
   rcases ht with rfl | rfl
   · exact ⟨hu3, hua⟩
   · exact ⟨hnm, by simp [NT.atoms]⟩) (by simp) hfl _ _ w1 okv 2 (hp.up hb) hoth
 have HPU : Hid (∀ (w5 : World) v, Below w.heap.size w w5 -> w.heap.size + 4 <= w5.heap.size -> Hid (TAt w5 (fun k => w.heap.size + 4 <= k) (n.ren (n.names ++ frees [u, .name nm]) [] 0).1.toTr v) -> Calls Tryz.prog 231 #[v, .string (St nm), .agg #[.string y, .slice By ny cy]] w5 (PPost w5 (fun k => (ok k \/ w.heap.size + 4 <= k) /\ k < w5.heap.size) (subN nm u n))) := fun w5 v hb hs ht =>
  l1Put_any nm hnm u _ (ok3_ok' hat3) v _ w5 (fun k => (ok k \/ w.heap.size + 4 <= k) /\ k < w5.heap.size) (fun k hk => hk.2) (ht.out.move fun k hk ho => ⟨⟨.inr ho, hk⟩, rfl⟩) (hu.move fun k hk ho => ⟨⟨.inl ho, Nat.lt_of_lt_of_le hk hb.size⟩, hb.block k hk⟩)
 have HOK : Hid (∀ k, ok k -> k < w.heap.size) := hok
 clear hp hu hok hn hna hu3 hua hfl hat3 hnm
 generalize (n.ren (n.names ++ frees [u, .name nm]) [] 0).1.toTr = tr at *
 generalize subN nm u n = res at *
 have X4 : Hid (((((w.alloc (.cells #[.string x, .slice A n' c] 59)).alloc (.cells #[.string y, .slice By ny cy] 59)).alloc (.cells #[.string (St []), .slice none 0 0] 59)).alloc (.cells #[.string y, .slice By ny cy, .string (St nm), .slice none 0 0] 59)).heap[w.heap.size]? = some (.cells #[.string x, .slice A n' c] 59 (0, 0))) := block_alloc (block_alloc (old2 w (.cells #[.string x, .slice A n' c] 59) (.cells #[.string y, .slice By ny cy] 59)) (.cells #[.string (St []), .slice none 0 0] 59)) (.cells #[.string y, .slice By ny cy, .string (St nm), .slice none 0 0] 59)
 have Y4 : Hid (((((w.alloc (.cells #[.string x, .slice A n' c] 59)).alloc (.cells #[.string y, .slice By ny cy] 59)).alloc (.cells #[.string (St []), .slice none 0 0] 59)).alloc (.cells #[.string y, .slice By ny cy, .string (St nm), .slice none 0 0] 59)).heap[w.heap.size + 1]? = some (.cells #[.string y, .slice By ny cy] 59 (0, 0))) := block_alloc (block_alloc (new2 w (.cells #[.string x, .slice A n' c] 59) (.cells #[.string y, .slice By ny cy] 59)) (.cells #[.string (St []), .slice none 0 0] 59)) (.cells #[.string y, .slice By ny cy, .string (St nm), .slice none 0 0] 59)
 have R4 : Hid (((((w.alloc (.cells #[.string x, .slice A n' c] 59)).alloc (.cells #[.string y, .slice By ny cy] 59)).alloc (.cells #[.string (St []), .slice none 0 0] 59)).alloc (.cells #[.string y, .slice By ny cy, .string (St nm), .slice none 0 0] 59)).heap[w.heap.size + 2]? = some (.cells #[.string (St []), .slice none 0 0] 59 (0, 0))) := block_alloc (new3 w (.cells #[.string x, .slice A n' c] 59) (.cells #[.string y, .slice By ny cy] 59) (.cells #[.string (St []), .slice none 0 0] 59)) (.cells #[.string y, .slice By ny cy, .string (St nm), .slice none 0 0] 59)
 have s4 : ((((w.alloc (.cells #[.string x, .slice A n' c] 59)).alloc (.cells #[.string y, .slice By ny cy] 59)).alloc (.cells #[.string (St []), .slice none 0 0] 59)).alloc (.cells #[.string y, .slice By ny cy, .string (St nm), .slice none 0 0] 59)).cell? ⟨w.heap.size, 0, none⟩ = some (.string x) /\ ((((w.alloc (.cells #[.string x, .slice A n' c] 59)).alloc (.cells #[.string y, .slice By ny cy] 59)).alloc (.cells #[.string (St []), .slice none 0 0] 59)).alloc (.cells #[.string y, .slice By ny cy, .string (St nm), .slice none 0 0] 59)).cell? ⟨w.heap.size, 1, none⟩ = some (.slice A n' c) /\ ((((w.alloc (.cells #[.string x, .slice A n' c] 59)).alloc (.cells #[.string y, .slice By ny cy] 59)).alloc (.cells #[.string (St []), .slice none 0 0] 59)).alloc (.cells #[.string y, .slice By ny cy, .string (St nm), .slice none 0 0] 59)).cell? ⟨w.heap.size + 1, 0, none⟩ = some (.string y) /\ ((((w.alloc (.cells #[.string x, .slice A n' c] 59)).alloc (.cells #[.string y, .slice By ny cy] 59)).alloc (.cells #[.string (St []), .slice none 0 0] 59)).alloc (.cells #[.string y, .slice By ny cy, .string (St nm), .slice none 0 0] 59)).cell? ⟨w.heap.size + 1, 1, none⟩ = some (.slice By ny cy) := ⟨block_cell X4.out 0, block_cell X4.out 1, block_cell Y4.out 0, block_cell Y4.out 1⟩
 have X3 : Hid ((((w.alloc (.cells #[.string x, .slice A n' c] 59)).alloc (.cells #[.string y, .slice By ny cy] 59)).alloc (.cells #[.string (St []), .slice none 0 0] 59)).heap[w.heap.size]? = some (.cells #[.string x, .slice A n' c] 59 (0, 0))) := block_alloc (old2 w (.cells #[.string x, .slice A n' c] 59) (.cells #[.string y, .slice By ny cy] 59)) (.cells #[.string (St []), .slice none 0 0] 59)
 have Y3 : Hid ((((w.alloc (.cells #[.string x, .slice A n' c] 59)).alloc (.cells #[.string y, .slice By ny cy] 59)).alloc (.cells #[.string (St []), .slice none 0 0] 59)).heap[w.heap.size + 1]? = some (.cells #[.string y, .slice By ny cy] 59 (0, 0))) := block_alloc (new2 w (.cells #[.string x, .slice A n' c] 59) (.cells #[.string y, .slice By ny cy] 59)) (.cells #[.string (St []), .slice none 0 0] 59)
 have s3 : (((w.alloc (.cells #[.string x, .slice A n' c] 59)).alloc (.cells #[.string y, .slice By ny cy] 59)).alloc (.cells #[.string (St []), .slice none 0 0] 59)).cell? ⟨w.heap.size, 0, none⟩ = some (.string x) /\ (((w.alloc (.cells #[.string x, .slice A n' c] 59)).alloc (.cells #[.string y, .slice By ny cy] 59)).alloc (.cells #[.string (St []), .slice none 0 0] 59)).cell? ⟨w.heap.size, 1, none⟩ = some (.slice A n' c) /\ (((w.alloc (.cells #[.string x, .slice A n' c] 59)).alloc (.cells #[.string y, .slice By ny cy] 59)).alloc (.cells #[.string (St []), .slice none 0 0] 59)).cell? ⟨w.heap.size + 1, 0, none⟩ = some (.string y) /\ (((w.alloc (.cells #[.string x, .slice A n' c] 59)).alloc (.cells #[.string y, .slice By ny cy] 59)).alloc (.cells #[.string (St []), .slice none 0 0] 59)).cell? ⟨w.heap.size + 1, 1, none⟩ = some (.slice By ny cy) := ⟨block_cell X3.out 0, block_cell X3.out 1, block_cell Y3.out 0, block_cell Y3.out 1⟩
 go_enter Tryz.func208, Tryz.ntmps208
 go_wp2
 go_region_held3 (fun w' => w'.cell? ⟨w.heap.size, 0, none⟩ = some (.string x) /\ w'.cell? ⟨w.heap.size, 1, none⟩ = some (.slice A n' c) /\ w'.cell? ⟨w.heap.size + 1, 0, none⟩ = some (.string y) /\ w'.cell? ⟨w.heap.size + 1, 1, none⟩ = some (.slice By ny cy))
  (first | exact s7 | exact s6 | exact s5 | exact s4 | exact s3 | go_keep)
  (first
   | (go_at_call 139; (refine (HAP.out _ (by repeat (first | exact Below.refl _ _ | refine up_drew ?_ | refine up_alloc ?_ _)) (by exact new4 w (.cells #[.string x, .slice A n' c] 59) (.cells #[.string y, .slice By ny cy] 59) (.cells #[.string (St []), .slice none 0 0] 59) (.cells #[.string y, .slice By ny cy, .string (St nm), .slice none 0 0] 59))).mono ?_); rintro e w5 ⟨⟨x5, B5, m5, q5, rfl, HT5⟩, hb5⟩; have X5 := Lib.hid (block_up hb5 X4.out); have Y5 := Lib.hid (block_up hb5 Y4.out); have R5 := Lib.hid (block_up hb5 R4.out); have HB5 : Hid (Below w.heap.size w w5) := up_trans (by repeat (first | exact Below.refl _ _ | refine up_drew ?_ | refine up_alloc ?_ _)) hb5; have HS5 : Hid (w.heap.size + 4 <= w5.heap.size) := size4 (w := w) hb5.size; have HT5' : Hid (TAt w5 (fun k => w.heap.size + 4 <= k) tr (.agg #[.string x5, .slice B5 m5 q5])) := HT5.out.weak (fun k hk => by simpa using hk); have s5 : w5.cell? ⟨w.heap.size, 0, none⟩ = some (.string x) /\ w5.cell? ⟨w.heap.size, 1, none⟩ = some (.slice A n' c) /\ w5.cell? ⟨w.heap.size + 1, 0, none⟩ = some (.string y) /\ w5.cell? ⟨w.heap.size + 1, 1, none⟩ = some (.slice By ny cy) := ⟨block_cell X5.out 0, block_cell X5.out 1, block_cell Y5.out 0, block_cell Y5.out 1⟩; clear hb5)
   | (go_at_call 231; (with_reducible refine (HPU.out _ _ HB5.out HS5.out HT5').mono ?_); rintro e w6 ⟨⟨x6, B6, m6, q6, rfl, ht6⟩, hb6⟩; have X6 := Lib.hid (block_up hb6 X5.out); have Y6 := Lib.hid (block_up hb6 Y5.out); have R6 := Lib.hid (block_up hb6 R5.out); have HB6 := Lib.hid (up_trans HB5.out hb6); have s6 : w6.cell? ⟨w.heap.size, 0, none⟩ = some (.string x) /\ w6.cell? ⟨w.heap.size, 1, none⟩ = some (.slice A n' c) /\ w6.cell? ⟨w.heap.size + 1, 0, none⟩ = some (.string y) /\ w6.cell? ⟨w.heap.size + 1, 1, none⟩ = some (.slice By ny cy) := ⟨block_cell X6.out 0, block_cell X6.out 1, block_cell Y6.out 0, block_cell Y6.out 1⟩; have rc0 : w6.cell? ⟨w.heap.size + 2, 0, none⟩ = some (.string (St [])) := block_cell R6.out 0; have rc1 : w6.cell? ⟨w.heap.size + 2, 1, none⟩ = some (.slice none 0 0) := block_cell R6.out 1; have fr0 := block_free R6.out 0; have fr1 := block_free R6.out 1; have lr6 := lt_of_block R6.out; have HB7 : Hid (Below w.heap.size w ((w6.setCell ⟨w.heap.size + 2, 0, none⟩ (.string x6)).setCell ⟨w.heap.size + 2, 1, none⟩ (.slice B6 m6 q6))) := set0 (set0 HB6.out (by omega)) (by omega); have X7 : Hid (((w6.setCell ⟨w.heap.size + 2, 0, none⟩ (.string x6)).setCell ⟨w.heap.size + 2, 1, none⟩ (.slice B6 m6 q6)).heap[w.heap.size]? = some (.cells #[.string x, .slice A n' c] 59 (0, 0))) := (set2_block w6 _ _ (by omega)).trans X6.out; have Y7 : Hid (((w6.setCell ⟨w.heap.size + 2, 0, none⟩ (.string x6)).setCell ⟨w.heap.size + 2, 1, none⟩ (.slice B6 m6 q6)).heap[w.heap.size + 1]? = some (.cells #[.string y, .slice By ny cy] 59 (0, 0))) := (set2_block w6 _ _ (by omega)).trans Y6.out; have s7 : ((w6.setCell ⟨w.heap.size + 2, 0, none⟩ (.string x6)).setCell ⟨w.heap.size + 2, 1, none⟩ (.slice B6 m6 q6)).cell? ⟨w.heap.size, 0, none⟩ = some (.string x) /\ ((w6.setCell ⟨w.heap.size + 2, 0, none⟩ (.string x6)).setCell ⟨w.heap.size + 2, 1, none⟩ (.slice B6 m6 q6)).cell? ⟨w.heap.size, 1, none⟩ = some (.slice A n' c) /\ ((w6.setCell ⟨w.heap.size + 2, 0, none⟩ (.string x6)).setCell ⟨w.heap.size + 2, 1, none⟩ (.slice B6 m6 q6)).cell? ⟨w.heap.size + 1, 0, none⟩ = some (.string y) /\ ((w6.setCell ⟨w.heap.size + 2, 0, none⟩ (.string x6)).setCell ⟨w.heap.size + 2, 1, none⟩ (.slice B6 m6 q6)).cell? ⟨w.heap.size + 1, 1, none⟩ = some (.slice By ny cy) := ⟨block_cell X7.out 0, block_cell X7.out 1, block_cell Y7.out 0, block_cell Y7.out 1⟩; have HFIN : Hid (PPost w ok res (.returned (.agg #[.string x6, .slice B6 m6 q6])) ((w6.setCell ⟨w.heap.size + 2, 0, none⟩ (.string x6)).setCell ⟨w.heap.size + 2, 1, none⟩ (.slice B6 m6 q6))) := ⟨⟨x6, B6, m6, q6, rfl, ht6.move (fun k hk ho => ⟨(by have h5 := HS5.out; rcases ho with ⟨ho | ho, _⟩ | ho; exact .inl ho; exact .inr (by omega); exact .inr (by omega)), set2_block w6 _ _ (by have h5 := HS5.out; rcases ho with ⟨ho | ho, _⟩ | ho; (have := HOK.out k ho; omega); omega; omega)⟩)⟩, HB7.out⟩; clear ht6 hb6))
 all_goals go_wp2
 all_goals refine bodyPost_ret (v := .agg #[.string x6, .slice B6 m6 q6]) (by simp [results, Tryz.results208, go_sem, rc0, rc1, lr6]) rfl ?_
 all_goals exact HFIN.out
end Go.Proofs.YtpokompplapkhaaGreatDoor
namespace Go.Proofs.YtpokompplapkhaaGreatDoor
set_option maxHeartbeats 8000000
set_option maxRecDepth 100000
open Go.RowKit
set_option linter.unusedVariables false
set_option linter.unusedSimpArgs false
def LU (nm : List UInt8) (t : Tr) (m : Nat) : Prop := ∀ (v : Value) (w : World), TAt w (fun _ => True) t v -> Calls Tryz.prog 230 #[v, .string (St nm)] w fun e w' => e = .returned (.int .i64 m) /\ Below w.heap.size w w'
theorem l1Uses_leaf (nm s : List UInt8) (hs : s ≠ []) (ps : List Tr) : LU nm (.mk s ps) (if s = nm then 1 else 0) := by
 intro v w hp
 obtain ⟨A, c, rfl, _⟩ := TAt.parts hp
 have k0 := St_ne hs
 clear hp
 by_cases h : s = nm
 · have q : (s == nm) = true := by rw [h]; simp
   rw [if_pos h]
   clear h
   go_enter Tryz.func230, Tryz.ntmps230
   go_wp2
   go_ret
   exact ⟨rfl, up1 w _⟩
 · have q : (s == nm) = false := St_ne h
   rw [if_neg h]
   clear h
   go_enter Tryz.func230, Tryz.ntmps230
   go_wp2
   go_ret
   exact ⟨rfl, up1 w _⟩
theorem three_cells {w : World} {h : List UInt8} {q : List Tr} {a b : Tr} {v : Value} (hp : TAt w (fun _ => True) (.mk [] [.mk h q, a, b]) v) :
 ∃ bl o c, v = .agg #[.string (St []), .slice (some ⟨bl, o, none⟩) 3 c] /\ ∃ A2 n2 c2 A4 n4 c4, Hid (∀ w1, Below w.heap.size w w1 -> w1.cell? ⟨bl, o + 2, none⟩ = some (.string (St a.atom)) /\ w1.cell? ⟨bl, o + 3, none⟩ = some (.slice A2 n2 c2) /\ w1.cell? ⟨bl, o + 4, none⟩ = some (.string (St b.atom)) /\ w1.cell? ⟨bl, o + 5, none⟩ = some (.slice A4 n4 c4) /\
  Hid (TAt w1 (fun _ => True) a (.agg #[.string (St a.atom), .slice A2 n2 c2])) /\ Hid (TAt w1 (fun _ => True) b (.agg #[.string (St b.atom), .slice A4 n4 c4]))) /\
  Hid (∀ w1, Below w.heap.size w w1 -> Calls Tryz.prog 125 #[.agg #[.string (St []), .slice (some ⟨bl, o, none⟩) 3 c]] w1 fun e w' => e = .returned (.string (St h)) /\ Below w1.heap.size w1 w') := by
 have hh : ∀ w1, Below w.heap.size w w1 -> Calls Tryz.prog 125 #[v] w1 fun e w' => e = .returned (.string (St h)) /\ Below w1.heap.size w1 w' := fun w1 (hb : Below w.heap.size w w1) => l1Head_any _ v w1 (hp.up hb)
 obtain ⟨A, c, rfl, hr⟩ := hp.parts
 obtain ⟨bl, o, A', c', rfl, _, _, _, _, hr⟩ := hr.uncons
 obtain ⟨A2, n2, c2, d2, d3, ha, hr⟩ := hr.at3
 obtain ⟨A4, n4, c4, d4, d5, hb, _⟩ := hr.at3
 exact ⟨bl, o, c, rfl, A2, n2, c2, A4, n4, c4, fun w1 hb' => ⟨cell_up hb' d2, cell_up hb' d3, cell_up hb' d4, cell_up hb' d5, ha.up hb', hb.up hb'⟩, hh⟩
theorem l1Uses_rec (nm : List UInt8) (q : List Tr) (a b : Tr) (m : Nat) (ih : LU nm b m) : LU nm (.mk [] [.mk [114, 101, 99] q, a, b]) (if a.atom = nm then 0 else m) := by
 intro v w hp
 obtain ⟨bl, o, c, rfl, A2, n2, c2, A4, n4, c4, HC, HH⟩ := three_cells hp
 have IH := Lib.hid ih
 clear hp ih
 generalize a.atom = x at *
 by_cases h : x = nm
 · have k : (x == nm) = true := by rw [h]; simp
   rw [if_pos h]
   clear h
   go_enter Tryz.func230, Tryz.ntmps230
   go_wp2_with (go_at_call 125; refine (HH.out _ (up1 w _)).mono ?_; rintro e w1 ⟨rfl, hb1⟩; have g0 : w1.heap[w.heap.size]? = some (.cells #[.string (St []), .slice (some ⟨bl, o, none⟩) 3 c] 59 (0, 0)) := block_up hb1 (block_new w _); have e0 : w1.cell? ⟨w.heap.size, 0, none⟩ = some (.string (St [])) := block_cell g0 0; have e1 : w1.cell? ⟨w.heap.size, 1, none⟩ = some (.slice (some ⟨bl, o, none⟩) 3 c) := block_cell g0 1; obtain ⟨d2, d3, d4, d5, _, _⟩ := HC.out w1 (up_trans (up1 w _) hb1); have HB1 := Lib.hid (up_trans (up1 w _) hb1); clear hb1 g0)
   go_ret
   exact ⟨rfl, HB1.out⟩
 · have k : (x == nm) = false := St_ne h
   rw [if_neg h]
   clear h
   go_enter Tryz.func230, Tryz.ntmps230
   go_wp2_with (first
    | (go_at_call 125; refine (HH.out _ (up1 w _)).mono ?_; rintro e w1 ⟨rfl, hb1⟩; have g0 : w1.heap[w.heap.size]? = some (.cells #[.string (St []), .slice (some ⟨bl, o, none⟩) 3 c] 59 (0, 0)) := block_up hb1 (block_new w _); have e0 : w1.cell? ⟨w.heap.size, 0, none⟩ = some (.string (St [])) := block_cell g0 0; have e1 : w1.cell? ⟨w.heap.size, 1, none⟩ = some (.slice (some ⟨bl, o, none⟩) 3 c) := block_cell g0 1; obtain ⟨d2, d3, d4, d5, _, hb'⟩ := HC.out w1 (up_trans (up1 w _) hb1); have HB1 := Lib.hid (up_trans (up1 w _) hb1); clear hb1 g0)
    | (go_at_call 230; refine (IH.out _ _ hb'.out).mono ?_; rintro e w2 ⟨rfl, hb2⟩; have HB2 := Lib.hid (up_trans HB1.out hb2); clear hb2))
   go_ret
   exact ⟨rfl, HB2.out⟩
theorem l1Uses_two (nm h : List UInt8) (hne : h ≠ [114, 101, 99]) (q : List Tr) (a b : Tr) (ma mb : Nat) (hma : ma <= 1000000) (hmb : mb <= 1000000) (iha : LU nm a ma) (ihb : LU nm b mb) : LU nm (.mk [] [.mk h q, a, b]) (ma + mb) := by
 intro v w hp
 obtain ⟨bl, o, c, rfl, A2, n2, c2, A4, n4, c4, HC, HH⟩ := three_cells hp
 have IHA : Hid (∀ (v : Value) (w : World), TAt w (fun _ => True) a v -> Calls Tryz.prog 230 #[v, .string (St nm)] w fun e w' => e = .returned (.int .i64 ma) /\ Below w.heap.size w w') := iha
 have IHB : Hid (∀ (v : Value) (w : World), TAt w (fun _ => True) b v -> Calls Tryz.prog 230 #[v, .string (St nm)] w fun e w' => e = .returned (.int .i64 mb) /\ Below w.heap.size w w') := ihb
 have k : (h == [114, 101, 99]) = false := St_ne hne
 have hw : IntKind.i64.wrap ((ma : Int) + (mb : Int)) = ((ma + mb : Nat) : Int) := by
  rw [IntKind.wrap_i64]
  omega
 have HW := Lib.hid hw
 clear hp iha ihb hne hw
 generalize a.atom = x at *
 generalize b.atom = y at *
 go_enter Tryz.func230, Tryz.ntmps230
 go_wp2_with (go_at_call 125; refine (HH.out _ (up1 w _)).mono ?_; rintro e w1 ⟨rfl, hb1⟩; have G0 := Lib.hid (block_up hb1 (block_new w (.cells #[.string (St []), .slice (some ⟨bl, o, none⟩) 3 c] 59))); have e1 : w1.cell? ⟨w.heap.size, 1, none⟩ = some (.slice (some ⟨bl, o, none⟩) 3 c) := block_cell G0.out 1; obtain ⟨d2, d3, d4, d5, HA1, HB1'⟩ := HC.out w1 (up_trans (up1 w _) hb1); have HB1 := Lib.hid (up_trans (up1 w _) hb1); clear hb1)
 go_region_held3 (fun w' => w'.cell? ⟨w.heap.size, 1, none⟩ = some (.slice (some ⟨bl, o, none⟩) 3 c) /\ w'.cell? ⟨bl, o + 2, none⟩ = some (.string (St x)) /\ w'.cell? ⟨bl, o + 3, none⟩ = some (.slice A2 n2 c2) /\ w'.cell? ⟨bl, o + 4, none⟩ = some (.string (St y)) /\ w'.cell? ⟨bl, o + 5, none⟩ = some (.slice A4 n4 c4) /\ Hid (Below w1.heap.size w1 w'))
  (first | exact ⟨t1, t2, t3, t4, t5, HBT⟩ | exact ⟨s1, s2, s3, s4, s5, HBS⟩ | exact ⟨e1, d2, d3, d4, d5, up_drew (Below.refl _ _)⟩ | exact ⟨e1, d2, d3, d4, d5, Below.refl _ _⟩ | go_keep)
  (first
   | (go_at_call 230; first
    | ((with_reducible refine (IHB.out _ _ (TAt.up HBS.out HB1'.out)).mono ?_); rintro e w3 ⟨rfl, hb3⟩; have HBT : Hid (Below w1.heap.size w1 w3) := up_trans HBS.out hb3; have t1 := cell_up HBT.out e1; have t2 := cell_up HBT.out d2; have t3 := cell_up HBT.out d3; have t4 := cell_up HBT.out d4; have t5 := cell_up HBT.out d5; clear hb3)
    | ((with_reducible refine (IHA.out _ _ (TAt.up (up_drew (Below.refl _ _)) HA1.out)).mono ?_); rintro e w2 ⟨rfl, hb2⟩; have HBS : Hid (Below w1.heap.size w1 w2) := up_trans (up_drew (Below.refl _ w1)) hb2; have s1 := cell_up HBS.out e1; have s2 := cell_up HBS.out d2; have s3 := cell_up HBS.out d3; have s4 := cell_up HBS.out d4; have s5 := cell_up HBS.out d5; clear hb2)))
 all_goals go_wp2
 all_goals go_ret
 all_goals exact ⟨congrArg (fun z => Ending.returned (.int .i64 z)) HW.out, up_trans HB1.out HBT.out⟩
theorem uses_atoms (nm : List UInt8) : ∀ (n : NT), n.uses nm <= n.atoms
 | .zero => by simp [NT.uses]
 | .one => by simp [NT.uses]
 | .name s => by simp only [NT.uses, NT.atoms]; split <;> omega
 | .sum a b => by have := uses_atoms nm a; have := uses_atoms nm b; simp only [NT.uses, NT.atoms]; omega
 | .prod a b => by have := uses_atoms nm a; have := uses_atoms nm b; simp only [NT.uses, NT.atoms]; omega
 | .loop s a => by have := uses_atoms nm a; simp only [NT.uses, NT.atoms]; split <;> omega
end Go.Proofs.YtpokompplapkhaaGreatDoor
namespace Go.Proofs.YtpokompplapkhaaGreatDoor
set_option maxHeartbeats 8000000
set_option maxRecDepth 100000
open Go.RowKit
set_option linter.unusedVariables false
set_option linter.unusedSimpArgs false
def jn : List Tr -> List UInt8
 | [] => []
 | t :: ts => t.txt ++ (match ts with | [] => [] | _ :: _ => 32 :: jn ts)
theorem txts_jn : ∀ (ps : List Tr), ps ≠ [] -> Tr.txts ps = jn ps ++ [41]
 | [], h => absurd rfl h
 | [t], _ => by simp [Tr.txts, jn]
 | t :: u :: r, _ => by
  have := txts_jn (u :: r) (by simp)
  rw [Tr.txts, jn]
  simp only [this]
  simp
theorem jn_snoc (t : Tr) : ∀ (ps : List Tr), ps ≠ [] -> jn (ps ++ [t]) = jn ps ++ 32 :: t.txt
 | [], h => absurd rfl h
 | [u], _ => by simp [jn]
 | u :: v :: r, _ => by
  have := jn_snoc t (v :: r) (by simp)
  simp only [List.cons_append] at this ⊢
  rw [jn]
  simp only [this]
  rw [jn]
  simp
theorem jn_take_le : ∀ (ps : List Tr) (k : Nat), (jn (ps.take k)).length <= (jn ps).length
 | [], k => by simp
 | t :: ts, 0 => by simp [jn]
 | t :: ts, k + 1 => by
  rw [List.take_succ_cons]
  have := jn_take_le ts k
  cases ts with
  | nil => simp [jn]
  | cons u r =>
   cases k with
   | zero => simp [jn]
   | succ k =>
    rw [List.take_succ_cons] at this ⊢
    rw [jn, jn]
    simp only [List.length_append, List.length_cons]
    omega
theorem TRow.get {w : World} {ok : Nat -> Prop} {ps : List Tr} : ∀ {b o : Nat} {k : Nat} {t : Tr}, TRow w ok ps (some ⟨b, o, none⟩) -> ps[k]? = some t ->
 ∃ A n c, w.cell? ⟨b, o + k * 2, none⟩ = some (.string (St t.atom)) /\ w.cell? ⟨b, o + k * 2 + 1, none⟩ = some (.slice A n c) /\ TAt w ok t (.agg #[.string (St t.atom), .slice A n c]) := by
 induction ps with
 | nil => intro b o k t h hk; simp at hk
 | cons a ts ih =>
  intro b o k t h hk
  obtain ⟨A, n, c, h0, h1, ha, hr⟩ := h.at3
  cases k with
  | zero =>
   simp at hk
   subst hk
   exact ⟨A, n, c, by simpa using h0, by simpa using h1, ha⟩
  | succ k =>
   obtain ⟨A', n', c', g0, g1, g2⟩ := ih hr (by simpa using hk)
   refine ⟨A', n', c', ?_, ?_, g2⟩
   · rw [show o + (k + 1) * 2 = o + 2 + k * 2 by omega]; exact g0
   · rw [show o + (k + 1) * 2 + 1 = o + 2 + k * 2 + 1 by omega]; exact g1
theorem l1Text_atom (s : List UInt8) (hs : s ≠ []) (ps : List Tr) (v : Value) (w : World) (hp : TAt w (fun _ => True) (.mk s ps) v) :
 Calls Tryz.prog 65 #[v] w fun e w' => e = .returned (.string (St s)) /\ Below w.heap.size w w' := by
 obtain ⟨A, c, rfl, _⟩ := TAt.parts hp
 have k0 := St_ne hs
 clear hp
 go_enter Tryz.func65, Tryz.ntmps65
 go_wp2
 go_ret
 exact ⟨rfl, up1 w _⟩
theorem l1Text_list (ps : List Tr) (hps : ps ≠ []) (hpl : ps.length <= 1000000000000000) (hl : (jn ps).length <= 1000000000000000) (ih : ∀ t ∈ ps, ∀ (v : Value) (w : World), TAt w (fun _ => True) t v -> Calls Tryz.prog 65 #[v] w fun e w' => e = .returned (.string (St t.txt)) /\ Below w.heap.size w w')
 (v : Value) (w : World) (hp : TAt w (fun _ => True) (.mk [] ps) v) :
 Calls Tryz.prog 65 #[v] w fun e w' => e = .returned (.string (St (40 :: (jn ps ++ [41])))) /\ Below w.heap.size w w' := by
 obtain ⟨A, c, rfl, hr⟩ := TAt.parts hp
 obtain ⟨b, o, rfl⟩ : ∃ b o, A = some ⟨b, o, none⟩ := by
  cases ps with
  | nil => exact absurd rfl hps
  | cons t ts =>
   obtain ⟨s, q⟩ := t
   obtain ⟨b, o, _, _, rfl, _⟩ := hr.uncons
   exact ⟨b, o, rfl⟩
 have IH := Lib.hid ih
 have HROW : Hid (∀ w1, Below w.heap.size w w1 -> TRow w1 (fun _ => True) ps (some ⟨b, o, none⟩)) := fun w1 hb => hr.up hb
 have HLL : Hid (∀ k, (jn (ps.take k)).length <= 1000000000000000) := fun k => Nat.le_trans (jn_take_le ps k) hl
 have HSN : Hid (∀ k t, ps[k]? = some t -> 0 < k -> jn (ps.take (k + 1)) = jn (ps.take k) ++ 32 :: t.txt) := fun k t hk h0 => by
  have hkl := (List.getElem?_eq_some_iff.1 hk).1
  rw [List.take_add_one, hk]
  exact jn_snoc t _ (by
   intro h
   have := congrArg List.length h
   rw [List.length_take] at this
   simp only [List.length_nil] at this
   omega)
 have HS0 : Hid (∀ t, ps[0]? = some t -> jn (ps.take 1) = t.txt) := fun t hk => by
  cases ps with
  | nil => simp at hk
  | cons a r => simp at hk; subst hk; simp [jn]
 clear hp hr ih hl
 obtain ⟨n, hn⟩ : ∃ n, n = ps.length := ⟨_, rfl⟩
 rw [<- hn]
 have HN := Lib.hid hn
 have hn0 : 0 < n := by rw [hn]; exact List.length_pos_iff.2 hps
 have hnb : (n : Int) <= 1000000000000000 := by omega
 clear hn hps
 obtain ⟨res, hres⟩ : ∃ res, res = St (40 :: (jn ps ++ [41])) := ⟨_, rfl⟩
 rw [<- hres]
 have HRES := Lib.hid hres
 clear hres
 go_enter Tryz.func65, Tryz.ntmps65
 go_wp2
 go_loopg [3, 4] n (fun m v3 v4 wr => ∃ (k : Nat) (u : ByteArray), v3 = .string u /\ v4 = .int .i64 k /\ Hid (m + k = n /\ u = St (40 :: jn (ps.take k)) /\ u.size <= 1000000000000001) /\ Hid (Below w.heap.size w wr) /\ Hid (wr.heap[w.heap.size]? = some (.cells #[.string (St []), .slice (some ⟨b, o, none⟩) n c] 59 (0, 0))))
 case atStart => exact ⟨0, ⟨#[40]⟩, rfl, rfl, ⟨rfl, rfl, by decide⟩, up1 w _, block_new w _⟩
 case round =>
  obtain ⟨k, u, rfl, rfl, HK, HB, HX⟩ := hrel
  obtain ⟨hk, hu, husz⟩ := HK.out
  have HU := Lib.hid hu
  have e1 : wr.cell? ⟨w.heap.size, 1, none⟩ = some (.slice (some ⟨b, o, none⟩) n c) := block_cell HX.out 1
  cases gk with
  | zero =>
   have h1 : decide (k < n) = false := decide_eq_false (by omega)
   have hend : res = u ++ ⟨#[41]⟩ := by
    have h2 := HRES.out
    rw [h2, hu, List.take_of_length_le (by have := HN.out; omega)]
    apply ByteArray.ext
    simp [ByteArray.data_append]
   subst hend
   clear hk hu HK
   go_wp2
   go_ret
   exact ⟨rfl, HB.out⟩
  | succ m =>
   have h1 : decide (k < n) = true := decide_eq_true (by omega)
   have hkn : k < n := by omega
   have hkl : k < ps.length := by have := HN.out; omega
   obtain ⟨t, ht⟩ : ∃ t, ps[k]? = some t := ⟨_, List.getElem?_eq_getElem hkl⟩
   obtain ⟨A', n', c', d0, d1, hta⟩ := (HROW.out wr HB.out).get ht
   have HTX := Lib.hid (IH.out t (List.mem_of_getElem? ht) _ wr hta)
   have hnext := HLL.out (k + 1)
   generalize t.atom = x at *
   by_cases hk0 : k = 0
   · have hk1 : decide (0 < k) = false := decide_eq_false (by omega)
     have hsz : (St t.txt).size <= 1000000000000000 := by
      have h2 := hnext
      have hj := HS0.out t (by rw [<- hk0]; exact ht)
      rw [hk0, hj] at h2
      exact h2
     have HK2 : Hid (m + (k + 1) = n /\ u ++ St t.txt = St (40 :: jn (ps.take (k + 1))) /\ (u ++ St t.txt).size <= 1000000000000001) := by
      have hj := HS0.out t (by rw [<- hk0]; exact ht)
      have hu2 : u = ⟨#[40]⟩ := by rw [hu, hk0]; rfl
      refine ⟨by omega, ?_, ?_⟩
      · rw [hk0, hj, hu2]
        apply ByteArray.ext
        simp [ByteArray.data_append]
      · rw [ByteArray.size_append, hu2]
        have : (⟨#[40]⟩ : ByteArray).size = 1 := rfl
        omega
     clear hk hu HK hkl hnext hta ht hk0
     generalize St t.txt = y at *
     go_wp2_with (go_at_call 65; (with_reducible refine HTX.out.mono ?_); rintro e w2 ⟨rfl, hb2⟩; have HB2 := Lib.hid (up_trans HB.out hb2); have HX2 := Lib.hid (block_up hb2 HX.out); clear hb2)
     go_roundg m
     case measure => omega
     case rel => exact ⟨k + 1, _, rfl, rfl, HK2, HB2, HX2⟩
   · have hk1 : decide (0 < k) = true := decide_eq_true (by omega)
     have hj := HSN.out k t ht (by omega)
     have hsz : (St t.txt).size <= 1000000000000000 := by
      have h2 : (jn (ps.take (k + 1))).length <= 1000000000000000 := hnext
      rw [hj] at h2
      simp only [List.length_append, List.length_cons] at h2
      show t.txt.length <= 1000000000000000
      omega
     have HK2 : Hid (m + (k + 1) = n /\ u ++ ⟨#[32]⟩ ++ St t.txt = St (40 :: jn (ps.take (k + 1))) /\ (u ++ ⟨#[32]⟩ ++ St t.txt).size <= 1000000000000001) := by
      have hcat : u ++ ⟨#[32]⟩ ++ St t.txt = St (40 :: jn (ps.take (k + 1))) := by
       rw [hj, hu]
       apply ByteArray.ext
       simp [ByteArray.data_append]
      refine ⟨by omega, hcat, ?_⟩
      rw [hcat]
      show (40 :: jn (ps.take (k + 1))).length <= 1000000000000001
      simp only [List.length_cons]
      omega
     clear hk hu HK hkl hj hnext hta ht
     generalize St t.txt = y at *
     go_wp2_with (go_at_call 65; (with_reducible refine HTX.out.mono ?_); rintro e w2 ⟨rfl, hb2⟩; have HB2 := Lib.hid (up_trans HB.out hb2); have HX2 := Lib.hid (block_up hb2 HX.out); clear hb2)
     go_roundg m
     case measure => omega
     case rel => exact ⟨k + 1, _, rfl, rfl, HK2, HB2, HX2⟩
theorem jn_mem : ∀ {ps : List Tr} {t : Tr}, t ∈ ps -> t.txt.length <= (jn ps).length
 | [a], t, h => by
  simp at h
  subst h
  simp [jn]
 | a :: u :: q, t, h => by
  rw [jn]
  rcases List.mem_cons.1 h with rfl | h
  · simp
  · have := jn_mem h
    simp only [List.length_append, List.length_cons]
    omega
theorem l1Text_any : ∀ (d : Nat) (t : Tr), t.dep <= d -> t.wf -> t.txt.length <= 1000000000000000 -> ∀ (v : Value) (w : World), TAt w (fun _ => True) t v -> Calls Tryz.prog 65 #[v] w fun e w' => e = .returned (.string (St t.txt)) /\ Below w.heap.size w w' := by
 intro d
 induction d with
 | zero =>
  rintro ⟨s, ps⟩ hd hw hl v w hp
  rcases hw with ⟨hs, _, rfl⟩ | ⟨rfl, _, _⟩
  · rw [show (Tr.mk s []).txt = s by simp [Tr.txt, hs]]
    exact l1Text_atom s hs [] v w hp
  · simp [Tr.dep] at hd
 | succ d ih =>
  rintro ⟨s, ps⟩ hd hw hl v w hp
  rcases hw with ⟨hs, _, rfl⟩ | ⟨rfl, hps, hws⟩
  · rw [show (Tr.mk s []).txt = s by simp [Tr.txt, hs]]
    exact l1Text_atom s hs [] v w hp
  · have hd' : Tr.deps ps <= d := by simpa [Tr.dep] using hd
    have htx : (Tr.mk [] ps).txt = 40 :: (jn ps ++ [41]) := by simp [Tr.txt, txts_jn ps hps]
    rw [htx] at hl ⊢
    simp only [List.length_cons, List.length_append, List.length_nil] at hl
    exact l1Text_list ps hps (by have h1 := txts_len ps; rw [txts_jn ps hps] at h1; simp only [List.length_append, List.length_cons, List.length_nil] at h1; omega) (by omega) (fun t ht v w h => ih t (Nat.le_trans (deps_mem ps t ht) hd') (wfs_mem hws t ht) (by have := jn_mem ht; omega) v w h) v w hp
end Go.Proofs.YtpokompplapkhaaGreatDoor
namespace Go.Proofs.YtpokompplapkhaaGreatDoor
set_option maxHeartbeats 8000000
set_option maxRecDepth 100000
open Go.RowKit
set_option linter.unusedVariables false
set_option linter.unusedSimpArgs false
theorem l1Atoms_any3 : ∀ (n : NT), n.ok3 -> n.atoms <= 100000 -> LA n.toTr n.atoms
 | .zero, _, _ => l1Atoms_leaf _ (by simp) []
 | .one, _, _ => l1Atoms_leaf _ (by simp) []
 | .name s, h, _ => l1Atoms_leaf s h.1 []
 | .sum a b, h, hn => by
  simp only [NT.atoms] at hn ⊢
  exact l1Atoms_three _ _ _ 1 a.atoms b.atoms (by omega) (by omega) (by omega) (l1Atoms_leaf _ (by simp) []) (l1Atoms_any3 a h.1 (by omega)) (l1Atoms_any3 b h.2 (by omega))
 | .prod a b, h, hn => by
  simp only [NT.atoms] at hn ⊢
  exact l1Atoms_three _ _ _ 1 a.atoms b.atoms (by omega) (by omega) (by omega) (l1Atoms_leaf _ (by simp) []) (l1Atoms_any3 a h.1 (by omega)) (l1Atoms_any3 b h.2 (by omega))
 | .loop s a, h, hn => by
  simp only [NT.atoms] at hn ⊢
  exact l1Atoms_three _ _ _ 1 1 a.atoms (by omega) (by omega) (by omega) (l1Atoms_leaf _ (by simp) []) (l1Atoms_leaf s h.1.1.1 []) (l1Atoms_any3 a h.2 (by omega))
theorem l1Uses_any3 (nm : List UInt8) (hp : nm ≠ [48] /\ nm ≠ [49]) : ∀ (n : NT), n.ok3 -> n.atoms <= 100000 -> LU nm n.toTr (n.uses nm)
 | .zero, _, _ => by
  have := l1Uses_leaf nm [48] (by simp) []
  rw [if_neg (fun h => hp.1 h.symm)] at this
  exact this
 | .one, _, _ => by
  have := l1Uses_leaf nm [49] (by simp) []
  rw [if_neg (fun h => hp.2 h.symm)] at this
  exact this
 | .name s, h, _ => l1Uses_leaf nm s h.1 []
 | .sum a b, h, hn => by
  simp only [NT.atoms] at hn
  exact l1Uses_two nm _ (by decide) _ _ _ _ _ (by have := uses_atoms nm a; omega) (by have := uses_atoms nm b; omega) (l1Uses_any3 nm hp a h.1 (by omega)) (l1Uses_any3 nm hp b h.2 (by omega))
 | .prod a b, h, hn => by
  simp only [NT.atoms] at hn
  exact l1Uses_two nm _ (by decide) _ _ _ _ _ (by have := uses_atoms nm a; omega) (by have := uses_atoms nm b; omega) (l1Uses_any3 nm hp a h.1 (by omega)) (l1Uses_any3 nm hp b h.2 (by omega))
 | .loop s a, h, hn => by
  simp only [NT.atoms] at hn
  exact l1Uses_rec nm _ _ _ _ (l1Uses_any3 nm hp a h.2 (by omega))
theorem l1Fits_any (nm : List UInt8) (hnm : nm ≠ [48] /\ nm ≠ [49]) (u n : NT) (hn : n.ok3) (hna : n.atoms <= 400) (hu3 : u.ok3) (hua : u.atoms <= 400) (v vu : Value) (w : World) (hp : TAt w (fun _ => True) n.toTr v) (hu : TAt w (fun _ => True) u.toTr vu) :
 Calls Tryz.prog 207 #[v, .string (St nm), vu] w fun e w' => e = .returned (.bool (fitsN nm u n)) /\ Below w.heap.size w w' := by
 obtain ⟨x, A, n', c, rfl⟩ := hp.form
 obtain ⟨y, By, ny, cy, rfl⟩ := hu.form
 have HNA : Hid (∀ w1 : World, Below w.heap.size w w1 -> Calls Tryz.prog 156 #[.agg #[.string x, .slice A n' c]] w1 fun e w' => e = .returned (.int .i64 n.atoms) /\ Below w1.heap.size w1 w') := fun w1 hb => l1Atoms_any3 n hn (by omega) _ w1 (hp.up hb)
 have HNAd : Hid (∀ w1 : World, Below w.heap.size w w1 -> Calls Tryz.prog 156 #[.agg #[.string x, .slice A n' c]] w1.drew fun e w' => e = .returned (.int .i64 n.atoms) /\ Below w1.drew.heap.size w1.drew w') := fun w1 hb => HNA.out _ (up_drew hb)
 have HUA : Hid (∀ w1 : World, Below w.heap.size w w1 -> Calls Tryz.prog 156 #[.agg #[.string y, .slice By ny cy]] w1 fun e w' => e = .returned (.int .i64 u.atoms) /\ Below w1.heap.size w1 w') := fun w1 hb => l1Atoms_any3 u hu3 (by omega) _ w1 (hu.up hb)
 have HUAd : Hid (∀ w1 : World, Below w.heap.size w w1 -> Calls Tryz.prog 156 #[.agg #[.string y, .slice By ny cy]] w1.drew fun e w' => e = .returned (.int .i64 u.atoms) /\ Below w1.drew.heap.size w1.drew w') := fun w1 hb => HUA.out _ (up_drew hb)
 have HUS : Hid (∀ w1 : World, Below w.heap.size w w1 -> Calls Tryz.prog 230 #[.agg #[.string x, .slice A n' c], .string (St nm)] w1 fun e w' => e = .returned (.int .i64 (n.uses nm)) /\ Below w1.heap.size w1 w') := fun w1 hb => l1Uses_any3 nm hnm n hn (by omega) _ w1 (hp.up hb)
 have HUSd : Hid (∀ w1 : World, Below w.heap.size w w1 -> Calls Tryz.prog 230 #[.agg #[.string x, .slice A n' c], .string (St nm)] w1.drew fun e w' => e = .returned (.int .i64 (n.uses nm)) /\ Below w1.drew.heap.size w1.drew w') := fun w1 hb => HUS.out _ (up_drew hb)
 have hm : n.uses nm <= 400 := Nat.le_trans (uses_atoms nm n) hna
 have hup := atoms_pos u
 obtain ⟨res, hres⟩ : ∃ res, res = fitsN nm u n := ⟨_, rfl⟩
 rw [<- hres]
 rw [fitsN] at hres
 generalize n.atoms = a at *
 generalize u.atoms = b at *
 generalize n.uses nm = m at *
 have hmb : (m : Int) * ((b : Int) - 1) = ((m * (b - 1) : Nat) : Int) := by
  rw [Int.natCast_mul, Int.natCast_sub hup]
  rfl
 have hmx : m * (b - 1) <= 400 * 399 := Nat.mul_le_mul hm (by omega)
 have hw1 : IntKind.i64.wrap ((b : Int) - 1) = (b : Int) - 1 := by rw [IntKind.wrap_i64]; omega
 have hw2 : IntKind.i64.wrap ((m : Int) * ((b : Int) - 1)) = (m : Int) * ((b : Int) - 1) := by rw [IntKind.wrap_i64, hmb]; omega
 have hw3 : IntKind.i64.wrap ((a : Int) + (m : Int) * ((b : Int) - 1)) = (a : Int) + (m : Int) * ((b : Int) - 1) := by rw [IntKind.wrap_i64, hmb]; omega
 have HRES : Hid (decide (IntKind.i64.wrap ((a : Int) + IntKind.i64.wrap ((m : Int) * IntKind.i64.wrap ((b : Int) - 1))) <= 400) = res) := by
  rw [hw1, hw2, hw3]
  exact hres.symm
 clear hp hu hn hna hu3 hua hnm hm hup hres hmb hmx hw1 hw2 hw3
 have X1 : Hid (((w.alloc (.cells #[.string x, .slice A n' c] 59)).alloc (.cells #[.string y, .slice By ny cy] 59)).heap[w.heap.size]? = some (.cells #[.string x, .slice A n' c] 59 (0, 0))) := old2 w _ _
 have Y1 : Hid (((w.alloc (.cells #[.string x, .slice A n' c] 59)).alloc (.cells #[.string y, .slice By ny cy] 59)).heap[w.heap.size + 1]? = some (.cells #[.string y, .slice By ny cy] 59 (0, 0))) := new2 w _ _
 have s1 : ((w.alloc (.cells #[.string x, .slice A n' c] 59)).alloc (.cells #[.string y, .slice By ny cy] 59)).cell? ⟨w.heap.size, 0, none⟩ = some (.string x) /\ ((w.alloc (.cells #[.string x, .slice A n' c] 59)).alloc (.cells #[.string y, .slice By ny cy] 59)).cell? ⟨w.heap.size, 1, none⟩ = some (.slice A n' c) /\ ((w.alloc (.cells #[.string x, .slice A n' c] 59)).alloc (.cells #[.string y, .slice By ny cy] 59)).cell? ⟨w.heap.size + 1, 0, none⟩ = some (.string y) /\ ((w.alloc (.cells #[.string x, .slice A n' c] 59)).alloc (.cells #[.string y, .slice By ny cy] 59)).cell? ⟨w.heap.size + 1, 1, none⟩ = some (.slice By ny cy) := ⟨block_cell X1.out 0, block_cell X1.out 1, block_cell Y1.out 0, block_cell Y1.out 1⟩
 have HBK : Hid (Below w.heap.size w ((w.alloc (.cells #[.string x, .slice A n' c] 59)).alloc (.cells #[.string y, .slice By ny cy] 59))) := up_alloc (up1 w _) _
 go_enter Tryz.func207, Tryz.ntmps207
 go_wp2
 go_region_held3 (fun w' => w'.cell? ⟨w.heap.size, 0, none⟩ = some (.string x) /\ w'.cell? ⟨w.heap.size, 1, none⟩ = some (.slice A n' c) /\ w'.cell? ⟨w.heap.size + 1, 0, none⟩ = some (.string y) /\ w'.cell? ⟨w.heap.size + 1, 1, none⟩ = some (.slice By ny cy))
  (first | exact s1 | go_keep)
  (first
   | (go_at_call 230; (first | (with_reducible refine (HUS.out _ HBK.out).mono ?_) | (with_reducible refine (HUSd.out _ HBK.out).mono ?_)); rintro e w5 ⟨rfl, hb5⟩; have X1 := Lib.hid (block_up hb5 X1.out); have Y1 := Lib.hid (block_up hb5 Y1.out); have HBK : Hid (Below w.heap.size w w5) := (by first | exact up_trans HBK.out hb5 | exact up_trans (up_drew HBK.out) hb5); have s1 : w5.cell? ⟨w.heap.size, 0, none⟩ = some (.string x) /\ w5.cell? ⟨w.heap.size, 1, none⟩ = some (.slice A n' c) /\ w5.cell? ⟨w.heap.size + 1, 0, none⟩ = some (.string y) /\ w5.cell? ⟨w.heap.size + 1, 1, none⟩ = some (.slice By ny cy) := ⟨block_cell X1.out 0, block_cell X1.out 1, block_cell Y1.out 0, block_cell Y1.out 1⟩; clear hb5)
   | (go_at_call 156; (first | (with_reducible refine (HNA.out _ HBK.out).mono ?_) | (with_reducible refine (HNAd.out _ HBK.out).mono ?_)); rintro e w5 ⟨rfl, hb5⟩; have X1 := Lib.hid (block_up hb5 X1.out); have Y1 := Lib.hid (block_up hb5 Y1.out); have HBK : Hid (Below w.heap.size w w5) := (by first | exact up_trans HBK.out hb5 | exact up_trans (up_drew HBK.out) hb5); have s1 : w5.cell? ⟨w.heap.size, 0, none⟩ = some (.string x) /\ w5.cell? ⟨w.heap.size, 1, none⟩ = some (.slice A n' c) /\ w5.cell? ⟨w.heap.size + 1, 0, none⟩ = some (.string y) /\ w5.cell? ⟨w.heap.size + 1, 1, none⟩ = some (.slice By ny cy) := ⟨block_cell X1.out 0, block_cell X1.out 1, block_cell Y1.out 0, block_cell Y1.out 1⟩; clear hb5)
   | (go_at_call 156; (first | (with_reducible refine (HUA.out _ HBK.out).mono ?_) | (with_reducible refine (HUAd.out _ HBK.out).mono ?_)); rintro e w5 ⟨rfl, hb5⟩; have X1 := Lib.hid (block_up hb5 X1.out); have Y1 := Lib.hid (block_up hb5 Y1.out); have HBK : Hid (Below w.heap.size w w5) := (by first | exact up_trans HBK.out hb5 | exact up_trans (up_drew HBK.out) hb5); have s1 : w5.cell? ⟨w.heap.size, 0, none⟩ = some (.string x) /\ w5.cell? ⟨w.heap.size, 1, none⟩ = some (.slice A n' c) /\ w5.cell? ⟨w.heap.size + 1, 0, none⟩ = some (.string y) /\ w5.cell? ⟨w.heap.size + 1, 1, none⟩ = some (.slice By ny cy) := ⟨block_cell X1.out 0, block_cell X1.out 1, block_cell Y1.out 0, block_cell Y1.out 1⟩; clear hb5))
 all_goals go_wp2
 all_goals go_ret
 all_goals exact ⟨congrArg (fun z => Ending.returned (.bool z)) HRES.out, HBK.out⟩
end Go.Proofs.YtpokompplapkhaaGreatDoor

