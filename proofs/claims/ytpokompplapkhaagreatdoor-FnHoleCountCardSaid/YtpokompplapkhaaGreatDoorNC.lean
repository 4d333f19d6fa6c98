/- Values drawn: l91Fill. Values drawn: l91Fill of recs and products. Values drawn: l91Fill of sums. Values drawn: l91Fill, whole. -/
import Derived.Test.YtpokompplapkhaaGreatDoorMQ
import Derived.Test.YtpokompplapkhaaGreatDoorMG
import Derived.Test.YtpokompplapkhaaGreatDoorMJ
import Derived.Test.YtpokompplapkhaaGreatDoorLsT
import Derived.Test.YtpokompplapkhaaGreatDoorTk
namespace Go.Proofs.YtpokompplapkhaaGreatDoor
set_option maxHeartbeats 8000000
set_option maxRecDepth 100000
open Go.RowKit
set_option linter.unusedVariables false
set_option linter.unusedSimpArgs false
def FillPost (w : World) (r : Nat) (B : Option Addr) (n c K M : Nat) (e : Ending) (w' : World) : Prop :=
 ∃ tr x A m cc, e = .returned (.agg #[.string x, .slice A m cc]) /\ tr.wf /\ tr.txt.length <= M /\ TAt w' (fun k => w.heap.size <= k) tr (.agg #[.string x, .slice A m cc]) /\ RB w' r B n c K /\ w.grownBy w' (some r)
def Fil (N : NT) (d : Int) (k M : Nat) : Prop := ∀ (r : Nat) (B : Option Addr) (n c K : Nat) (w : World) (v : Value), RB w r B n c K -> K + k <= 1000000000000 -> TAt w (fun _ => True) N.toTr v -> Calls Tryz.prog 138 #[.pointer (some ⟨r, 0, none⟩), v, .int .i64 d] w (FillPost w r B n c (K + k) M)
theorem FillPost.mono {w : World} {r : Nat} {B : Option Addr} {n c K K' M M' : Nat} (hK : K <= K') (hM : M <= M') {e : Ending} {w' : World} (h : FillPost w r B n c K M e w') : FillPost w r B n c K' M' e w' := by
 obtain ⟨tr, x, A, m, cc, he, hw, hl, ht, hr, hg⟩ := h
 exact ⟨tr, x, A, m, cc, he, hw, by omega, ht, hr.mono hK, hg⟩
theorem Fil.mono {N : NT} {d : Int} {k k' M M' : Nat} (hk : k <= k') (hM : M <= M') (h : Fil N d k M) : Fil N d k' M' := fun r B n c K w v hr hK hp => (h r B n c K w v hr (by omega) hp).mono fun e w' hh => hh.mono (by omega) hM
theorem RB.keeps {w w1 : World} {r : Nat} {B : Option Addr} {n c K : Nat} (h : RB w r B n c K) (hg : w.grownBy w1 (some r)) : Keeps 59 w w1 := fun k cs fr hb => by
 obtain ⟨p, _, hr, _⟩ := h
 have hne : k ≠ r := by
  rintro rfl
  rw [hr] at hb
  simp at hb
 rw [hg.block k (lt_of_block hb) (by simpa using hne)]
 exact hb
theorem RB.set {w w1 : World} {r : Nat} {B : Option Addr} {n c K0 K : Nat} (h0 : RB w r B n c K0) (h1 : RB w1 r B n c K) (hg : w.grownBy w1 (some r)) {b : Nat} (hb : w.heap.size <= b) (v0 v1 : Value) : RB ((w1.setCell ⟨b, 0, none⟩ v0).setCell ⟨b, 1, none⟩ v1) r B n c K := by
 have hlt := h0.lt
 obtain ⟨p, hp, hcell, _, hn⟩ := h1
 obtain ⟨_, _, _, hrow, _⟩ := h0
 exact ⟨p, hp, (set2_block w1 v0 v1 (by omega)).trans hcell, hrow.grown (grow_set (grow_set hg hb) hb), hn⟩
theorem wf1 {h : List UInt8} (hh : h ≠ [] /\ ∀ b ∈ h, atomB b = true) {t : Tr} (ht : t.wf) : (Tr.mk [] [.mk h [], t]).wf := .inr ⟨rfl, by simp, .inl ⟨hh.1, hh.2, rfl⟩, ht, trivial⟩
theorem wf2 {h : List UInt8} (hh : h ≠ [] /\ ∀ b ∈ h, atomB b = true) {t u : Tr} (ht : t.wf) (hu : u.wf) : (Tr.mk [] [.mk h [], t, u]).wf := .inr ⟨rfl, by simp, .inl ⟨hh.1, hh.2, rfl⟩, ht, hu, trivial⟩
theorem len1 (b : UInt8) (t : Tr) : (Tr.mk [] [.mk [b] [], t]).txt.length = t.txt.length + 4 := by simp [Tr.txt, Tr.txts]
theorem len2 (b : UInt8) (t u : Tr) : (Tr.mk [] [.mk [b] [], t, u]).txt.length = t.txt.length + u.txt.length + 5 := by simp [Tr.txt, Tr.txts]; omega
theorem elem_cat (x : Int) (h0 : 0 <= x) (h1 : x < 3) : ∃ l : List UInt8, (⟨#[101]⟩ : ByteArray) ++ St (decL x.toNat) = St l /\ l.length = 2 /\ l ≠ [] /\ (∀ b ∈ l, atomB b = true) /\ (St (decL x.toNat)).size = 1 := by
 have : x = 0 \/ x = 1 \/ x = 2 := by omega
 rcases this with rfl | rfl | rfl
 · exact ⟨[101, 48], by rw [show decL (0 : Int).toNat = [48] from by rw [decL, if_pos (by decide)]; rfl]; rfl, rfl, by simp, by decide, by rw [show decL (0 : Int).toNat = [48] from by rw [decL, if_pos (by decide)]; rfl]; rfl⟩
 · exact ⟨[101, 49], by rw [show decL (1 : Int).toNat = [49] from by rw [decL, if_pos (by decide)]; rfl]; rfl, rfl, by simp, by decide, by rw [show decL (1 : Int).toNat = [49] from by rw [decL, if_pos (by decide)]; rfl]; rfl⟩
 · exact ⟨[101, 50], by rw [show decL (2 : Int).toNat = [50] from by rw [decL, if_pos (by decide)]; rfl]; rfl, rfl, by simp, by decide, by rw [show decL (2 : Int).toNat = [50] from by rw [decL, if_pos (by decide)]; rfl]; rfl⟩
theorem fill_leaf (N : NT) (s : List UInt8) (hs : s ≠ []) (hN : N.toTr = .mk s []) (d : Int) : Fil N d 1 3 := by
 intro r B n c K w v hrb hk hp
 rw [hN] at hp
 have HH : Hid (∀ w1, Below w.heap.size w w1 -> Calls Tryz.prog 125 #[v] w1 fun e w' => e = .returned (.string (St [])) /\ Below w1.heap.size w1 w') := fun w1 hb => by
  have := l1Head_any (.mk s []) v w1 (hp.up hb)
  rw [show headOf (.mk s []) = [] by simp [headOf, hs]] at this
  exact this
 obtain ⟨A, cc, rfl, _⟩ := hp.parts
 have HPK : Hid (∀ w1, RB w1 r B n c K -> Calls Tryz.prog 79 #[.pointer (some ⟨r, 0, none⟩), .int .i64 3] w1 fun e w' => ∃ x : Int, 0 <= x /\ x < 3 /\ e = .returned (.int .i64 x) /\ RB w' r B n c (K + 1) /\ w1.grownBy w' (some r)) := fun w1 h => pick_rb r B n c K 3 w1 h (by omega) (by omega) (by omega)
 have HDC : Hid (∀ (w1 : World) (x : Int), 0 <= x -> x < 3 -> Calls Tryz.prog 148 #[.int .i64 x] w1 fun e w' => ∃ b : ByteArray, b.size = 1 /\ (∃ l : List UInt8, (⟨#[101]⟩ : ByteArray) ++ b = St l /\ l.length = 2 /\ l ≠ [] /\ (∀ b ∈ l, atomB b = true)) /\ e = .returned (.string b) /\ Below w1.heap.size w1 w') := fun w1 x h0 h1 => by
  have := l6Dec_any x.toNat w1 (by omega)
  rw [show ((x.toNat : Nat) : Int) = x by omega] at this
  obtain ⟨l, h2, h3, h4, h5, h6⟩ := elem_cat x h0 h1
  exact this.mono fun e w' ⟨e1, e2⟩ => ⟨_, h6, ⟨l, h2, h3, h4, h5⟩, e1, e2⟩
 have HRB := Lib.hid hrb
 have hlt := hrb.lt
 have HX2 : Hid (((w.alloc (.cells #[.string (St s), .slice A 0 cc] 59)).alloc (.cells #[.string (St []), .slice none 0 0] 59)).heap[w.heap.size]? = some (.cells #[.string (St s), .slice A 0 cc] 59 (0, 0))) := old2 w _ _
 have HR2 : Hid (((w.alloc (.cells #[.string (St s), .slice A 0 cc] 59)).alloc (.cells #[.string (St []), .slice none 0 0] 59)).heap[w.heap.size + 1]? = some (.cells #[.string (St []), .slice none 0 0] 59 (0, 0))) := new2 w _ _
 clear hp hrb hN
 have HS := Lib.hid hs
 clear hs
 cases hq : (s == [49]) with
 | true =>
  go_enter Tryz.func138, Tryz.ntmps138
  go_wp2_with (go_at_call 125; (refine (HH.out _ (up_alloc (up1 w _) _)).mono ?_); rintro e w1 ⟨rfl, hb1⟩; have HB1 := Lib.hid (up_trans (up_alloc (up1 w _) _) hb1); have X1 := Lib.hid (block_up hb1 HX2.out); have R1 := Lib.hid (block_up hb1 HR2.out); have x0 := block_cell X1.out 0; have rc0 := block_cell R1.out 0; have rc1 := block_cell R1.out 1; have fr0 := block_free R1.out 0; have fr1 := block_free R1.out 1; have lr := lt_of_block R1.out; clear hb1)
  refine bodyPost_ret (v := .agg #[.string (St [117]), .slice none 0 0]) (by simp [results, Tryz.results138, go_sem, rc0, rc1, lr]) rfl ?_
  exact ⟨.mk [117] [], _, _, _, _, rfl, .inl ⟨by simp, by decide, rfl⟩, by simp [Tr.txt], leafT _ _ _, (HRB.out.set (HRB.out.up HB1.out) (below_grow HB1.out) (Nat.le_succ _) _ _).mono (Nat.le_succ _), grow_set (grow_set (below_grow HB1.out) (Nat.le_succ _)) (Nat.le_succ _)⟩
 | false =>
  go_enter Tryz.func138, Tryz.ntmps138
  go_wp2_with (first
   | (go_at_call 125; (refine (HH.out _ (up_alloc (up1 w _) _)).mono ?_); rintro e w1 ⟨rfl, hb1⟩; have HB1 := Lib.hid (up_trans (up_alloc (up1 w _) _) hb1); have X1 := Lib.hid (block_up hb1 HX2.out); have R1 := Lib.hid (block_up hb1 HR2.out); have x0 := block_cell X1.out 0; clear hb1)
   | (go_at_call 79; (refine (HPK.out _ (HRB.out.up HB1.out)).mono ?_); rintro e w2 ⟨x, hx0, hx1, rfl, hr2, hg2⟩; have RB2 := Lib.hid hr2; have HG2 : Hid (w.grownBy w2 (some r)) := grow_grow (below_grow HB1.out) hg2 (.inl rfl); have R2 := Lib.hid ((hg2.block _ (lt_of_block R1.out) (by simp; omega)).trans R1.out); clear hr2 hg2)
   | (go_at_call 148; (refine (HDC.out _ _ hx0 hx1).mono ?_); rintro e w3 ⟨b3, hbs3, ⟨l3, hl3, hn3, hne3, hat3⟩, rfl, hb3⟩; have RB3 := Lib.hid (RB2.out.up hb3); have HG3 := Lib.hid (grow_up2 HG2.out hb3); have R3 := Lib.hid (block_up hb3 R2.out); have HL3 := Lib.hid hl3; have rc0 := block_cell R3.out 0; have rc1 := block_cell R3.out 1; have fr0 := block_free R3.out 0; have fr1 := block_free R3.out 1; have lr := lt_of_block R3.out; clear hb3 hl3))
  refine bodyPost_ret (v := .agg #[.string (⟨#[101]⟩ ++ b3), .slice none 0 0]) (by simp [results, Tryz.results138, go_sem, rc0, rc1, lr]) rfl ?_
  refine ⟨.mk l3 [], _, _, _, _, rfl, .inl ⟨hne3, hat3, rfl⟩, by rw [Tr.txt, if_neg hne3, hn3]; omega, ?_, HRB.out.set RB3.out HG3.out (Nat.le_succ _) _ _, grow_set (grow_set HG3.out (Nat.le_succ _)) (Nat.le_succ _)⟩
  rw [HL3.out]
  exact leafT _ _ _
end Go.Proofs.YtpokompplapkhaaGreatDoor
namespace Go.Proofs.YtpokompplapkhaaGreatDoor
set_option maxHeartbeats 8000000
set_option maxRecDepth 100000
open Go.RowKit
set_option linter.unusedVariables false
set_option linter.unusedSimpArgs false
theorem fill_rec (x : List UInt8) (a : NT) (hok : (NT.loop x a).ok3) (hat : (NT.loop x a).atoms <= 400) (d : Int) (hd0 : -100000 <= d) (hd1 : d <= 100000) (k M : Nat) (ih : -12 <= d -> fitsN x (.loop x a) a = true -> Fil (subN x (.loop x a) a) (d - 1) k M) : Fil (.loop x a) d k (M + 4) := by
 intro r B n c K w v hrb hk hp
 have HH : Hid (∀ w1, Below w.heap.size w w1 -> Calls Tryz.prog 125 #[v] w1 fun e w' => e = .returned (.string (St [114, 101, 99])) /\ Below w1.heap.size w1 w') := fun w1 hb => l1Head_any (NT.loop x a).toTr v w1 (hp.up hb)
 have HRB := Lib.hid hrb
 have hlt := hrb.lt
 cases hf : fitsN x (.loop x a) a with
 | false =>
  have HU : Hid (∀ w1, Below w.heap.size w w1 -> Calls Tryz.prog 172 #[v] w1 fun e w' => Below w1.heap.size w1 w' /\ ∃ x A m c, e = .returned (.tuple #[.agg #[.string x, .slice A m c], .bool false])) := fun w1 hb => l1Unroll_no x a hok hat hf v w1 (hp.up hb)
  obtain ⟨x0, A0, m0, c0, rfl⟩ := hp.form
  have HX2 : Hid (((w.alloc (.cells #[.string x0, .slice A0 m0 c0] 59)).alloc (.cells #[.string (St []), .slice none 0 0] 59)).heap[w.heap.size]? = some (.cells #[.string x0, .slice A0 m0 c0] 59 (0, 0))) := old2 w _ _
  have HR2 : Hid (((w.alloc (.cells #[.string x0, .slice A0 m0 c0] 59)).alloc (.cells #[.string (St []), .slice none 0 0] 59)).heap[w.heap.size + 1]? = some (.cells #[.string (St []), .slice none 0 0] 59 (0, 0))) := new2 w _ _
  clear hp hrb ih hf hok hat
  go_enter Tryz.func138, Tryz.ntmps138
  go_wp2_with (first
   | (go_at_call 125; (refine (HH.out _ (up_alloc (up1 w _) _)).mono ?_); rintro e w1 ⟨rfl, hb1⟩; have HB1 := Lib.hid (up_trans (up_alloc (up1 w _) _) hb1); have X1 := Lib.hid (block_up hb1 HX2.out); have R1 := Lib.hid (block_up hb1 HR2.out); have x0c := block_cell X1.out 0; have x1c := block_cell X1.out 1; clear hb1)
   | (go_at_call 172; (refine (HU.out _ HB1.out).mono ?_); rintro e w2 ⟨hb2, x2, B2, m2, c2, rfl⟩; have HB2 := Lib.hid (up_alloc (up_trans HB1.out hb2) (.cells #[.string x2, .slice B2 m2 c2] 59)); have R2 := Lib.hid (block_alloc (block_up hb2 R1.out) (.cells #[.string x2, .slice B2 m2 c2] 59)); have rc0 := block_cell R2.out 0; have rc1 := block_cell R2.out 1; have fr0 := block_free R2.out 0; have fr1 := block_free R2.out 1; have lr := lt_of_block R2.out; clear hb2))
  refine bodyPost_ret (v := .agg #[.string (St [117]), .slice none 0 0]) (by simp [results, Tryz.results138, go_sem, rc0, rc1, lr]) rfl ?_
  exact ⟨.mk [117] [], _, _, _, _, rfl, .inl ⟨by simp, by decide, rfl⟩, by simp [Tr.txt], leafT _ _ _, (HRB.out.set (HRB.out.up HB2.out) (below_grow HB2.out) (Nat.le_succ _) _ _).mono (by omega), grow_set (grow_set (below_grow HB2.out) (Nat.le_succ _)) (Nat.le_succ _)⟩
 | true =>
  have HU : Hid (∀ w1, Below w.heap.size w w1 -> Calls Tryz.prog 172 #[v] w1 fun e w' => Below w1.heap.size w1 w' /\ ∃ x1 A m c, e = .returned (.tuple #[.agg #[.string x1, .slice A m c], .bool true]) /\ TAt w' (fun _ => True) (subN x (.loop x a) a).toTr (.agg #[.string x1, .slice A m c])) := fun w1 hb => l1Unroll_yes x a hok hat hf v w1 (hp.up hb)
  obtain ⟨x0, A0, m0, c0, rfl⟩ := hp.form
  have HX2 : Hid (((w.alloc (.cells #[.string x0, .slice A0 m0 c0] 59)).alloc (.cells #[.string (St []), .slice none 0 0] 59)).heap[w.heap.size]? = some (.cells #[.string x0, .slice A0 m0 c0] 59 (0, 0))) := old2 w _ _
  have HR2 : Hid (((w.alloc (.cells #[.string x0, .slice A0 m0 c0] 59)).alloc (.cells #[.string (St []), .slice none 0 0] 59)).heap[w.heap.size + 1]? = some (.cells #[.string (St []), .slice none 0 0] 59 (0, 0))) := new2 w _ _
  by_cases hdd : -12 <= d
  · have IH := Lib.hid (ih hdd hf)
    have q : decide (d < -12) = false := decide_eq_false (by omega)
    have hwr : IntKind.i64.wrap (d - 1) = d - 1 := by rw [IntKind.wrap_i64]; omega
    clear hp hrb ih hf hok hat
    generalize subN x (.loop x a) a = nx at *
    go_enter Tryz.func138, Tryz.ntmps138
    go_wp2_with (first
     | (go_at_call 125; (refine (HH.out _ (up_alloc (up1 w _) _)).mono ?_); rintro e w1 ⟨rfl, hb1⟩; have HB1 := Lib.hid (up_trans (up_alloc (up1 w _) _) hb1); have X1 := Lib.hid (block_up hb1 HX2.out); have R1 := Lib.hid (block_up hb1 HR2.out); have x0c := block_cell X1.out 0; have x1c := block_cell X1.out 1; clear hb1)
     | (go_at_call 172; (refine (HU.out _ HB1.out).mono ?_); rintro e w2 ⟨hb2, x2, B2, m2, c2, rfl, ht2⟩; have HB2 := Lib.hid (up_alloc (up_trans HB1.out hb2) (.cells #[.string x2, .slice B2 m2 c2] 59)); have R2 := Lib.hid (block_alloc (block_up hb2 R1.out) (.cells #[.string x2, .slice B2 m2 c2] 59)); have rc0 := block_cell R2.out 0; have rc1 := block_cell R2.out 1; have fr0 := block_free R2.out 0; have fr1 := block_free R2.out 1; have lr := lt_of_block R2.out; have HT2 := Lib.hid (ht2.up (up1 w2 (.cells #[.string x2, .slice B2 m2 c2] 59))); clear hb2)
     | (go_at_call 138; (refine (IH.out r B n c K _ _ (HRB.out.up HB2.out) (by omega) HT2.out).mono ?_); rintro e w3 ⟨tr, x3, B3, m3, c3, rfl, hw3, hl3, ht3, hr3, hg3⟩; have HG3 : Hid (w.grownBy w3 (some r)) := grow_grow (below_grow HB2.out) hg3 (.inl rfl); have RB3 := Lib.hid hr3; have R3 := Lib.hid ((hg3.block _ (lt_of_block R2.out) (by simp <;> omega)).trans R2.out); have HT3 : Hid (TAt w3 (fun k => w.heap.size + 2 <= k) tr (.agg #[.string x3, .slice B3 m3 c3])) := ht3.weak (fun k hk => by (have hk2 := hk); have := lt_of_block R2.out; simp at hk2 this ⊢ <;> omega); have HS3 : Hid (w.heap.size + 2 <= w3.heap.size) := lt_of_block R3.out; have HW := Lib.hid hw3; have HL := Lib.hid hl3; clear hg3 hr3 ht3 hw3 hl3)
     | (go_at_call 71; (refine (list1T [102] tr _ _ x3 B3 m3 c3 (fun k => w.heap.size + 2 <= k) (fun k hk => by (have hk2 := hk); have := HS3.out; simp at hk2 ⊢ <;> omega) (by first | exact block_new _ _ | exact new2 _ _ _ | exact old2 _ _ _) (HT3.out.up (by repeat (first | exact Below.refl _ _ | refine up_drew ?_ | refine up_alloc ?_ _)))).mono ?_); rintro e w4 ⟨⟨x4, B4, m4, c4, rfl, ht4⟩, hb4⟩; have hb4 : Below w3.heap.size w3 w4 := up_trans (by repeat (first | exact Below.refl _ _ | refine up_drew ?_ | refine up_alloc ?_ _)) hb4; have HG4 := Lib.hid (grow_up2 HG3.out hb4); have RB4 := Lib.hid (RB3.out.up hb4); have R4 := Lib.hid (block_up hb4 R3.out); have rd0 := block_cell R4.out 0; have rd1 := block_cell R4.out 1; have fs0 := block_free R4.out 0; have fs1 := block_free R4.out 1; have lr4 := lt_of_block R4.out; have HT4 := Lib.hid ht4; clear hb4 ht4))
    refine bodyPost_ret (v := .agg #[.string x4, .slice B4 m4 c4]) (by simp [results, Tryz.results138, go_sem, rd0, rd1, lr4]) rfl ?_
    exact ⟨_, _, _, _, _, rfl, wf1 ⟨by simp, by decide⟩ HW.out, by rw [len1]; have := HL.out; omega, HT4.out.move fun k hk ho => by
     have h2 : w.heap.size + 2 <= k := ho
     exact ⟨by show w.heap.size <= k; omega, set2_block w4 _ _ (by omega)⟩, HRB.out.set RB4.out HG4.out (Nat.le_succ _) _ _, grow_set (grow_set HG4.out (Nat.le_succ _)) (Nat.le_succ _)⟩
  · have q : decide (d < -12) = true := decide_eq_true (by omega)
    clear hp hrb ih hf hok hat
    go_enter Tryz.func138, Tryz.ntmps138
    go_wp2_with (first
     | (go_at_call 125; (refine (HH.out _ (up_alloc (up1 w _) _)).mono ?_); rintro e w1 ⟨rfl, hb1⟩; have HB1 := Lib.hid (up_trans (up_alloc (up1 w _) _) hb1); have X1 := Lib.hid (block_up hb1 HX2.out); have R1 := Lib.hid (block_up hb1 HR2.out); have x0c := block_cell X1.out 0; have x1c := block_cell X1.out 1; clear hb1)
     | (go_at_call 172; (refine (HU.out _ HB1.out).mono ?_); rintro e w2 ⟨hb2, x2, B2, m2, c2, rfl, ht2⟩; have HB2 := Lib.hid (up_alloc (up_trans HB1.out hb2) (.cells #[.string x2, .slice B2 m2 c2] 59)); have R2 := Lib.hid (block_alloc (block_up hb2 R1.out) (.cells #[.string x2, .slice B2 m2 c2] 59)); have rc0 := block_cell R2.out 0; have rc1 := block_cell R2.out 1; have fr0 := block_free R2.out 0; have fr1 := block_free R2.out 1; have lr := lt_of_block R2.out; clear hb2))
    refine bodyPost_ret (v := .agg #[.string (St [117]), .slice none 0 0]) (by simp [results, Tryz.results138, go_sem, rc0, rc1, lr]) rfl ?_
    exact ⟨.mk [117] [], _, _, _, _, rfl, .inl ⟨by simp, by decide, rfl⟩, by simp [Tr.txt], leafT _ _ _, (HRB.out.set (HRB.out.up HB2.out) (below_grow HB2.out) (Nat.le_succ _) _ _).mono (by omega), grow_set (grow_set (below_grow HB2.out) (Nat.le_succ _)) (Nat.le_succ _)⟩
theorem fill_prod (a b : NT) (d : Int) (hd0 : -100000 <= d) (hd1 : d <= 100000) (ka kb Ma Mb : Nat) (iha : Fil a (d - 1) ka Ma) (ihb : Fil b (d - 1) kb Mb) : Fil (.prod a b) d (ka + kb) (Ma + Mb + 5) := by
 intro r B n c K w v hrb hk hp
 have hp : TAt w (fun _ => True) (.mk [] [.mk [42] [], a.toTr, b.toTr]) v := hp
 obtain ⟨bl, o, c', rfl, A2, n2, cc2, A4, n4, c4, HC0, HH0⟩ := three_keeps hp
 have HH : Hid (∀ w1, Below w.heap.size w w1 -> Calls Tryz.prog 125 #[.agg #[.string (St []), .slice (some ⟨bl, o, none⟩) 3 c']] w1 fun e w' => e = .returned (.string (St [42])) /\ Below w1.heap.size w1 w') := fun w1 hb => HH0.out w1 (.up hb)
 have HC : Hid (∀ w1, w.grownBy w1 (some r) -> w1.cell? ⟨bl, o + 2, none⟩ = some (.string (St a.toTr.atom)) /\ w1.cell? ⟨bl, o + 3, none⟩ = some (.slice A2 n2 cc2) /\ w1.cell? ⟨bl, o + 4, none⟩ = some (.string (St b.toTr.atom)) /\ w1.cell? ⟨bl, o + 5, none⟩ = some (.slice A4 n4 c4)) := fun w1 hg => by
  obtain ⟨h1, h2, h3, h4, _⟩ := HC0.out w1 (hrb.keeps hg)
  exact ⟨h1, h2, h3, h4⟩
 have HCT : Hid (∀ w1, w.grownBy w1 (some r) -> TAt w1 (fun _ => True) a.toTr (.agg #[.string (St a.toTr.atom), .slice A2 n2 cc2]) /\ TAt w1 (fun _ => True) b.toTr (.agg #[.string (St b.toTr.atom), .slice A4 n4 c4])) := fun w1 hg => ⟨(HC0.out w1 (hrb.keeps hg)).2.2.2.2.1.out, (HC0.out w1 (hrb.keeps hg)).2.2.2.2.2.out⟩
 have HRB := Lib.hid hrb
 have hlt := hrb.lt
 have hwr : IntKind.i64.wrap (d - 1) = d - 1 := by rw [IntKind.wrap_i64]; omega
 have IHA := Lib.hid iha
 have IHB := Lib.hid ihb
 clear hp hrb HC0 HH0 iha ihb
 obtain ⟨xa, hxa⟩ : ∃ xa, xa = a.toTr.atom := ⟨_, rfl⟩
 obtain ⟨xb, hxb⟩ : ∃ xb, xb = b.toTr.atom := ⟨_, rfl⟩
 rw [<- hxa, <- hxb] at HC HCT
 clear hxa hxb
 have HX2 : Hid (((w.alloc (.cells #[.string (St []), .slice (some ⟨bl, o, none⟩) 3 c'] 59)).alloc (.cells #[.string (St []), .slice none 0 0] 59)).heap[w.heap.size]? = some (.cells #[.string (St []), .slice (some ⟨bl, o, none⟩) 3 c'] 59 (0, 0))) := old2 w _ _
 have HR2 : Hid (((w.alloc (.cells #[.string (St []), .slice (some ⟨bl, o, none⟩) 3 c'] 59)).alloc (.cells #[.string (St []), .slice none 0 0] 59)).heap[w.heap.size + 1]? = some (.cells #[.string (St []), .slice none 0 0] 59 (0, 0))) := new2 w _ _
 go_enter Tryz.func138, Tryz.ntmps138
 go_upto_region 13 with (first
  | (go_at_call 125; (refine (HH.out _ (up_alloc (up1 w _) _)).mono ?_); rintro e w1 ⟨rfl, hb1⟩; have HB1 := Lib.hid (up_trans (up_alloc (up1 w _) _) hb1); have X1 := Lib.hid (block_up hb1 HX2.out); have R1 := Lib.hid (block_up hb1 HR2.out); have x1c := block_cell X1.out 1; obtain ⟨p1, p2, p3, p4⟩ := HC.out w1 (below_grow HB1.out); clear hb1)
  | (go_at_call 138; (refine (IHA.out r B n c K _ _ (HRB.out.up HB1.out) (by omega) (HCT.out _ (below_grow HB1.out)).1).mono ?_); rintro e w3 ⟨t3, x3, B3, m3, c3, rfl, hw3, hl3, ht3, hr3, hg3⟩; have HG3 : Hid (w.grownBy w3 (some r)) := grow_grow (below_grow HB1.out) hg3 (.inl rfl); have RB3 := Lib.hid hr3; have R3 := Lib.hid ((hg3.block _ (lt_of_block R1.out) (by simp <;> omega)).trans R1.out); have X3 := Lib.hid ((hg3.block _ (lt_of_block X1.out) (by simp <;> omega)).trans X1.out); have HT3 : Hid (TAt w3 (fun k => w.heap.size + 2 <= k) t3 (.agg #[.string x3, .slice B3 m3 c3])) := ht3.weak (fun k hk => by (have hk2 := hk); have := lt_of_block R1.out; simp at hk2 this ⊢ <;> omega); have HW3 := Lib.hid hw3; have HL3 := Lib.hid hl3; clear hg3 hr3 ht3 hw3 hl3))
 have HG3' : Hid (w.grownBy (w3.alloc (.cells #[.string x3, .slice B3 m3 c3] 59)) (some r)) := grow_up2 HG3.out (up1 _ _)
 have RB3' := Lib.hid (RB3.out.up (up1 w3 (.cells #[.string x3, .slice B3 m3 c3] 59)))
 have R3' := Lib.hid (block_alloc R3.out (.cells #[.string x3, .slice B3 m3 c3] 59))
 have X3' := Lib.hid (block_alloc X3.out (.cells #[.string x3, .slice B3 m3 c3] 59))
 have E3' := Lib.hid (block_new w3 (.cells #[.string x3, .slice B3 m3 c3] 59))
 have HT3' := Lib.hid (HT3.out.up (up1 w3 (.cells #[.string x3, .slice B3 m3 c3] 59)))
 have s3 : (w3.alloc (.cells #[.string x3, .slice B3 m3 c3] 59)).cell? ⟨w.heap.size, 1, none⟩ = some (.slice (some ⟨bl, o, none⟩) 3 c') /\ (w3.alloc (.cells #[.string x3, .slice B3 m3 c3] 59)).cell? ⟨w3.heap.size, 0, none⟩ = some (.string x3) /\ (w3.alloc (.cells #[.string x3, .slice B3 m3 c3] 59)).cell? ⟨w3.heap.size, 1, none⟩ = some (.slice B3 m3 c3) /\ (w3.alloc (.cells #[.string x3, .slice B3 m3 c3] 59)).cell? ⟨bl, o + 4, none⟩ = some (.string (St xb)) /\ (w3.alloc (.cells #[.string x3, .slice B3 m3 c3] 59)).cell? ⟨bl, o + 5, none⟩ = some (.slice A4 n4 c4) := ⟨block_cell X3'.out 1, block_cell E3'.out 0, block_cell E3'.out 1, (HC.out _ HG3'.out).2.2.1, (HC.out _ HG3'.out).2.2.2⟩
 have l3 := lt_of_block E3'.out
 have hr3s : w.heap.size + 1 < w3.heap.size := lt_of_block R3.out
 clear RB3 R3 X3 HT3
 go_region_held3 (fun w' => w'.cell? ⟨w.heap.size, 1, none⟩ = some (.slice (some ⟨bl, o, none⟩) 3 c') /\ w'.cell? ⟨w3.heap.size, 0, none⟩ = some (.string x3) /\ w'.cell? ⟨w3.heap.size, 1, none⟩ = some (.slice B3 m3 c3) /\ w'.cell? ⟨bl, o + 4, none⟩ = some (.string (St xb)) /\ w'.cell? ⟨bl, o + 5, none⟩ = some (.slice A4 n4 c4))
  (first | exact s6 | exact s5 | exact ⟨cell_up (up1 w4 (.cells #[.string x3, .slice B3 m3 c3, .string x4, .slice B4 m4 c4'] 59)) s4.1, cell_up (up1 w4 (.cells #[.string x3, .slice B3 m3 c3, .string x4, .slice B4 m4 c4'] 59)) s4.2.1, cell_up (up1 w4 (.cells #[.string x3, .slice B3 m3 c3, .string x4, .slice B4 m4 c4'] 59)) s4.2.2.1, cell_up (up1 w4 (.cells #[.string x3, .slice B3 m3 c3, .string x4, .slice B4 m4 c4'] 59)) s4.2.2.2.1, cell_up (up1 w4 (.cells #[.string x3, .slice B3 m3 c3, .string x4, .slice B4 m4 c4'] 59)) s4.2.2.2.2⟩ | exact s4 | exact s3 | go_keep)
  (first
  | (go_at_call 138; (refine (IHB.out r B n c (K + ka) _ _ (RB3'.out.up (by repeat (first | exact Below.refl _ _ | refine up_drew ?_ | refine up_alloc ?_ _))) (by omega) (HCT.out _ (grow_up2 HG3'.out (by repeat (first | exact Below.refl _ _ | refine up_drew ?_ | refine up_alloc ?_ _)))).2).mono ?_); rintro e w4 ⟨t4, x4, B4, m4, c4', rfl, hw4, hl4, ht4, hr4, hg4⟩; have HG4 : Hid (w.grownBy w4 (some r)) := grow_grow (grow_up2 HG3'.out (by repeat (first | exact Below.refl _ _ | refine up_drew ?_ | refine up_alloc ?_ _))) hg4 (.inl rfl); have hg34 : (w3.alloc (.cells #[.string x3, .slice B3 m3 c3] 59)).grownBy w4 (some r) := up_grow (by repeat (first | exact Below.refl _ _ | refine up_drew ?_ | refine up_alloc ?_ _)) hg4; have RB4 := Lib.hid hr4; have R4 := Lib.hid ((hg34.block _ (lt_of_block R3'.out) (by simp <;> omega)).trans R3'.out); have X4 := Lib.hid ((hg34.block _ (lt_of_block X3'.out) (by simp <;> omega)).trans X3'.out); have E4 := Lib.hid ((hg34.block _ (lt_of_block E3'.out) (by simp <;> omega)).trans E3'.out); have HT34 := Lib.hid (HT3'.out.keep (RB3'.out.keeps hg34)); have HT4 : Hid (TAt w4 (fun k => w.heap.size + 2 <= k) t4 (.agg #[.string x4, .slice B4 m4 c4'])) := ht4.weak (fun k hk => by (have hk2 := hk); simp at hk2 ⊢ <;> omega); have HW4 := Lib.hid hw4; have HL4 := Lib.hid hl4; have s4 : w4.cell? ⟨w.heap.size, 1, none⟩ = some (.slice (some ⟨bl, o, none⟩) 3 c') /\ w4.cell? ⟨w3.heap.size, 0, none⟩ = some (.string x3) /\ w4.cell? ⟨w3.heap.size, 1, none⟩ = some (.slice B3 m3 c3) /\ w4.cell? ⟨bl, o + 4, none⟩ = some (.string (St xb)) /\ w4.cell? ⟨bl, o + 5, none⟩ = some (.slice A4 n4 c4) := ⟨block_cell X4.out 1, block_cell E4.out 0, block_cell E4.out 1, (HC.out _ HG4.out).2.2.1, (HC.out _ HG4.out).2.2.2⟩; have hs4 : w.heap.size + 2 <= w4.heap.size := lt_of_block R4.out; clear hg4 hg34 hr4 ht4 hw4 hl4)
  | (go_at_call 71; (refine (list2T [112] t3 t4 _ _ x3 x4 B3 B4 m3 c3 m4 c4' (fun k => w.heap.size + 2 <= k) (fun k hk => by (have hk2 := hk); simp at hk2 ⊢ <;> omega) (by first | exact block_new _ _ | exact new2 _ _ _ | exact old2 _ _ _) (HT34.out.up (by repeat (first | exact Below.refl _ _ | refine up_drew ?_ | refine up_alloc ?_ _))) (HT4.out.up (by repeat (first | exact Below.refl _ _ | refine up_drew ?_ | refine up_alloc ?_ _)))).mono ?_); rintro e w5 ⟨⟨x5, B5, m5, c5, rfl, ht5⟩, hb5⟩; have hb5 : Below w4.heap.size w4 w5 := up_trans (by repeat (first | exact Below.refl _ _ | refine up_drew ?_ | refine up_alloc ?_ _)) hb5; have HG5 := Lib.hid (grow_up2 HG4.out hb5); have RB5 := Lib.hid (RB4.out.up hb5); have R5 := Lib.hid (block_up hb5 R4.out); have X5 := Lib.hid (block_up hb5 X4.out); have E5 := Lib.hid (block_up hb5 E4.out); have HT5 := Lib.hid ht5; have s5 : w5.cell? ⟨w.heap.size, 1, none⟩ = some (.slice (some ⟨bl, o, none⟩) 3 c') /\ w5.cell? ⟨w3.heap.size, 0, none⟩ = some (.string x3) /\ w5.cell? ⟨w3.heap.size, 1, none⟩ = some (.slice B3 m3 c3) /\ w5.cell? ⟨bl, o + 4, none⟩ = some (.string (St xb)) /\ w5.cell? ⟨bl, o + 5, none⟩ = some (.slice A4 n4 c4) := ⟨block_cell X5.out 1, block_cell E5.out 0, block_cell E5.out 1, (HC.out _ HG5.out).2.2.1, (HC.out _ HG5.out).2.2.2⟩; have rc0 := block_cell R5.out 0; have rc1 := block_cell R5.out 1; have fr0 := block_free R5.out 0; have fr1 := block_free R5.out 1; have lr5 := lt_of_block R5.out; have HG6 : Hid (w.grownBy ((w5.setCell ⟨w.heap.size + 1, 0, none⟩ (.string x5)).setCell ⟨w.heap.size + 1, 1, none⟩ (.slice B5 m5 c5)) (some r)) := grow_set (grow_set HG5.out (Nat.le_succ _)) (Nat.le_succ _); have X6 := Lib.hid ((set2_block w5 (.string x5) (.slice B5 m5 c5) (show w.heap.size ≠ w.heap.size + 1 by omega)).trans X5.out); have E6 := Lib.hid ((set2_block w5 (.string x5) (.slice B5 m5 c5) (show w3.heap.size ≠ w.heap.size + 1 by omega)).trans E5.out); have s6 : ((w5.setCell ⟨w.heap.size + 1, 0, none⟩ (.string x5)).setCell ⟨w.heap.size + 1, 1, none⟩ (.slice B5 m5 c5)).cell? ⟨w.heap.size, 1, none⟩ = some (.slice (some ⟨bl, o, none⟩) 3 c') /\ ((w5.setCell ⟨w.heap.size + 1, 0, none⟩ (.string x5)).setCell ⟨w.heap.size + 1, 1, none⟩ (.slice B5 m5 c5)).cell? ⟨w3.heap.size, 0, none⟩ = some (.string x3) /\ ((w5.setCell ⟨w.heap.size + 1, 0, none⟩ (.string x5)).setCell ⟨w.heap.size + 1, 1, none⟩ (.slice B5 m5 c5)).cell? ⟨w3.heap.size, 1, none⟩ = some (.slice B3 m3 c3) /\ ((w5.setCell ⟨w.heap.size + 1, 0, none⟩ (.string x5)).setCell ⟨w.heap.size + 1, 1, none⟩ (.slice B5 m5 c5)).cell? ⟨bl, o + 4, none⟩ = some (.string (St xb)) /\ ((w5.setCell ⟨w.heap.size + 1, 0, none⟩ (.string x5)).setCell ⟨w.heap.size + 1, 1, none⟩ (.slice B5 m5 c5)).cell? ⟨bl, o + 5, none⟩ = some (.slice A4 n4 c4) := ⟨block_cell X6.out 1, block_cell E6.out 0, block_cell E6.out 1, (HC.out _ HG6.out).2.2.1, (HC.out _ HG6.out).2.2.2⟩; clear hb5 ht5))
 all_goals go_wp2
 all_goals refine bodyPost_ret (v := .agg #[.string x5, .slice B5 m5 c5]) (by simp [results, Tryz.results138, go_sem, rc0, rc1, lr5]) rfl ?_
 all_goals exact ⟨_, _, _, _, _, rfl, wf2 ⟨by simp, by decide⟩ HW3.out HW4.out, by rw [len2]; have := HL3.out; have := HL4.out; omega, HT5.out.move fun k hk ho => by
  have h2 : w.heap.size + 2 <= k := ho
  exact ⟨by show w.heap.size <= k; omega, set2_block w5 _ _ (by omega)⟩, (HRB.out.set RB5.out HG5.out (Nat.le_succ _) _ _).mono (by omega), HG6.out⟩
end Go.Proofs.YtpokompplapkhaaGreatDoor
namespace Go.Proofs.YtpokompplapkhaaGreatDoor
set_option maxHeartbeats 8000000
set_option maxRecDepth 100000
open Go.RowKit
set_option linter.unusedVariables false
set_option linter.unusedSimpArgs false
theorem fill_sum (a b : NT) (hok : (NT.sum a b).ok3) (hat : (NT.sum a b).atoms <= 400) (d : Int) (hd0 : -100000 <= d) (hd1 : d <= 100000) (k M : Nat) (iha : Fil a (d - 1) k M) (ihb : Fil b (d - 1) k M) : Fil (.sum a b) d (k + 1) (M + 4) := by
 intro r B n c K w v hrb hk hp
 have hp : TAt w (fun _ => True) (.mk [] [.mk [43] [], a.toTr, b.toTr]) v := hp
 obtain ⟨bl, o, c', rfl, A2, n2, cc2, A4, n4, c4, HC0, HH0⟩ := three_keeps hp
 have HH : Hid (∀ w1, Below w.heap.size w w1 -> Calls Tryz.prog 125 #[.agg #[.string (St []), .slice (some ⟨bl, o, none⟩) 3 c']] w1 fun e w' => e = .returned (.string (St [43])) /\ Below w1.heap.size w1 w') := fun w1 hb => HH0.out w1 (.up hb)
 have HC : Hid (∀ w1, w.grownBy w1 (some r) -> w1.cell? ⟨bl, o + 2, none⟩ = some (.string (St a.toTr.atom)) /\ w1.cell? ⟨bl, o + 3, none⟩ = some (.slice A2 n2 cc2) /\ w1.cell? ⟨bl, o + 4, none⟩ = some (.string (St b.toTr.atom)) /\ w1.cell? ⟨bl, o + 5, none⟩ = some (.slice A4 n4 c4)) := fun w1 hg => by
  obtain ⟨h1, h2, h3, h4, _⟩ := HC0.out w1 (hrb.keeps hg)
  exact ⟨h1, h2, h3, h4⟩
 have HCT : Hid (∀ w1, w.grownBy w1 (some r) -> TAt w1 (fun _ => True) a.toTr (.agg #[.string (St a.toTr.atom), .slice A2 n2 cc2]) /\ TAt w1 (fun _ => True) b.toTr (.agg #[.string (St b.toTr.atom), .slice A4 n4 c4])) := fun w1 hg => ⟨(HC0.out w1 (hrb.keeps hg)).2.2.2.2.1.out, (HC0.out w1 (hrb.keeps hg)).2.2.2.2.2.out⟩
 have HRB := Lib.hid hrb
 have hlt := hrb.lt
 have hwr : IntKind.i64.wrap (d - 1) = d - 1 := by rw [IntKind.wrap_i64]; omega
 have IHA := Lib.hid iha
 have IHB := Lib.hid ihb
 clear hp hrb HC0 HH0 iha ihb
 simp only [NT.atoms] at hat
 have HE1' : Hid (∀ w1, w.grownBy w1 (some r) -> ∀ A c, Calls Tryz.prog 149 #[.agg #[.string (St a.toTr.atom), .slice A2 n2 cc2], .slice A 0 c] w1 fun e w' => e = .returned (.bool (a.empS [])) /\ Below w1.heap.size w1 w') := fun w1 hg A c => l1Empty_any a (ok3_ok' hok.1) _ w1 A c [] (HCT.out w1 hg).1 (.inl rfl) (by simp; omega)
 have HE2' : Hid (∀ w1, w.grownBy w1 (some r) -> ∀ A c, Calls Tryz.prog 149 #[.agg #[.string (St b.toTr.atom), .slice A4 n4 c4], .slice A 0 c] w1 fun e w' => e = .returned (.bool (b.empS [])) /\ Below w1.heap.size w1 w') := fun w1 hg A c => l1Empty_any b (ok3_ok' hok.2) _ w1 A c [] (HCT.out w1 hg).2 (.inl rfl) (by simp; omega)
 have HA1' : Hid (∀ w1, w.grownBy w1 (some r) -> Calls Tryz.prog 156 #[.agg #[.string (St a.toTr.atom), .slice A2 n2 cc2]] w1 fun e w' => e = .returned (.int .i64 a.atoms) /\ Below w1.heap.size w1 w') := fun w1 hg => l1Atoms_any3 a hok.1 (by omega) _ w1 (HCT.out w1 hg).1
 have HA2' : Hid (∀ w1, w.grownBy w1 (some r) -> Calls Tryz.prog 156 #[.agg #[.string (St b.toTr.atom), .slice A4 n4 c4]] w1 fun e w' => e = .returned (.int .i64 b.atoms) /\ Below w1.heap.size w1 w') := fun w1 hg => l1Atoms_any3 b hok.2 (by omega) _ w1 (HCT.out w1 hg).2
 have HPK : Hid (∀ w1, RB w1 r B n c K -> Calls Tryz.prog 79 #[.pointer (some ⟨r, 0, none⟩), .int .i64 2] w1 fun e w' => ∃ x : Int, 0 <= x /\ x < 2 /\ e = .returned (.int .i64 x) /\ RB w' r B n c (K + 1) /\ w1.grownBy w' (some r)) := fun w1 h => pick_rb r B n c K 2 w1 h (by omega) (by omega) (by omega)
 obtain ⟨xa, hxa⟩ : ∃ xa, xa = a.toTr.atom := ⟨_, rfl⟩
 obtain ⟨xb, hxb⟩ : ∃ xb, xb = b.toTr.atom := ⟨_, rfl⟩
 rw [<- hxa, <- hxb] at HC HCT
 rw [<- hxa] at HE1' HA1'
 rw [<- hxb] at HE2' HA2'
 clear hxa hxb
 have HX2 : Hid (((w.alloc (.cells #[.string (St []), .slice (some ⟨bl, o, none⟩) 3 c'] 59)).alloc (.cells #[.string (St []), .slice none 0 0] 59)).heap[w.heap.size]? = some (.cells #[.string (St []), .slice (some ⟨bl, o, none⟩) 3 c'] 59 (0, 0))) := old2 w _ _
 have HR2 : Hid (((w.alloc (.cells #[.string (St []), .slice (some ⟨bl, o, none⟩) 3 c'] 59)).alloc (.cells #[.string (St []), .slice none 0 0] 59)).heap[w.heap.size + 1]? = some (.cells #[.string (St []), .slice none 0 0] 59 (0, 0))) := new2 w _ _
 generalize a.empS [] = e1 at *
 generalize b.empS [] = e2 at *
 clear hok hat
 generalize a.atoms = na at *
 generalize b.atoms = nb at *
 go_enter Tryz.func138, Tryz.ntmps138
 go_upto_region 4 with (first
  | (go_at_call 125; (refine (HH.out _ (up_alloc (up1 w _) _)).mono ?_); rintro e w1 ⟨rfl, hb1⟩; have HB1 := Lib.hid (up_trans (up_alloc (up1 w _) _) hb1); have X1 := Lib.hid (block_up hb1 HX2.out); have R1 := Lib.hid (block_up hb1 HR2.out); have x1c := block_cell X1.out 1; obtain ⟨p1, p2, p3, p4⟩ := HC.out w1 (below_grow HB1.out); clear hb1)
  | (go_at_call 79; (refine (HPK.out _ (HRB.out.up HB1.out)).mono ?_); rintro e w2 ⟨z, hz0, hz1, rfl, hr2, hg2⟩; have RB2 := Lib.hid hr2; have HG2 : Hid (w.grownBy w2 (some r)) := grow_grow (below_grow HB1.out) hg2 (.inl rfl); have R2 := Lib.hid ((hg2.block _ (lt_of_block R1.out) (by simp <;> omega)).trans R1.out); have X2 := Lib.hid ((hg2.block _ (lt_of_block X1.out) (by simp <;> omega)).trans X1.out); clear hr2 hg2))
 have s2 : w2.cell? ⟨w.heap.size, 1, none⟩ = some (.slice (some ⟨bl, o, none⟩) 3 c') /\ w2.cell? ⟨bl, o + 2, none⟩ = some (.string (St xa)) /\ w2.cell? ⟨bl, o + 3, none⟩ = some (.slice A2 n2 cc2) /\ w2.cell? ⟨bl, o + 4, none⟩ = some (.string (St xb)) /\ w2.cell? ⟨bl, o + 5, none⟩ = some (.slice A4 n4 c4) := ⟨block_cell X2.out 1, HC.out w2 HG2.out⟩
 have HE1 : Hid (∀ w1, Below w2.heap.size w2 w1 -> ∀ A c, Calls Tryz.prog 149 #[.agg #[.string (St xa), .slice A2 n2 cc2], .slice A 0 c] w1 fun e w' => e = .returned (.bool e1) /\ Below w1.heap.size w1 w') := fun w1 hb => HE1'.out w1 (grow_up2 HG2.out hb)
 have HE2 : Hid (∀ w1, Below w2.heap.size w2 w1 -> ∀ A c, Calls Tryz.prog 149 #[.agg #[.string (St xb), .slice A4 n4 c4], .slice A 0 c] w1 fun e w' => e = .returned (.bool e2) /\ Below w1.heap.size w1 w') := fun w1 hb => HE2'.out w1 (grow_up2 HG2.out hb)
 have HA1 : Hid (∀ w1, Below w2.heap.size w2 w1 -> Calls Tryz.prog 156 #[.agg #[.string (St xa), .slice A2 n2 cc2]] w1 fun e w' => e = .returned (.int .i64 na) /\ Below w1.heap.size w1 w') := fun w1 hb => HA1'.out w1 (grow_up2 HG2.out hb)
 have HA2 : Hid (∀ w1, Below w2.heap.size w2 w1 -> Calls Tryz.prog 156 #[.agg #[.string (St xb), .slice A4 n4 c4]] w1 fun e w' => e = .returned (.int .i64 nb) /\ Below w1.heap.size w1 w') := fun w1 hb => HA2'.out w1 (grow_up2 HG2.out hb)
 clear HE1' HE2' HA1' HA2' HH HPK HX2 HR2 X1 R1 HB1 x1c p1 p2 p3 p4
 go_cut [48] from 17 to 48 (fun s48 wx => ∃ cc, s48 = .bool cc /\ Hid (Below w2.heap.size w2 wx))
 case first =>
  cases e1 with
  | true =>
   refine wp_region_noPanic ?_
   refine wp_region_held_drew (S := (fun w' => w'.cell? ⟨w.heap.size, 1, none⟩ = some (.slice (some ⟨bl, o, none⟩) 3 c') /\ w'.cell? ⟨bl, o + 2, none⟩ = some (.string (St xa)) /\ w'.cell? ⟨bl, o + 3, none⟩ = some (.slice A2 n2 cc2) /\ w'.cell? ⟨bl, o + 4, none⟩ = some (.string (St xb)) /\ w'.cell? ⟨bl, o + 5, none⟩ = some (.slice A4 n4 c4))) (by kernel_rfl) (by exact s2) (fun hHeld => ?_)
   refine tq 0 rfl ?_
   refine tq 1 rfl ?_
   refine tq 2 rfl ?_
   refine tq 3 rfl ?_
   refine tz 4 rfl fun K hK => ?_
   go_simp
   refine hK.out _ _ (by exact ⟨cell_up (up_alloc (Below.refl _ _) _) s2.1, cell_up (up_alloc (Below.refl _ _) _) s2.2.1, cell_up (up_alloc (Below.refl _ _) _) s2.2.2.1, cell_up (up_alloc (Below.refl _ _) _) s2.2.2.2.1, cell_up (up_alloc (Below.refl _ _) _) s2.2.2.2.2⟩) (fun hHeld => ?_)
   clear hK
   try simp only [Act.put, zA, zB, zC, zD, zE, zF]
   refine tz 5 rfl fun K hK => ?_
   go_simp
   go_at_call 149
   refine (HE1.out _ (by repeat (first | exact Below.refl _ _ | refine up_drew ?_ | refine up_alloc ?_ _)) _ _).mono ?_
   rintro e w3 ⟨rfl, hb3⟩
   have HB3 : Hid (Below w2.heap.size w2 w3) := up_trans (by repeat (first | exact Below.refl _ _ | refine up_drew ?_ | refine up_alloc ?_ _)) hb3
   clear hb3
   refine hK.out _ _ (by exact ⟨cell_up HB3.out s2.1, cell_up HB3.out s2.2.1, cell_up HB3.out s2.2.2.1, cell_up HB3.out s2.2.2.2.1, cell_up HB3.out s2.2.2.2.2⟩) (fun hHeld => ?_)
   clear hK
   try simp only [Act.put, zA, zB, zC, zD, zE, zF]
   refine tq 6 rfl ?_
   refine tn 7 rfl ?_
   try simp only [Act.put, zA, zB, zC, zD, zE, zF]
   refine tn 8 rfl ?_
   try simp only [Act.put, zA, zB, zC, zD, zE, zF]
   refine tn 9 rfl ?_
   try simp only [Act.put, zA, zB, zC, zD, zE, zF]
   refine tn 10 rfl ?_
   try simp only [Act.put, zA, zB, zC, zD, zE, zF]
   refine tn 11 rfl ?_
   try simp only [Act.put, zA, zB, zC, zD, zE, zF]
   refine tn 12 rfl ?_
   try simp only [Act.put, zA, zB, zC, zD, zE, zF]
   refine tn 13 rfl ?_
   try simp only [Act.put, zA, zB, zC, zD, zE, zF]
   refine tn 15 rfl ?_
   try simp only [Act.put, zA, zB, zC, zD, zE, zF]
   refine tn 16 rfl ?_
   try simp only [Act.put, zA, zB, zC, zD, zE, zF]
   refine tn 17 rfl ?_
   try simp only [Act.put, zA, zB, zC, zD, zE, zF]
   refine tn 18 rfl ?_
   try simp only [Act.put, zA, zB, zC, zD, zE, zF]
   refine tn 14 rfl ?_
   try simp only [Act.put, zA, zB, zC, zD, zE, zF]
   refine tn 19 rfl ?_
   try simp only [Act.put, zA, zB, zC, zD, zE, zF]
   refine tn 20 rfl ?_
   try simp only [Act.put, zA, zB, zC, zD, zE, zF]
   refine tn 21 rfl ?_
   try simp only [Act.put, zA, zB, zC, zD, zE, zF]
   refine tn 22 rfl ?_
   try simp only [Act.put, zA, zB, zC, zD, zE, zF]
   refine tn 23 rfl ?_
   try simp only [Act.put, zA, zB, zC, zD, zE, zF]
   refine tn 24 rfl ?_
   try simp only [Act.put, zA, zB, zC, zD, zE, zF]
   refine tn 25 rfl ?_
   try simp only [Act.put, zA, zB, zC, zD, zE, zF]
   refine tn 26 rfl ?_
   try simp only [Act.put, zA, zB, zC, zD, zE, zF]
   refine tn 27 rfl ?_
   try simp only [Act.put, zA, zB, zC, zD, zE, zF]
   refine tn 28 rfl ?_
   try simp only [Act.put, zA, zB, zC, zD, zE, zF]
   refine tn 29 rfl ?_
   try simp only [Act.put, zA, zB, zC, zD, zE, zF]
   refine tn 30 rfl ?_
   try simp only [Act.put, zA, zB, zC, zD, zE, zF]
   refine tq 31 rfl ?_
   refine wpAnyH_done (by kernel_rfl) ?_ _
   refine NoPanic.normal ?_
   go_wp2_with fail
   go_meet
   exact ⟨_, rfl, HB3⟩
  | false =>
   cases q1 : decide (d <= 0) with
   | false =>
    refine wp_region_noPanic ?_
    refine wp_region_held_drew (S := (fun w' => w'.cell? ⟨w.heap.size, 1, none⟩ = some (.slice (some ⟨bl, o, none⟩) 3 c') /\ w'.cell? ⟨bl, o + 2, none⟩ = some (.string (St xa)) /\ w'.cell? ⟨bl, o + 3, none⟩ = some (.slice A2 n2 cc2) /\ w'.cell? ⟨bl, o + 4, none⟩ = some (.string (St xb)) /\ w'.cell? ⟨bl, o + 5, none⟩ = some (.slice A4 n4 c4))) (by kernel_rfl) (by exact s2) (fun hHeld => ?_)
    refine tq 0 rfl ?_
    refine tq 1 rfl ?_
    refine tq 2 rfl ?_
    refine tq 3 rfl ?_
    refine tz 4 rfl fun K hK => ?_
    go_simp
    refine hK.out _ _ (by exact ⟨cell_up (up_alloc (Below.refl _ _) _) s2.1, cell_up (up_alloc (Below.refl _ _) _) s2.2.1, cell_up (up_alloc (Below.refl _ _) _) s2.2.2.1, cell_up (up_alloc (Below.refl _ _) _) s2.2.2.2.1, cell_up (up_alloc (Below.refl _ _) _) s2.2.2.2.2⟩) (fun hHeld => ?_)
    clear hK
    try simp only [Act.put, zA, zB, zC, zD, zE, zF]
    refine tz 5 rfl fun K hK => ?_
    go_simp
    go_at_call 149
    refine (HE1.out _ (by repeat (first | exact Below.refl _ _ | refine up_drew ?_ | refine up_alloc ?_ _)) _ _).mono ?_
    rintro e w3 ⟨rfl, hb3⟩
    have HB3 : Hid (Below w2.heap.size w2 w3) := up_trans (by repeat (first | exact Below.refl _ _ | refine up_drew ?_ | refine up_alloc ?_ _)) hb3
    clear hb3
    refine hK.out _ _ (by exact ⟨cell_up HB3.out s2.1, cell_up HB3.out s2.2.1, cell_up HB3.out s2.2.2.1, cell_up HB3.out s2.2.2.2.1, cell_up HB3.out s2.2.2.2.2⟩) (fun hHeld => ?_)
    clear hK
    try simp only [Act.put, zA, zB, zC, zD, zE, zF]
    refine tq 6 rfl ?_
    refine tq 7 rfl ?_
    refine tq 8 rfl ?_
    refine tq 9 rfl ?_
    refine tn 10 rfl ?_
    try simp only [Act.put, zA, zB, zC, zD, zE, zF]
    refine tn 11 rfl ?_
    try simp only [Act.put, zA, zB, zC, zD, zE, zF]
    refine tn 12 rfl ?_
    try simp only [Act.put, zA, zB, zC, zD, zE, zF]
    refine tn 13 rfl ?_
    try simp only [Act.put, zA, zB, zC, zD, zE, zF]
    refine tn 15 rfl ?_
    try simp only [Act.put, zA, zB, zC, zD, zE, zF]
    refine tn 16 rfl ?_
    try simp only [Act.put, zA, zB, zC, zD, zE, zF]
    refine tn 17 rfl ?_
    try simp only [Act.put, zA, zB, zC, zD, zE, zF]
    refine tn 18 rfl ?_
    try simp only [Act.put, zA, zB, zC, zD, zE, zF]
    refine tn 14 rfl ?_
    try simp only [Act.put, zA, zB, zC, zD, zE, zF]
    refine tn 19 rfl ?_
    try simp only [Act.put, zA, zB, zC, zD, zE, zF]
    refine tn 20 rfl ?_
    try simp only [Act.put, zA, zB, zC, zD, zE, zF]
    refine tq 21 rfl ?_
    refine tq 22 rfl ?_
    refine tn 23 rfl ?_
    try simp only [Act.put, zA, zB, zC, zD, zE, zF]
    refine tn 24 rfl ?_
    try simp only [Act.put, zA, zB, zC, zD, zE, zF]
    refine tn 25 rfl ?_
    try simp only [Act.put, zA, zB, zC, zD, zE, zF]
    refine tn 26 rfl ?_
    try simp only [Act.put, zA, zB, zC, zD, zE, zF]
    refine tn 27 rfl ?_
    try simp only [Act.put, zA, zB, zC, zD, zE, zF]
    refine tn 28 rfl ?_
    try simp only [Act.put, zA, zB, zC, zD, zE, zF]
    refine tn 29 rfl ?_
    try simp only [Act.put, zA, zB, zC, zD, zE, zF]
    refine tq 30 rfl ?_
    refine tq 31 rfl ?_
    refine wpAnyH_done (by kernel_rfl) ?_ _
    refine NoPanic.normal ?_
    go_wp2_with fail
    go_meet
    exact ⟨_, rfl, HB3⟩
   | true =>
    have hd4 : d <= 0 := of_decide_eq_true q1
    cases q2 : decide ((na : Int) > nb) with
    | false =>
     have q3 : decide ((nb : Int) < na) = false := q2
     have q4 : decide (nb < na) = false := decide_eq_false (by have := of_decide_eq_false q2; omega)
     refine wp_region_noPanic ?_
     refine wp_region_held_drew (S := (fun w' => w'.cell? ⟨w.heap.size, 1, none⟩ = some (.slice (some ⟨bl, o, none⟩) 3 c') /\ w'.cell? ⟨bl, o + 2, none⟩ = some (.string (St xa)) /\ w'.cell? ⟨bl, o + 3, none⟩ = some (.slice A2 n2 cc2) /\ w'.cell? ⟨bl, o + 4, none⟩ = some (.string (St xb)) /\ w'.cell? ⟨bl, o + 5, none⟩ = some (.slice A4 n4 c4))) (by kernel_rfl) (by exact s2) (fun hHeld => ?_)
     refine tq 0 rfl ?_
     refine tq 1 rfl ?_
     refine tq 2 rfl ?_
     refine tq 3 rfl ?_
     refine tz 4 rfl fun K hK => ?_
     go_simp
     refine hK.out _ _ (by exact ⟨cell_up (up_alloc (Below.refl _ _) _) s2.1, cell_up (up_alloc (Below.refl _ _) _) s2.2.1, cell_up (up_alloc (Below.refl _ _) _) s2.2.2.1, cell_up (up_alloc (Below.refl _ _) _) s2.2.2.2.1, cell_up (up_alloc (Below.refl _ _) _) s2.2.2.2.2⟩) (fun hHeld => ?_)
     clear hK
     try simp only [Act.put, zA, zB, zC, zD, zE, zF]
     refine tz 5 rfl fun K hK => ?_
     go_simp
     go_at_call 149
     refine (HE1.out _ (by repeat (first | exact Below.refl _ _ | refine up_drew ?_ | refine up_alloc ?_ _)) _ _).mono ?_
     rintro e w3 ⟨rfl, hb3⟩
     have HB3 : Hid (Below w2.heap.size w2 w3) := up_trans (by repeat (first | exact Below.refl _ _ | refine up_drew ?_ | refine up_alloc ?_ _)) hb3
     clear hb3
     refine hK.out _ _ (by exact ⟨cell_up HB3.out s2.1, cell_up HB3.out s2.2.1, cell_up HB3.out s2.2.2.1, cell_up HB3.out s2.2.2.2.1, cell_up HB3.out s2.2.2.2.2⟩) (fun hHeld => ?_)
     clear hK
     try simp only [Act.put, zA, zB, zC, zD, zE, zF]
     refine tq 6 rfl ?_
     refine tq 7 rfl ?_
     refine tq 8 rfl ?_
     refine tq 9 rfl ?_
     refine tq 10 rfl ?_
     refine tq 11 rfl ?_
     refine tq 12 rfl ?_
     refine tq 13 rfl ?_
     refine tq 15 rfl ?_
     refine tq 16 rfl ?_
     refine tq 17 rfl ?_
     refine tq 18 rfl ?_
     refine tz 14 rfl fun K hK => ?_
     go_simp
     go_at_call 156
     refine (HA1.out _ (by repeat (first | exact HB3.out | refine up_drew ?_ | refine up_alloc ?_ _))).mono ?_
     rintro e w4 ⟨rfl, hb4⟩
     have HB4 : Hid (Below w2.heap.size w2 w4) := up_trans (by repeat (first | exact HB3.out | refine up_drew ?_ | refine up_alloc ?_ _)) hb4
     clear hb4
     refine hK.out _ _ (by exact ⟨cell_up HB4.out s2.1, cell_up HB4.out s2.2.1, cell_up HB4.out s2.2.2.1, cell_up HB4.out s2.2.2.2.1, cell_up HB4.out s2.2.2.2.2⟩) (fun hHeld => ?_)
     clear hK
     try simp only [Act.put, zA, zB, zC, zD, zE, zF]
     refine tz 19 rfl fun K hK => ?_
     go_simp
     go_at_call 156
     refine (HA2.out _ (by repeat (first | exact HB4.out | refine up_drew ?_ | refine up_alloc ?_ _))).mono ?_
     rintro e w5 ⟨rfl, hb5⟩
     have HB5 : Hid (Below w2.heap.size w2 w5) := up_trans (by repeat (first | exact HB4.out | refine up_drew ?_ | refine up_alloc ?_ _)) hb5
     clear hb5
     refine hK.out _ _ (by exact ⟨cell_up HB5.out s2.1, cell_up HB5.out s2.2.1, cell_up HB5.out s2.2.2.1, cell_up HB5.out s2.2.2.2.1, cell_up HB5.out s2.2.2.2.2⟩) (fun hHeld => ?_)
     clear hK
     try simp only [Act.put, zA, zB, zC, zD, zE, zF]
     refine tq 20 rfl ?_
     refine tq 21 rfl ?_
     refine tq 22 rfl ?_
     refine tn 23 rfl ?_
     try simp only [Act.put, zA, zB, zC, zD, zE, zF]
     refine tn 24 rfl ?_
     try simp only [Act.put, zA, zB, zC, zD, zE, zF]
     refine tn 25 rfl ?_
     try simp only [Act.put, zA, zB, zC, zD, zE, zF]
     refine tn 26 rfl ?_
     try simp only [Act.put, zA, zB, zC, zD, zE, zF]
     refine tn 27 rfl ?_
     try simp only [Act.put, zA, zB, zC, zD, zE, zF]
     refine tn 28 rfl ?_
     try simp only [Act.put, zA, zB, zC, zD, zE, zF]
     refine tn 29 rfl ?_
     try simp only [Act.put, zA, zB, zC, zD, zE, zF]
     refine tq 30 rfl ?_
     refine tq 31 rfl ?_
     refine wpAnyH_done (by kernel_rfl) ?_ _
     refine NoPanic.normal ?_
     go_wp2_with fail
     go_meet
     exact ⟨_, rfl, HB5⟩
    | true =>
     have q3 : decide ((nb : Int) < na) = true := q2
     have q4 : decide (nb < na) = true := decide_eq_true (by have := of_decide_eq_true q2; omega)
     refine wp_region_noPanic ?_
     refine wp_region_held_drew (S := (fun w' => w'.cell? ⟨w.heap.size, 1, none⟩ = some (.slice (some ⟨bl, o, none⟩) 3 c') /\ w'.cell? ⟨bl, o + 2, none⟩ = some (.string (St xa)) /\ w'.cell? ⟨bl, o + 3, none⟩ = some (.slice A2 n2 cc2) /\ w'.cell? ⟨bl, o + 4, none⟩ = some (.string (St xb)) /\ w'.cell? ⟨bl, o + 5, none⟩ = some (.slice A4 n4 c4))) (by kernel_rfl) (by exact s2) (fun hHeld => ?_)
     refine tq 0 rfl ?_
     refine tq 1 rfl ?_
     refine tq 2 rfl ?_
     refine tq 3 rfl ?_
     refine tz 4 rfl fun K hK => ?_
     go_simp
     refine hK.out _ _ (by exact ⟨cell_up (up_alloc (Below.refl _ _) _) s2.1, cell_up (up_alloc (Below.refl _ _) _) s2.2.1, cell_up (up_alloc (Below.refl _ _) _) s2.2.2.1, cell_up (up_alloc (Below.refl _ _) _) s2.2.2.2.1, cell_up (up_alloc (Below.refl _ _) _) s2.2.2.2.2⟩) (fun hHeld => ?_)
     clear hK
     try simp only [Act.put, zA, zB, zC, zD, zE, zF]
     refine tz 5 rfl fun K hK => ?_
     go_simp
     go_at_call 149
     refine (HE1.out _ (by repeat (first | exact Below.refl _ _ | refine up_drew ?_ | refine up_alloc ?_ _)) _ _).mono ?_
     rintro e w3 ⟨rfl, hb3⟩
     have HB3 : Hid (Below w2.heap.size w2 w3) := up_trans (by repeat (first | exact Below.refl _ _ | refine up_drew ?_ | refine up_alloc ?_ _)) hb3
     clear hb3
     refine hK.out _ _ (by exact ⟨cell_up HB3.out s2.1, cell_up HB3.out s2.2.1, cell_up HB3.out s2.2.2.1, cell_up HB3.out s2.2.2.2.1, cell_up HB3.out s2.2.2.2.2⟩) (fun hHeld => ?_)
     clear hK
     try simp only [Act.put, zA, zB, zC, zD, zE, zF]
     refine tq 6 rfl ?_
     refine tq 7 rfl ?_
     refine tq 8 rfl ?_
     refine tq 9 rfl ?_
     refine tq 10 rfl ?_
     refine tq 11 rfl ?_
     refine tq 12 rfl ?_
     refine tq 13 rfl ?_
     refine tq 15 rfl ?_
     refine tq 16 rfl ?_
     refine tq 17 rfl ?_
     refine tq 18 rfl ?_
     refine tz 14 rfl fun K hK => ?_
     go_simp
     go_at_call 156
     refine (HA1.out _ (by repeat (first | exact HB3.out | refine up_drew ?_ | refine up_alloc ?_ _))).mono ?_
     rintro e w4 ⟨rfl, hb4⟩
     have HB4 : Hid (Below w2.heap.size w2 w4) := up_trans (by repeat (first | exact HB3.out | refine up_drew ?_ | refine up_alloc ?_ _)) hb4
     clear hb4
     refine hK.out _ _ (by exact ⟨cell_up HB4.out s2.1, cell_up HB4.out s2.2.1, cell_up HB4.out s2.2.2.1, cell_up HB4.out s2.2.2.2.1, cell_up HB4.out s2.2.2.2.2⟩) (fun hHeld => ?_)
     clear hK
     try simp only [Act.put, zA, zB, zC, zD, zE, zF]
     refine tz 19 rfl fun K hK => ?_
     go_simp
     go_at_call 156
     refine (HA2.out _ (by repeat (first | exact HB4.out | refine up_drew ?_ | refine up_alloc ?_ _))).mono ?_
     rintro e w5 ⟨rfl, hb5⟩
     have HB5 : Hid (Below w2.heap.size w2 w5) := up_trans (by repeat (first | exact HB4.out | refine up_drew ?_ | refine up_alloc ?_ _)) hb5
     clear hb5
     refine hK.out _ _ (by exact ⟨cell_up HB5.out s2.1, cell_up HB5.out s2.2.1, cell_up HB5.out s2.2.2.1, cell_up HB5.out s2.2.2.2.1, cell_up HB5.out s2.2.2.2.2⟩) (fun hHeld => ?_)
     clear hK
     try simp only [Act.put, zA, zB, zC, zD, zE, zF]
     refine tq 20 rfl ?_
     refine tq 21 rfl ?_
     refine tq 22 rfl ?_
     refine tq 23 rfl ?_
     refine tq 24 rfl ?_
     refine tq 25 rfl ?_
     refine tq 26 rfl ?_
     refine tz 27 rfl fun K hK => ?_
     go_simp
     refine hK.out _ _ (by exact ⟨cell_up (up_alloc (HB5.out) _) s2.1, cell_up (up_alloc (HB5.out) _) s2.2.1, cell_up (up_alloc (HB5.out) _) s2.2.2.1, cell_up (up_alloc (HB5.out) _) s2.2.2.2.1, cell_up (up_alloc (HB5.out) _) s2.2.2.2.2⟩) (fun hHeld => ?_)
     clear hK
     try simp only [Act.put, zA, zB, zC, zD, zE, zF]
     refine tz 28 rfl fun K hK => ?_
     go_simp
     go_at_call 149
     refine (HE2.out _ (by repeat (first | exact HB5.out | refine up_drew ?_ | refine up_alloc ?_ _)) _ _).mono ?_
     rintro e w6 ⟨rfl, hb6⟩
     have HB6 : Hid (Below w2.heap.size w2 w6) := up_trans (by repeat (first | exact HB5.out | refine up_drew ?_ | refine up_alloc ?_ _)) hb6
     clear hb6
     refine hK.out _ _ (by exact ⟨cell_up HB6.out s2.1, cell_up HB6.out s2.2.1, cell_up HB6.out s2.2.2.1, cell_up HB6.out s2.2.2.2.1, cell_up HB6.out s2.2.2.2.2⟩) (fun hHeld => ?_)
     clear hK
     try simp only [Act.put, zA, zB, zC, zD, zE, zF]
     refine tq 29 rfl ?_
     refine tq 30 rfl ?_
     refine tq 31 rfl ?_
     refine wpAnyH_done (by kernel_rfl) ?_ _
     refine NoPanic.normal ?_
     go_wp2_with fail
     go_meet
     exact ⟨_, rfl, HB6⟩
 case rest =>
  obtain ⟨cc, rfl, HBX⟩ := hcut
  have HGx : Hid (w.grownBy wc (some r)) := grow_up2 HG2.out HBX.out
  have RBx := Lib.hid (RB2.out.up HBX.out)
  have Rx := Lib.hid (block_up HBX.out R2.out)
  have Xx := Lib.hid (block_up HBX.out X2.out)
  have xx1 := block_cell Xx.out 1
  obtain ⟨p1, p2, p3, p4⟩ := HC.out wc HGx.out
  have HBe : Hid (Below wc.heap.size wc wc) := Below.refl _ _
  have HE3 : Hid (∀ w1, Below wc.heap.size wc w1 -> ∀ A c, Calls Tryz.prog 149 #[.agg #[.string (St xb), .slice A4 n4 c4], .slice A 0 c] w1 fun e w' => e = .returned (.bool e2) /\ Below w1.heap.size w1 w') := fun w1 hb => HE2.out w1 (up_trans HBX.out hb)
  clear HE1 HE2 HA1 HA2 R2 X2 RB2 HG2 HBX s2
  have hz : z = 0 \/ z = 1 := by omega
  clear hz0 hz1
  cases cc with
  | true =>
   go_wp2_with (first
    | (go_at_call 138; (refine (IHB.out r B n c (K + 1) _ _ (RBx.out.up HBe.out) (by omega) (HCT.out _ (grow_up2 HGx.out HBe.out)).2).mono ?_); rintro e w3 ⟨tr, x3, B3, m3, c3, rfl, hw3, hl3, ht3, hr3, hg3⟩; have HG3 : Hid (w.grownBy w3 (some r)) := grow_grow (grow_up2 HGx.out HBe.out) (up_grow (by repeat (first | exact Below.refl _ _ | refine up_drew ?_ | refine up_alloc ?_ _)) hg3) (.inl rfl); have RB3 := Lib.hid hr3; have R3 := Lib.hid ((hg3.block _ (lt_of_block (block_up HBe.out Rx.out)) (by simp <;> omega)).trans (block_up HBe.out Rx.out)); have HT3 : Hid (TAt w3 (fun k => w.heap.size + 2 <= k) tr (.agg #[.string x3, .slice B3 m3 c3])) := ht3.weak (fun k hk => by (have hk2 := hk); have := lt_of_block (block_up HBe.out Rx.out); simp at hk2 this ⊢ <;> omega); have HS3 : Hid (w.heap.size + 2 <= w3.heap.size) := lt_of_block R3.out; have HW := Lib.hid hw3; have HL := Lib.hid hl3; clear hg3 hr3 ht3 hw3 hl3)
    | (go_at_call 71; (refine (list1T [114] tr _ _ x3 B3 m3 c3 (fun k => w.heap.size + 2 <= k) (fun k hk => by (have hk2 := hk); have := HS3.out; simp at hk2 ⊢ <;> omega) (by first | exact block_new _ _ | exact new2 _ _ _ | exact old2 _ _ _) (HT3.out.up (by repeat (first | exact Below.refl _ _ | refine up_drew ?_ | refine up_alloc ?_ _)))).mono ?_); rintro e w4 ⟨⟨x4, B4, m4, c4', rfl, ht4⟩, hb4⟩; have hb4 : Below w3.heap.size w3 w4 := up_trans (by repeat (first | exact Below.refl _ _ | refine up_drew ?_ | refine up_alloc ?_ _)) hb4; have HG4 := Lib.hid (grow_up2 HG3.out hb4); have RB4 := Lib.hid (RB3.out.up hb4); have R4 := Lib.hid (block_up hb4 R3.out); have rd0 := block_cell R4.out 0; have rd1 := block_cell R4.out 1; have fs0 := block_free R4.out 0; have fs1 := block_free R4.out 1; have lr4 := lt_of_block R4.out; have HT4 := Lib.hid ht4; clear hb4 ht4))
   all_goals refine bodyPost_ret (v := .agg #[.string x4, .slice B4 m4 c4']) (by simp [results, Tryz.results138, go_sem, rd0, rd1, lr4]) rfl ?_
   all_goals exact ⟨_, _, _, _, _, rfl, wf1 ⟨by simp, by decide⟩ HW.out, by rw [len1]; have := HL.out; omega, HT4.out.move fun k hk ho => by
    have h2 : w.heap.size + 2 <= k := ho
    exact ⟨by show w.heap.size <= k; omega, set2_block w4 _ _ (by omega)⟩, (HRB.out.set RB4.out HG4.out (Nat.le_succ _) _ _).mono (by omega), grow_set (grow_set HG4.out (Nat.le_succ _)) (Nat.le_succ _)⟩
  | false =>
   cases e2 with
   | true =>
    go_wp2_with (first
     | (go_at_call 149; (refine (HE3.out _ (by repeat (first | exact Below.refl _ _ | refine up_drew ?_ | refine up_alloc ?_ _)) _ _).mono ?_); rintro e w5 ⟨rfl, hb5⟩; have HBe : Hid (Below wc.heap.size wc w5) := up_trans (by repeat (first | exact Below.refl _ _ | refine up_drew ?_ | refine up_alloc ?_ _)) hb5; have xx1 := block_cell (block_up HBe.out Xx.out) 1; obtain ⟨p1, p2, p3, p4⟩ := HC.out w5 (grow_up2 HGx.out HBe.out); clear hb5)
     | (go_at_call 138; (refine (IHA.out r B n c (K + 1) _ _ (RBx.out.up HBe.out) (by omega) (HCT.out _ (grow_up2 HGx.out HBe.out)).1).mono ?_); rintro e w3 ⟨tr, x3, B3, m3, c3, rfl, hw3, hl3, ht3, hr3, hg3⟩; have HG3 : Hid (w.grownBy w3 (some r)) := grow_grow (grow_up2 HGx.out HBe.out) (up_grow (by repeat (first | exact Below.refl _ _ | refine up_drew ?_ | refine up_alloc ?_ _)) hg3) (.inl rfl); have RB3 := Lib.hid hr3; have R3 := Lib.hid ((hg3.block _ (lt_of_block (block_up HBe.out Rx.out)) (by simp <;> omega)).trans (block_up HBe.out Rx.out)); have HT3 : Hid (TAt w3 (fun k => w.heap.size + 2 <= k) tr (.agg #[.string x3, .slice B3 m3 c3])) := ht3.weak (fun k hk => by (have hk2 := hk); have := lt_of_block (block_up HBe.out Rx.out); simp at hk2 this ⊢ <;> omega); have HS3 : Hid (w.heap.size + 2 <= w3.heap.size) := lt_of_block R3.out; have HW := Lib.hid hw3; have HL := Lib.hid hl3; clear hg3 hr3 ht3 hw3 hl3)
     | (go_at_call 71; (refine (list1T [108] tr _ _ x3 B3 m3 c3 (fun k => w.heap.size + 2 <= k) (fun k hk => by (have hk2 := hk); have := HS3.out; simp at hk2 ⊢ <;> omega) (by first | exact block_new _ _ | exact new2 _ _ _ | exact old2 _ _ _) (HT3.out.up (by repeat (first | exact Below.refl _ _ | refine up_drew ?_ | refine up_alloc ?_ _)))).mono ?_); rintro e w4 ⟨⟨x4, B4, m4, c4', rfl, ht4⟩, hb4⟩; have hb4 : Below w3.heap.size w3 w4 := up_trans (by repeat (first | exact Below.refl _ _ | refine up_drew ?_ | refine up_alloc ?_ _)) hb4; have HG4 := Lib.hid (grow_up2 HG3.out hb4); have RB4 := Lib.hid (RB3.out.up hb4); have R4 := Lib.hid (block_up hb4 R3.out); have rd0 := block_cell R4.out 0; have rd1 := block_cell R4.out 1; have fs0 := block_free R4.out 0; have fs1 := block_free R4.out 1; have lr4 := lt_of_block R4.out; have HT4 := Lib.hid ht4; clear hb4 ht4))
    all_goals refine bodyPost_ret (v := .agg #[.string x4, .slice B4 m4 c4']) (by simp [results, Tryz.results138, go_sem, rd0, rd1, lr4]) rfl ?_
    all_goals exact ⟨_, _, _, _, _, rfl, wf1 ⟨by simp, by decide⟩ HW.out, by rw [len1]; have := HL.out; omega, HT4.out.move fun k hk ho => by
     have h2 : w.heap.size + 2 <= k := ho
     exact ⟨by show w.heap.size <= k; omega, set2_block w4 _ _ (by omega)⟩, (HRB.out.set RB4.out HG4.out (Nat.le_succ _) _ _).mono (by omega), grow_set (grow_set HG4.out (Nat.le_succ _)) (Nat.le_succ _)⟩
   | false =>
    cases q1 : decide (d <= 0) with
    | true =>
     go_wp2_with (first
      | (go_at_call 149; (refine (HE3.out _ (by repeat (first | exact Below.refl _ _ | refine up_drew ?_ | refine up_alloc ?_ _)) _ _).mono ?_); rintro e w5 ⟨rfl, hb5⟩; have HBe : Hid (Below wc.heap.size wc w5) := up_trans (by repeat (first | exact Below.refl _ _ | refine up_drew ?_ | refine up_alloc ?_ _)) hb5; have xx1 := block_cell (block_up HBe.out Xx.out) 1; obtain ⟨p1, p2, p3, p4⟩ := HC.out w5 (grow_up2 HGx.out HBe.out); clear hb5)
      | (go_at_call 138; (refine (IHA.out r B n c (K + 1) _ _ (RBx.out.up HBe.out) (by omega) (HCT.out _ (grow_up2 HGx.out HBe.out)).1).mono ?_); rintro e w3 ⟨tr, x3, B3, m3, c3, rfl, hw3, hl3, ht3, hr3, hg3⟩; have HG3 : Hid (w.grownBy w3 (some r)) := grow_grow (grow_up2 HGx.out HBe.out) (up_grow (by repeat (first | exact Below.refl _ _ | refine up_drew ?_ | refine up_alloc ?_ _)) hg3) (.inl rfl); have RB3 := Lib.hid hr3; have R3 := Lib.hid ((hg3.block _ (lt_of_block (block_up HBe.out Rx.out)) (by simp <;> omega)).trans (block_up HBe.out Rx.out)); have HT3 : Hid (TAt w3 (fun k => w.heap.size + 2 <= k) tr (.agg #[.string x3, .slice B3 m3 c3])) := ht3.weak (fun k hk => by (have hk2 := hk); have := lt_of_block (block_up HBe.out Rx.out); simp at hk2 this ⊢ <;> omega); have HS3 : Hid (w.heap.size + 2 <= w3.heap.size) := lt_of_block R3.out; have HW := Lib.hid hw3; have HL := Lib.hid hl3; clear hg3 hr3 ht3 hw3 hl3)
      | (go_at_call 71; (refine (list1T [108] tr _ _ x3 B3 m3 c3 (fun k => w.heap.size + 2 <= k) (fun k hk => by (have hk2 := hk); have := HS3.out; simp at hk2 ⊢ <;> omega) (by first | exact block_new _ _ | exact new2 _ _ _ | exact old2 _ _ _) (HT3.out.up (by repeat (first | exact Below.refl _ _ | refine up_drew ?_ | refine up_alloc ?_ _)))).mono ?_); rintro e w4 ⟨⟨x4, B4, m4, c4', rfl, ht4⟩, hb4⟩; have hb4 : Below w3.heap.size w3 w4 := up_trans (by repeat (first | exact Below.refl _ _ | refine up_drew ?_ | refine up_alloc ?_ _)) hb4; have HG4 := Lib.hid (grow_up2 HG3.out hb4); have RB4 := Lib.hid (RB3.out.up hb4); have R4 := Lib.hid (block_up hb4 R3.out); have rd0 := block_cell R4.out 0; have rd1 := block_cell R4.out 1; have fs0 := block_free R4.out 0; have fs1 := block_free R4.out 1; have lr4 := lt_of_block R4.out; have HT4 := Lib.hid ht4; clear hb4 ht4))
     all_goals refine bodyPost_ret (v := .agg #[.string x4, .slice B4 m4 c4']) (by simp [results, Tryz.results138, go_sem, rd0, rd1, lr4]) rfl ?_
     all_goals exact ⟨_, _, _, _, _, rfl, wf1 ⟨by simp, by decide⟩ HW.out, by rw [len1]; have := HL.out; omega, HT4.out.move fun k hk ho => by
      have h2 : w.heap.size + 2 <= k := ho
      exact ⟨by show w.heap.size <= k; omega, set2_block w4 _ _ (by omega)⟩, (HRB.out.set RB4.out HG4.out (Nat.le_succ _) _ _).mono (by omega), grow_set (grow_set HG4.out (Nat.le_succ _)) (Nat.le_succ _)⟩
    | false =>
     rcases hz with rfl | rfl
     · go_wp2_with (first
        | (go_at_call 149; (refine (HE3.out _ (by repeat (first | exact Below.refl _ _ | refine up_drew ?_ | refine up_alloc ?_ _)) _ _).mono ?_); rintro e w5 ⟨rfl, hb5⟩; have HBe : Hid (Below wc.heap.size wc w5) := up_trans (by repeat (first | exact Below.refl _ _ | refine up_drew ?_ | refine up_alloc ?_ _)) hb5; have xx1 := block_cell (block_up HBe.out Xx.out) 1; obtain ⟨p1, p2, p3, p4⟩ := HC.out w5 (grow_up2 HGx.out HBe.out); clear hb5)
        | (go_at_call 138; (refine (IHA.out r B n c (K + 1) _ _ (RBx.out.up HBe.out) (by omega) (HCT.out _ (grow_up2 HGx.out HBe.out)).1).mono ?_); rintro e w3 ⟨tr, x3, B3, m3, c3, rfl, hw3, hl3, ht3, hr3, hg3⟩; have HG3 : Hid (w.grownBy w3 (some r)) := grow_grow (grow_up2 HGx.out HBe.out) (up_grow (by repeat (first | exact Below.refl _ _ | refine up_drew ?_ | refine up_alloc ?_ _)) hg3) (.inl rfl); have RB3 := Lib.hid hr3; have R3 := Lib.hid ((hg3.block _ (lt_of_block (block_up HBe.out Rx.out)) (by simp <;> omega)).trans (block_up HBe.out Rx.out)); have HT3 : Hid (TAt w3 (fun k => w.heap.size + 2 <= k) tr (.agg #[.string x3, .slice B3 m3 c3])) := ht3.weak (fun k hk => by (have hk2 := hk); have := lt_of_block (block_up HBe.out Rx.out); simp at hk2 this ⊢ <;> omega); have HS3 : Hid (w.heap.size + 2 <= w3.heap.size) := lt_of_block R3.out; have HW := Lib.hid hw3; have HL := Lib.hid hl3; clear hg3 hr3 ht3 hw3 hl3)
        | (go_at_call 71; (refine (list1T [108] tr _ _ x3 B3 m3 c3 (fun k => w.heap.size + 2 <= k) (fun k hk => by (have hk2 := hk); have := HS3.out; simp at hk2 ⊢ <;> omega) (by first | exact block_new _ _ | exact new2 _ _ _ | exact old2 _ _ _) (HT3.out.up (by repeat (first | exact Below.refl _ _ | refine up_drew ?_ | refine up_alloc ?_ _)))).mono ?_); rintro e w4 ⟨⟨x4, B4, m4, c4', rfl, ht4⟩, hb4⟩; have hb4 : Below w3.heap.size w3 w4 := up_trans (by repeat (first | exact Below.refl _ _ | refine up_drew ?_ | refine up_alloc ?_ _)) hb4; have HG4 := Lib.hid (grow_up2 HG3.out hb4); have RB4 := Lib.hid (RB3.out.up hb4); have R4 := Lib.hid (block_up hb4 R3.out); have rd0 := block_cell R4.out 0; have rd1 := block_cell R4.out 1; have fs0 := block_free R4.out 0; have fs1 := block_free R4.out 1; have lr4 := lt_of_block R4.out; have HT4 := Lib.hid ht4; clear hb4 ht4))
       all_goals refine bodyPost_ret (v := .agg #[.string x4, .slice B4 m4 c4']) (by simp [results, Tryz.results138, go_sem, rd0, rd1, lr4]) rfl ?_
       all_goals exact ⟨_, _, _, _, _, rfl, wf1 ⟨by simp, by decide⟩ HW.out, by rw [len1]; have := HL.out; omega, HT4.out.move fun k hk ho => by
        have h2 : w.heap.size + 2 <= k := ho
        exact ⟨by show w.heap.size <= k; omega, set2_block w4 _ _ (by omega)⟩, (HRB.out.set RB4.out HG4.out (Nat.le_succ _) _ _).mono (by omega), grow_set (grow_set HG4.out (Nat.le_succ _)) (Nat.le_succ _)⟩
     · go_wp2_with (first
        | (go_at_call 149; (refine (HE3.out _ (by repeat (first | exact Below.refl _ _ | refine up_drew ?_ | refine up_alloc ?_ _)) _ _).mono ?_); rintro e w5 ⟨rfl, hb5⟩; have HBe : Hid (Below wc.heap.size wc w5) := up_trans (by repeat (first | exact Below.refl _ _ | refine up_drew ?_ | refine up_alloc ?_ _)) hb5; have xx1 := block_cell (block_up HBe.out Xx.out) 1; obtain ⟨p1, p2, p3, p4⟩ := HC.out w5 (grow_up2 HGx.out HBe.out); clear hb5)
        | (go_at_call 138; (refine (IHB.out r B n c (K + 1) _ _ (RBx.out.up HBe.out) (by omega) (HCT.out _ (grow_up2 HGx.out HBe.out)).2).mono ?_); rintro e w3 ⟨tr, x3, B3, m3, c3, rfl, hw3, hl3, ht3, hr3, hg3⟩; have HG3 : Hid (w.grownBy w3 (some r)) := grow_grow (grow_up2 HGx.out HBe.out) (up_grow (by repeat (first | exact Below.refl _ _ | refine up_drew ?_ | refine up_alloc ?_ _)) hg3) (.inl rfl); have RB3 := Lib.hid hr3; have R3 := Lib.hid ((hg3.block _ (lt_of_block (block_up HBe.out Rx.out)) (by simp <;> omega)).trans (block_up HBe.out Rx.out)); have HT3 : Hid (TAt w3 (fun k => w.heap.size + 2 <= k) tr (.agg #[.string x3, .slice B3 m3 c3])) := ht3.weak (fun k hk => by (have hk2 := hk); have := lt_of_block (block_up HBe.out Rx.out); simp at hk2 this ⊢ <;> omega); have HS3 : Hid (w.heap.size + 2 <= w3.heap.size) := lt_of_block R3.out; have HW := Lib.hid hw3; have HL := Lib.hid hl3; clear hg3 hr3 ht3 hw3 hl3)
        | (go_at_call 71; (refine (list1T [114] tr _ _ x3 B3 m3 c3 (fun k => w.heap.size + 2 <= k) (fun k hk => by (have hk2 := hk); have := HS3.out; simp at hk2 ⊢ <;> omega) (by first | exact block_new _ _ | exact new2 _ _ _ | exact old2 _ _ _) (HT3.out.up (by repeat (first | exact Below.refl _ _ | refine up_drew ?_ | refine up_alloc ?_ _)))).mono ?_); rintro e w4 ⟨⟨x4, B4, m4, c4', rfl, ht4⟩, hb4⟩; have hb4 : Below w3.heap.size w3 w4 := up_trans (by repeat (first | exact Below.refl _ _ | refine up_drew ?_ | refine up_alloc ?_ _)) hb4; have HG4 := Lib.hid (grow_up2 HG3.out hb4); have RB4 := Lib.hid (RB3.out.up hb4); have R4 := Lib.hid (block_up hb4 R3.out); have rd0 := block_cell R4.out 0; have rd1 := block_cell R4.out 1; have fs0 := block_free R4.out 0; have fs1 := block_free R4.out 1; have lr4 := lt_of_block R4.out; have HT4 := Lib.hid ht4; clear hb4 ht4))
       all_goals refine bodyPost_ret (v := .agg #[.string x4, .slice B4 m4 c4']) (by simp [results, Tryz.results138, go_sem, rd0, rd1, lr4]) rfl ?_
       all_goals exact ⟨_, _, _, _, _, rfl, wf1 ⟨by simp, by decide⟩ HW.out, by rw [len1]; have := HL.out; omega, HT4.out.move fun k hk ho => by
        have h2 : w.heap.size + 2 <= k := ho
        exact ⟨by show w.heap.size <= k; omega, set2_block w4 _ _ (by omega)⟩, (HRB.out.set RB4.out HG4.out (Nat.le_succ _) _ _).mono (by omega), grow_set (grow_set HG4.out (Nat.le_succ _)) (Nat.le_succ _)⟩
end Go.Proofs.YtpokompplapkhaaGreatDoor
namespace Go.Proofs.YtpokompplapkhaaGreatDoor
set_option maxHeartbeats 8000000
set_option maxRecDepth 100000
open Go.RowKit
set_option linter.unusedVariables false
set_option linter.unusedSimpArgs false
theorem fill_deep : ∀ (n : NT), n.ok3 -> n.atoms <= 400 -> ∀ d : Int, (n.atoms : Int) - 50000 <= d -> d <= -13 -> Fil n d (2 * n.atoms) (10 * n.atoms)
 | .zero, _, _, d, _, _ => (fill_leaf .zero [48] (by simp) rfl d).mono (by simp [NT.atoms]) (by simp [NT.atoms])
 | .one, _, _, d, _, _ => (fill_leaf .one [49] (by simp) rfl d).mono (by simp [NT.atoms]) (by simp [NT.atoms])
 | .name s, h, _, d, _, _ => (fill_leaf (.name s) s h.1 rfl d).mono (by simp [NT.atoms]) (by simp [NT.atoms])
 | .sum a b, h, ha, d, h1, h2 => by
  have ha' := ha
  simp only [NT.atoms] at ha' h1
  have k1 := fill_deep a h.1 (by omega) (d - 1) (by omega) (by omega)
  have k2 := fill_deep b h.2 (by omega) (d - 1) (by omega) (by omega)
  exact (fill_sum a b h ha d (by omega) (by omega) (2 * a.atoms + 2 * b.atoms) (10 * a.atoms + 10 * b.atoms) (k1.mono (by omega) (by omega)) (k2.mono (by omega) (by omega))).mono (by simp only [NT.atoms]; omega) (by simp only [NT.atoms]; omega)
 | .prod a b, h, ha, d, h1, h2 => by
  have ha' := ha
  simp only [NT.atoms] at ha' h1
  have k1 := fill_deep a h.1 (by omega) (d - 1) (by omega) (by omega)
  have k2 := fill_deep b h.2 (by omega) (d - 1) (by omega) (by omega)
  exact (fill_prod a b d (by omega) (by omega) _ _ _ _ k1 k2).mono (by simp only [NT.atoms]; omega) (by simp only [NT.atoms]; omega)
 | .loop s a, h, ha, d, h1, h2 => by
  simp only [NT.atoms] at h1
  exact (fill_rec s a h ha d (by omega) (by omega) 0 0 (fun hh => by omega)).mono (by omega) (by simp only [NT.atoms]; omega)
def NK : Nat -> Nat
 | 0 => 800
 | m + 1 => 2 * NK m + 1
def NM : Nat -> Nat
 | 0 => 4000
 | m + 1 => 2 * NM m + 5
theorem nk_pos (m : Nat) : 800 <= NK m /\ 4000 <= NM m := by
 induction m with
 | zero => exact ⟨Nat.le_refl _, Nat.le_refl _⟩
 | succ m ih => simp only [NK, NM]; omega
theorem fill_lvl : ∀ (m : Nat), m <= 1000 -> ∀ (n : NT), n.ok3 -> n.atoms <= 400 -> ∀ d : Int, d = (m : Int) - 13 -> Fil n d (NK m) (NM m)
 | 0, _, n, h, ha, d, hd => (fill_deep n h ha d (by omega) (by omega)).mono (by simp only [NK]; omega) (by simp only [NM]; omega)
 | m + 1, hm, .zero, _, _, d, _ => (fill_leaf .zero [48] (by simp) rfl d).mono (by have := nk_pos (m + 1); omega) (by have := nk_pos (m + 1); omega)
 | m + 1, hm, .one, _, _, d, _ => (fill_leaf .one [49] (by simp) rfl d).mono (by have := nk_pos (m + 1); omega) (by have := nk_pos (m + 1); omega)
 | m + 1, hm, .name s, h, _, d, _ => (fill_leaf (.name s) s h.1 rfl d).mono (by have := nk_pos (m + 1); omega) (by have := nk_pos (m + 1); omega)
 | m + 1, hm, .sum a b, h, ha, d, hd => by
  have ha' := ha
  simp only [NT.atoms] at ha'
  have k1 := fill_lvl m (by omega) a h.1 (by omega) (d - 1) (by omega)
  have k2 := fill_lvl m (by omega) b h.2 (by omega) (d - 1) (by omega)
  exact (fill_sum a b h ha d (by omega) (by omega) _ _ k1 k2).mono (by simp only [NK]; omega) (by simp only [NM]; omega)
 | m + 1, hm, .prod a b, h, ha, d, hd => by
  have ha' := ha
  simp only [NT.atoms] at ha'
  have k1 := fill_lvl m (by omega) a h.1 (by omega) (d - 1) (by omega)
  have k2 := fill_lvl m (by omega) b h.2 (by omega) (d - 1) (by omega)
  exact (fill_prod a b d (by omega) (by omega) _ _ _ _ k1 k2).mono (by simp only [NK]; omega) (by simp only [NM]; omega)
 | m + 1, hm, .loop s a, h, ha, d, hd => by
  refine (fill_rec s a h ha d (by omega) (by omega) (NK m) (NM m) fun _ hf => ?_).mono (by simp only [NK]; omega) (by simp only [NM]; omega)
  have ha' := ha
  simp only [NT.atoms] at ha'
  have hfl : (frees [NT.loop s a, .name s]).length <= 500 := by
   rw [frees_two, List.length_append]
   have := names_len (NT.loop s a)
   simp
   omega
  have h3 := subN_ok3 s (.loop s a) a h.2 h (by omega) hfl
  have hdb := subN_db s (.loop s a) a h.2
  rw [fits_put s _ _ h.2, decide_eq_true_eq, <- hdb, NT.db_atoms] at hf
  exact fill_lvl m (by omega) _ h3 hf (d - 1) (by omega)
theorem l91Fill_any (n : NT) (h : n.ok3) (ha : n.atoms <= 400) (d : Int) (h0 : 0 <= d) (h1 : d <= 9) : Fil n d 4000000000 100000000000 := by
 obtain ⟨m, hm⟩ : ∃ m : Nat, d = (m : Int) - 13 := ⟨(d + 13).toNat, by omega⟩
 have hm2 : m <= 22 := by omega
 refine (fill_lvl m (by omega) n h ha d hm).mono ?_ ?_
 · have : ∀ m, m <= 22 -> NK m <= NK 22 := fun m hm => by
    have mono : ∀ j, NK m <= NK (m + j) := fun j => by
     induction j with
     | zero => exact Nat.le_refl _
     | succ j ih => rw [<- Nat.add_assoc]; simp only [NK]; omega
    have := mono (22 - m)
    rw [show m + (22 - m) = 22 by omega] at this
    exact this
   exact Nat.le_trans (this m hm2) (by decide)
 · have : ∀ m, m <= 22 -> NM m <= NM 22 := fun m hm => by
    have mono : ∀ j, NM m <= NM (m + j) := fun j => by
     induction j with
     | zero => exact Nat.le_refl _
     | succ j ih => rw [<- Nat.add_assoc]; simp only [NM]; omega
    have := mono (22 - m)
    rw [show m + (22 - m) = 22 by omega] at this
    exact this
   exact Nat.le_trans (this m hm2) (by decide)
end Go.Proofs.YtpokompplapkhaaGreatDoor

