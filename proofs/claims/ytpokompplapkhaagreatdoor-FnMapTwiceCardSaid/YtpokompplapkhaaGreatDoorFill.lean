/- Values drawn: l91Fill. -/
import Derived.Test.YtpokompplapkhaaGreatDoorMQ
import Derived.Test.YtpokompplapkhaaGreatDoorMG
import Derived.Test.YtpokompplapkhaaGreatDoorMJ
import Derived.Test.YtpokompplapkhaaGreatDoorLsT
namespace Go.Proofs.YtpokompplapkhaaGreatDoor
open Go.RowKit
set_option linter.unusedVariables false
set_option linter.unusedSimpArgs false

/-- What l91Fill gives: a tree of new blocks, its text bounded. -/
def FillPost (w : World) (r : Nat) (B : Option Addr) (n c K M : Nat) (e : Ending) (w' : World) : Prop :=
  ∃ tr x A m cc, e = .returned (.agg #[.string x, .slice A m cc]) ∧ tr.wf ∧ tr.txt.length ≤ M ∧ TAt w' (fun k => w.heap.size ≤ k) tr (.agg #[.string x, .slice A m cc]) ∧ RB w' r B n c K ∧ w.grownBy w' (some r)
def Fil (N : NT) (d : Int) (k M : Nat) : Prop := ∀ (r : Nat) (B : Option Addr) (n c K : Nat) (w : World) (v : Value), RB w r B n c K → K + k ≤ 1000000000000 → TAt w (fun _ => True) N.toTr v → Calls Tryz.prog 138 #[.pointer (some ⟨r, 0, none⟩), v, .int .i64 d] w (FillPost w r B n c (K + k) M)
theorem FillPost.mono {w : World} {r : Nat} {B : Option Addr} {n c K K' M M' : Nat} (hK : K ≤ K') (hM : M ≤ M') {e : Ending} {w' : World} (h : FillPost w r B n c K M e w') : FillPost w r B n c K' M' e w' := by
  obtain ⟨tr, x, A, m, cc, he, hw, hl, ht, hr, hg⟩ := h
  exact ⟨tr, x, A, m, cc, he, hw, by omega, ht, hr.mono hK, hg⟩
theorem Fil.mono {N : NT} {d : Int} {k k' M M' : Nat} (hk : k ≤ k') (hM : M ≤ M') (h : Fil N d k M) : Fil N d k' M' := fun r B n c K w v hr hK hp => (h r B n c K w v hr (by omega) hp).mono fun e w' hh => hh.mono (by omega) hM
theorem RB.keeps {w w1 : World} {r : Nat} {B : Option Addr} {n c K : Nat} (h : RB w r B n c K) (hg : w.grownBy w1 (some r)) : Keeps 59 w w1 := fun k cs fr hb => by
  obtain ⟨p, _, hr, _⟩ := h
  have hne : k ≠ r := by
    rintro rfl
    rw [hr] at hb
    simp at hb
  rw [hg.block k (lt_of_block hb) (by simpa using hne)]
  exact hb
theorem RB.set {w w1 : World} {r : Nat} {B : Option Addr} {n c K0 K : Nat} (h0 : RB w r B n c K0) (h1 : RB w1 r B n c K) (hg : w.grownBy w1 (some r)) {b : Nat} (hb : w.heap.size ≤ b) (v0 v1 : Value) : RB ((w1.setCell ⟨b, 0, none⟩ v0).setCell ⟨b, 1, none⟩ v1) r B n c K := by
  have hlt := h0.lt
  obtain ⟨p, hp, hcell, _, hn⟩ := h1
  obtain ⟨_, _, _, hrow, _⟩ := h0
  exact ⟨p, hp, (set2_block w1 v0 v1 (by omega)).trans hcell, hrow.grown (grow_set (grow_set hg hb) hb), hn⟩
theorem wf1 {h : List UInt8} (hh : h ≠ [] ∧ ∀ b ∈ h, atomB b = true) {t : Tr} (ht : t.wf) : (Tr.mk [] [.mk h [], t]).wf := .inr ⟨rfl, by simp, .inl ⟨hh.1, hh.2, rfl⟩, ht, trivial⟩
theorem wf2 {h : List UInt8} (hh : h ≠ [] ∧ ∀ b ∈ h, atomB b = true) {t u : Tr} (ht : t.wf) (hu : u.wf) : (Tr.mk [] [.mk h [], t, u]).wf := .inr ⟨rfl, by simp, .inl ⟨hh.1, hh.2, rfl⟩, ht, hu, trivial⟩
theorem len1 (b : UInt8) (t : Tr) : (Tr.mk [] [.mk [b] [], t]).txt.length = t.txt.length + 4 := by simp [Tr.txt, Tr.txts]
theorem len2 (b : UInt8) (t u : Tr) : (Tr.mk [] [.mk [b] [], t, u]).txt.length = t.txt.length + u.txt.length + 5 := by simp [Tr.txt, Tr.txts]; omega
/-- An element's text. -/
theorem elem_cat (x : Int) (h0 : 0 ≤ x) (h1 : x < 3) : ∃ l : List UInt8, (⟨#[101]⟩ : ByteArray) ++ St (decL x.toNat) = St l ∧ l.length = 2 ∧ l ≠ [] ∧ (∀ b ∈ l, atomB b = true) ∧ (St (decL x.toNat)).size = 1 := by
  have : x = 0 ∨ x = 1 ∨ x = 2 := by omega
  rcases this with rfl | rfl | rfl
  · exact ⟨[101, 48], by rw [show decL (0 : Int).toNat = [48] from by rw [decL, if_pos (by decide)]; rfl]; rfl, rfl, by simp, by decide, by rw [show decL (0 : Int).toNat = [48] from by rw [decL, if_pos (by decide)]; rfl]; rfl⟩
  · exact ⟨[101, 49], by rw [show decL (1 : Int).toNat = [49] from by rw [decL, if_pos (by decide)]; rfl]; rfl, rfl, by simp, by decide, by rw [show decL (1 : Int).toNat = [49] from by rw [decL, if_pos (by decide)]; rfl]; rfl⟩
  · exact ⟨[101, 50], by rw [show decL (2 : Int).toNat = [50] from by rw [decL, if_pos (by decide)]; rfl]; rfl, rfl, by simp, by decide, by rw [show decL (2 : Int).toNat = [50] from by rw [decL, if_pos (by decide)]; rfl]; rfl⟩

set_option maxHeartbeats 4000000 in
set_option maxRecDepth 100000 in
theorem fill_leaf (N : NT) (s : List UInt8) (hs : s ≠ []) (hN : N.toTr = .mk s []) (d : Int) : Fil N d 1 3 := by
  intro r B n c K w v hrb hk hp
  rw [hN] at hp
  have HH : Hid (∀ w1, Below w.heap.size w w1 → Calls Tryz.prog 125 #[v] w1 fun e w' => e = .returned (.string (St [])) ∧ Below w1.heap.size w1 w') := fun w1 hb => by
    have := l1Head_any (.mk s []) v w1 (hp.up hb)
    rw [show headOf (.mk s []) = [] by simp [headOf, hs]] at this
    exact this
  obtain ⟨A, cc, rfl, _⟩ := hp.parts
  have HPK : Hid (∀ w1, RB w1 r B n c K → Calls Tryz.prog 79 #[.pointer (some ⟨r, 0, none⟩), .int .i64 3] w1 fun e w' => ∃ x : Int, 0 ≤ x ∧ x < 3 ∧ e = .returned (.int .i64 x) ∧ RB w' r B n c (K + 1) ∧ w1.grownBy w' (some r)) := fun w1 h => pick_rb r B n c K 3 w1 h (by omega) (by omega) (by omega)
  have HDC : Hid (∀ (w1 : World) (x : Int), 0 ≤ x → x < 3 → Calls Tryz.prog 148 #[.int .i64 x] w1 fun e w' => ∃ b : ByteArray, b.size = 1 ∧ (∃ l : List UInt8, (⟨#[101]⟩ : ByteArray) ++ b = St l ∧ l.length = 2 ∧ l ≠ [] ∧ (∀ b ∈ l, atomB b = true)) ∧ e = .returned (.string b) ∧ Below w1.heap.size w1 w') := fun w1 x h0 h1 => by
    have := l6Dec_any x.toNat w1 (by omega)
    rw [show ((x.toNat : Nat) : Int) = x by omega] at this
    obtain ⟨l, h2, h3, h4, h5, h6⟩ := elem_cat x h0 h1
    exact this.mono fun e w' ⟨e1, e2⟩ => ⟨_, h6, ⟨l, h2, h3, h4, h5⟩, e1, e2⟩
  have HRB := Lib.hid hrb
  have hlt := hrb.lt
  have HX2 : Hid (((w.alloc (.cells #[.string (St s), .slice A 0 cc] 59)).alloc (.cells #[.string (St []), .slice none 0 0] 59)).heap[w.heap.size]? = some (.cells #[.string (St s), .slice A 0 cc] 59 (0, 0))) := old2 w _ _
  have HR2 : Hid (((w.alloc (.cells #[.string (St s), .slice A 0 cc] 59)).alloc (.cells #[.string (St []), .slice none 0 0] 59)).heap[w.heap.size + 1]? = some (.cells #[.string (St []), .slice none 0 0] 59 (0, 0))) := new2 w _ _
  clear hp hrb hN
  have HS := Lib.hid hs
  clear hs
  cases hq : (s == [49]) with
  | true =>
    go_enter Tryz.func138, Tryz.ntmps138
    go_wp2_with (go_at_call 125; (refine (HH.out _ (up_alloc (up1 w _) _)).mono ?_); rintro e w1 ⟨rfl, hb1⟩; have HB1 := Lib.hid (up_trans (up_alloc (up1 w _) _) hb1); have X1 := Lib.hid (block_up hb1 HX2.out); have R1 := Lib.hid (block_up hb1 HR2.out); have x0 := block_cell X1.out 0; have rc0 := block_cell R1.out 0; have rc1 := block_cell R1.out 1; have fr0 := block_free R1.out 0; have fr1 := block_free R1.out 1; have lr := lt_of_block R1.out; clear hb1)
    refine bodyPost_ret (v := .agg #[.string (St [117]), .slice none 0 0]) (by simp [results, Tryz.results138, go_sem, rc0, rc1, lr]) rfl ?_
    exact ⟨.mk [117] [], _, _, _, _, rfl, .inl ⟨by simp, by decide, rfl⟩, by simp [Tr.txt], leafT _ _ _, (HRB.out.set (HRB.out.up HB1.out) (below_grow HB1.out) (Nat.le_succ _) _ _).mono (Nat.le_succ _), grow_set (grow_set (below_grow HB1.out) (Nat.le_succ _)) (Nat.le_succ _)⟩
  | false =>
    go_enter Tryz.func138, Tryz.ntmps138
    go_wp2_with (first
      | (go_at_call 125; (refine (HH.out _ (up_alloc (up1 w _) _)).mono ?_); rintro e w1 ⟨rfl, hb1⟩; have HB1 := Lib.hid (up_trans (up_alloc (up1 w _) _) hb1); have X1 := Lib.hid (block_up hb1 HX2.out); have R1 := Lib.hid (block_up hb1 HR2.out); have x0 := block_cell X1.out 0; clear hb1)
      | (go_at_call 79; (refine (HPK.out _ (HRB.out.up HB1.out)).mono ?_); rintro e w2 ⟨x, hx0, hx1, rfl, hr2, hg2⟩; have RB2 := Lib.hid hr2; have HG2 : Hid (w.grownBy w2 (some r)) := grow_grow (below_grow HB1.out) hg2 (.inl rfl); have R2 := Lib.hid ((hg2.block _ (lt_of_block R1.out) (by simp; omega)).trans R1.out); clear hr2 hg2)
      | (go_at_call 148; (refine (HDC.out _ _ hx0 hx1).mono ?_); rintro e w3 ⟨b3, hbs3, ⟨l3, hl3, hn3, hne3, hat3⟩, rfl, hb3⟩; have RB3 := Lib.hid (RB2.out.up hb3); have HG3 := Lib.hid (grow_up2 HG2.out hb3); have R3 := Lib.hid (block_up hb3 R2.out); have HL3 := Lib.hid hl3; have rc0 := block_cell R3.out 0; have rc1 := block_cell R3.out 1; have fr0 := block_free R3.out 0; have fr1 := block_free R3.out 1; have lr := lt_of_block R3.out; clear hb3 hl3))
    refine bodyPost_ret (v := .agg #[.string (⟨#[101]⟩ ++ b3), .slice none 0 0]) (by simp [results, Tryz.results138, go_sem, rc0, rc1, lr]) rfl ?_
    refine ⟨.mk l3 [], _, _, _, _, rfl, .inl ⟨hne3, hat3, rfl⟩, by rw [Tr.txt, if_neg hne3, hn3]; omega, ?_, HRB.out.set RB3.out HG3.out (Nat.le_succ _) _ _, grow_set (grow_set HG3.out (Nat.le_succ _)) (Nat.le_succ _)⟩
    rw [HL3.out]
    exact leafT _ _ _

end Go.Proofs.YtpokompplapkhaaGreatDoor
