/- The program's holesOf. -/
import Derived.Test.YtpokompplapkhaaGreatDoorHolA
import Derived.Test.YtpokompplapkhaaGreatDoorTk
namespace Go.Proofs.YtpokompplapkhaaGreatDoor
set_option maxHeartbeats 8000000
set_option maxRecDepth 100000
open Go.RowKit
set_option linter.unusedVariables false
set_option linter.unusedSimpArgs false
theorem HBx.bel {w0 w : World} {b g c : Nat} {hs : List (V × V)} (h : HBx w0 b g c hs w) : Below w0.heap.size w0 w := h.1
theorem Ot.block {b g : Nat} {w w' : World} (h : Ot b g w w') {k : Nat} {x : Obj} (hb : w.heap[k]? = some x) (h1 : k ≠ b) (h2 : k ≠ g) : w'.heap[k]? = some x := (h.blk k (lt_of_block hb) h1 h2).trans hb
theorem HBx.box {w0 w : World} {b g c : Nat} {hs : List (V × V)} (h : HBx w0 b g c hs w) {k : Nat} {x y : Value} (hk : w.heap[k]? = some (.cells #[x, y] 71 (0, 0))) (hk0 : w0.heap.size <= k) (x' y' : Value) :
 HBx w0 b g c hs ((w.setCell ⟨k, 0, none⟩ x').setCell ⟨k, 1, none⟩ y') /\ ((w.setCell ⟨k, 0, none⟩ x').setCell ⟨k, 1, none⟩ y').heap[k]? = some (.cells #[x', y'] 71 (0, 0)) /\ ∀ j, j ≠ k -> ((w.setCell ⟨k, 0, none⟩ x').setCell ⟨k, 1, none⟩ y').heap[j]? = w.heap[j]? := by
 obtain ⟨⟨cur, e2⟩, hgb, hg0⟩ := h.row
 obtain ⟨h1, h2, h3, us, h4, h5⟩ := id h
 have hj : ∀ j, j ≠ k -> ((w.setCell ⟨k, 0, none⟩ x').setCell ⟨k, 1, none⟩ y').heap[j]? = w.heap[j]? := fun j hj => by
  rw [Below.heap_setCell _ ⟨k, 1, none⟩ _ j hj, Below.heap_setCell _ ⟨k, 0, none⟩ _ j hj]
 have n1 : b ≠ k := by
  rintro rfl
  rw [h3] at hk
  simp at hk
 have n2 : g ≠ k := by
  rintro rfl
  rw [e2] at hk
  injection hk with hk
  injection hk with _ he _
  exact absurd he (by decide)
 have hkk : ((w.setCell ⟨k, 0, none⟩ x').setCell ⟨k, 1, none⟩ y').heap[k]? = some (.cells #[x', y'] 71 (0, 0)) := by
  simp only [World.setCell]
  rw [Array.getElem?_modify, Array.getElem?_modify, hk]
  simp
 have kv : Keeps 88 w ((w.setCell ⟨k, 0, none⟩ x').setCell ⟨k, 1, none⟩ y') := fun j cs fr hb => by
  have : j ≠ k := by
   rintro rfl
   rw [hk] at hb
   injection hb with hb
   injection hb with _ he _
   exact absurd he (by decide)
  rw [hj j this]
  exact hb
 refine ⟨⟨set0 (set0 h1 hk0) hk0, h2, (hj b n1).trans h3, us, ?_, h5.keep kv⟩, hkk, hj⟩
 refine World.ownsRow.kept h4 (row := some k) ?_ (.inr (by simp [Value.ownBlock]; exact n2))
 exact ⟨rfl, rfl, rfl, by simp [World.setCell], fun j _ hne => hj j (by simpa using hne)⟩
def HolC (v : V) (t : Ty) : Prop := ∀ (env : List (Ty × Nat)) (w : World) (p pe pv : Option Addr) (tg : Tg) (x0 : List UInt8) (fr : Option Addr), TyAt w t p -> FAt w env pe -> VAt w v pv -> t.scoped env.length -> t.bs -> (env.map (·.2)).Nodup -> TgV env tg (.agg #[.string (St x0), .pointer fr]) -> v.isOf 100 (env.map (·.1)) t = true -> v.nodes <= 100000 ->
 Calls Tryz.prog 53 #[.agg #[.pointer p, .pointer pe], .pointer pv, .agg #[.string (St x0), .pointer fr]] w (HPost w (hol t tg v))
theorem hol_leaf (v : V) (t : Ty) (sg : Int) (nm : List UInt8) (up : Int) (h1 : ∀ a b, t ≠ .sum a b) (h2 : ∀ a b, t ≠ .prod a b) (h3 : ∀ a, t ≠ .loop a) (hsg : sg ≠ 43 /\ sg ≠ 42 /\ sg ≠ 114) (hTy : ∀ w p, TyAt w t p -> ∃ g, p = some ⟨g, 0, none⟩ /\ w.heap[g]? = some (.cells #[.int .u8 sg, .string (St nm), .int .i64 up, .pointer none, .pointer none] 124 (0, 0))) : HolC v t := by
 rintro env w p pe pv tg x0 fr ht he hv hs hbs hd hg hty hnd
 obtain ⟨g, rfl, hb⟩ := hTy w p ht
 have HAT : Hid (∀ w1, Below w.heap.size w w1 -> Calls Tryz.prog 109 #[.agg #[.string (St x0), .pointer fr], .agg #[.pointer (some ⟨g, 0, none⟩), .pointer pe]] w1 fun e w' => e = .returned (.bool (tg.at t)) /\ Below w1.heap.size w1 w') := fun w1 h => isAt_any t env _ pe tg x0 fr w1 (ht.up h) (he.up h) hs hbs hd hg
 have d1 : decide (sg = 43) = false := decide_eq_false hsg.1
 have d2 : decide (sg = 42) = false := decide_eq_false hsg.2.1
 have d3 : decide (sg = 114) = false := decide_eq_false hsg.2.2
 have d4 : (sg == 43) = false := by simpa using hsg.1
 have d5 : (sg == 42) = false := by simpa using hsg.2.1
 have d6 : (sg == 114) = false := by simpa using hsg.2.2
 have HW1 : Hid (∀ w1, Below (((w.alloc (.cells #[.pointer (some ⟨g, 0, none⟩), .pointer pe] 71)).alloc (.cells #[.pointer pv] 63)).alloc (.cells #[.string (St x0), .pointer fr] 74)).heap.size (((w.alloc (.cells #[.pointer (some ⟨g, 0, none⟩), .pointer pe] 71)).alloc (.cells #[.pointer pv] 63)).alloc (.cells #[.string (St x0), .pointer fr] 74)) w1 -> Hid (w1.heap[w.heap.size]? = some (.cells #[.pointer (some ⟨g, 0, none⟩), .pointer pe] 71 (0, 0))) /\ Hid (w1.heap[w.heap.size + 1]? = some (.cells #[.pointer pv] 63 (0, 0))) /\ Hid (w1.heap[w.heap.size + 2]? = some (.cells #[.string (St x0), .pointer fr] 74 (0, 0))) /\ w1.cell? ⟨w.heap.size, 0, none⟩ = some (.pointer (some ⟨g, 0, none⟩)) /\ w1.cell? ⟨w.heap.size, 1, none⟩ = some (.pointer pe) /\ w1.cell? ⟨w.heap.size + 1, 0, none⟩ = some (.pointer pv) /\ w1.cell? ⟨g, 0, none⟩ = some (.int .u8 sg) /\ w.heap.size < w1.heap.size /\ w.heap.size + 1 < w1.heap.size /\ w.heap.size + 2 < w1.heap.size /\ g < w1.heap.size) := fun w1 h => by
  obtain ⟨k0, k1, k2⟩ := box3 w (.cells #[.pointer (some ⟨g, 0, none⟩), .pointer pe] 71) (.cells #[.pointer pv] 63) (.cells #[.string (St x0), .pointer fr] 74)
  have k0 := block_up h k0
  have k1 := block_up h k1
  have k2 := block_up h k2
  have k3 := block_up (up_trans (up_alloc (up_alloc (up1 w _) _) _) h) hb
  exact ⟨k0, k1, k2, block_cell k0 0, block_cell k0 1, block_cell k1 0, block_cell k3 0, lt_of_block k0, lt_of_block k1, lt_of_block k2, lt_of_block k3⟩
 cases hat : tg.at t with
 | false =>
  rw [hat] at HAT
  rw [hol_no hat h1 h2 h3 v]
  have HQ : Hid (∀ w1, Below w.heap.size w w1 -> HPost w [] (.returned (.slice (some ⟨w1.heap.size, 0, none⟩) 0 0)) ((w1.alloc (.cells #[] 134)).alloc (.cells #[.slice (some ⟨w1.heap.size, 0, none⟩) 0 0] 67))) := fun w1 h => (HBx.new w w1 h).post
  generalize HPost w [] = Q at *
  clear hb ht he hv hs hbs hd hg hty hnd hTy hat h1 h2 h3 hsg
  go_enter Tryz.func53, Tryz.ntmps53
  go_wp2_with (first
   | (go_at_call 109; (with_reducible refine (HAT.out _ (up_alloc (up_alloc (up1 w _) _) _)).mono ?_); rintro e w1 ⟨rfl, hb1⟩; have HB1 : Hid (Below w.heap.size w w1) := up_trans (up_alloc (up_alloc (up1 w _) _) _) hb1; obtain ⟨K0, K1, K2, a0, a1, a2, a5, l0, l1, l2, l5⟩ := HW1.out w1 hb1; clear hb1))
  exact HQ.out _ HB1.out
 | true =>
  rw [hat] at HAT
  rw [hol_at hat v]
  have HQ : Hid (∀ w1, Below w.heap.size w w1 -> HPost w [(.u, v)] (.returned (.slice (some ⟨w1.heap.size + 1, 0, none⟩) 1 1)) ((w1.alloc (.cells #[.int .u8 117, .string (St []), .pointer none, .pointer none] 88)).alloc (.cells #[.pointer (some ⟨w1.heap.size, 0, none⟩), .pointer pv] 134))) := fun w1 h =>
   ⟨up_alloc (up_alloc h _) _, w1.heap.size + 1, 1, [.pointer (some ⟨w1.heap.size, 0, none⟩), .pointer pv], rfl, by have := h.size; omega, by simp, row_two (new2 w1 _ _), _, _, [], rfl, ⟨_, rfl, old2 w1 _ _⟩, hv.up (up_alloc (up_alloc h _) _), rfl⟩
  generalize HPost w [(.u, v)] = Q at *
  clear hb ht he hv hs hbs hd hg hty hnd hTy hat h1 h2 h3 hsg
  go_enter Tryz.func53, Tryz.ntmps53
  go_wp2_with (first
   | (go_at_call 109; (with_reducible refine (HAT.out _ (up_alloc (up_alloc (up1 w _) _) _)).mono ?_); rintro e w1 ⟨rfl, hb1⟩; have HB1 : Hid (Below w.heap.size w w1) := up_trans (up_alloc (up_alloc (up1 w _) _) _) hb1; obtain ⟨K0, K1, K2, a0, a1, a2, a5, l0, l1, l2, l5⟩ := HW1.out w1 hb1; clear hb1))
  exact HQ.out _ HB1.out
theorem hol_sum (v : V) (a b : Ty) (hsub : ∀ v' : V, v'.nodes < v.nodes -> ∀ t, HolC v' t) : HolC v (.sum a b) := by
 rintro env w p pe pv tg x0 fr ht he hv hs hbs hd hg hty hnd
 obtain ⟨pa, pb, ⟨g, rfl, hb⟩, ha, hb'⟩ := id ht
 have HAT : Hid (∀ w1, Below w.heap.size w w1 -> Calls Tryz.prog 109 #[.agg #[.string (St x0), .pointer fr], .agg #[.pointer (some ⟨g, 0, none⟩), .pointer pe]] w1 fun e w' => e = .returned (.bool (tg.at (.sum a b))) /\ Below w1.heap.size w1 w') := fun w1 h => isAt_any (.sum a b) env _ pe tg x0 fr w1 (ht.up h) (he.up h) hs hbs hd hg
 have hat : tg.at (.sum a b) = false := by cases tg <;> rfl
 rw [hat] at HAT
 have HLf : Hid (∀ w1, Below w.heap.size w w1 -> Calls Tryz.prog 111 #[.agg #[.pointer (some ⟨g, 0, none⟩), .pointer pe]] w1 fun e w' => e = .returned (.agg #[.pointer pa, .pointer pe]) /\ Below w1.heap.size w1 w') := fun w1 h => left_any g 43 [] 0 pa pb pe w1 (block_up h hb)
 have HRt : Hid (∀ w1, Below w.heap.size w w1 -> Calls Tryz.prog 112 #[.agg #[.pointer (some ⟨g, 0, none⟩), .pointer pe]] w1 fun e w' => e = .returned (.agg #[.pointer pb, .pointer pe]) /\ Below w1.heap.size w1 w') := fun w1 h => right_any g 43 [] 0 pa pb pe w1 (block_up h hb)
 by_cases hl : ∃ x, v = .l x
 · obtain ⟨x, rfl⟩ := hl
   obtain ⟨px, ⟨gv, rfl, hbv⟩, hx⟩ := hv
   have HW1 : Hid (∀ w1, Below (((w.alloc (.cells #[.pointer (some ⟨g, 0, none⟩), .pointer pe] 71)).alloc (.cells #[.pointer (some ⟨gv, 0, none⟩)] 63)).alloc (.cells #[.string (St x0), .pointer fr] 74)).heap.size (((w.alloc (.cells #[.pointer (some ⟨g, 0, none⟩), .pointer pe] 71)).alloc (.cells #[.pointer (some ⟨gv, 0, none⟩)] 63)).alloc (.cells #[.string (St x0), .pointer fr] 74)) w1 -> Hid (w1.heap[w.heap.size]? = some (.cells #[.pointer (some ⟨g, 0, none⟩), .pointer pe] 71 (0, 0))) /\ Hid (w1.heap[w.heap.size + 1]? = some (.cells #[.pointer (some ⟨gv, 0, none⟩)] 63 (0, 0))) /\ Hid (w1.heap[w.heap.size + 2]? = some (.cells #[.string (St x0), .pointer fr] 74 (0, 0))) /\ w1.cell? ⟨w.heap.size, 0, none⟩ = some (.pointer (some ⟨g, 0, none⟩)) /\ w1.cell? ⟨w.heap.size, 1, none⟩ = some (.pointer pe) /\ w1.cell? ⟨w.heap.size + 1, 0, none⟩ = some (.pointer (some ⟨gv, 0, none⟩)) /\ w1.cell? ⟨g, 0, none⟩ = some (.int .u8 43) /\ w.heap.size < w1.heap.size /\ w.heap.size + 1 < w1.heap.size /\ w.heap.size + 2 < w1.heap.size /\ g < w1.heap.size) := fun w1 h => by
    obtain ⟨k0, k1, k2⟩ := box3 w (.cells #[.pointer (some ⟨g, 0, none⟩), .pointer pe] 71) (.cells #[.pointer (some ⟨gv, 0, none⟩)] 63) (.cells #[.string (St x0), .pointer fr] 74)
    have k0 := block_up h k0
    have k1 := block_up h k1
    have k2 := block_up h k2
    have k3 := block_up (up_trans (up_alloc (up_alloc (up1 w _) _) _) h) hb
    exact ⟨k0, k1, k2, block_cell k0 0, block_cell k0 1, block_cell k1 0, block_cell k3 0, lt_of_block k0, lt_of_block k1, lt_of_block k2, lt_of_block k3⟩
   rw [hol_l]
   have HC : Hid (∀ w1, Below w.heap.size w w1 -> Calls Tryz.prog 53 #[.agg #[.pointer pa, .pointer pe], .pointer px, .agg #[.string (St x0), .pointer fr]] w1 (HPost w1 (hol a tg x))) := fun w1 h => hsub x (by simp only [V.nodes]; omega) a env w1 pa pe px tg x0 fr (ha.up h) (he.up h) (hx.up h) hs.1 hbs.1 hd hg hty (by simp only [V.nodes] at hnd; omega)
   have hlen := hol_len a tg x
   have hln9 : (hol a tg x).length <= 100000 := by simp only [V.nodes] at hnd; omega
   generalize hout : ((hol a tg x).map fun h => (V.l h.1, h.2)) = out at *
   generalize hol a tg x = lst at *
   have HQ : Hid (∀ w' b g' c', HBx w b g' c' out w' -> HPost w out (.returned (.slice (some ⟨g', 0, none⟩) out.length c')) w') := fun w' b g' c' h => h.post
   have HV : Hid (∀ w', Below w.heap.size w w' -> w'.cell? ⟨gv, 0, none⟩ = some (.int .u8 108) /\ gv < w'.heap.size) := fun w' h => ⟨block_cell (block_up h hbv) 0, lt_of_block (block_up h hbv)⟩
   have HBV := Lib.hid hbv
   have HOUT := Lib.hid hout
   generalize HPost w out = Q at *
   clear hb ht he hs hbs hd hg hty hnd hat hsub ha hb' hx hlen hout hbv
   go_enter Tryz.func53, Tryz.ntmps53
   go_wp2_with (first
    | (go_at_call 109; (with_reducible refine (HAT.out _ (up_alloc (up_alloc (up1 w _) _) _)).mono ?_); rintro e w1 ⟨rfl, hb1⟩; have HB1 : Hid (Below w.heap.size w w1) := up_trans (up_alloc (up_alloc (up1 w _) _) _) hb1; obtain ⟨K0, K1, K2, a0, a1, a2, a5, l0, l1, l2, l5⟩ := HW1.out w1 hb1; clear hb1)
    | (go_at_call 111; (with_reducible refine (HLf.out _ (up_alloc (up_alloc HB1.out _) _)).mono ?_); rintro e w2 ⟨rfl, hb2⟩; have HB2 : Hid (Below w1.heap.size w1 w2) := up_trans (up_alloc (up1 w1 _) _) hb2; have HBX2 := Lib.hid ((HBx.new w w1 HB1.out).up hb2); have K0' := Lib.hid (block_up HB2.out K0.out); have K1' := Lib.hid (block_up HB2.out K1.out); have K2' := Lib.hid (block_up HB2.out K2.out); have e0 := block_cell K0'.out 0; have e1 := block_cell K0'.out 1; have e2 := block_cell K1'.out 0; have m0 := lt_of_block K0'.out; have m1 := lt_of_block K1'.out; have hsz2 := lt_of_block HBX2.out.2.2.1; obtain ⟨v0, lv⟩ := HV.out w2 (up_trans HB1.out HB2.out); clear hb2))
   have BW := up1 w2 (.cells #[.pointer pa, .pointer pe] 71)
   have CW := block_new w2 (.cells #[.pointer pa, .pointer pe] 71)
   have HBX1 := Lib.hid (HBX2.out.up BW)
   have K1w := block_up BW K1'.out
   have K2w := block_up BW K2'.out
   generalize (w2.alloc (.cells #[.pointer pa, .pointer pe] 71)) = W1 at *
   have HS : Hid (∀ w', Ot (w1.heap.size + 1) (w1.heap.size) W1 w' -> Below w.heap.size w w' -> w'.cell? ⟨w2.heap.size, 0, none⟩ = some (.pointer pa) /\ w'.cell? ⟨w2.heap.size, 1, none⟩ = some (.pointer pe) /\ w'.cell? ⟨w.heap.size + 1, 0, none⟩ = some (.pointer (some ⟨gv, 0, none⟩)) /\ w'.cell? ⟨gv, 2, none⟩ = some (.pointer px) /\ w'.cell? ⟨w.heap.size + 2, 0, none⟩ = some (.string (St x0)) /\ w'.cell? ⟨w.heap.size + 2, 1, none⟩ = some (.pointer fr)) := fun w' h hbl => ⟨block_cell (h.block CW (by omega) (by omega)) 0, block_cell (h.block CW (by omega) (by omega)) 1, block_cell (h.block K1w (by omega) (by omega)) 0, block_cell (block_up hbl HBV.out) 2, block_cell (h.block K2w (by omega) (by omega)) 0, block_cell (h.block K2w (by omega) (by omega)) 1⟩
   obtain ⟨s0, s1, s2, s3, s4, s5⟩ := HS.out W1 (Ot.refl _ _ _) HBX1.out.bel
   have HADD : Hid (∀ w3 gl cl us, Below W1.heap.size W1 w3 -> W1.heap.size <= gl -> RCells w3 (some ⟨gl, 0, none⟩) us -> HL w3 lst us -> Calls Tryz.prog 110 #[.slice (some ⟨gl, 0, none⟩) lst.length cl, .func (.func 113) #[] #[.pointer (some ⟨w.heap.size + 1, 0, none⟩)], .pointer (some ⟨w1.heap.size + 1, 0, none⟩)] w3 fun e w' => e = .returned (.tuple #[]) /\ ∃ g' c', HBx w (w1.heap.size + 1) g' c' out w' /\ Ot (w1.heap.size + 1) (w1.heap.size) W1 w' /\ (g' = w1.heap.size \/ W1.heap.size <= g')) := fun w3 gl cl us hb3 hgl hr hl => add_at 113 (fun args w => by go_simp) _ (fun y => V.l y) HBX1.out hb3 hgl hr hl (by simp only [List.length_nil]; omega) (by rw [<- HOUT.out]; rfl) (fun w4 v4 p4 ho hbl hx4 => around_l (w.heap.size + 1) gv v4 p4 w4 hx4 (HS.out _ ho hbl).2.2.1 (block_cell (block_up hbl HBV.out) 0))
   refine wp_region_noPanic ?_
   refine wp_region_held_drew (S := (fun w' => w'.cell? ⟨w2.heap.size, 0, none⟩ = some (.pointer pa) /\ w'.cell? ⟨w2.heap.size, 1, none⟩ = some (.pointer pe) /\ w'.cell? ⟨w.heap.size + 1, 0, none⟩ = some (.pointer (some ⟨gv, 0, none⟩)) /\ w'.cell? ⟨gv, 2, none⟩ = some (.pointer px) /\ w'.cell? ⟨w.heap.size + 2, 0, none⟩ = some (.string (St x0)) /\ w'.cell? ⟨w.heap.size + 2, 1, none⟩ = some (.pointer fr))) (by kernel_rfl) (by exact HS.out _ (.up (up_drew (Below.refl _ _))) (up_trans HBX1.out.bel (up_drew (Below.refl _ _)))) (fun hHeld => ?_)
   refine tq 0 rfl ?_
   refine tq 1 rfl ?_
   refine tq 2 rfl ?_
   refine tq 3 rfl ?_
   refine tq 4 rfl ?_
   refine tq 5 rfl ?_
   refine tq 6 rfl ?_
   refine tq 8 rfl ?_
   refine tz 7 rfl fun K hK => ?_
   go_simp
   go_at_call 53
   (with_reducible refine (HC.out _ (up_trans HBX1.out.bel (up_drew (Below.refl _ _)))).mono ?_)
   rintro e w5 ⟨hb5, gl, cl, us, rfl, hgl, hgl2, hrr, hll⟩
   have HB5 : Hid (Below W1.heap.size W1 w5) := up_trans (up_drew (Below.refl _ _)) hb5
   have HGL : Hid (W1.heap.size <= gl) := Nat.le_trans (Below.size (up_drew (Below.refl _ _))) hgl
   have HRR := Lib.hid hrr
   have HLL := Lib.hid hll
   clear hb5 hgl hgl2 hrr hll
   refine hK.out _ _ (by exact HS.out _ (.up HB5.out) (up_trans HBX1.out.bel HB5.out)) (fun hHeld => ?_)
   clear hK
   try simp only [Act.put, zA, zB, zC, zD, zE, zF]
   refine tz 9 rfl fun K hK => ?_
   go_simp
   go_at_call 110
   (with_reducible refine (HADD.out _ _ _ _ HB5.out HGL.out HRR.out HLL.out).mono ?_)
   rintro e w6 ⟨rfl, g6, c6, hbx6, hot6, hgg6⟩
   have HBX6 := Lib.hid hbx6
   have HOT6 := Lib.hid hot6
   have HGG6 := Lib.hid hgg6
   have y0 := block_cell hbx6.2.2.1 0
   clear hbx6 hot6 hgg6
   refine hK.out _ _ (by exact HS.out _ HOT6.out HBX6.out.bel) (fun hHeld => ?_)
   clear hK
   try simp only [Act.put, zA, zB, zC, zD, zE, zF]
   refine wpAnyH_done (by kernel_rfl) ?_ _
   refine NoPanic.normal ?_
   go_wp2
   exact HQ.out _ _ _ _ HBX6.out
 · obtain ⟨x, rfl⟩ : ∃ x, v = .r x := by cases v <;> first | exact ⟨_, rfl⟩ | cases hty | exact absurd ⟨_, rfl⟩ hl
   clear hl
   obtain ⟨px, ⟨gv, rfl, hbv⟩, hx⟩ := hv
   have HW1 : Hid (∀ w1, Below (((w.alloc (.cells #[.pointer (some ⟨g, 0, none⟩), .pointer pe] 71)).alloc (.cells #[.pointer (some ⟨gv, 0, none⟩)] 63)).alloc (.cells #[.string (St x0), .pointer fr] 74)).heap.size (((w.alloc (.cells #[.pointer (some ⟨g, 0, none⟩), .pointer pe] 71)).alloc (.cells #[.pointer (some ⟨gv, 0, none⟩)] 63)).alloc (.cells #[.string (St x0), .pointer fr] 74)) w1 -> Hid (w1.heap[w.heap.size]? = some (.cells #[.pointer (some ⟨g, 0, none⟩), .pointer pe] 71 (0, 0))) /\ Hid (w1.heap[w.heap.size + 1]? = some (.cells #[.pointer (some ⟨gv, 0, none⟩)] 63 (0, 0))) /\ Hid (w1.heap[w.heap.size + 2]? = some (.cells #[.string (St x0), .pointer fr] 74 (0, 0))) /\ w1.cell? ⟨w.heap.size, 0, none⟩ = some (.pointer (some ⟨g, 0, none⟩)) /\ w1.cell? ⟨w.heap.size, 1, none⟩ = some (.pointer pe) /\ w1.cell? ⟨w.heap.size + 1, 0, none⟩ = some (.pointer (some ⟨gv, 0, none⟩)) /\ w1.cell? ⟨g, 0, none⟩ = some (.int .u8 43) /\ w.heap.size < w1.heap.size /\ w.heap.size + 1 < w1.heap.size /\ w.heap.size + 2 < w1.heap.size /\ g < w1.heap.size) := fun w1 h => by
    obtain ⟨k0, k1, k2⟩ := box3 w (.cells #[.pointer (some ⟨g, 0, none⟩), .pointer pe] 71) (.cells #[.pointer (some ⟨gv, 0, none⟩)] 63) (.cells #[.string (St x0), .pointer fr] 74)
    have k0 := block_up h k0
    have k1 := block_up h k1
    have k2 := block_up h k2
    have k3 := block_up (up_trans (up_alloc (up_alloc (up1 w _) _) _) h) hb
    exact ⟨k0, k1, k2, block_cell k0 0, block_cell k0 1, block_cell k1 0, block_cell k3 0, lt_of_block k0, lt_of_block k1, lt_of_block k2, lt_of_block k3⟩
   rw [hol_r]
   have HC : Hid (∀ w1, Below w.heap.size w w1 -> Calls Tryz.prog 53 #[.agg #[.pointer pb, .pointer pe], .pointer px, .agg #[.string (St x0), .pointer fr]] w1 (HPost w1 (hol b tg x))) := fun w1 h => hsub x (by simp only [V.nodes]; omega) b env w1 pb pe px tg x0 fr (hb'.up h) (he.up h) (hx.up h) hs.2 hbs.2 hd hg hty (by simp only [V.nodes] at hnd; omega)
   have hlen := hol_len b tg x
   have hln9 : (hol b tg x).length <= 100000 := by simp only [V.nodes] at hnd; omega
   generalize hout : ((hol b tg x).map fun h => (V.r h.1, h.2)) = out at *
   generalize hol b tg x = lst at *
   have HQ : Hid (∀ w' b g' c', HBx w b g' c' out w' -> HPost w out (.returned (.slice (some ⟨g', 0, none⟩) out.length c')) w') := fun w' b g' c' h => h.post
   have HV : Hid (∀ w', Below w.heap.size w w' -> w'.cell? ⟨gv, 0, none⟩ = some (.int .u8 114) /\ gv < w'.heap.size) := fun w' h => ⟨block_cell (block_up h hbv) 0, lt_of_block (block_up h hbv)⟩
   have HBV := Lib.hid hbv
   have HOUT := Lib.hid hout
   generalize HPost w out = Q at *
   clear hb ht he hs hbs hd hg hty hnd hat hsub ha hb' hx hlen hout hbv
   go_enter Tryz.func53, Tryz.ntmps53
   go_wp2_with (first
    | (go_at_call 109; (with_reducible refine (HAT.out _ (up_alloc (up_alloc (up1 w _) _) _)).mono ?_); rintro e w1 ⟨rfl, hb1⟩; have HB1 : Hid (Below w.heap.size w w1) := up_trans (up_alloc (up_alloc (up1 w _) _) _) hb1; obtain ⟨K0, K1, K2, a0, a1, a2, a5, l0, l1, l2, l5⟩ := HW1.out w1 hb1; clear hb1)
    | (go_at_call 111; (with_reducible refine (HLf.out _ (up_alloc (up_alloc HB1.out _) _)).mono ?_); rintro e w2 ⟨rfl, hb2⟩; have HB2 : Hid (Below w1.heap.size w1 w2) := up_trans (up_alloc (up1 w1 _) _) hb2; have HBX2 := Lib.hid ((HBx.new w w1 HB1.out).up hb2); have K0' := Lib.hid (block_up HB2.out K0.out); have K1' := Lib.hid (block_up HB2.out K1.out); have K2' := Lib.hid (block_up HB2.out K2.out); have e0 := block_cell K0'.out 0; have e1 := block_cell K0'.out 1; have e2 := block_cell K1'.out 0; have m0 := lt_of_block K0'.out; have m1 := lt_of_block K1'.out; have hsz2 := lt_of_block HBX2.out.2.2.1; obtain ⟨v0, lv⟩ := HV.out w2 (up_trans HB1.out HB2.out); clear hb2)
    | (go_at_call 112; (with_reducible refine (HRt.out _ (up_alloc (up_trans HB1.out HB2.out) _)).mono ?_); rintro e w3 ⟨rfl, hb3⟩; have HB3 := Lib.hid (up_trans (up1 w2 _) hb3); have P3 := block_up hb3 (block_new w2 (.cells #[.pointer pa, .pointer pe] 71)); have f0 := block_free P3 0; have f1 := block_free P3 1; have p0 := block_cell P3 0; have p1 := block_cell P3 1; have lp := lt_of_block P3; have HP3 := Lib.hid P3; clear hb3 P3))
   obtain ⟨hbx1, CW, hoth⟩ := HBx.box (HBX2.out.up HB3.out) HP3.out (up_trans HB1.out HB2.out).size (.pointer pb) (.pointer pe)
   have HBX1 := Lib.hid hbx1
   have K1w := (hoth (w.heap.size + 1) (by omega)).trans (block_up HB3.out K1'.out)
   have K2w := (hoth (w.heap.size + 2) (by omega)).trans (block_up HB3.out K2'.out)
   clear hbx1 hoth
   generalize ((w3.setCell ⟨w2.heap.size, 0, none⟩ (.pointer pb)).setCell ⟨w2.heap.size, 1, none⟩ (.pointer pe)) = W1 at *
   have HS : Hid (∀ w', Ot (w1.heap.size + 1) (w1.heap.size) W1 w' -> Below w.heap.size w w' -> w'.cell? ⟨w2.heap.size, 0, none⟩ = some (.pointer pb) /\ w'.cell? ⟨w2.heap.size, 1, none⟩ = some (.pointer pe) /\ w'.cell? ⟨w.heap.size + 1, 0, none⟩ = some (.pointer (some ⟨gv, 0, none⟩)) /\ w'.cell? ⟨gv, 2, none⟩ = some (.pointer px) /\ w'.cell? ⟨w.heap.size + 2, 0, none⟩ = some (.string (St x0)) /\ w'.cell? ⟨w.heap.size + 2, 1, none⟩ = some (.pointer fr)) := fun w' h hbl => ⟨block_cell (h.block CW (by omega) (by omega)) 0, block_cell (h.block CW (by omega) (by omega)) 1, block_cell (h.block K1w (by omega) (by omega)) 0, block_cell (block_up hbl HBV.out) 2, block_cell (h.block K2w (by omega) (by omega)) 0, block_cell (h.block K2w (by omega) (by omega)) 1⟩
   obtain ⟨s0, s1, s2, s3, s4, s5⟩ := HS.out W1 (Ot.refl _ _ _) HBX1.out.bel
   have HADD : Hid (∀ w3 gl cl us, Below W1.heap.size W1 w3 -> W1.heap.size <= gl -> RCells w3 (some ⟨gl, 0, none⟩) us -> HL w3 lst us -> Calls Tryz.prog 110 #[.slice (some ⟨gl, 0, none⟩) lst.length cl, .func (.func 113) #[] #[.pointer (some ⟨w.heap.size + 1, 0, none⟩)], .pointer (some ⟨w1.heap.size + 1, 0, none⟩)] w3 fun e w' => e = .returned (.tuple #[]) /\ ∃ g' c', HBx w (w1.heap.size + 1) g' c' out w' /\ Ot (w1.heap.size + 1) (w1.heap.size) W1 w' /\ (g' = w1.heap.size \/ W1.heap.size <= g')) := fun w3 gl cl us hb3 hgl hr hl => add_at 113 (fun args w => by go_simp) _ (fun y => V.r y) HBX1.out hb3 hgl hr hl (by simp only [List.length_nil]; omega) (by rw [<- HOUT.out]; rfl) (fun w4 v4 p4 ho hbl hx4 => around_r (w.heap.size + 1) gv v4 p4 w4 hx4 (HS.out _ ho hbl).2.2.1 (block_cell (block_up hbl HBV.out) 0))
   refine wp_region_noPanic ?_
   refine wp_region_held_drew (S := (fun w' => w'.cell? ⟨w2.heap.size, 0, none⟩ = some (.pointer pb) /\ w'.cell? ⟨w2.heap.size, 1, none⟩ = some (.pointer pe) /\ w'.cell? ⟨w.heap.size + 1, 0, none⟩ = some (.pointer (some ⟨gv, 0, none⟩)) /\ w'.cell? ⟨gv, 2, none⟩ = some (.pointer px) /\ w'.cell? ⟨w.heap.size + 2, 0, none⟩ = some (.string (St x0)) /\ w'.cell? ⟨w.heap.size + 2, 1, none⟩ = some (.pointer fr))) (by kernel_rfl) (by exact HS.out _ (.up (up_drew (Below.refl _ _))) (up_trans HBX1.out.bel (up_drew (Below.refl _ _)))) (fun hHeld => ?_)
   refine tq 0 rfl ?_
   refine tq 1 rfl ?_
   refine tq 2 rfl ?_
   refine tq 3 rfl ?_
   refine tq 4 rfl ?_
   refine tq 5 rfl ?_
   refine tq 6 rfl ?_
   refine tq 8 rfl ?_
   refine tz 7 rfl fun K hK => ?_
   go_simp
   go_at_call 53
   (with_reducible refine (HC.out _ (up_trans HBX1.out.bel (up_drew (Below.refl _ _)))).mono ?_)
   rintro e w5 ⟨hb5, gl, cl, us, rfl, hgl, hgl2, hrr, hll⟩
   have HB5 : Hid (Below W1.heap.size W1 w5) := up_trans (up_drew (Below.refl _ _)) hb5
   have HGL : Hid (W1.heap.size <= gl) := Nat.le_trans (Below.size (up_drew (Below.refl _ _))) hgl
   have HRR := Lib.hid hrr
   have HLL := Lib.hid hll
   clear hb5 hgl hgl2 hrr hll
   refine hK.out _ _ (by exact HS.out _ (.up HB5.out) (up_trans HBX1.out.bel HB5.out)) (fun hHeld => ?_)
   clear hK
   try simp only [Act.put, zA, zB, zC, zD, zE, zF]
   refine tz 9 rfl fun K hK => ?_
   go_simp
   go_at_call 110
   (with_reducible refine (HADD.out _ _ _ _ HB5.out HGL.out HRR.out HLL.out).mono ?_)
   rintro e w6 ⟨rfl, g6, c6, hbx6, hot6, hgg6⟩
   have HBX6 := Lib.hid hbx6
   have HOT6 := Lib.hid hot6
   have HGG6 := Lib.hid hgg6
   have y0 := block_cell hbx6.2.2.1 0
   clear hbx6 hot6 hgg6
   refine hK.out _ _ (by exact HS.out _ HOT6.out HBX6.out.bel) (fun hHeld => ?_)
   clear hK
   try simp only [Act.put, zA, zB, zC, zD, zE, zF]
   refine wpAnyH_done (by kernel_rfl) ?_ _
   refine NoPanic.normal ?_
   go_wp2
   exact HQ.out _ _ _ _ HBX6.out
theorem hol_prod (v : V) (a b : Ty) (hsub : ∀ v' : V, v'.nodes < v.nodes -> ∀ t, HolC v' t) : HolC v (.prod a b) := by
 rintro env w p pe pv tg x0 fr ht he hv hs hbs hd hg hty hnd
 obtain ⟨pa, pb, ⟨g, rfl, hb⟩, ha, hb'⟩ := id ht
 have HAT : Hid (∀ w1, Below w.heap.size w w1 -> Calls Tryz.prog 109 #[.agg #[.string (St x0), .pointer fr], .agg #[.pointer (some ⟨g, 0, none⟩), .pointer pe]] w1 fun e w' => e = .returned (.bool (tg.at (.prod a b))) /\ Below w1.heap.size w1 w') := fun w1 h => isAt_any (.prod a b) env _ pe tg x0 fr w1 (ht.up h) (he.up h) hs hbs hd hg
 have hat : tg.at (.prod a b) = false := by cases tg <;> rfl
 rw [hat] at HAT
 have HLf : Hid (∀ w1, Below w.heap.size w w1 -> Calls Tryz.prog 111 #[.agg #[.pointer (some ⟨g, 0, none⟩), .pointer pe]] w1 fun e w' => e = .returned (.agg #[.pointer pa, .pointer pe]) /\ Below w1.heap.size w1 w') := fun w1 h => left_any g 42 [] 0 pa pb pe w1 (block_up h hb)
 have HRt : Hid (∀ w1, Below w.heap.size w w1 -> Calls Tryz.prog 112 #[.agg #[.pointer (some ⟨g, 0, none⟩), .pointer pe]] w1 fun e w' => e = .returned (.agg #[.pointer pb, .pointer pe]) /\ Below w1.heap.size w1 w') := fun w1 h => right_any g 42 [] 0 pa pb pe w1 (block_up h hb)
 obtain ⟨x, y, rfl⟩ : ∃ x y, v = .p x y := by cases v <;> first | exact ⟨_, _, rfl⟩ | cases hty
 obtain ⟨px, py, ⟨gv, rfl, hbv⟩, hx, hy⟩ := hv
 have hty2 : x.isOf 100 (env.map (·.1)) a = true /\ y.isOf 100 (env.map (·.1)) b = true := by simpa [V.isOf] using hty
 have HW1 : Hid (∀ w1, Below (((w.alloc (.cells #[.pointer (some ⟨g, 0, none⟩), .pointer pe] 71)).alloc (.cells #[.pointer (some ⟨gv, 0, none⟩)] 63)).alloc (.cells #[.string (St x0), .pointer fr] 74)).heap.size (((w.alloc (.cells #[.pointer (some ⟨g, 0, none⟩), .pointer pe] 71)).alloc (.cells #[.pointer (some ⟨gv, 0, none⟩)] 63)).alloc (.cells #[.string (St x0), .pointer fr] 74)) w1 -> Hid (w1.heap[w.heap.size]? = some (.cells #[.pointer (some ⟨g, 0, none⟩), .pointer pe] 71 (0, 0))) /\ Hid (w1.heap[w.heap.size + 1]? = some (.cells #[.pointer (some ⟨gv, 0, none⟩)] 63 (0, 0))) /\ Hid (w1.heap[w.heap.size + 2]? = some (.cells #[.string (St x0), .pointer fr] 74 (0, 0))) /\ w1.cell? ⟨w.heap.size, 0, none⟩ = some (.pointer (some ⟨g, 0, none⟩)) /\ w1.cell? ⟨w.heap.size, 1, none⟩ = some (.pointer pe) /\ w1.cell? ⟨w.heap.size + 1, 0, none⟩ = some (.pointer (some ⟨gv, 0, none⟩)) /\ w1.cell? ⟨g, 0, none⟩ = some (.int .u8 42) /\ w.heap.size < w1.heap.size /\ w.heap.size + 1 < w1.heap.size /\ w.heap.size + 2 < w1.heap.size /\ g < w1.heap.size) := fun w1 h => by
  obtain ⟨k0, k1, k2⟩ := box3 w (.cells #[.pointer (some ⟨g, 0, none⟩), .pointer pe] 71) (.cells #[.pointer (some ⟨gv, 0, none⟩)] 63) (.cells #[.string (St x0), .pointer fr] 74)
  have k0 := block_up h k0
  have k1 := block_up h k1
  have k2 := block_up h k2
  have k3 := block_up (up_trans (up_alloc (up_alloc (up1 w _) _) _) h) hb
  exact ⟨k0, k1, k2, block_cell k0 0, block_cell k0 1, block_cell k1 0, block_cell k3 0, lt_of_block k0, lt_of_block k1, lt_of_block k2, lt_of_block k3⟩
 rw [hol_p]
 have HC : Hid (∀ w1, Below w.heap.size w w1 -> Calls Tryz.prog 53 #[.agg #[.pointer pa, .pointer pe], .pointer px, .agg #[.string (St x0), .pointer fr]] w1 (HPost w1 (hol a tg x))) := fun w1 h => hsub x (by simp only [V.nodes]; omega) a env w1 pa pe px tg x0 fr (ha.up h) (he.up h) (hx.up h) hs.1 hbs.1 hd hg hty2.1 (by simp only [V.nodes] at hnd; omega)
 have HC2 : Hid (∀ w1, Below w.heap.size w w1 -> Calls Tryz.prog 53 #[.agg #[.pointer pb, .pointer pe], .pointer py, .agg #[.string (St x0), .pointer fr]] w1 (HPost w1 (hol b tg y))) := fun w1 h => hsub y (by simp only [V.nodes]; omega) b env w1 pb pe py tg x0 fr (hb'.up h) (he.up h) (hy.up h) hs.2 hbs.2 hd hg hty2.2 (by simp only [V.nodes] at hnd; omega)
 have hlen := hol_len a tg x
 have hlen2 := hol_len b tg y
 have hln9 : (hol a tg x).length + (hol b tg y).length <= 100000 := by simp only [V.nodes] at hnd; omega
 have HX := Lib.hid hx
 have HY := Lib.hid hy
 have ho1 : ((hol a tg x).map fun h => (V.l (.p h.1 y), h.2)).length = (hol a tg x).length := List.length_map _
 generalize hout : ((hol a tg x).map fun h => (V.l (.p h.1 y), h.2)) = out at *
 generalize hol a tg x = lst at *
 generalize hout2 : (out ++ (hol b tg y).map fun h => (V.r (.p x h.1), h.2)) = out2 at *
 generalize hol b tg y = lst2 at *
 have HQ : Hid (∀ w' b g' c', HBx w b g' c' out2 w' -> HPost w out2 (.returned (.slice (some ⟨g', 0, none⟩) out2.length c')) w') := fun w' b g' c' h => h.post
 have HV : Hid (∀ w', Below w.heap.size w w' -> w'.cell? ⟨gv, 0, none⟩ = some (.int .u8 112) /\ gv < w'.heap.size) := fun w' h => ⟨block_cell (block_up h hbv) 0, lt_of_block (block_up h hbv)⟩
 have HBV := Lib.hid hbv
 have HOUT := Lib.hid hout
 have HOUT2 := Lib.hid hout2
 generalize HPost w out2 = Q at *
 clear hb ht he hs hbs hd hg hty hty2 hnd hat hsub ha hb' hx hy hlen hlen2 hout hout2 hbv
 go_enter Tryz.func53, Tryz.ntmps53
 go_wp2_with (first
  | (go_at_call 109; (with_reducible refine (HAT.out _ (up_alloc (up_alloc (up1 w _) _) _)).mono ?_); rintro e w1 ⟨rfl, hb1⟩; have HB1 : Hid (Below w.heap.size w w1) := up_trans (up_alloc (up_alloc (up1 w _) _) _) hb1; obtain ⟨K0, K1, K2, a0, a1, a2, a5, l0, l1, l2, l5⟩ := HW1.out w1 hb1; clear hb1))
 have HBX1 := Lib.hid (HBx.new w w1 HB1.out)
 have BW : Below w1.heap.size w1 ((w1.alloc (.cells #[] 134)).alloc (.cells #[.slice (some ⟨w1.heap.size, 0, none⟩) 0 0] 67)) := up_alloc (up1 w1 _) _
 have K0w := block_up BW K0.out
 have K1w := block_up BW K1.out
 have K2w := block_up BW K2.out
 generalize ((w1.alloc (.cells #[] 134)).alloc (.cells #[.slice (some ⟨w1.heap.size, 0, none⟩) 0 0] 67)) = W1 at *
 have HS : Hid (∀ w', Ot (w1.heap.size + 1) (w1.heap.size) W1 w' -> Below w.heap.size w w' -> w'.cell? ⟨w.heap.size, 0, none⟩ = some (.pointer (some ⟨g, 0, none⟩)) /\ w'.cell? ⟨w.heap.size, 1, none⟩ = some (.pointer pe) /\ w'.cell? ⟨w.heap.size + 1, 0, none⟩ = some (.pointer (some ⟨gv, 0, none⟩)) /\ w'.cell? ⟨gv, 2, none⟩ = some (.pointer px) /\ w'.cell? ⟨gv, 3, none⟩ = some (.pointer py) /\ w'.cell? ⟨w.heap.size + 2, 0, none⟩ = some (.string (St x0)) /\ w'.cell? ⟨w.heap.size + 2, 1, none⟩ = some (.pointer fr)) := fun w' h hbl => ⟨block_cell (h.block K0w (by omega) (by omega)) 0, block_cell (h.block K0w (by omega) (by omega)) 1, block_cell (h.block K1w (by omega) (by omega)) 0, block_cell (block_up hbl HBV.out) 2, block_cell (block_up hbl HBV.out) 3, block_cell (h.block K2w (by omega) (by omega)) 0, block_cell (h.block K2w (by omega) (by omega)) 1⟩
 obtain ⟨s0, s1, s2, s3, s7, s4, s5⟩ := HS.out W1 (Ot.refl _ _ _) HBX1.out.bel
 have HADD : Hid (∀ w3 gl cl us, Below W1.heap.size W1 w3 -> W1.heap.size <= gl -> RCells w3 (some ⟨gl, 0, none⟩) us -> HL w3 lst us -> Calls Tryz.prog 110 #[.slice (some ⟨gl, 0, none⟩) lst.length cl, .func (.func 115) #[] #[.pointer (some ⟨w.heap.size + 1, 0, none⟩)], .pointer (some ⟨w1.heap.size + 1, 0, none⟩)] w3 fun e w' => e = .returned (.tuple #[]) /\ ∃ g' c', HBx w (w1.heap.size + 1) g' c' out w' /\ Ot (w1.heap.size + 1) (w1.heap.size) W1 w' /\ (g' = w1.heap.size \/ W1.heap.size <= g')) := fun w3 gl cl us hb3 hgl hr hl => add_at 115 (fun args w => by go_simp) _ (fun z => V.l (.p z y)) HBX1.out hb3 hgl hr hl (by simp only [List.length_nil]; omega) (by rw [<- HOUT.out]; rfl) (fun w4 v4 p4 ho hbl hx4 => around_pl (w.heap.size + 1) gv y py v4 p4 w4 hx4 (HY.out.up hbl) (HS.out _ ho hbl).2.2.1 (block_cell (block_up hbl HBV.out) 3))
 refine wp_region_noPanic ?_
 refine wp_region_held_drew (S := (fun w' => w'.cell? ⟨w.heap.size, 0, none⟩ = some (.pointer (some ⟨g, 0, none⟩)) /\ w'.cell? ⟨w.heap.size, 1, none⟩ = some (.pointer pe) /\ w'.cell? ⟨w.heap.size + 1, 0, none⟩ = some (.pointer (some ⟨gv, 0, none⟩)) /\ w'.cell? ⟨gv, 2, none⟩ = some (.pointer px) /\ w'.cell? ⟨gv, 3, none⟩ = some (.pointer py) /\ w'.cell? ⟨w.heap.size + 2, 0, none⟩ = some (.string (St x0)) /\ w'.cell? ⟨w.heap.size + 2, 1, none⟩ = some (.pointer fr))) (by kernel_rfl) (by exact HS.out _ (.up (up_drew (Below.refl _ _))) (up_trans HBX1.out.bel (up_drew (Below.refl _ _)))) (fun hHeld => ?_)
 refine tq 0 rfl ?_
 refine tq 1 rfl ?_
 refine tq 3 rfl ?_
 refine tq 4 rfl ?_
 refine tq 5 rfl ?_
 refine tq 6 rfl ?_
 refine tq 7 rfl ?_
 refine tq 9 rfl ?_
 refine tz 2 rfl fun K hK => ?_
 go_simp
 go_at_call 111
 (with_reducible refine (HLf.out _ (up_trans HBX1.out.bel (up_drew (Below.refl _ _)))).mono ?_)
 rintro e w4 ⟨rfl, hb4⟩
 have HB4 : Hid (Below W1.heap.size W1 w4) := up_trans (up_drew (Below.refl _ _)) hb4
 clear hb4
 refine hK.out _ _ (by exact HS.out _ (.up HB4.out) (up_trans HBX1.out.bel HB4.out)) (fun hHeld => ?_)
 clear hK
 try simp only [Act.put, zA, zB, zC, zD, zE, zF]
 refine tz 8 rfl fun K hK => ?_
 go_simp
 go_at_call 53
 (with_reducible refine (HC.out _ (up_trans HBX1.out.bel HB4.out)).mono ?_)
 rintro e w5 ⟨hb5, gl, cl, us, rfl, hgl, hgl2, hrr, hll⟩
 have HB5 : Hid (Below W1.heap.size W1 w5) := up_trans HB4.out hb5
 have HGL : Hid (W1.heap.size <= gl) := Nat.le_trans (Below.size HB4.out) hgl
 have HRR := Lib.hid hrr
 have HLL := Lib.hid hll
 clear hb5 hgl hgl2 hrr hll
 refine hK.out _ _ (by exact HS.out _ (.up HB5.out) (up_trans HBX1.out.bel HB5.out)) (fun hHeld => ?_)
 clear hK
 try simp only [Act.put, zA, zB, zC, zD, zE, zF]
 refine tz 10 rfl fun K hK => ?_
 go_simp
 go_at_call 110
 (with_reducible refine (HADD.out _ _ _ _ HB5.out HGL.out HRR.out HLL.out).mono ?_)
 rintro e w6 ⟨rfl, g6, c6, hbx6, hot6, hgg6⟩
 have HBX6 := Lib.hid hbx6
 have HOT6 := Lib.hid hot6
 have HGG6 := Lib.hid hgg6
 have y0 := block_cell hbx6.2.2.1 0
 clear hbx6 hot6 hgg6
 refine hK.out _ _ (by exact HS.out _ HOT6.out HBX6.out.bel) (fun hHeld => ?_)
 clear hK
 try simp only [Act.put, zA, zB, zC, zD, zE, zF]
 refine wpAnyH_done (by kernel_rfl) ?_ _
 refine NoPanic.normal ?_
 clear HADD HS s0 s1 s2 s3 s4 s5 s7 y0
 have n0 : g6 ≠ w.heap.size := by have := HGG6.out; have := lt_of_block K0w; omega
 have n1 : g6 ≠ w.heap.size + 1 := by have := HGG6.out; have := lt_of_block K1w; omega
 have n2 : g6 ≠ w.heap.size + 2 := by have := HGG6.out; have := lt_of_block K2w; omega
 replace K0w := HOT6.out.block K0w (by omega) (by omega)
 replace K1w := HOT6.out.block K1w (by omega) (by omega)
 replace K2w := HOT6.out.block K2w (by omega) (by omega)
 clear HBX1 HB5 HGL HRR HLL HB4 HOT6 HGG6 BW
 have HS : Hid (∀ w', Ot (w1.heap.size + 1) (g6) w6 w' -> Below w.heap.size w w' -> w'.cell? ⟨w.heap.size, 0, none⟩ = some (.pointer (some ⟨g, 0, none⟩)) /\ w'.cell? ⟨w.heap.size, 1, none⟩ = some (.pointer pe) /\ w'.cell? ⟨w.heap.size + 1, 0, none⟩ = some (.pointer (some ⟨gv, 0, none⟩)) /\ w'.cell? ⟨gv, 2, none⟩ = some (.pointer px) /\ w'.cell? ⟨gv, 3, none⟩ = some (.pointer py) /\ w'.cell? ⟨w.heap.size + 2, 0, none⟩ = some (.string (St x0)) /\ w'.cell? ⟨w.heap.size + 2, 1, none⟩ = some (.pointer fr)) := fun w' h hbl => ⟨block_cell (h.block K0w (by omega) (by omega)) 0, block_cell (h.block K0w (by omega) (by omega)) 1, block_cell (h.block K1w (by omega) (by omega)) 0, block_cell (block_up hbl HBV.out) 2, block_cell (block_up hbl HBV.out) 3, block_cell (h.block K2w (by omega) (by omega)) 0, block_cell (h.block K2w (by omega) (by omega)) 1⟩
 obtain ⟨s0, s1, s2, s3, s7, s4, s5⟩ := HS.out w6 (Ot.refl _ _ _) HBX6.out.bel
 have HADD : Hid (∀ w3 gl cl us, Below w6.heap.size w6 w3 -> w6.heap.size <= gl -> RCells w3 (some ⟨gl, 0, none⟩) us -> HL w3 lst2 us -> Calls Tryz.prog 110 #[.slice (some ⟨gl, 0, none⟩) lst2.length cl, .func (.func 117) #[] #[.pointer (some ⟨w.heap.size + 1, 0, none⟩)], .pointer (some ⟨w1.heap.size + 1, 0, none⟩)] w3 fun e w' => e = .returned (.tuple #[]) /\ ∃ g' c', HBx w (w1.heap.size + 1) g' c' out2 w' /\ Ot (w1.heap.size + 1) (g6) w6 w' /\ (g' = g6 \/ w6.heap.size <= g')) := fun w3 gl cl us hb3 hgl hr hl => add_at 117 (fun args w => by go_simp) _ (fun z => V.r (.p x z)) HBX6.out hb3 hgl hr hl (by omega) HOUT2.out (fun w7 v4 p4 ho hbl hx4 => around_pr (w.heap.size + 1) gv x px v4 p4 w7 hx4 (HX.out.up hbl) (HS.out _ ho hbl).2.2.1 (block_cell (block_up hbl HBV.out) 2))
 go_wp2
 refine wp_region_noPanic ?_
 refine wp_region_held_drew (S := (fun w' => w'.cell? ⟨w.heap.size, 0, none⟩ = some (.pointer (some ⟨g, 0, none⟩)) /\ w'.cell? ⟨w.heap.size, 1, none⟩ = some (.pointer pe) /\ w'.cell? ⟨w.heap.size + 1, 0, none⟩ = some (.pointer (some ⟨gv, 0, none⟩)) /\ w'.cell? ⟨gv, 2, none⟩ = some (.pointer px) /\ w'.cell? ⟨gv, 3, none⟩ = some (.pointer py) /\ w'.cell? ⟨w.heap.size + 2, 0, none⟩ = some (.string (St x0)) /\ w'.cell? ⟨w.heap.size + 2, 1, none⟩ = some (.pointer fr))) (by kernel_rfl) (by exact HS.out _ (.up (up_drew (Below.refl _ _))) (up_trans HBX6.out.bel (up_drew (Below.refl _ _)))) (fun hHeld => ?_)
 refine tq 0 rfl ?_
 refine tq 1 rfl ?_
 refine tq 3 rfl ?_
 refine tq 4 rfl ?_
 refine tq 5 rfl ?_
 refine tq 6 rfl ?_
 refine tq 7 rfl ?_
 refine tq 9 rfl ?_
 refine tz 2 rfl fun K hK => ?_
 go_simp
 go_at_call 112
 (with_reducible refine (HRt.out _ (up_trans HBX6.out.bel (up_drew (Below.refl _ _)))).mono ?_)
 rintro e w7 ⟨rfl, hb4⟩
 have HB7 : Hid (Below w6.heap.size w6 w7) := up_trans (up_drew (Below.refl _ _)) hb4
 clear hb4
 refine hK.out _ _ (by exact HS.out _ (.up HB7.out) (up_trans HBX6.out.bel HB7.out)) (fun hHeld => ?_)
 clear hK
 try simp only [Act.put, zA, zB, zC, zD, zE, zF]
 refine tz 8 rfl fun K hK => ?_
 go_simp
 go_at_call 53
 (with_reducible refine (HC2.out _ (up_trans HBX6.out.bel HB7.out)).mono ?_)
 rintro e w8 ⟨hb5, gl, cl, us, rfl, hgl, hgl2, hrr, hll⟩
 have HB8 : Hid (Below w6.heap.size w6 w8) := up_trans HB7.out hb5
 have HGL : Hid (w6.heap.size <= gl) := Nat.le_trans (Below.size HB7.out) hgl
 have HRR := Lib.hid hrr
 have HLL := Lib.hid hll
 clear hb5 hgl hgl2 hrr hll
 refine hK.out _ _ (by exact HS.out _ (.up HB8.out) (up_trans HBX6.out.bel HB8.out)) (fun hHeld => ?_)
 clear hK
 try simp only [Act.put, zA, zB, zC, zD, zE, zF]
 refine tz 10 rfl fun K hK => ?_
 go_simp
 go_at_call 110
 (with_reducible refine (HADD.out _ _ _ _ HB8.out HGL.out HRR.out HLL.out).mono ?_)
 rintro e w9 ⟨rfl, g9, c9, hbx9, hot9, hgg9⟩
 have HBX9 := Lib.hid hbx9
 have HOT9 := Lib.hid hot9
 have HGG9 := Lib.hid hgg9
 have y9 := block_cell hbx9.2.2.1 0
 clear hbx9 hot9 hgg9
 refine hK.out _ _ (by exact HS.out _ HOT9.out HBX9.out.bel) (fun hHeld => ?_)
 clear hK
 try simp only [Act.put, zA, zB, zC, zD, zE, zF]
 refine wpAnyH_done (by kernel_rfl) ?_ _
 refine NoPanic.normal ?_
 go_wp2
 exact HQ.out _ _ _ _ HBX9.out
theorem hol_loop (v : V) (a : Ty) (hsub : ∀ v' : V, v'.nodes < v.nodes -> ∀ t, HolC v' t) : HolC v (.loop a) := by
 rintro env w p pe pv tg x0 fr ht he hv hs hbs hd hg hty hnd
 obtain ⟨pa, ⟨g, rfl, hb⟩, ha⟩ := id ht
 have HAT : Hid (∀ w1, Below w.heap.size w w1 -> Calls Tryz.prog 109 #[.agg #[.string (St x0), .pointer fr], .agg #[.pointer (some ⟨g, 0, none⟩), .pointer pe]] w1 fun e w' => e = .returned (.bool (tg.at (.loop a))) /\ Below w1.heap.size w1 w') := fun w1 h => isAt_any (.loop a) env _ pe tg x0 fr w1 (ht.up h) (he.up h) hs hbs hd hg
 have hat : tg.at (.loop a) = false := by cases tg <;> rfl
 rw [hat] at HAT
 obtain ⟨x, rfl⟩ : ∃ x, v = .f x := by cases v <;> first | exact ⟨_, rfl⟩ | cases hty
 obtain ⟨px, ⟨gv, rfl, hbv⟩, hx⟩ := hv
 have hty2 : x.isOf 100 (.loop a :: env.map (·.1)) a = true := hty
 have HW1 : Hid (∀ w1, Below (((w.alloc (.cells #[.pointer (some ⟨g, 0, none⟩), .pointer pe] 71)).alloc (.cells #[.pointer (some ⟨gv, 0, none⟩)] 63)).alloc (.cells #[.string (St x0), .pointer fr] 74)).heap.size (((w.alloc (.cells #[.pointer (some ⟨g, 0, none⟩), .pointer pe] 71)).alloc (.cells #[.pointer (some ⟨gv, 0, none⟩)] 63)).alloc (.cells #[.string (St x0), .pointer fr] 74)) w1 -> Hid (w1.heap[w.heap.size]? = some (.cells #[.pointer (some ⟨g, 0, none⟩), .pointer pe] 71 (0, 0))) /\ Hid (w1.heap[w.heap.size + 1]? = some (.cells #[.pointer (some ⟨gv, 0, none⟩)] 63 (0, 0))) /\ Hid (w1.heap[w.heap.size + 2]? = some (.cells #[.string (St x0), .pointer fr] 74 (0, 0))) /\ w1.cell? ⟨w.heap.size, 0, none⟩ = some (.pointer (some ⟨g, 0, none⟩)) /\ w1.cell? ⟨w.heap.size, 1, none⟩ = some (.pointer pe) /\ w1.cell? ⟨w.heap.size + 1, 0, none⟩ = some (.pointer (some ⟨gv, 0, none⟩)) /\ w1.cell? ⟨g, 0, none⟩ = some (.int .u8 114) /\ w.heap.size < w1.heap.size /\ w.heap.size + 1 < w1.heap.size /\ w.heap.size + 2 < w1.heap.size /\ g < w1.heap.size) := fun w1 h => by
  obtain ⟨k0, k1, k2⟩ := box3 w (.cells #[.pointer (some ⟨g, 0, none⟩), .pointer pe] 71) (.cells #[.pointer (some ⟨gv, 0, none⟩)] 63) (.cells #[.string (St x0), .pointer fr] 74)
  have k0 := block_up h k0
  have k1 := block_up h k1
  have k2 := block_up h k2
  have k3 := block_up (up_trans (up_alloc (up_alloc (up1 w _) _) _) h) hb
  exact ⟨k0, k1, k2, block_cell k0 0, block_cell k0 1, block_cell k1 0, block_cell k3 0, lt_of_block k0, lt_of_block k1, lt_of_block k2, lt_of_block k3⟩
 rw [hol_f]
 have HI : Hid (∀ w1, Below w.heap.size w w1 -> Calls Tryz.prog 118 #[.agg #[.pointer (some ⟨g, 0, none⟩), .pointer pe]] w1 (InPost w1 (.loop a) pa env)) := fun w1 h => inside_any g 114 [] 0 pa none pe w1 (.loop a) env (block_up h hb) (ht.up h) (he.up h)
 have hnew : ∀ f, w.heap.size <= f -> (((Ty.loop a, f) :: env).map (·.2)).Nodup := fun f hf => by
  rw [List.map_cons, List.nodup_cons]
  refine ⟨fun hm => ?_, hd⟩
  obtain ⟨e, hem, he2⟩ := List.mem_map.1 hm
  have h1 := he.lt e hem
  have he2 : e.2 = f := he2
  omega
 have HC : Hid (∀ w1 f' g', Below w.heap.size w w1 -> w.heap.size <= f' -> FAt w1 ((.loop a, f') :: env) (some ⟨g', 0, none⟩) -> Calls Tryz.prog 53 #[.agg #[.pointer pa, .pointer (some ⟨g', 0, none⟩)], .pointer px, .agg #[.string (St x0), .pointer fr]] w1 (HPost w1 (hol a tg.up x))) := fun w1 f' g' h hf hF => hsub x (by simp only [V.nodes]; omega) a ((.loop a, f') :: env) w1 pa (some ⟨g', 0, none⟩) px tg.up x0 fr (ha.up h) hF (hx.up h) hs hbs (hnew f' hf) (hg.up _) hty2 (by simp only [V.nodes] at hnd; omega)
 have HCK : Hid (∀ w1 f' g', Below w.heap.size w w1 -> w.heap.size <= f' -> FAt w1 ((.loop a, f') :: env) (some ⟨g', 0, none⟩) -> Calls Tryz.prog 53 #[.agg #[.pointer pa, .pointer (some ⟨g', 0, none⟩)], .pointer px, .agg #[.string ⟨#[]⟩, .pointer (some ⟨f', 0, none⟩)]] w1 (HPost w1 (hol a (.bd 0) x))) := fun w1 f' g' h hf hF => hsub x (by simp only [V.nodes]; omega) a ((.loop a, f') :: env) w1 pa (some ⟨g', 0, none⟩) px (.bd 0) [] (some ⟨f', 0, none⟩) (ha.up h) hF (hx.up h) hs hbs (hnew f' hf) ⟨(.loop a, f'), rfl, rfl⟩ hty2 (by simp only [V.nodes] at hnd; omega)
 have HCR : Hid (∀ k ∈ hol a (.bd 0) x, ∀ w1 q, Below w.heap.size w w1 -> VAt w1 k.2 q -> Calls Tryz.prog 53 #[.agg #[.pointer (some ⟨g, 0, none⟩), .pointer pe], .pointer q, .agg #[.string (St x0), .pointer fr]] w1 (HPost w1 (hol (.loop a) tg k.2))) := fun k hk w1 q h hq => hsub k.2 (by have := hol_size hk; simp only [V.nodes]; omega) (.loop a) env w1 (some ⟨g, 0, none⟩) pe q tg x0 fr (ht.up h) (he.up h) hq hs hbs hd hg (by have := hol_isOf hty2 hk; rwa [isOf_bd0] at this) (by have := hol_size hk; simp only [V.nodes] at hnd; omega)
 have hln9 : (hol a tg.up x).length <= 100000 := by have := hol_len a tg.up x; simp only [V.nodes] at hnd; omega
 have hkn9 : (hol a (.bd 0) x).length <= 100000 := by have := hol_len a (.bd 0) x; simp only [V.nodes] at hnd; omega
 have htot : (((hol a tg.up x).map fun h => (V.f (.l h.1), h.2)) ++ (hol a (.bd 0) x).flatMap fun k => (hol (.loop a) tg k.2).map fun h => (V.f (.r (.p k.1 h.1)), h.2)).length <= 100000 := by
  rw [<- hol_f]
  exact Nat.le_trans (hol_len _ _ _) hnd
 generalize hout : ((hol a tg.up x).map fun h => (V.f (.l h.1), h.2)) = out at *
 generalize hol a tg.up x = lst at *
 generalize hkids : hol a (.bd 0) x = kids at *
 have HQ : Hid (∀ w' b g' c', HBx w b g' c' (out ++ kids.flatMap fun k => (hol (.loop a) tg k.2).map fun h => (V.f (.r (.p k.1 h.1)), h.2)) w' -> HPost w (out ++ kids.flatMap fun k => (hol (.loop a) tg k.2).map fun h => (V.f (.r (.p k.1 h.1)), h.2)) (.returned (.slice (some ⟨g', 0, none⟩) (out ++ kids.flatMap fun k => (hol (.loop a) tg k.2).map fun h => (V.f (.r (.p k.1 h.1)), h.2)).length c')) w') := fun w' b g' c' h => h.post
 have HV : Hid (∀ w', Below w.heap.size w w' -> w'.cell? ⟨gv, 0, none⟩ = some (.int .u8 102) /\ gv < w'.heap.size) := fun w' h => ⟨block_cell (block_up h hbv) 0, lt_of_block (block_up h hbv)⟩
 have HBV := Lib.hid hbv
 have HOUT := Lib.hid hout
 have HTOT := Lib.hid htot
 generalize hQ : HPost w (out ++ kids.flatMap fun k => (hol (.loop a) tg k.2).map fun h => (V.f (.r (.p k.1 h.1)), h.2)) = Q at *
 clear hb ht he hs hbs hd hg hty hty2 hnd hat hsub ha hx hout hbv hkids htot hnew hQ
 go_enter Tryz.func53, Tryz.ntmps53
 go_wp2_with (first
  | (go_at_call 109; (with_reducible refine (HAT.out _ (up_alloc (up_alloc (up1 w _) _) _)).mono ?_); rintro e w1 ⟨rfl, hb1⟩; have HB1 : Hid (Below w.heap.size w w1) := up_trans (up_alloc (up_alloc (up1 w _) _) _) hb1; obtain ⟨K0, K1, K2, a0, a1, a2, a5, l0, l1, l2, l5⟩ := HW1.out w1 hb1; clear hb1)
  | (go_at_call 118; (with_reducible refine (HI.out _ (up_alloc (up_alloc HB1.out _) _)).mono ?_); rintro e w2 ⟨f2, g2, rfl, hf1, hf2, hF, hb2⟩; have HB2 : Hid (Below w1.heap.size w1 w2) := up_trans (up_alloc (up1 w1 _) _) hb2; have HBX2 := Lib.hid ((HBx.new w w1 HB1.out).up hb2); have K0' := Lib.hid (block_up HB2.out K0.out); have K1' := Lib.hid (block_up HB2.out K1.out); have K2' := Lib.hid (block_up HB2.out K2.out); have hsz2 := lt_of_block HBX2.out.2.2.1; have HF := Lib.hid hF; have HF1 : Hid (w.heap.size <= f2) := Nat.le_trans (up_alloc (up_alloc HB1.out (.cells #[] 134)) (.cells #[.slice (some ⟨w1.heap.size, 0, none⟩) 0 0] 67)).size hf1; clear hb2 hF hf1 hf2))
 have BW := up1 w2 (.cells #[.pointer pa, .pointer (some ⟨g2, 0, none⟩)] 71)
 have CW := block_new w2 (.cells #[.pointer pa, .pointer (some ⟨g2, 0, none⟩)] 71)
 have HBX1 := Lib.hid (HBX2.out.up BW)
 have K0w := block_up BW K0'.out
 have K1w := block_up BW K1'.out
 have K2w := block_up BW K2'.out
 have HFW := Lib.hid (HF.out.up BW)
 generalize (w2.alloc (.cells #[.pointer pa, .pointer (some ⟨g2, 0, none⟩)] 71)) = W1 at *
 have HS : Hid (∀ w', Ot (w1.heap.size + 1) (w1.heap.size) W1 w' -> Below w.heap.size w w' -> w'.cell? ⟨w2.heap.size, 0, none⟩ = some (.pointer pa) /\ w'.cell? ⟨w2.heap.size, 1, none⟩ = some (.pointer (some ⟨g2, 0, none⟩)) /\ w'.cell? ⟨w.heap.size + 1, 0, none⟩ = some (.pointer (some ⟨gv, 0, none⟩)) /\ w'.cell? ⟨gv, 2, none⟩ = some (.pointer px) /\ w'.cell? ⟨w.heap.size + 2, 0, none⟩ = some (.string (St x0)) /\ w'.cell? ⟨w.heap.size + 2, 1, none⟩ = some (.pointer fr) /\ w'.cell? ⟨w.heap.size, 0, none⟩ = some (.pointer (some ⟨g, 0, none⟩)) /\ w'.cell? ⟨w.heap.size, 1, none⟩ = some (.pointer pe)) := fun w' h hbl => ⟨block_cell (h.block CW (by omega) (by omega)) 0, block_cell (h.block CW (by omega) (by omega)) 1, block_cell (h.block K1w (by omega) (by omega)) 0, block_cell (block_up hbl HBV.out) 2, block_cell (h.block K2w (by omega) (by omega)) 0, block_cell (h.block K2w (by omega) (by omega)) 1, block_cell (h.block K0w (by omega) (by omega)) 0, block_cell (h.block K0w (by omega) (by omega)) 1⟩
 obtain ⟨s0, s1, s2, s3, s4, s5, s6, s7⟩ := HS.out W1 (Ot.refl _ _ _) HBX1.out.bel
 have HC1 : Hid (∀ w3, Below W1.heap.size W1 w3 -> Calls Tryz.prog 53 #[.agg #[.pointer pa, .pointer (some ⟨g2, 0, none⟩)], .pointer px, .agg #[.string (St x0), .pointer fr]] w3 (HPost w3 lst)) := fun w3 h => HC.out w3 f2 g2 (up_trans HBX1.out.bel h) HF1.out (HFW.out.up h)
 have HADD : Hid (∀ w3 gl cl us, Below W1.heap.size W1 w3 -> W1.heap.size <= gl -> RCells w3 (some ⟨gl, 0, none⟩) us -> HL w3 lst us -> Calls Tryz.prog 110 #[.slice (some ⟨gl, 0, none⟩) lst.length cl, .func (.func 119) #[] #[], .pointer (some ⟨w1.heap.size + 1, 0, none⟩)] w3 fun e w' => e = .returned (.tuple #[]) /\ ∃ g' c', HBx w (w1.heap.size + 1) g' c' out w' /\ Ot (w1.heap.size + 1) (w1.heap.size) W1 w' /\ (g' = w1.heap.size \/ W1.heap.size <= g')) := fun w3 gl cl us hb3 hgl hr hl => add_at0 119 (fun args w => by go_simp) none (fun z => V.f (.l z)) HBX1.out hb3 hgl hr hl (by simp only [List.length_nil]; omega) (by rw [<- HOUT.out]; rfl) (fun w4 v4 p4 ho hbl hx4 => around_f v4 p4 w4 hx4)
 refine wp_region_noPanic ?_
 refine wp_region_held_drew (S := (fun w' => w'.cell? ⟨w2.heap.size, 0, none⟩ = some (.pointer pa) /\ w'.cell? ⟨w2.heap.size, 1, none⟩ = some (.pointer (some ⟨g2, 0, none⟩)) /\ w'.cell? ⟨w.heap.size + 1, 0, none⟩ = some (.pointer (some ⟨gv, 0, none⟩)) /\ w'.cell? ⟨gv, 2, none⟩ = some (.pointer px) /\ w'.cell? ⟨w.heap.size + 2, 0, none⟩ = some (.string (St x0)) /\ w'.cell? ⟨w.heap.size + 2, 1, none⟩ = some (.pointer fr) /\ w'.cell? ⟨w.heap.size, 0, none⟩ = some (.pointer (some ⟨g, 0, none⟩)) /\ w'.cell? ⟨w.heap.size, 1, none⟩ = some (.pointer pe))) (by kernel_rfl) (by exact HS.out _ (.up (up_drew (Below.refl _ _))) (up_trans HBX1.out.bel (up_drew (Below.refl _ _)))) (fun hHeld => ?_)
 refine tq 0 rfl ?_
 refine tq 1 rfl ?_
 refine tq 2 rfl ?_
 refine tq 3 rfl ?_
 refine tq 4 rfl ?_
 refine tq 5 rfl ?_
 refine tq 6 rfl ?_
 refine tz 7 rfl fun K hK => ?_
 go_simp
 go_at_call 53
 (with_reducible refine (HC1.out _ (up_drew (Below.refl _ _))).mono ?_)
 rintro e w5 ⟨hb5, gl, cl, us, rfl, hgl, hgl2, hrr, hll⟩
 have HB5 : Hid (Below W1.heap.size W1 w5) := up_trans (up_drew (Below.refl _ _)) hb5
 have HGL : Hid (W1.heap.size <= gl) := Nat.le_trans (Below.size (up_drew (Below.refl _ _))) hgl
 have HRR := Lib.hid hrr
 have HLL := Lib.hid hll
 clear hb5 hgl hgl2 hrr hll
 refine hK.out _ _ (by exact HS.out _ (.up HB5.out) (up_trans HBX1.out.bel HB5.out)) (fun hHeld => ?_)
 clear hK
 try simp only [Act.put, zA, zB, zC, zD, zE, zF]
 refine tz 8 rfl fun K hK => ?_
 go_simp
 go_at_call 110
 (with_reducible refine (HADD.out _ _ _ _ HB5.out HGL.out HRR.out HLL.out).mono ?_)
 rintro e w6 ⟨rfl, g6, c6, hbx6, hot6, hgg6⟩
 have HBX6 := Lib.hid hbx6
 have HOT6 := Lib.hid hot6
 have HGG6 := Lib.hid hgg6
 have y0 := block_cell hbx6.2.2.1 0
 clear hbx6 hot6 hgg6
 refine hK.out _ _ (by exact HS.out _ HOT6.out HBX6.out.bel) (fun hHeld => ?_)
 clear hK
 try simp only [Act.put, zA, zB, zC, zD, zE, zF]
 refine wpAnyH_done (by kernel_rfl) ?_ _
 refine NoPanic.normal ?_
 clear HADD s0 s1 s2 s3 s4 s5 s6 s7 y0
 have n0 : g6 ≠ w.heap.size := by have := HGG6.out; have := lt_of_block K0w; omega
 have n1 : g6 ≠ w.heap.size + 1 := by have := HGG6.out; have := lt_of_block K1w; omega
 have n2 : g6 ≠ w.heap.size + 2 := by have := HGG6.out; have := lt_of_block K2w; omega
 have n3 : g6 ≠ w2.heap.size := by have := HGG6.out; have := lt_of_block CW; omega
 have hgw : g6 < w6.heap.size := by obtain ⟨⟨cur, e⟩, _, _⟩ := HBX6.out.row; exact lt_of_block e
 have K0y := HOT6.out.block K0w (by omega) (by omega)
 have K1y := HOT6.out.block K1w (by omega) (by omega)
 have K2y := HOT6.out.block K2w (by omega) (by omega)
 have CWy := HOT6.out.block CW (by omega) (by omega)
 have HFy : Hid (FAt w6 ((.loop a, f2) :: env) (some ⟨g2, 0, none⟩)) := HFW.out.kp (HBX1.out.kp HOT6.out)
 clear HFW HBX1 HB5 HGL HRR HLL HOT6 HGG6 BW K0w K1w K2w CW
 have HS17 : Hid (∀ w', Ot (w1.heap.size + 1) g6 w6 w' -> Below w.heap.size w w' -> w'.cell? ⟨w2.heap.size, 0, none⟩ = some (.pointer pa) /\ w'.cell? ⟨w2.heap.size, 1, none⟩ = some (.pointer (some ⟨g2, 0, none⟩)) /\ w'.cell? ⟨w.heap.size + 1, 0, none⟩ = some (.pointer (some ⟨gv, 0, none⟩)) /\ w'.cell? ⟨gv, 2, none⟩ = some (.pointer px) /\ w'.cell? ⟨w.heap.size + 2, 0, none⟩ = some (.string (St x0)) /\ w'.cell? ⟨w.heap.size + 2, 1, none⟩ = some (.pointer fr) /\ w'.cell? ⟨w.heap.size, 0, none⟩ = some (.pointer (some ⟨g, 0, none⟩)) /\ w'.cell? ⟨w.heap.size, 1, none⟩ = some (.pointer pe)) := fun w' h hbl => ⟨block_cell (h.block CWy (by omega) (by omega)) 0, block_cell (h.block CWy (by omega) (by omega)) 1, block_cell (h.block K1y (by omega) (by omega)) 0, block_cell (block_up hbl HBV.out) 2, block_cell (h.block K2y (by omega) (by omega)) 0, block_cell (h.block K2y (by omega) (by omega)) 1, block_cell (h.block K0y (by omega) (by omega)) 0, block_cell (h.block K0y (by omega) (by omega)) 1⟩
 obtain ⟨s0, s1, s2, s3, _⟩ := HS17.out w6 (Ot.refl _ _ _) HBX6.out.bel
 have HC2 : Hid (∀ w3, Below w6.heap.size w6 w3 -> Calls Tryz.prog 53 #[.agg #[.pointer pa, .pointer (some ⟨g2, 0, none⟩)], .pointer px, .agg #[.string ⟨#[]⟩, .pointer (some ⟨f2, 0, none⟩)]] w3 (HPost w3 kids)) := fun w3 h => HCK.out w3 f2 g2 (up_trans HBX6.out.bel h) HF1.out (HFy.out.up h)
 clear K0y K1y K2y CWy
 go_wp2
 refine wp_region_noPanic ?_
 refine wp_region_held_drew (S := (fun w' => w'.cell? ⟨w2.heap.size, 0, none⟩ = some (.pointer pa) /\ w'.cell? ⟨w2.heap.size, 1, none⟩ = some (.pointer (some ⟨g2, 0, none⟩)) /\ w'.cell? ⟨w.heap.size + 1, 0, none⟩ = some (.pointer (some ⟨gv, 0, none⟩)) /\ w'.cell? ⟨gv, 2, none⟩ = some (.pointer px))) (by kernel_rfl) (by obtain ⟨t0, t1, t2, t3, _⟩ := HS17.out _ (.up (up_drew (Below.refl _ _))) (up_trans HBX6.out.bel (up_drew (Below.refl _ _))); exact ⟨t0, t1, t2, t3⟩) (fun hHeld => ?_)
 refine tq 0 rfl ?_
 refine tq 1 rfl ?_
 refine tq 2 rfl ?_
 refine tq 3 rfl ?_
 refine tq 4 rfl ?_
 refine tq 5 rfl ?_
 refine tq 6 rfl ?_
 refine tq 9 rfl ?_
 refine tz 7 rfl fun K hK => ?_
 go_simp
 go_at_call 53
 (with_reducible refine (HC2.out _ (up_drew (Below.refl _ _))).mono ?_)
 rintro e w8 ⟨hb8, gq, ck, usk, rfl, hgk, hgk2, hrk, hlk⟩
 have HB8 : Hid (Below w6.heap.size w6 w8) := up_trans (up_drew (Below.refl _ _)) hb8
 have HGK : Hid (w6.heap.size <= gq /\ gq < w8.heap.size) := ⟨Nat.le_trans (Below.size (up_drew (Below.refl _ _))) hgk, hgk2⟩
 have HRK := Lib.hid hrk
 have HLK := Lib.hid hlk
 clear hb8 hgk hgk2 hrk hlk
 refine hK.out _ _ (by obtain ⟨t0, t1, t2, t3, _⟩ := HS17.out _ (.up HB8.out) (up_trans HBX6.out.bel HB8.out); exact ⟨t0, t1, t2, t3⟩) (fun hHeld => ?_)
 clear hK
 try simp only [Act.put, zA, zB, zC, zD, zE, zF]
 refine tq 8 rfl ?_
 refine wpAnyH_done (by kernel_rfl) ?_ _
 refine NoPanic.normal ?_
 clear s0 s1 s2 s3
 have HBX8 := Lib.hid (HBX6.out.up HB8.out)
 have HS8 : Hid (∀ w', Ot (w1.heap.size + 1) g6 w8 w' -> Below w.heap.size w w' -> w'.cell? ⟨w2.heap.size, 0, none⟩ = some (.pointer pa) /\ w'.cell? ⟨w2.heap.size, 1, none⟩ = some (.pointer (some ⟨g2, 0, none⟩)) /\ w'.cell? ⟨w.heap.size + 1, 0, none⟩ = some (.pointer (some ⟨gv, 0, none⟩)) /\ w'.cell? ⟨gv, 2, none⟩ = some (.pointer px) /\ w'.cell? ⟨w.heap.size + 2, 0, none⟩ = some (.string (St x0)) /\ w'.cell? ⟨w.heap.size + 2, 1, none⟩ = some (.pointer fr) /\ w'.cell? ⟨w.heap.size, 0, none⟩ = some (.pointer (some ⟨g, 0, none⟩)) /\ w'.cell? ⟨w.heap.size, 1, none⟩ = some (.pointer pe)) := fun w' h hbl => HS17.out w' ((Ot.up HB8.out).trans (.inl rfl) h) hbl
 have HNE : Hid (∀ k o, (some ⟨gq, 0, none⟩ : Option Addr) = some ⟨k, o, none⟩ -> k ≠ w1.heap.size + 1 /\ k ≠ g6) := fun k o h => by
  cases h
  have := HGK.out
  have := lt_of_block HBX6.out.2.2.1
  omega
 generalize hkl : kids.length = nk at *
 have HKL := Lib.hid hkl
 clear hkl HS17 HBX6 HB8 HC1 HC2 HC HCK HI HFy
 go_wp2
 go_loopg [99] nk (fun m v99 wr => ∃ i : Nat, v99 = .int .i64 i /\ Hid (m + i = nk) /\ Hid (∃ g' c', HBx w (w1.heap.size + 1) g' c' (out ++ (kids.take i).flatMap fun k => (hol (.loop a) tg k.2).map fun h => (V.f (.r (.p k.1 h.1)), h.2)) wr /\ Ot (w1.heap.size + 1) g6 w8 wr /\ (g' = g6 \/ w8.heap.size <= g')))
 case atStart => exact ⟨0, rfl, rfl, g6, c6, by simpa using HBX8.out, Ot.refl _ _ _, .inl rfl⟩
 case round =>
  obtain ⟨i, rfl, HM, HB⟩ := hrel
  have hm := HM.out
  cases gk with
  | zero =>
   have h1 : decide (i < nk) = false := decide_eq_false (by omega)
   obtain ⟨g', c', hbx, _, _⟩ := HB.out
   rw [List.take_of_length_le (by rw [HKL.out]; omega)] at hbx
   have HBXE := Lib.hid hbx
   generalize (out ++ kids.flatMap fun k => (hol (.loop a) tg k.2).map fun h => (V.f (.r (.p k.1 h.1)), h.2)) = fin at *
   have y0 := block_cell hbx.2.2.1 0
   clear HM hm HB hbx HTOT
   go_wp2
   exact HQ.out _ _ _ _ HBXE.out
  | succ m =>
   have h1 : decide (i < nk) = true := decide_eq_true (by omega)
   have hin : i < nk := by omega
   obtain ⟨g', c', hbx, hot, hgg⟩ := HB.out
   have hkp := HBX8.out.kp hot
   have hrow := hot.cells HRK.out HNE.out
   obtain ⟨kk, hik⟩ : ∃ kk, kids[i]? = some kk := ⟨_, List.getElem?_eq_getElem (by rw [HKL.out]; exact hin)⟩
   obtain ⟨p, q, u1, u2, hp, hq⟩ := (HLK.out.keep hkp.vl).get i kk hik
   have hc : ∀ j u, usk[j]? = some u -> wr.cell? ⟨gq, 0 + j, none⟩ = some u := by
    rcases hrow with h | ⟨gl, ol, h, h'⟩
    · rw [h] at u1; simp at u1
    · cases h; exact h'
   have d1 := hc _ _ u1
   have d2 := hc _ _ u2
   rw [Nat.mul_comm 2 i] at d1 d2
   have d3 : wr.cell? ⟨gq, 0 + i * 2 + 1, none⟩ = some (.pointer q) := by rw [Nat.add_assoc]; exact d2
   have d4 : wr.cell? ⟨gq, i * 2, none⟩ = some (.pointer p) := by rw [Nat.zero_add] at d1; exact d1
   have d5 : wr.cell? ⟨gq, i * 2 + 1, none⟩ = some (.pointer q) := by rw [Nat.zero_add] at d2; exact d2
   have hmem : kk ∈ kids := List.mem_of_getElem? hik
   have HCR1 := Lib.hid fun w1 q h1 h2 => HCR.out kk hmem w1 q h1 h2
   have hln : (hol (.loop a) tg kk.2).length + (out ++ (kids.take i).flatMap fun k => (hol (.loop a) tg k.2).map fun h => (V.f (.r (.p k.1 h.1)), h.2)).length <= 100000 := by
    have h9 := HTOT.out
    have hsp := List.take_append_drop i kids
    have hdr : kids.drop i = kk :: kids.drop (i + 1) := by
     rw [List.drop_eq_getElem_cons (by rw [HKL.out]; exact hin)]
     congr 1
     have := (List.getElem?_eq_some_iff.1 hik).2
     exact this
    rw [<- hsp, hdr] at h9
    simp only [List.length_append, List.flatMap_append, List.flatMap_cons, List.length_map] at h9 ⊢
    omega
   generalize hacc : (out ++ (kids.take i).flatMap fun k => (hol (.loop a) tg k.2).map fun h => (V.f (.r (.p k.1 h.1)), h.2)) = acc at *
   have htk : (acc ++ (hol (.loop a) tg kk.2).map fun h => (V.f (.r (.p kk.1 h.1)), h.2)) = out ++ (kids.take (i + 1)).flatMap fun k => (hol (.loop a) tg k.2).map fun h => (V.f (.r (.p k.1 h.1)), h.2) := by
    rw [<- hacc, List.take_add_one, hik]
    simp [List.flatMap_append]
   have HNEXT : Hid (∀ w4 g2 c2', HBx w (w1.heap.size + 1) g2 c2' (acc ++ (hol (.loop a) tg kk.2).map fun h => (V.f (.r (.p kk.1 h.1)), h.2)) w4 -> Ot (w1.heap.size + 1) g' wr w4 -> (g2 = g' \/ wr.heap.size <= g2) -> ∃ g' c', HBx w (w1.heap.size + 1) g' c' (out ++ (kids.take (i + 1)).flatMap fun k => (hol (.loop a) tg k.2).map fun h => (V.f (.r (.p k.1 h.1)), h.2)) w4 /\ Ot (w1.heap.size + 1) g6 w8 w4 /\ (g' = g6 \/ w8.heap.size <= g')) := fun w4 g2 c2' k1 k2 k3 => by
    rw [htk] at k1
    refine ⟨g2, c2', k1, hot.trans hgg k2, ?_⟩
    have := hot.size
    omega
   generalize hout3 : (acc ++ (hol (.loop a) tg kk.2).map fun h => (V.f (.r (.p kk.1 h.1)), h.2)) = acc2 at *
   have HOUT3 := Lib.hid hout3
   generalize hol (.loop a) tg kk.2 = lst3 at *
   have hgw9 : g' < wr.heap.size := by obtain ⟨⟨cur, e⟩, _, _⟩ := hbx.row; exact lt_of_block e
   have hbw9 := lt_of_block hbx.2.2.1
   have HBXW := Lib.hid hbx
   have HOT9 := Lib.hid hot
   have HGG9 := Lib.hid hgg
   have HPP := Lib.hid hp
   have HQQ := Lib.hid hq
   obtain ⟨_, _, s2, s3, s4, s5, s6, s7⟩ := HS8.out wr hot hbx.bel
   have lk : gq < wr.heap.size := World.block_lt_of_cell? wr _ d4
   have t0 : w.heap.size < wr.heap.size := World.block_lt_of_cell? wr _ s6
   have t2 : w.heap.size + 2 < wr.heap.size := World.block_lt_of_cell? wr _ s4
   have HBXA := Lib.hid (HBXW.out.up (up1 wr (.cells #[.pointer p, .pointer q] 134)))
   have HADDK : Hid (∀ w3 gl cl us, Below (wr.alloc (.cells #[.pointer p, .pointer q] 134)).heap.size (wr.alloc (.cells #[.pointer p, .pointer q] 134)) w3 -> (wr.alloc (.cells #[.pointer p, .pointer q] 134)).heap.size <= gl -> RCells w3 (some ⟨gl, 0, none⟩) us -> HL w3 lst3 us -> Calls Tryz.prog 110 #[.slice (some ⟨gl, 0, none⟩) lst3.length cl, .func (.func 120) #[] #[.pointer (some ⟨wr.heap.size, 0, none⟩)], .pointer (some ⟨w1.heap.size + 1, 0, none⟩)] w3 fun e w' => e = .returned (.tuple #[]) /\ ∃ g2 c2, HBx w (w1.heap.size + 1) g2 c2 acc2 w' /\ Ot (w1.heap.size + 1) g' wr w' /\ (g2 = g' \/ wr.heap.size <= g2)) := fun w3 gl cl us hb3 hgl hr hl =>
    (add_at 120 (fun args w => by go_simp) _ (fun z => V.f (.r (.p kk.1 z))) HBXA.out hb3 hgl hr hl (by omega) HOUT3.out (fun w5 v4 p4 ho hbl hx4 => around_k wr.heap.size kk.1 p v4 p4 w5 hx4 ((HPP.out.up (up1 wr _)).keep (HBXA.out.kp ho).vl) (block_cell (ho.block (block_new wr _) (by omega) (by omega)) 0))).mono fun e w' ⟨he, g2, c2, k1, k2, k3⟩ => ⟨he, g2, c2, k1, (Ot.up (up1 wr _)).trans (.inl rfl) k2, by have h9 : (wr.alloc (.cells #[.pointer p, .pointer q] 134)).heap.size = wr.heap.size + 1 := (by simp); omega⟩
   clear hbx hot hgg hkp hrow hik hp hq hc u1 u2 hmem htk hacc hout3 HM HB HTOT
   go_wp2_with (first
    | (go_at_call 53; (with_reducible refine (HCR1.out _ _ (up_alloc HBXW.out.bel _) (HQQ.out.up (up1 _ _))).mono ?_); rintro e w4 ⟨hb4, gl, cl, us, rfl, hgl, hgl2, hrr, hll⟩; have HB4 := Lib.hid hb4; have HGL := Lib.hid hgl; have HRR := Lib.hid hrr; have HLL := Lib.hid hll; clear hb4 hgl hgl2 hrr hll)
    | (go_at_call 110; (with_reducible refine (HADDK.out _ _ _ _ HB4.out HGL.out HRR.out HLL.out).mono ?_); rintro e w5 ⟨rfl, g9, c9, hbx9, hot9, hgg9⟩; have HEND := Lib.hid (HNEXT.out _ _ _ hbx9 hot9 hgg9); clear hbx9 hot9 hgg9))
   go_roundg m
   case measure => omega
   case rel => exact ⟨i + 1, rfl, by show m + (i + 1) = nk; omega, HEND.out⟩
theorem hol_any : ∀ (N : Nat) (v : V), v.nodes <= N -> ∀ t : Ty, HolC v t := by
 intro N
 induction N with
 | zero => intro v h; have := V.pos v; omega
 | succ N ih =>
  intro v h t
  have hsub : ∀ v' : V, v'.nodes < v.nodes -> ∀ t, HolC v' t := fun v' h' => ih v' (by omega)
  cases t with
  | zero => exact hol_leaf v .zero 48 [] 0 (by simp) (by simp) (by simp) (by decide) fun w p h => h
  | one => exact hol_leaf v .one 49 [] 0 (by simp) (by simp) (by simp) (by decide) fun w p h => h
  | name x => exact hol_leaf v (.name x) 110 x 0 (by simp) (by simp) (by simp) (by decide) fun w p h => h
  | bound k => exact hol_leaf v (.bound k) 98 [] k (by simp) (by simp) (by simp) (by decide) fun w p h => h
  | sum a b => exact hol_sum v a b hsub
  | prod a b => exact hol_prod v a b hsub
  | loop a => exact hol_loop v a hsub
end Go.Proofs.YtpokompplapkhaaGreatDoor

