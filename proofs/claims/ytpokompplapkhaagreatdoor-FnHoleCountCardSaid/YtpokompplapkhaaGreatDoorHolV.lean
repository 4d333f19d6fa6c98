/- The reference's l4Holes. -/
import Derived.Test.YtpokompplapkhaaGreatDoorHolU
import Derived.Test.YtpokompplapkhaaGreatDoorTk
namespace Go.Proofs.YtpokompplapkhaaGreatDoor
set_option maxHeartbeats 8000000
set_option maxRecDepth 100000
open Go.RowKit
set_option linter.unusedVariables false
set_option linter.unusedSimpArgs false
theorem block_newH (w : World) (o : Obj) (H : Nat) (hH : w.heap.size = H) : (w.alloc o).heap[H]? = some o := hH ▸ block_new w o
def SHo (n : Nat) : Prop := ∀ (N : NT) (names : List (List UInt8)) (env : List Ty) (x : List UInt8) (v : V) (vt vv : Value) (w : World), N.ok3 -> nmOk x -> v.isOf 100 env (N.db names) = true -> v.nodes <= n -> v.nodes <= 100000 -> TAt w (fun _ => True) N.toTr vt -> TAt w (fun _ => True) v.toTr vv ->
 Calls Tryz.prog 57 #[vt, .string (St x), vv] w (SHPost w (holesN n N x v))
theorem HOw.post {w w' : World} {g c : Nat} {hs : List (V × V)} (h : HOw w' w.heap.size g c hs) (hb : Below w.heap.size w w') : SHPost w hs (.returned (.slice (some ⟨g, 0, none⟩) hs.length c)) w' := ⟨hb, g, c, rfl, h⟩
theorem LH.post {w w1 w' : World} {g0 g c : Nat} {hs : List (V × V)} (h : LH w1 w.heap.size g0 g c hs w') (hb : Below w.heap.size w w1) : SHPost w hs (.returned (.slice (some ⟨g, 0, none⟩) hs.length c)) w' := ⟨hb.trans h.2.2.2, g, c, rfl, h.1⟩
theorem l4Holes_leaf (n : Nat) (N : NT) (s x : List UInt8) (v : V) (hs : s ≠ []) (hN : N.toTr = .mk s []) (hh : holesN (n + 1) N x v = if s = x then [(.u, v)] else []) (vt vv : Value) (w : World) (ht : TAt w (fun _ => True) N.toTr vt) (hv : TAt w (fun _ => True) v.toTr vv) :
 Calls Tryz.prog 57 #[vt, .string (St x), vv] w (SHPost w (holesN (n + 1) N x v)) := by
 obtain ⟨i0, hi0, hz0, hz1, hz2⟩ := info_parts Tryz.infoL4
 rw [hN] at ht
 obtain ⟨A0, c0, rfl, _⟩ := ht.parts
 obtain ⟨xv, Av, nv, cv, rfl⟩ := hv.form
 have k0 : (s != []) = true := by simpa using hs
 have k1 : (s == []) = false := by simpa using hs
 rw [hh]
 by_cases hx : s = x
 · subst hx
   have k2 : (s == s) = true := by simp
   rw [if_pos rfl]
   have HO : Hid (∀ w2, Below w.heap.size w w2 -> w2.heap.size = w.heap.size + 2 -> (w2.alloc (.cells #[] 146)).ownsRow w.heap.size 146 4 (.slice (some ⟨w.heap.size + 2, 0, none⟩) 0 0) 0 []) := fun w2 h hH => hH ▸ own_nils w2 _ 4 h.size (by decide) _
   have HQ : Hid (∀ w2 w3 g2 c2, Below w.heap.size w w2 -> w2.ownsRow w.heap.size 146 4 (.slice (some ⟨w.heap.size + 2, 0, none⟩) 0 0) 0 [] -> w2.grownBy w3 (some (w.heap.size + 2)) -> Below w.heap.size w2 w3 -> w3.ownsRow w.heap.size 146 4 (.slice (some ⟨g2, 0, none⟩) 1 c2) 1 ([] ++ [.string ⟨#[117]⟩, .slice none 0 0, .string xv, .slice Av nv cv]) -> SHPost w [(.u, v)] (.returned (.slice (some ⟨g2, 0, none⟩) 1 c2)) w3) := fun w2 w3 g2 c2 hb ho hg hbl ho2 => by
    have := HOw.put (w := w2) (hs := []) ho rfl (Below.refl _ _) hg ho2 (x := (.u, v)) (leafT w2 _ [117]) (hv.up hb)
    exact this.1.post (Below.trans hb hbl)
   generalize SHPost w [(.u, v)] = Q at *
   clear ht hv hN hh hs
   go_enter Tryz.func57, Tryz.ntmps57
   go_wp2_with (at_builtin; go_loud (refine wpList_append_rows _ rfl _ _ 76 rfl w.heap.size 4 146 i0 (.agg #[.string ⟨#[]⟩, .slice none 0 0, .string ⟨#[]⟩, .slice none 0 0]) 80 Tryz.underlying76 hi0 hz0 hz1 hz2 rfl (by decide) (w.heap.size + 2) 0 0 [] rfl (World.ownsRow.alloc (HO.out _ (up_alloc (up1 w _) _) (by simp)) _) (some ⟨_, 0, none⟩) 1 1 [.string ⟨#[117]⟩, .slice none 0 0, .string xv, .slice Av nv cv] rfl rfl (row_four (block_newH _ _ _ (by simp))) (by simp [Value.oneCell']) (by omega) (by decide) (by simp; omega) 1 rfl _ rfl ?_; intro g2 c2 w3 hown hgrow hbel hat; have HF := Lib.hid (HQ.out _ w3 g2 c2 (up_alloc (up_alloc (up_alloc (up1 w _) _) _) _) (World.ownsRow.alloc (HO.out _ (up_alloc (up1 w _) _) (by simp)) _) hgrow hbel hown); clear hown hgrow hbel hat))
   exact HF.out
 · rw [if_neg hx]
   have k2 : (s == x) = false := St_ne hx
   have HQ : Hid (∀ w2, Below w.heap.size w w2 -> w2.heap.size = w.heap.size + 2 -> SHPost w [] (.returned (.slice (some ⟨w.heap.size + 2, 0, none⟩) 0 0)) (w2.alloc (.cells #[] 146))) := fun w2 h hH => (HOw.newH w2 w.heap.size h.size _ hH).post (up_alloc h _)
   generalize SHPost w [] = Q at *
   clear ht hv hN hh hs hx
   go_enter Tryz.func57, Tryz.ntmps57
   go_wp2_with fail
   exact HQ.out _ (up_alloc (up1 w _) _) (by simp)
theorem l4Holes_l (n : Nat) (ih : SHo n) (a b : NT) (names : List (List UInt8)) (env : List Ty) (x : List UInt8) (y : V) (vt vv : Value) (w : World) (hok : (NT.sum a b).ok3) (hx : nmOk x) (hty : (V.l y).isOf 100 env ((NT.sum a b).db names) = true) (hnd : (V.l y).nodes <= n + 1) (hnd2 : (V.l y).nodes <= 100000) (ht : TAt w (fun _ => True) (NT.sum a b).toTr vt) (hv : TAt w (fun _ => True) (V.l y).toTr vv) :
 Calls Tryz.prog 57 #[vt, .string (St x), vv] w (SHPost w (holesN (n + 1) (.sum a b) x (.l y))) := by
 obtain ⟨bt, ot, ct, rfl, A2, n2, c2, A4, n4, c4, HT, _⟩ := three_keeps ht
 obtain ⟨bv, ov, cv, rfl, hbl, Ay, ny, cy, HV, HH⟩ := two_keeps2 hv
 have hr : holesN (n + 1) (.sum a b) x (.l y) = (holesN n a x y).map fun h => (V.l h.1, h.2) := by rw [holesN]
 rw [hr]
 simp only [V.nodes] at hnd hnd2
 have HC : Hid (∀ w2, Below w.heap.size w w2 -> Calls Tryz.prog 57 #[.agg #[.string (St a.toTr.atom), .slice A2 n2 c2], .string (St x), .agg #[.string (St y.toTr.atom), .slice Ay ny cy]] w2 (SHPost w2 (holesN n a x y))) := fun w2 h => by
  obtain ⟨_, _, _, _, ha, hb⟩ := HT.out w2 (.up h)
  obtain ⟨_, _, hy⟩ := HV.out w2 (.up h)
  exact ih a names env x y _ _ w2 hok.1 hx hty (by omega) (by omega) ha.out hy.out
 have hlen := holesN_len n a x y hok.1
 have hln9 : (holesN n a x y).length <= 100000 := by omega
 generalize holesN n a x y = lst at *
 have HW : Hid (∀ w5 gl cl us, ∀ w1, Hid (HOw w1 w.heap.size (w.heap.size + 2) 0 []) -> Below w1.heap.size w1 w5 -> w1.heap.size <= gl -> RCells w5 (some ⟨gl, 0, none⟩) us -> TR w5 lst us -> Calls Tryz.prog 126 #[.slice (some ⟨gl, 0, none⟩) lst.length cl, .string ⟨#[108]⟩, .slice (some ⟨w.heap.size + 2, 0, none⟩) 0 0] w5 fun e w' => ∃ g' c', e = .returned (.slice (some ⟨g', 0, none⟩) (lst.map fun p => (V.l p.1, p.2)).length c') /\ LH w5 w.heap.size (w.heap.size + 2) g' c' (lst.map fun p => (V.l p.1, p.2)) w') := fun w5 gl cl us w1 ho hb hgl hr ht => l4Within_any [108] V.l (fun _ => rfl) [] lst w.heap.size (w.heap.size + 2) 0 (some ⟨gl, 0, none⟩) cl us w5 (ho.out.up hb) hr ht (fun k o h => by cases h; have := ho.out.row.2.2; omega) (by simp; omega)
 generalize (lst.map fun p => (V.l p.1, p.2)) = out at *
 have HQ : Hid (∀ w5 w' g c, Below w.heap.size w w5 -> LH w5 w.heap.size (w.heap.size + 2) g c out w' -> SHPost w out (.returned (.slice (some ⟨g, 0, none⟩) out.length c)) w') := fun w5 w' g c h1 h2 => h2.post h1
 generalize SHPost w out = Q at *
 have HBOX : Hid (∀ w1, Below (((w.alloc (.cells #[.string (St []), .slice (some ⟨bt, ot, none⟩) 3 ct] 59)).alloc (.cells #[.string (St []), .slice (some ⟨bv, ov, none⟩) 2 cv] 59)).alloc (.cells #[] 146)).heap.size (((w.alloc (.cells #[.string (St []), .slice (some ⟨bt, ot, none⟩) 3 ct] 59)).alloc (.cells #[.string (St []), .slice (some ⟨bv, ov, none⟩) 2 cv] 59)).alloc (.cells #[] 146)) w1 -> Hid (w1.heap[w.heap.size]? = some (.cells #[.string (St []), .slice (some ⟨bt, ot, none⟩) 3 ct] 59 (0, 0))) /\ Hid (w1.heap[w.heap.size + 1]? = some (.cells #[.string (St []), .slice (some ⟨bv, ov, none⟩) 2 cv] 59 (0, 0))) /\ True) := fun w1 h => ⟨block_up h (block_alloc (old2 w (.cells #[.string (St []), .slice (some ⟨bt, ot, none⟩) 3 ct] 59) (.cells #[.string (St []), .slice (some ⟨bv, ov, none⟩) 2 cv] 59)) (.cells #[] 146)), block_up h (block_alloc (new2 w (.cells #[.string (St []), .slice (some ⟨bt, ot, none⟩) 3 ct] 59) (.cells #[.string (St []), .slice (some ⟨bv, ov, none⟩) 2 cv] 59)) (.cells #[] 146)), trivial⟩
 have HOW : Hid (∀ w1, Below (((w.alloc (.cells #[.string (St []), .slice (some ⟨bt, ot, none⟩) 3 ct] 59)).alloc (.cells #[.string (St []), .slice (some ⟨bv, ov, none⟩) 2 cv] 59)).alloc (.cells #[] 146)).heap.size (((w.alloc (.cells #[.string (St []), .slice (some ⟨bt, ot, none⟩) 3 ct] 59)).alloc (.cells #[.string (St []), .slice (some ⟨bv, ov, none⟩) 2 cv] 59)).alloc (.cells #[] 146)) w1 -> HOw w1 w.heap.size (w.heap.size + 2) 0 []) := fun w1 h => (HOw.newH ((w.alloc (.cells #[.string (St []), .slice (some ⟨bt, ot, none⟩) 3 ct] 59)).alloc (.cells #[.string (St []), .slice (some ⟨bv, ov, none⟩) 2 cv] 59)) w.heap.size (by simp; omega) (w.heap.size + 2) (by simp)).up h
 clear ht hv hok hx hty hnd hnd2 ih hr hlen hbl
 go_enter Tryz.func57, Tryz.ntmps57
 go_wp2_with (go_at_call 125; (with_reducible refine (HH.out _ (.up (up_alloc (up_alloc (up1 w _) _) _))).mono ?_); rintro e w1 ⟨rfl, hb1⟩; obtain ⟨q0, q1, q2⟩ := HBOX.out w1 hb1; have HB1 : Hid (Below w.heap.size w w1) := up_trans (up_alloc (up_alloc (up1 w _) _) _) hb1; have HO1 : Hid (HOw w1 w.heap.size (w.heap.size + 2) 0 []) := HOW.out w1 hb1; have e0 := block_cell q0.out 0; have e1 := block_cell q0.out 1; have e2 := block_cell q1.out 0; have e3 := block_cell q1.out 1; have l0 := lt_of_block q0.out; have l1 := lt_of_block q1.out; clear hb1)
 replace HW := Lib.hid fun w5 gl cl us => HW.out w5 gl cl us w1 HO1
 have HS : Hid (∀ w', Keeps 59 w1 w' -> w'.cell? ⟨w.heap.size, 1, none⟩ = some (.slice (some ⟨bt, ot, none⟩) 3 ct) /\ w'.cell? ⟨bt, ot + 2, none⟩ = some (.string (St a.toTr.atom)) /\ w'.cell? ⟨bt, ot + 3, none⟩ = some (.slice A2 n2 c2) /\ w'.cell? ⟨w.heap.size + 1, 1, none⟩ = some (.slice (some ⟨bv, ov, none⟩) 2 cv) /\ w'.cell? ⟨bv, ov + 2, none⟩ = some (.string (St y.toTr.atom)) /\ w'.cell? ⟨bv, ov + 3, none⟩ = some (.slice Ay ny cy)) := fun w' h => by
  obtain ⟨t2, t3, t4, t5, _, _⟩ := HT.out w' ((Keeps.up HB1.out).trans h)
  obtain ⟨z2, z3, _⟩ := HV.out w' ((Keeps.up HB1.out).trans h)
  exact ⟨block_cell (h _ _ _ q0.out) 1, t2, t3, block_cell (h _ _ _ q1.out) 1, z2, z3⟩
 obtain ⟨s0, s1, s2, s3, s4, s5⟩ := HS.out w1 (Keeps.refl _ _)
 refine wp_region_noPanic ?_
 refine wp_region_held_drew (S := (fun w' => w'.cell? ⟨w.heap.size, 1, none⟩ = some (.slice (some ⟨bt, ot, none⟩) 3 ct) /\ w'.cell? ⟨bt, ot + 2, none⟩ = some (.string (St a.toTr.atom)) /\ w'.cell? ⟨bt, ot + 3, none⟩ = some (.slice A2 n2 c2) /\ w'.cell? ⟨w.heap.size + 1, 1, none⟩ = some (.slice (some ⟨bv, ov, none⟩) 2 cv) /\ w'.cell? ⟨bv, ov + 2, none⟩ = some (.string (St y.toTr.atom)) /\ w'.cell? ⟨bv, ov + 3, none⟩ = some (.slice Ay ny cy))) (by kernel_rfl) (by exact HS.out _ (.up (up_drew (Below.refl _ _)))) (fun hHeld => ?_)
 refine tq 0 rfl ?_
 refine tq 1 rfl ?_
 refine tq 2 rfl ?_
 refine tq 3 rfl ?_
 refine tq 4 rfl ?_
 refine tq 5 rfl ?_
 refine tq 6 rfl ?_
 refine tq 7 rfl ?_
 refine tq 8 rfl ?_
 refine tq 10 rfl ?_
 refine tz 9 rfl fun K hK => ?_
 go_simp
 go_at_call 57
 (with_reducible refine (HC.out _ (up_trans HB1.out (up_drew (Below.refl _ _)))).mono ?_)
 rintro e w5 ⟨hb5, gl, cl, rfl, us, hus, htr⟩
 have HB5 : Hid (Below w1.heap.size w1 w5) := up_trans (up_drew (Below.refl _ _)) hb5
 have HRR := Lib.hid (HOw.reads hus htr)
 have HTR := Lib.hid htr
 have HGL : Hid (w1.heap.size <= gl) := (World.ownsRow.lt hus gl rfl).1
 clear hb5 hus htr
 refine hK.out _ _ (by exact HS.out _ (.up HB5.out)) (fun hHeld => ?_)
 clear hK
 try simp only [Act.put, zA, zB, zC, zD, zE, zF]
 refine tz 11 rfl fun K hK => ?_
 go_simp
 go_at_call 126
 (with_reducible refine (HW.out w5 gl cl us HB5.out HGL.out HRR.out HTR.out).mono ?_)
 rintro e w6 ⟨g6, c6, rfl, hl6⟩
 have HL6 := Lib.hid hl6
 clear hl6
 refine hK.out _ _ (by exact HS.out _ ((Keeps.up HB5.out).trans (HL6.out.keeps (HO1.out.up HB5.out)))) (fun hHeld => ?_)
 clear hK
 try simp only [Act.put, zA, zB, zC, zD, zE, zF]
 refine tq 12 rfl ?_
 refine wpAnyH_done (by kernel_rfl) ?_ _
 refine NoPanic.normal ?_
 go_wp2
 exact HQ.out _ _ _ _ (up_trans HB1.out HB5.out) HL6.out
theorem l4Holes_r (n : Nat) (ih : SHo n) (a b : NT) (names : List (List UInt8)) (env : List Ty) (x : List UInt8) (y : V) (vt vv : Value) (w : World) (hok : (NT.sum a b).ok3) (hx : nmOk x) (hty : (V.r y).isOf 100 env ((NT.sum a b).db names) = true) (hnd : (V.r y).nodes <= n + 1) (hnd2 : (V.r y).nodes <= 100000) (ht : TAt w (fun _ => True) (NT.sum a b).toTr vt) (hv : TAt w (fun _ => True) (V.r y).toTr vv) :
 Calls Tryz.prog 57 #[vt, .string (St x), vv] w (SHPost w (holesN (n + 1) (.sum a b) x (.r y))) := by
 obtain ⟨bt, ot, ct, rfl, A2, n2, c2, A4, n4, c4, HT, _⟩ := three_keeps ht
 obtain ⟨bv, ov, cv, rfl, hbl, Ay, ny, cy, HV, HH⟩ := two_keeps2 hv
 have hr : holesN (n + 1) (.sum a b) x (.r y) = (holesN n b x y).map fun h => (V.r h.1, h.2) := by rw [holesN]
 rw [hr]
 simp only [V.nodes] at hnd hnd2
 have HC : Hid (∀ w2, Below w.heap.size w w2 -> Calls Tryz.prog 57 #[.agg #[.string (St b.toTr.atom), .slice A4 n4 c4], .string (St x), .agg #[.string (St y.toTr.atom), .slice Ay ny cy]] w2 (SHPost w2 (holesN n b x y))) := fun w2 h => by
  obtain ⟨_, _, _, _, ha, hb⟩ := HT.out w2 (.up h)
  obtain ⟨_, _, hy⟩ := HV.out w2 (.up h)
  exact ih b names env x y _ _ w2 hok.2 hx hty (by omega) (by omega) hb.out hy.out
 have hlen := holesN_len n b x y hok.2
 have hln9 : (holesN n b x y).length <= 100000 := by omega
 generalize holesN n b x y = lst at *
 have HW : Hid (∀ w5 gl cl us, ∀ w1, Hid (HOw w1 w.heap.size (w.heap.size + 2) 0 []) -> Below w1.heap.size w1 w5 -> w1.heap.size <= gl -> RCells w5 (some ⟨gl, 0, none⟩) us -> TR w5 lst us -> Calls Tryz.prog 126 #[.slice (some ⟨gl, 0, none⟩) lst.length cl, .string ⟨#[114]⟩, .slice (some ⟨w.heap.size + 2, 0, none⟩) 0 0] w5 fun e w' => ∃ g' c', e = .returned (.slice (some ⟨g', 0, none⟩) (lst.map fun p => (V.r p.1, p.2)).length c') /\ LH w5 w.heap.size (w.heap.size + 2) g' c' (lst.map fun p => (V.r p.1, p.2)) w') := fun w5 gl cl us w1 ho hb hgl hr ht => l4Within_any [114] V.r (fun _ => rfl) [] lst w.heap.size (w.heap.size + 2) 0 (some ⟨gl, 0, none⟩) cl us w5 (ho.out.up hb) hr ht (fun k o h => by cases h; have := ho.out.row.2.2; omega) (by simp; omega)
 generalize (lst.map fun p => (V.r p.1, p.2)) = out at *
 have HQ : Hid (∀ w5 w' g c, Below w.heap.size w w5 -> LH w5 w.heap.size (w.heap.size + 2) g c out w' -> SHPost w out (.returned (.slice (some ⟨g, 0, none⟩) out.length c)) w') := fun w5 w' g c h1 h2 => h2.post h1
 generalize SHPost w out = Q at *
 have HBOX : Hid (∀ w1, Below (((w.alloc (.cells #[.string (St []), .slice (some ⟨bt, ot, none⟩) 3 ct] 59)).alloc (.cells #[.string (St []), .slice (some ⟨bv, ov, none⟩) 2 cv] 59)).alloc (.cells #[] 146)).heap.size (((w.alloc (.cells #[.string (St []), .slice (some ⟨bt, ot, none⟩) 3 ct] 59)).alloc (.cells #[.string (St []), .slice (some ⟨bv, ov, none⟩) 2 cv] 59)).alloc (.cells #[] 146)) w1 -> Hid (w1.heap[w.heap.size]? = some (.cells #[.string (St []), .slice (some ⟨bt, ot, none⟩) 3 ct] 59 (0, 0))) /\ Hid (w1.heap[w.heap.size + 1]? = some (.cells #[.string (St []), .slice (some ⟨bv, ov, none⟩) 2 cv] 59 (0, 0))) /\ True) := fun w1 h => ⟨block_up h (block_alloc (old2 w (.cells #[.string (St []), .slice (some ⟨bt, ot, none⟩) 3 ct] 59) (.cells #[.string (St []), .slice (some ⟨bv, ov, none⟩) 2 cv] 59)) (.cells #[] 146)), block_up h (block_alloc (new2 w (.cells #[.string (St []), .slice (some ⟨bt, ot, none⟩) 3 ct] 59) (.cells #[.string (St []), .slice (some ⟨bv, ov, none⟩) 2 cv] 59)) (.cells #[] 146)), trivial⟩
 have HOW : Hid (∀ w1, Below (((w.alloc (.cells #[.string (St []), .slice (some ⟨bt, ot, none⟩) 3 ct] 59)).alloc (.cells #[.string (St []), .slice (some ⟨bv, ov, none⟩) 2 cv] 59)).alloc (.cells #[] 146)).heap.size (((w.alloc (.cells #[.string (St []), .slice (some ⟨bt, ot, none⟩) 3 ct] 59)).alloc (.cells #[.string (St []), .slice (some ⟨bv, ov, none⟩) 2 cv] 59)).alloc (.cells #[] 146)) w1 -> HOw w1 w.heap.size (w.heap.size + 2) 0 []) := fun w1 h => (HOw.newH ((w.alloc (.cells #[.string (St []), .slice (some ⟨bt, ot, none⟩) 3 ct] 59)).alloc (.cells #[.string (St []), .slice (some ⟨bv, ov, none⟩) 2 cv] 59)) w.heap.size (by simp; omega) (w.heap.size + 2) (by simp)).up h
 clear ht hv hok hx hty hnd hnd2 ih hr hlen hbl
 go_enter Tryz.func57, Tryz.ntmps57
 go_wp2_with (go_at_call 125; (with_reducible refine (HH.out _ (.up (up_alloc (up_alloc (up1 w _) _) _))).mono ?_); rintro e w1 ⟨rfl, hb1⟩; obtain ⟨q0, q1, q2⟩ := HBOX.out w1 hb1; have HB1 : Hid (Below w.heap.size w w1) := up_trans (up_alloc (up_alloc (up1 w _) _) _) hb1; have HO1 : Hid (HOw w1 w.heap.size (w.heap.size + 2) 0 []) := HOW.out w1 hb1; have e0 := block_cell q0.out 0; have e1 := block_cell q0.out 1; have e2 := block_cell q1.out 0; have e3 := block_cell q1.out 1; have l0 := lt_of_block q0.out; have l1 := lt_of_block q1.out; clear hb1)
 replace HW := Lib.hid fun w5 gl cl us => HW.out w5 gl cl us w1 HO1
 have HS : Hid (∀ w', Keeps 59 w1 w' -> w'.cell? ⟨w.heap.size, 1, none⟩ = some (.slice (some ⟨bt, ot, none⟩) 3 ct) /\ w'.cell? ⟨bt, ot + 4, none⟩ = some (.string (St b.toTr.atom)) /\ w'.cell? ⟨bt, ot + 5, none⟩ = some (.slice A4 n4 c4) /\ w'.cell? ⟨w.heap.size + 1, 1, none⟩ = some (.slice (some ⟨bv, ov, none⟩) 2 cv) /\ w'.cell? ⟨bv, ov + 2, none⟩ = some (.string (St y.toTr.atom)) /\ w'.cell? ⟨bv, ov + 3, none⟩ = some (.slice Ay ny cy)) := fun w' h => by
  obtain ⟨t2, t3, t4, t5, _, _⟩ := HT.out w' ((Keeps.up HB1.out).trans h)
  obtain ⟨z2, z3, _⟩ := HV.out w' ((Keeps.up HB1.out).trans h)
  exact ⟨block_cell (h _ _ _ q0.out) 1, t4, t5, block_cell (h _ _ _ q1.out) 1, z2, z3⟩
 obtain ⟨s0, s1, s2, s3, s4, s5⟩ := HS.out w1 (Keeps.refl _ _)
 refine wp_region_noPanic ?_
 refine wp_region_held_drew (S := (fun w' => w'.cell? ⟨w.heap.size, 1, none⟩ = some (.slice (some ⟨bt, ot, none⟩) 3 ct) /\ w'.cell? ⟨bt, ot + 4, none⟩ = some (.string (St b.toTr.atom)) /\ w'.cell? ⟨bt, ot + 5, none⟩ = some (.slice A4 n4 c4) /\ w'.cell? ⟨w.heap.size + 1, 1, none⟩ = some (.slice (some ⟨bv, ov, none⟩) 2 cv) /\ w'.cell? ⟨bv, ov + 2, none⟩ = some (.string (St y.toTr.atom)) /\ w'.cell? ⟨bv, ov + 3, none⟩ = some (.slice Ay ny cy))) (by kernel_rfl) (by exact HS.out _ (.up (up_drew (Below.refl _ _)))) (fun hHeld => ?_)
 refine tq 0 rfl ?_
 refine tq 1 rfl ?_
 refine tq 2 rfl ?_
 refine tq 3 rfl ?_
 refine tq 4 rfl ?_
 refine tq 5 rfl ?_
 refine tq 6 rfl ?_
 refine tq 7 rfl ?_
 refine tq 8 rfl ?_
 refine tq 10 rfl ?_
 refine tz 9 rfl fun K hK => ?_
 go_simp
 go_at_call 57
 (with_reducible refine (HC.out _ (up_trans HB1.out (up_drew (Below.refl _ _)))).mono ?_)
 rintro e w5 ⟨hb5, gl, cl, rfl, us, hus, htr⟩
 have HB5 : Hid (Below w1.heap.size w1 w5) := up_trans (up_drew (Below.refl _ _)) hb5
 have HRR := Lib.hid (HOw.reads hus htr)
 have HTR := Lib.hid htr
 have HGL : Hid (w1.heap.size <= gl) := (World.ownsRow.lt hus gl rfl).1
 clear hb5 hus htr
 refine hK.out _ _ (by exact HS.out _ (.up HB5.out)) (fun hHeld => ?_)
 clear hK
 try simp only [Act.put, zA, zB, zC, zD, zE, zF]
 refine tz 11 rfl fun K hK => ?_
 go_simp
 go_at_call 126
 (with_reducible refine (HW.out w5 gl cl us HB5.out HGL.out HRR.out HTR.out).mono ?_)
 rintro e w6 ⟨g6, c6, rfl, hl6⟩
 have HL6 := Lib.hid hl6
 clear hl6
 refine hK.out _ _ (by exact HS.out _ ((Keeps.up HB5.out).trans (HL6.out.keeps (HO1.out.up HB5.out)))) (fun hHeld => ?_)
 clear hK
 try simp only [Act.put, zA, zB, zC, zD, zE, zF]
 refine tq 12 rfl ?_
 refine wpAnyH_done (by kernel_rfl) ?_ _
 refine NoPanic.normal ?_
 go_wp2
 exact HQ.out _ _ _ _ (up_trans HB1.out HB5.out) HL6.out
theorem Ot.trans' {g g1 : Nat} {w w1 w2 : World} (h : Ot g g w w1) (hg : g1 = g \/ w.heap.size <= g1) (k : Ot g1 g1 w1 w2) : Ot g g w w2 :=
 ⟨Nat.le_trans h.size k.size, fun j hj h1 h2 => (k.blk j (Nat.lt_of_lt_of_le hj h.size) (by omega) (by omega)).trans (h.blk j hj h1 h2)⟩
theorem drew_bl (B : Nat) (w : World) : Below B w w.drew := ⟨rfl, rfl, rfl, Nat.le_refl _, fun _ _ => rfl⟩
theorem below_lo {B : Nat} {w w' : World} (h : Below w.heap.size w w') (hB : B <= w.heap.size) : Below B w w' := ⟨h.os, h.tape, h.output, h.size, fun k hk => h.block k (by omega)⟩
theorem l4Holes_p (n : Nat) (ih : SHo n) (a b : NT) (names : List (List UInt8)) (env : List Ty) (x : List UInt8) (y z : V) (vt vv : Value) (w : World) (hok : (NT.prod a b).ok3) (hx : nmOk x) (hty : (V.p y z).isOf 100 env ((NT.prod a b).db names) = true) (hnd : (V.p y z).nodes <= n + 1) (hnd2 : (V.p y z).nodes <= 100000) (ht : TAt w (fun _ => True) (NT.prod a b).toTr vt) (hv : TAt w (fun _ => True) (V.p y z).toTr vv) :
 Calls Tryz.prog 57 #[vt, .string (St x), vv] w (SHPost w (holesN (n + 1) (.prod a b) x (.p y z))) := by
 obtain ⟨i0, hi0, hz0, hz1, hz2⟩ := info_parts Tryz.infoL4
 obtain ⟨bt, ot, ct, rfl, A2, n2, c2, A4, n4, c4, HT, _⟩ := three_keeps ht
 obtain ⟨bv, ov, cv, rfl, Ay, ny, cy, Az, nz, cz, HV, HH⟩ := three_keeps hv
 have hr : holesN (n + 1) (.prod a b) x (.p y z) = ((holesN n a x y).map fun h => (V.l (.p h.1 z), h.2)) ++ (holesN n b x z).map fun h => (V.r (.p y h.1), h.2) := by rw [holesN]
 rw [hr]
 simp only [V.nodes] at hnd hnd2
 have hty2 : y.isOf 100 env (a.db names) = true /\ z.isOf 100 env (b.db names) = true := by simpa [V.isOf, NT.db] using hty
 have HY : Hid (∀ w2, Below w.heap.size w w2 -> Hid (TAt w2 (fun _ => True) y.toTr (.agg #[.string (St y.toTr.atom), .slice Ay ny cy]))) := fun w2 h => (HV.out w2 (.up h)).2.2.2.2.1
 have HZ : Hid (∀ w2, Below w.heap.size w w2 -> Hid (TAt w2 (fun _ => True) z.toTr (.agg #[.string (St z.toTr.atom), .slice Az nz cz]))) := fun w2 h => (HV.out w2 (.up h)).2.2.2.2.2
 have HC : Hid (∀ w2, Below w.heap.size w w2 -> Calls Tryz.prog 57 #[.agg #[.string (St a.toTr.atom), .slice A2 n2 c2], .string (St x), .agg #[.string (St y.toTr.atom), .slice Ay ny cy]] w2 (SHPost w2 (holesN n a x y))) := fun w2 h =>
  ih a names env x y _ _ w2 hok.1 hx hty2.1 (by omega) (by omega) (HT.out w2 (.up h)).2.2.2.2.1.out (HY.out w2 h).out
 have HC2 : Hid (∀ w2, Below w.heap.size w w2 -> Calls Tryz.prog 57 #[.agg #[.string (St b.toTr.atom), .slice A4 n4 c4], .string (St x), .agg #[.string (St z.toTr.atom), .slice Az nz cz]] w2 (SHPost w2 (holesN n b x z))) := fun w2 h =>
  ih b names env x z _ _ w2 hok.2 hx hty2.2 (by omega) (by omega) (HT.out w2 (.up h)).2.2.2.2.2.out (HZ.out w2 h).out
 have hlen := holesN_len n a x y hok.1
 have hlen2 := holesN_len n b x z hok.2
 have hln9 : (holesN n a x y).length + (holesN n b x z).length <= 100000 := by omega
 generalize hol1 : holesN n a x y = lst at *
 generalize hol2 : holesN n b x z = lst2 at *
 generalize hout : (lst.map fun h => (V.l (.p h.1 z), h.2)) = out at *
 generalize hout2 : (out ++ lst2.map fun h => (V.r (.p y h.1), h.2)) = out2 at *
 have hol : out.length = lst.length := by rw [<- hout, List.length_map]
 have HOUT : Hid ((([] : List (V × V)) ++ lst.map fun h => (V.l (.p h.1 z), h.2)) = out) := hout
 have HOUT2 := Lib.hid hout2
 have HLN : Hid (([] : List (V × V)).length + lst.length <= 100000) := by show _ <= _; simp only [List.length_nil]; omega
 have HLN2 : Hid (out.length + lst2.length <= 100000) := by show _ <= _; omega
 have HQ : Hid (∀ w5 w' g0 g c, Below w.heap.size w w5 -> LH w5 w.heap.size g0 g c out2 w' -> SHPost w out2 (.returned (.slice (some ⟨g, 0, none⟩) out2.length c)) w') := fun w5 w' g0 g c h1 h2 => h2.post h1
 generalize SHPost w out2 = Q at *
 have HBOX : Hid (∀ w1, Below (((w.alloc (.cells #[.string (St []), .slice (some ⟨bt, ot, none⟩) 3 ct] 59)).alloc (.cells #[.string (St []), .slice (some ⟨bv, ov, none⟩) 3 cv] 59)).alloc (.cells #[] 146)).heap.size (((w.alloc (.cells #[.string (St []), .slice (some ⟨bt, ot, none⟩) 3 ct] 59)).alloc (.cells #[.string (St []), .slice (some ⟨bv, ov, none⟩) 3 cv] 59)).alloc (.cells #[] 146)) w1 -> Hid (w1.heap[w.heap.size]? = some (.cells #[.string (St []), .slice (some ⟨bt, ot, none⟩) 3 ct] 59 (0, 0))) /\ Hid (w1.heap[w.heap.size + 1]? = some (.cells #[.string (St []), .slice (some ⟨bv, ov, none⟩) 3 cv] 59 (0, 0))) /\ True) := fun w1 h => ⟨block_up h (block_alloc (old2 w (.cells #[.string (St []), .slice (some ⟨bt, ot, none⟩) 3 ct] 59) (.cells #[.string (St []), .slice (some ⟨bv, ov, none⟩) 3 cv] 59)) (.cells #[] 146)), block_up h (block_alloc (new2 w (.cells #[.string (St []), .slice (some ⟨bt, ot, none⟩) 3 ct] 59) (.cells #[.string (St []), .slice (some ⟨bv, ov, none⟩) 3 cv] 59)) (.cells #[] 146)), trivial⟩
 have HOW : Hid (∀ w1, Below (((w.alloc (.cells #[.string (St []), .slice (some ⟨bt, ot, none⟩) 3 ct] 59)).alloc (.cells #[.string (St []), .slice (some ⟨bv, ov, none⟩) 3 cv] 59)).alloc (.cells #[] 146)).heap.size (((w.alloc (.cells #[.string (St []), .slice (some ⟨bt, ot, none⟩) 3 ct] 59)).alloc (.cells #[.string (St []), .slice (some ⟨bv, ov, none⟩) 3 cv] 59)).alloc (.cells #[] 146)) w1 -> HOw w1 w.heap.size (w.heap.size + 2) 0 []) := fun w1 h => (HOw.newH ((w.alloc (.cells #[.string (St []), .slice (some ⟨bt, ot, none⟩) 3 ct] 59)).alloc (.cells #[.string (St []), .slice (some ⟨bv, ov, none⟩) 3 cv] 59)) w.heap.size (by simp; omega) (w.heap.size + 2) (by simp)).up h
 clear ht hv hok hx hty hty2 hnd hnd2 ih hr hlen hlen2 hln9 hol hout hout2 hol1 hol2
 go_enter Tryz.func57, Tryz.ntmps57
 go_wp2_with (go_at_call 125; (with_reducible refine (HH.out _ (.up (up_alloc (up_alloc (up1 w _) _) _))).mono ?_); rintro e w1 ⟨rfl, hb1⟩; obtain ⟨q0, q1, q2⟩ := HBOX.out w1 hb1; have HB1 : Hid (Below w.heap.size w w1) := up_trans (up_alloc (up_alloc (up1 w _) _) _) hb1; have HO1 : Hid (HOw w1 w.heap.size (w.heap.size + 2) 0 []) := HOW.out w1 hb1; have e0 := block_cell q0.out 0; have e1 := block_cell q0.out 1; have e2 := block_cell q1.out 0; have e3 := block_cell q1.out 1; have l0 := lt_of_block q0.out; have l1 := lt_of_block q1.out; clear hb1)
 have HST : Hid (∀ w', Keeps 59 w1 w' -> w'.cell? ⟨w.heap.size, 1, none⟩ = some (.slice (some ⟨bt, ot, none⟩) 3 ct) /\ w'.cell? ⟨bt, ot + 2, none⟩ = some (.string (St a.toTr.atom)) /\ w'.cell? ⟨bt, ot + 3, none⟩ = some (.slice A2 n2 c2) /\ w'.cell? ⟨bt, ot + 4, none⟩ = some (.string (St b.toTr.atom)) /\ w'.cell? ⟨bt, ot + 5, none⟩ = some (.slice A4 n4 c4) /\ w'.cell? ⟨w.heap.size + 1, 1, none⟩ = some (.slice (some ⟨bv, ov, none⟩) 3 cv) /\ w'.cell? ⟨bv, ov + 2, none⟩ = some (.string (St y.toTr.atom)) /\ w'.cell? ⟨bv, ov + 3, none⟩ = some (.slice Ay ny cy) /\ w'.cell? ⟨bv, ov + 4, none⟩ = some (.string (St z.toTr.atom)) /\ w'.cell? ⟨bv, ov + 5, none⟩ = some (.slice Az nz cz)) := fun w' h => by
  obtain ⟨t2, t3, t4, t5, _, _⟩ := HT.out w' ((Keeps.up HB1.out).trans h)
  obtain ⟨z2, z3, z4, z5, _, _⟩ := HV.out w' ((Keeps.up HB1.out).trans h)
  exact ⟨block_cell (h _ _ _ q0.out) 1, t2, t3, t4, t5, block_cell (h _ _ _ q1.out) 1, z2, z3, z4, z5⟩
 have HST1 : Hid (∀ w', Keeps 59 w1 w' -> w'.cell? ⟨w.heap.size, 1, none⟩ = some (.slice (some ⟨bt, ot, none⟩) 3 ct) /\ w'.cell? ⟨bt, ot + 2, none⟩ = some (.string (St a.toTr.atom)) /\ w'.cell? ⟨bt, ot + 3, none⟩ = some (.slice A2 n2 c2) /\ w'.cell? ⟨w.heap.size + 1, 1, none⟩ = some (.slice (some ⟨bv, ov, none⟩) 3 cv) /\ w'.cell? ⟨bv, ov + 2, none⟩ = some (.string (St y.toTr.atom)) /\ w'.cell? ⟨bv, ov + 3, none⟩ = some (.slice Ay ny cy)) := fun w' h => by
  obtain ⟨p0, p1, p2, p3, p4, p5, p6, p7, p8, p9⟩ := HST.out w' h
  exact ⟨p0, p1, p2, p5, p6, p7⟩
 obtain ⟨s0, s1, s2, s3, s4, s5⟩ := HST1.out w1 (Keeps.refl _ _)
 refine wp_region_noPanic ?_
 refine wp_region_held_drew (S := (fun w' => w'.cell? ⟨w.heap.size, 1, none⟩ = some (.slice (some ⟨bt, ot, none⟩) 3 ct) /\ w'.cell? ⟨bt, ot + 2, none⟩ = some (.string (St a.toTr.atom)) /\ w'.cell? ⟨bt, ot + 3, none⟩ = some (.slice A2 n2 c2) /\ w'.cell? ⟨w.heap.size + 1, 1, none⟩ = some (.slice (some ⟨bv, ov, none⟩) 3 cv) /\ w'.cell? ⟨bv, ov + 2, none⟩ = some (.string (St y.toTr.atom)) /\ w'.cell? ⟨bv, ov + 3, none⟩ = some (.slice Ay ny cy))) (by kernel_rfl) (by exact HST1.out _ (.up (up_drew (Below.refl _ _)))) (fun hHeld => ?_)
 refine tq 0 rfl ?_
 refine tq 1 rfl ?_
 refine tq 2 rfl ?_
 refine tq 3 rfl ?_
 refine tq 4 rfl ?_
 refine tq 5 rfl ?_
 refine tq 6 rfl ?_
 refine tq 7 rfl ?_
 refine tq 8 rfl ?_
 refine tz 9 rfl fun K hK => ?_
 go_simp
 go_at_call 57
 (with_reducible refine (HC.out _ (Below.trans HB1.out (drew_bl _ _))).mono ?_)
 rintro e w5 ⟨hb5, gl5, cl5, rfl, us5, hus, htr⟩
 have HB5 : Hid (Below w1.heap.size w1 w5) := up_trans (up_drew (Below.refl _ _)) hb5
 have HRR5 := Lib.hid (HOw.reads hus htr)
 have HTR5 := Lib.hid htr
 have HGL5 : Hid (w1.heap.size <= gl5 /\ gl5 < w5.heap.size) := World.ownsRow.lt hus gl5 rfl
 clear hb5 hus htr
 refine hK.out _ _ (by exact HST1.out _ (.up HB5.out)) (fun hHeld => ?_)
 clear hK
 try simp only [Act.put, zA, zB, zC, zD, zE, zF]
 refine tq 10 rfl ?_
 refine wpAnyH_done (by kernel_rfl) ?_ _
 refine NoPanic.normal ?_
 have HO5 := Lib.hid (HO1.out.up HB5.out)
 have HGA5 : Hid (gl5 ≠ w.heap.size + 2 /\ gl5 < w5.heap.size) := ⟨by have := HGL5.out; have := HO1.out.row.2.2; omega, HGL5.out.2⟩
 clear s0 s1 s2 s3 s4 s5 e0 e1 e2 e3
 generalize hnL : lst.length = nL at *
 have HNL := Lib.hid hnL
 have hnL9 : nL <= 100000 := by have := HLN.out; omega
 clear hnL
 go_wp2
 go_loopg [7, 9] nL (fun m v7 vi wr => ∃ (i gr cr : Nat), vi = .int .i64 i /\ v7 = .slice (some ⟨gr, 0, none⟩) (([] : List (V × V)) ++ (lst.take i).map fun p => (V.l (.p p.1 z), p.2)).length cr /\ Hid (m + i = nL) /\ Hid (LH w5 w.heap.size (w.heap.size + 2) gr cr (([] : List (V × V)) ++ (lst.take i).map fun p => (V.l (.p p.1 z), p.2)) wr))
 case atStart => exact ⟨0, (w.heap.size + 2), 0, rfl, by simp, rfl, by simpa [LH] using ⟨HO5.out, Ot.refl _ _ _, Below.refl _ _⟩⟩
 case round =>
  obtain ⟨i, gr, cr, rfl, rfl, HM, HB⟩ := hrel
  have hm := HM.out
  cases gk with
  | zero =>
   have h1 : decide (i < nL) = false := decide_eq_false (by omega)
   have HP := HB.out
   rw [List.take_of_length_le (by rw [HNL.out]; omega), HOUT.out] at HP ⊢
   have HP := Lib.hid HP
   clear HM hm HB
   generalize gr = gB at *
   generalize cr = cB at *
   have BW6 : Hid (Below w.heap.size w wr) := Below.trans (up_trans HB1.out HB5.out) HP.out.2.2.2
   have KW6 : Hid (Keeps 59 w1 wr) := (Keeps.up HB5.out).trans (HP.out.keeps HO5.out)
   have HST6 : Hid (∀ w', Keeps 59 wr w' -> w'.cell? ⟨w.heap.size, 1, none⟩ = some (.slice (some ⟨bt, ot, none⟩) 3 ct) /\ w'.cell? ⟨bt, ot + 4, none⟩ = some (.string (St b.toTr.atom)) /\ w'.cell? ⟨bt, ot + 5, none⟩ = some (.slice A4 n4 c4) /\ w'.cell? ⟨w.heap.size + 1, 1, none⟩ = some (.slice (some ⟨bv, ov, none⟩) 3 cv) /\ w'.cell? ⟨bv, ov + 4, none⟩ = some (.string (St z.toTr.atom)) /\ w'.cell? ⟨bv, ov + 5, none⟩ = some (.slice Az nz cz)) := fun w' h => by
    obtain ⟨p0, p1, p2, p3, p4, p5, p6, p7, p8, p9⟩ := HST.out w' (KW6.out.trans h)
    exact ⟨p0, p3, p4, p5, p8, p9⟩
   obtain ⟨s0, s1, s2, s3, s4, s5⟩ := HST6.out wr (Keeps.refl _ _)
   go_wp2
   refine wp_region_noPanic ?_
   refine wp_region_held_drew (S := (fun w' => w'.cell? ⟨w.heap.size, 1, none⟩ = some (.slice (some ⟨bt, ot, none⟩) 3 ct) /\ w'.cell? ⟨bt, ot + 4, none⟩ = some (.string (St b.toTr.atom)) /\ w'.cell? ⟨bt, ot + 5, none⟩ = some (.slice A4 n4 c4) /\ w'.cell? ⟨w.heap.size + 1, 1, none⟩ = some (.slice (some ⟨bv, ov, none⟩) 3 cv) /\ w'.cell? ⟨bv, ov + 4, none⟩ = some (.string (St z.toTr.atom)) /\ w'.cell? ⟨bv, ov + 5, none⟩ = some (.slice Az nz cz))) (by kernel_rfl) (by exact HST6.out _ (.up (up_drew (Below.refl _ _)))) (fun hHeld => ?_)
   refine tq 0 rfl ?_
   refine tq 1 rfl ?_
   refine tq 2 rfl ?_
   refine tq 3 rfl ?_
   refine tq 4 rfl ?_
   refine tq 5 rfl ?_
   refine tq 6 rfl ?_
   refine tq 7 rfl ?_
   refine tq 8 rfl ?_
   refine tz 9 rfl fun K hK => ?_
   go_simp
   go_at_call 57
   (with_reducible refine (HC2.out _ (Below.trans BW6.out (drew_bl _ _))).mono ?_)
   rintro e w9 ⟨hb9, gl9, cl9, rfl, us9, hus, htr⟩
   have HB9 : Hid (Below wr.heap.size wr w9) := up_trans (up_drew (Below.refl _ _)) hb9
   have HRR9 := Lib.hid (HOw.reads hus htr)
   have HTR9 := Lib.hid htr
   have HGL9 : Hid (wr.heap.size <= gl9 /\ gl9 < w9.heap.size) := World.ownsRow.lt hus gl9 rfl
   clear hb9 hus htr
   refine hK.out _ _ (by exact HST6.out _ (.up HB9.out)) (fun hHeld => ?_)
   clear hK
   try simp only [Act.put, zA, zB, zC, zD, zE, zF]
   refine tq 10 rfl ?_
   refine wpAnyH_done (by kernel_rfl) ?_ _
   refine NoPanic.normal ?_
   have HO9 := Lib.hid (HP.out.1.up HB9.out)
   have BW9 : Hid (Below w.heap.size w w9) := Below.trans BW6.out (below_lo (HB9.out) BW6.out.size)
   have KW9 : Hid (Keeps 59 w1 w9) := KW6.out.trans (.up HB9.out)
   have HGA9 : Hid (gl9 ≠ gB /\ gl9 < w9.heap.size) := ⟨by have := HGL9.out; have := HP.out.1.row.2.2; omega, HGL9.out.2⟩
   clear s0 s1 s2 s3 s4 s5 hnL9 h1
   generalize hnL : lst2.length = nL at *
   have HNL := Lib.hid hnL
   have hnL9 : nL <= 100000 := by have := HLN2.out; omega
   clear hnL
   go_wp2
   go_loopg [7, 11] nL (fun m v7 vi wr => ∃ (i gr cr : Nat), vi = .int .i64 i /\ v7 = .slice (some ⟨gr, 0, none⟩) (out ++ (lst2.take i).map fun p => (V.r (.p y p.1), p.2)).length cr /\ Hid (m + i = nL) /\ Hid (LH w9 w.heap.size gB gr cr (out ++ (lst2.take i).map fun p => (V.r (.p y p.1), p.2)) wr))
   case atStart => exact ⟨0, gB, cB, rfl, by simp, rfl, by simpa [LH] using ⟨HO9.out, Ot.refl _ _ _, Below.refl _ _⟩⟩
   case round =>
    obtain ⟨i, gr, cr, rfl, rfl, HM, HB⟩ := hrel
    have hm := HM.out
    cases gk with
    | zero =>
     have h1 : decide (i < nL) = false := decide_eq_false (by omega)
     have HP := HB.out
     rw [List.take_of_length_le (by rw [HNL.out]; omega), HOUT2.out] at HP ⊢
     have HP := Lib.hid HP
     clear HM hm HB
     go_wp2
     exact HQ.out _ _ _ _ _ BW9.out HP.out
    | succ m =>
     have h1 : decide (i < nL) = true := decide_eq_true (by omega)
     have hin : i < nL := by omega
     have hlh := HB.out
     have hkp := hlh.keeps HO9.out
     obtain ⟨hh, hih⟩ : ∃ hh, lst2[i]? = some hh := ⟨_, List.getElem?_eq_getElem (by rw [HNL.out]; exact hin)⟩
     obtain ⟨x0, x1, x2, x3, y0, y1, y2, y3, u1, u2, u3, u4, hx, hy⟩ := (HTR9.out.keep hkp).get i hh hih
     have hc : ∀ j u, us9[j]? = some u -> wr.cell? ⟨gl9, j, none⟩ = some u := by
      intro j u hu
      rcases hlh.2.1.cells HRR9.out (fun k o hk => by cases hk; exact ⟨HGA9.out.1, HGA9.out.1⟩) with h | ⟨gl, ol, h, h'⟩
      · rw [h] at u1; simp at u1
      · cases h
        have := h' j u hu
        rwa [Nat.zero_add] at this
     have d1 := hc _ _ u1
     have d2 := hc _ _ u2
     have d3 := hc _ _ u3
     have d4 := hc _ _ u4
     rw [Nat.mul_comm 4 i] at d1 d2 d3 d4
     have hlk : gl9 < wr.heap.size := World.block_lt_of_cell? wr _ d1
     have hgne : gl9 ≠ gr := by
      have h9 := HGA9.out
      rcases hlh.2.2.1 with h | h <;> omega
     have htk : (out ++ (lst2.take i).map fun p => (V.r (.p y p.1), p.2)) ++ [(V.r (.p y hh.1), hh.2)] = out ++ (lst2.take (i + 1)).map fun p => (V.r (.p y p.1), p.2) := by
      rw [List.take_add_one, hih]
      simp
     have hln1 : (out ++ (lst2.take (i + 1)).map fun p => (V.r (.p y p.1), p.2)).length = (out ++ (lst2.take i).map fun p => (V.r (.p y p.1), p.2)).length + 1 := by
      rw [<- htk, List.length_append]; rfl
     have hln8 : (out ++ (lst2.take i).map fun p => (V.r (.p y p.1), p.2)).length <= (out : List (V × V)).length + nL := by
      rw [List.length_append, List.length_map, List.length_take]; omega
     generalize hacc : (out ++ (lst2.take i).map fun p => (V.r (.p y p.1), p.2)) = acc at *
     obtain ⟨us, hous, htr⟩ := hlh.1
     have hrow0 := hlh.1.row
     have HM9 : Hid (acc.length + 1 <= 1000001) := by show _ <= _; have := HLN2.out; omega
     generalize hml : acc.length = m0 at *
     have HLN1 := Lib.hid hln1
     have HO : Hid (∀ w2, Below wr.heap.size wr w2 -> w2.ownsRow w.heap.size 146 4 (.slice (some ⟨gr, 0, none⟩) m0 cr) m0 us) := fun w2 h => own_up hous h
     have HSZ : Hid (∀ w2, Below wr.heap.size wr w2 -> w.heap.size <= w2.heap.size) := fun w2 h => Nat.le_trans (Nat.le_trans hrow0.2.1 (Nat.le_of_lt hrow0.2.2)) h.size
     have HAF : Hid (∀ w3 w4, Below wr.heap.size wr w3 -> w3.grownBy w4 (some gr) -> Hid (Keeps 59 wr w4 /\ Keeps 146 wr w4 = Keeps 146 wr w4 /\ ∀ k, k < wr.heap.size -> k ≠ gr -> w4.heap[k]? = wr.heap[k]?)) := fun w3 w4 hb hg => ⟨(Keeps.up hb).trans (Keeps.grown (own_up hous hb) hg (by decide)), rfl, fun k hk hne => by rw [hg.block k (Nat.lt_of_lt_of_le hk hb.size) (by simpa using hne), hb.block k hk]⟩
     have HFIN : Hid (∀ w3 w4 g2 c2 x A n c, Below wr.heap.size wr w3 -> TAt w3 (fun _ => True) (V.r (.p y hh.1)).toTr (.agg #[.string x, .slice A n c]) -> w3.grownBy w4 (some gr) -> (g2 = gr \/ w3.heap.size <= g2) -> Below w.heap.size w3 w4 -> w4.ownsRow w.heap.size 146 4 (.slice (some ⟨g2, 0, none⟩) (m0 + 1) c2) (m0 + 1) (us ++ [.string x, .slice A n c, .string y0, .slice y1 y2 y3]) -> Hid (LH w9 w.heap.size gB g2 c2 (out ++ (lst2.take (i + 1)).map fun p => (V.r (.p y p.1), p.2)) w4)) := fun w3 w4 g2 c2 x A n c hb ht hg hat hbl ho => by
      subst hml
      have := LH.step hlh HO9.out hous htr hb hg hat hbl ho ht (x := (V.r (.p y hh.1), hh.2)) (hy.up hb)
      rw [htk] at this
      exact this
     obtain ⟨p0, p1, p2, p3, p4, p5, p6, p7, p8, p9⟩ := HST.out wr (KW9.out.trans hkp)
     have v0 := p5
     have v1 := p6
     have v2 := p7
     clear p0 p1 p2 p3 p4 p5 p6 p7 p8 p9
     have HS : Hid (∀ w', Below wr.heap.size wr w' -> w'.cell? ⟨gl9, i * 4, none⟩ = some (.string x0) /\ w'.cell? ⟨gl9, i * 4 + 1, none⟩ = some (.slice x1 x2 x3) /\ w'.cell? ⟨gl9, i * 4 + 2, none⟩ = some (.string y0) /\ w'.cell? ⟨gl9, i * 4 + 3, none⟩ = some (.slice y1 y2 y3) /\ w'.cell? ⟨w.heap.size + 1, 1, none⟩ = some (.slice (some ⟨bv, ov, none⟩) 3 cv) /\ w'.cell? ⟨bv, ov + 2, none⟩ = some (.string (St y.toTr.atom)) /\ w'.cell? ⟨bv, ov + 3, none⟩ = some (.slice Ay ny cy)) := fun w' h => ⟨cell_up h d1, cell_up h d2, cell_up h d3, cell_up h d4, cell_up h v0, cell_up h v1, cell_up h v2⟩
     have HS9 : Hid (∀ w', Hid (Keeps 59 wr w' /\ Keeps 146 wr w' = Keeps 146 wr w' /\ ∀ k, k < wr.heap.size -> k ≠ gr -> w'.heap[k]? = wr.heap[k]?) -> w'.cell? ⟨gl9, i * 4, none⟩ = some (.string x0) /\ w'.cell? ⟨gl9, i * 4 + 1, none⟩ = some (.slice x1 x2 x3) /\ w'.cell? ⟨gl9, i * 4 + 2, none⟩ = some (.string y0) /\ w'.cell? ⟨gl9, i * 4 + 3, none⟩ = some (.slice y1 y2 y3) /\ w'.cell? ⟨w.heap.size + 1, 1, none⟩ = some (.slice (some ⟨bv, ov, none⟩) 3 cv) /\ w'.cell? ⟨bv, ov + 2, none⟩ = some (.string (St y.toTr.atom)) /\ w'.cell? ⟨bv, ov + 3, none⟩ = some (.slice Ay ny cy)) := fun w' h => by
      have h8 := h.out.2.2 gl9 hlk hgne
      have h7 : w'.cell? ⟨w.heap.size + 1, 1, none⟩ = some (.slice (some ⟨bv, ov, none⟩) 3 cv) /\ w'.cell? ⟨bv, ov + 2, none⟩ = some (.string (St y.toTr.atom)) /\ w'.cell? ⟨bv, ov + 3, none⟩ = some (.slice Ay ny cy) := (let q := HST.out w' (KW9.out.trans (hkp.trans h.out.1)); ⟨q.2.2.2.2.2.1, q.2.2.2.2.2.2.1, q.2.2.2.2.2.2.2.1⟩)
      simp only [World.cell?] at d1 d2 d3 d4 h7 ⊢
      rw [h8]
      exact ⟨d1, d2, d3, d4, h7⟩
     obtain ⟨s0, s1, s2, s3, s4, s5, s6⟩ := HS.out wr (Below.refl _ _)
     have HBLR : Hid (Below w.heap.size w9 wr) := hlh.2.2.2
     clear hlh hkp hih hc u1 u2 u3 u4 d1 d2 d3 d4 hgne htk hacc hous htr hrow0 hml hln1 hln8 HM HB v0 v1 v2
     go_wp2
     refine wp_region_noPanic ?_
     refine wp_region_held_drew (S := (fun w' => w'.cell? ⟨gl9, i * 4, none⟩ = some (.string x0) /\ w'.cell? ⟨gl9, i * 4 + 1, none⟩ = some (.slice x1 x2 x3) /\ w'.cell? ⟨gl9, i * 4 + 2, none⟩ = some (.string y0) /\ w'.cell? ⟨gl9, i * 4 + 3, none⟩ = some (.slice y1 y2 y3) /\ w'.cell? ⟨w.heap.size + 1, 1, none⟩ = some (.slice (some ⟨bv, ov, none⟩) 3 cv) /\ w'.cell? ⟨bv, ov + 2, none⟩ = some (.string (St y.toTr.atom)) /\ w'.cell? ⟨bv, ov + 3, none⟩ = some (.slice Ay ny cy))) (by kernel_rfl) (by exact HS.out _ (up_drew (Below.refl _ _))) (fun hHeld => ?_)
     refine tq 0 rfl ?_
     refine tq 1 rfl ?_
     refine tq 2 rfl ?_
     refine tq 3 rfl ?_
     refine tq 4 rfl ?_
     refine tq 5 rfl ?_
     refine tq 6 rfl ?_
     refine tq 7 rfl ?_
     refine tq 8 rfl ?_
     refine tq 9 rfl ?_
     refine tq 14 rfl ?_
     refine tq 15 rfl ?_
     refine tq 16 rfl ?_
     refine tq 17 rfl ?_
     refine tq 18 rfl ?_
     refine tz 10 rfl fun K hK => ?_
     go_simp
     refine hK.out _ _ (by exact HS.out _ (up_trans (up_drew (Below.refl _ _)) (up1 _ _))) (fun hHeld => ?_)
     clear hK
     try simp only [Act.put, zA, zB, zC, zD, zE, zF]
     refine tz 11 rfl fun K hK => ?_
     go_simp
     go_at_call 71
     refine (mk2 [112] y.toTr hh.1.toTr wr.drew _ _ _ _ _ _ _ _ (((HY.out wr (BW9.out.trans HBLR.out)).out).up (up_drew (Below.refl _ _))) (hx.up (up_drew (Below.refl _ _)))).mono ?_
     rintro e w7 ⟨z_0, z_1, z_2, z_3, rfl, ht7, hb7⟩
     have HB7 : Hid (Below wr.heap.size wr w7) := up_trans (up_drew (Below.refl _ _)) hb7
     have HT7 := Lib.hid ht7
     clear ht7 hb7
     refine hK.out _ _ (by exact HS.out _ HB7.out) (fun hHeld => ?_)
     clear hK
     try simp only [Act.put, zA, zB, zC, zD, zE, zF]
     refine tz 12 rfl fun K hK => ?_
     go_simp
     refine hK.out _ _ (by exact HS.out _ (up_trans HB7.out (up1 _ _))) (fun hHeld => ?_)
     clear hK
     try simp only [Act.put, zA, zB, zC, zD, zE, zF]
     refine tz 13 rfl fun K hK => ?_
     go_simp
     go_at_call 71
     refine (mk1 [114] _ w7 _ _ _ _ HT7.out).mono ?_
     rintro e w8 ⟨q0, q1, q2, q3, rfl, ht8, hb8⟩
     have HB8 : Hid (Below wr.heap.size wr w8) := up_trans HB7.out hb8
     have HT8 := Lib.hid ht8
     clear ht8 hb8
     refine hK.out _ _ (by exact HS.out _ HB8.out) (fun hHeld => ?_)
     clear hK
     try simp only [Act.put, zA, zB, zC, zD, zE, zF]
     refine tq 19 rfl ?_
     refine tz 20 rfl fun K hK => ?_
     go_simp
     refine hK.out _ _ (by exact HS.out _ (up_trans HB8.out (up1 _ _))) (fun hHeld => ?_)
     clear hK
     try simp only [Act.put, zA, zB, zC, zD, zE, zF]
     refine tz 21 rfl fun K hK => ?_
     refine step_append_rows _ rfl _ _ 76 rfl w.heap.size 4 146 i0 (.agg #[.string ⟨#[]⟩, .slice none 0 0, .string ⟨#[]⟩, .slice none 0 0]) 80 Tryz.underlying76 hi0 hz0 hz1 hz2 rfl (by decide) gr m0 cr us rfl (HO.out _ (up_trans HB8.out (up1 _ _))) (some ⟨_, 0, none⟩) 1 1 [.string q0, .slice q1 q2 q3, .string y0, .slice y1 y2 y3] rfl rfl (row_four (block_new w8 _)) (by simp [Value.oneCell']) (by have := HM9.out; omega) (by decide) (HSZ.out _ (up_trans HB8.out (up1 _ _))) (m0 + 1) rfl (us ++ [.string q0, .slice q1 q2 q3, .string y0, .slice y1 y2 y3]) rfl ?_
     intro gn cn w9 hown hgrow hbel hat
     have HK9 := HAF.out _ w9 (up_trans HB8.out (up1 _ _)) hgrow
     have HG9 := Lib.hid hgrow
     have HFF := HFIN.out _ w9 gn cn _ _ _ _ (up_trans HB8.out (up1 _ _)) (HT8.out.up (up1 _ _)) hgrow (by simpa using hat) hbel hown
     clear hown hgrow hbel hat
     refine hK.out _ _ (by exact HS9.out _ HK9) (fun hHeld => ?_)
     clear hK
     try simp only [Act.put, zA, zB, zC, zD, zE, zF]
     refine tq 22 rfl ?_
     refine wpAnyH_done (by kernel_rfl) ?_ _
     refine NoPanic.normal ?_
     go_wp2
     go_roundg m
     case measure => omega
     case rel => exact ⟨i + 1, gn, cn, rfl, by rw [HLN1.out], by show m + (i + 1) = nL; omega, HFF.out⟩
  | succ m =>
   have h1 : decide (i < nL) = true := decide_eq_true (by omega)
   have hin : i < nL := by omega
   have hlh := HB.out
   have hkp := hlh.keeps HO5.out
   obtain ⟨hh, hih⟩ : ∃ hh, lst[i]? = some hh := ⟨_, List.getElem?_eq_getElem (by rw [HNL.out]; exact hin)⟩
   obtain ⟨x0, x1, x2, x3, y0, y1, y2, y3, u1, u2, u3, u4, hx, hy⟩ := (HTR5.out.keep hkp).get i hh hih
   have hc : ∀ j u, us5[j]? = some u -> wr.cell? ⟨gl5, j, none⟩ = some u := by
    intro j u hu
    rcases hlh.2.1.cells HRR5.out (fun k o hk => by cases hk; exact ⟨HGA5.out.1, HGA5.out.1⟩) with h | ⟨gl, ol, h, h'⟩
    · rw [h] at u1; simp at u1
    · cases h
      have := h' j u hu
      rwa [Nat.zero_add] at this
   have d1 := hc _ _ u1
   have d2 := hc _ _ u2
   have d3 := hc _ _ u3
   have d4 := hc _ _ u4
   rw [Nat.mul_comm 4 i] at d1 d2 d3 d4
   have hlk : gl5 < wr.heap.size := World.block_lt_of_cell? wr _ d1
   have hgne : gl5 ≠ gr := by
    have h9 := HGA5.out
    rcases hlh.2.2.1 with h | h <;> omega
   have htk : (([] : List (V × V)) ++ (lst.take i).map fun p => (V.l (.p p.1 z), p.2)) ++ [(V.l (.p hh.1 z), hh.2)] = ([] : List (V × V)) ++ (lst.take (i + 1)).map fun p => (V.l (.p p.1 z), p.2) := by
    rw [List.take_add_one, hih]
    simp
   have hln1 : (([] : List (V × V)) ++ (lst.take (i + 1)).map fun p => (V.l (.p p.1 z), p.2)).length = (([] : List (V × V)) ++ (lst.take i).map fun p => (V.l (.p p.1 z), p.2)).length + 1 := by
    rw [<- htk, List.length_append]; rfl
   have hln8 : (([] : List (V × V)) ++ (lst.take i).map fun p => (V.l (.p p.1 z), p.2)).length <= (([] : List (V × V)) : List (V × V)).length + nL := by
    rw [List.length_append, List.length_map, List.length_take]; omega
   generalize hacc : (([] : List (V × V)) ++ (lst.take i).map fun p => (V.l (.p p.1 z), p.2)) = acc at *
   obtain ⟨us, hous, htr⟩ := hlh.1
   have hrow0 := hlh.1.row
   have HM9 : Hid (acc.length + 1 <= 1000001) := by show _ <= _; have := HLN.out; omega
   generalize hml : acc.length = m0 at *
   have HLN1 := Lib.hid hln1
   have HO : Hid (∀ w2, Below wr.heap.size wr w2 -> w2.ownsRow w.heap.size 146 4 (.slice (some ⟨gr, 0, none⟩) m0 cr) m0 us) := fun w2 h => own_up hous h
   have HSZ : Hid (∀ w2, Below wr.heap.size wr w2 -> w.heap.size <= w2.heap.size) := fun w2 h => Nat.le_trans (Nat.le_trans hrow0.2.1 (Nat.le_of_lt hrow0.2.2)) h.size
   have HAF : Hid (∀ w3 w4, Below wr.heap.size wr w3 -> w3.grownBy w4 (some gr) -> Hid (Keeps 59 wr w4 /\ Keeps 146 wr w4 = Keeps 146 wr w4 /\ ∀ k, k < wr.heap.size -> k ≠ gr -> w4.heap[k]? = wr.heap[k]?)) := fun w3 w4 hb hg => ⟨(Keeps.up hb).trans (Keeps.grown (own_up hous hb) hg (by decide)), rfl, fun k hk hne => by rw [hg.block k (Nat.lt_of_lt_of_le hk hb.size) (by simpa using hne), hb.block k hk]⟩
   have HFIN : Hid (∀ w3 w4 g2 c2 x A n c, Below wr.heap.size wr w3 -> TAt w3 (fun _ => True) (V.l (.p hh.1 z)).toTr (.agg #[.string x, .slice A n c]) -> w3.grownBy w4 (some gr) -> (g2 = gr \/ w3.heap.size <= g2) -> Below w.heap.size w3 w4 -> w4.ownsRow w.heap.size 146 4 (.slice (some ⟨g2, 0, none⟩) (m0 + 1) c2) (m0 + 1) (us ++ [.string x, .slice A n c, .string y0, .slice y1 y2 y3]) -> Hid (LH w5 w.heap.size (w.heap.size + 2) g2 c2 (([] : List (V × V)) ++ (lst.take (i + 1)).map fun p => (V.l (.p p.1 z), p.2)) w4)) := fun w3 w4 g2 c2 x A n c hb ht hg hat hbl ho => by
    subst hml
    have := LH.step hlh HO5.out hous htr hb hg hat hbl ho ht (x := (V.l (.p hh.1 z), hh.2)) (hy.up hb)
    rw [htk] at this
    exact this
   obtain ⟨p0, p1, p2, p3, p4, p5, p6, p7, p8, p9⟩ := HST.out wr ((Keeps.up HB5.out).trans hkp)
   have v0 := p5
   have v1 := p8
   have v2 := p9
   clear p0 p1 p2 p3 p4 p5 p6 p7 p8 p9
   have HS : Hid (∀ w', Below wr.heap.size wr w' -> w'.cell? ⟨gl5, i * 4, none⟩ = some (.string x0) /\ w'.cell? ⟨gl5, i * 4 + 1, none⟩ = some (.slice x1 x2 x3) /\ w'.cell? ⟨gl5, i * 4 + 2, none⟩ = some (.string y0) /\ w'.cell? ⟨gl5, i * 4 + 3, none⟩ = some (.slice y1 y2 y3) /\ w'.cell? ⟨w.heap.size + 1, 1, none⟩ = some (.slice (some ⟨bv, ov, none⟩) 3 cv) /\ w'.cell? ⟨bv, ov + 4, none⟩ = some (.string (St z.toTr.atom)) /\ w'.cell? ⟨bv, ov + 5, none⟩ = some (.slice Az nz cz)) := fun w' h => ⟨cell_up h d1, cell_up h d2, cell_up h d3, cell_up h d4, cell_up h v0, cell_up h v1, cell_up h v2⟩
   have HS9 : Hid (∀ w', Hid (Keeps 59 wr w' /\ Keeps 146 wr w' = Keeps 146 wr w' /\ ∀ k, k < wr.heap.size -> k ≠ gr -> w'.heap[k]? = wr.heap[k]?) -> w'.cell? ⟨gl5, i * 4, none⟩ = some (.string x0) /\ w'.cell? ⟨gl5, i * 4 + 1, none⟩ = some (.slice x1 x2 x3) /\ w'.cell? ⟨gl5, i * 4 + 2, none⟩ = some (.string y0) /\ w'.cell? ⟨gl5, i * 4 + 3, none⟩ = some (.slice y1 y2 y3) /\ w'.cell? ⟨w.heap.size + 1, 1, none⟩ = some (.slice (some ⟨bv, ov, none⟩) 3 cv) /\ w'.cell? ⟨bv, ov + 4, none⟩ = some (.string (St z.toTr.atom)) /\ w'.cell? ⟨bv, ov + 5, none⟩ = some (.slice Az nz cz)) := fun w' h => by
    have h8 := h.out.2.2 gl5 hlk hgne
    have h7 : w'.cell? ⟨w.heap.size + 1, 1, none⟩ = some (.slice (some ⟨bv, ov, none⟩) 3 cv) /\ w'.cell? ⟨bv, ov + 4, none⟩ = some (.string (St z.toTr.atom)) /\ w'.cell? ⟨bv, ov + 5, none⟩ = some (.slice Az nz cz) := (let q := HST.out w' ((Keeps.up HB5.out).trans (hkp.trans h.out.1)); ⟨q.2.2.2.2.2.1, q.2.2.2.2.2.2.2.2.1, q.2.2.2.2.2.2.2.2.2⟩)
    simp only [World.cell?] at d1 d2 d3 d4 h7 ⊢
    rw [h8]
    exact ⟨d1, d2, d3, d4, h7⟩
   obtain ⟨s0, s1, s2, s3, s4, s5, s6⟩ := HS.out wr (Below.refl _ _)
   have HBLR : Hid (Below w.heap.size w5 wr) := hlh.2.2.2
   clear hlh hkp hih hc u1 u2 u3 u4 d1 d2 d3 d4 hgne htk hacc hous htr hrow0 hml hln1 hln8 HM HB v0 v1 v2
   go_wp2
   refine wp_region_noPanic ?_
   refine wp_region_held_drew (S := (fun w' => w'.cell? ⟨gl5, i * 4, none⟩ = some (.string x0) /\ w'.cell? ⟨gl5, i * 4 + 1, none⟩ = some (.slice x1 x2 x3) /\ w'.cell? ⟨gl5, i * 4 + 2, none⟩ = some (.string y0) /\ w'.cell? ⟨gl5, i * 4 + 3, none⟩ = some (.slice y1 y2 y3) /\ w'.cell? ⟨w.heap.size + 1, 1, none⟩ = some (.slice (some ⟨bv, ov, none⟩) 3 cv) /\ w'.cell? ⟨bv, ov + 4, none⟩ = some (.string (St z.toTr.atom)) /\ w'.cell? ⟨bv, ov + 5, none⟩ = some (.slice Az nz cz))) (by kernel_rfl) (by exact HS.out _ (up_drew (Below.refl _ _))) (fun hHeld => ?_)
   refine tq 0 rfl ?_
   refine tq 1 rfl ?_
   refine tq 2 rfl ?_
   refine tq 3 rfl ?_
   refine tq 4 rfl ?_
   refine tq 5 rfl ?_
   refine tq 6 rfl ?_
   refine tq 7 rfl ?_
   refine tq 8 rfl ?_
   refine tq 9 rfl ?_
   refine tq 14 rfl ?_
   refine tq 15 rfl ?_
   refine tq 16 rfl ?_
   refine tq 17 rfl ?_
   refine tq 18 rfl ?_
   refine tz 10 rfl fun K hK => ?_
   go_simp
   refine hK.out _ _ (by exact HS.out _ (up_trans (up_drew (Below.refl _ _)) (up1 _ _))) (fun hHeld => ?_)
   clear hK
   try simp only [Act.put, zA, zB, zC, zD, zE, zF]
   refine tz 11 rfl fun K hK => ?_
   go_simp
   go_at_call 71
   refine (mk2 [112] hh.1.toTr z.toTr wr.drew _ _ _ _ _ _ _ _ (hx.up (up_drew (Below.refl _ _))) (((HZ.out wr (up_trans HB1.out HB5.out |>.trans HBLR.out)).out).up (up_drew (Below.refl _ _)))).mono ?_
   rintro e w7 ⟨z_0, z_1, z_2, z_3, rfl, ht7, hb7⟩
   have HB7 : Hid (Below wr.heap.size wr w7) := up_trans (up_drew (Below.refl _ _)) hb7
   have HT7 := Lib.hid ht7
   clear ht7 hb7
   refine hK.out _ _ (by exact HS.out _ HB7.out) (fun hHeld => ?_)
   clear hK
   try simp only [Act.put, zA, zB, zC, zD, zE, zF]
   refine tz 12 rfl fun K hK => ?_
   go_simp
   refine hK.out _ _ (by exact HS.out _ (up_trans HB7.out (up1 _ _))) (fun hHeld => ?_)
   clear hK
   try simp only [Act.put, zA, zB, zC, zD, zE, zF]
   refine tz 13 rfl fun K hK => ?_
   go_simp
   go_at_call 71
   refine (mk1 [108] _ w7 _ _ _ _ HT7.out).mono ?_
   rintro e w8 ⟨q0, q1, q2, q3, rfl, ht8, hb8⟩
   have HB8 : Hid (Below wr.heap.size wr w8) := up_trans HB7.out hb8
   have HT8 := Lib.hid ht8
   clear ht8 hb8
   refine hK.out _ _ (by exact HS.out _ HB8.out) (fun hHeld => ?_)
   clear hK
   try simp only [Act.put, zA, zB, zC, zD, zE, zF]
   refine tq 19 rfl ?_
   refine tz 20 rfl fun K hK => ?_
   go_simp
   refine hK.out _ _ (by exact HS.out _ (up_trans HB8.out (up1 _ _))) (fun hHeld => ?_)
   clear hK
   try simp only [Act.put, zA, zB, zC, zD, zE, zF]
   refine tz 21 rfl fun K hK => ?_
   refine step_append_rows _ rfl _ _ 76 rfl w.heap.size 4 146 i0 (.agg #[.string ⟨#[]⟩, .slice none 0 0, .string ⟨#[]⟩, .slice none 0 0]) 80 Tryz.underlying76 hi0 hz0 hz1 hz2 rfl (by decide) gr m0 cr us rfl (HO.out _ (up_trans HB8.out (up1 _ _))) (some ⟨_, 0, none⟩) 1 1 [.string q0, .slice q1 q2 q3, .string y0, .slice y1 y2 y3] rfl rfl (row_four (block_new w8 _)) (by simp [Value.oneCell']) (by have := HM9.out; omega) (by decide) (HSZ.out _ (up_trans HB8.out (up1 _ _))) (m0 + 1) rfl (us ++ [.string q0, .slice q1 q2 q3, .string y0, .slice y1 y2 y3]) rfl ?_
   intro gn cn w9 hown hgrow hbel hat
   have HK9 := HAF.out _ w9 (up_trans HB8.out (up1 _ _)) hgrow
   have HG9 := Lib.hid hgrow
   have HFF := HFIN.out _ w9 gn cn _ _ _ _ (up_trans HB8.out (up1 _ _)) (HT8.out.up (up1 _ _)) hgrow (by simpa using hat) hbel hown
   clear hown hgrow hbel hat
   refine hK.out _ _ (by exact HS9.out _ HK9) (fun hHeld => ?_)
   clear hK
   try simp only [Act.put, zA, zB, zC, zD, zE, zF]
   refine tq 22 rfl ?_
   refine wpAnyH_done (by kernel_rfl) ?_ _
   refine NoPanic.normal ?_
   go_wp2
   go_roundg m
   case measure => omega
   case rel => exact ⟨i + 1, gn, cn, rfl, by rw [HLN1.out], by show m + (i + 1) = nL; omega, HFF.out⟩
end Go.Proofs.YtpokompplapkhaaGreatDoor

