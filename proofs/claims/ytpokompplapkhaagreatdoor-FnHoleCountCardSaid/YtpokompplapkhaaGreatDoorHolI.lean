/- The program's isAt; what holesOf's closures do. -/
import Derived.Test.YtpokompplapkhaaGreatDoorNE
import Derived.Test.YtpokompplapkhaaGreatDoorTk
namespace Go.Proofs.YtpokompplapkhaaGreatDoor
set_option maxHeartbeats 8000000
set_option maxRecDepth 100000
open Go.RowKit
set_option linter.unusedVariables false
set_option linter.unusedSimpArgs false
theorem Tryz.infoHole : (Tryz.prog.info? 134).map (fun i => (i.zero, i.size, i.bytes)) = some (some (.agg #[.pointer none, .pointer none]), 2, 16) := by kernel_rfl
theorem row_two {w : World} {k : Nat} {a b : Value} {T : TypeId} (h : w.heap[k]? = some (.cells #[a, b] T (0, 0))) : RCells w (some ⟨k, 0, none⟩) [a, b] :=
 .inr ⟨k, 0, rfl, fun j u hu => by
  rw [block_cell h (0 + j), Nat.zero_add]
  simpa using hu⟩
theorem box3 (w : World) (a b c : Obj) : (((w.alloc a).alloc b).alloc c).heap[w.heap.size]? = some a /\ (((w.alloc a).alloc b).alloc c).heap[w.heap.size + 1]? = some b /\ (((w.alloc a).alloc b).alloc c).heap[w.heap.size + 2]? = some c :=
 ⟨block_alloc (old2 w a b) c, block_alloc (new2 w a b) c, new3 w a b c⟩
theorem around_l (cb gv : Nat) (x : V) (p : Option Addr) (w : World) (hx : VAt w x p) (hc : w.cell? ⟨cb, 0, none⟩ = some (.pointer (some ⟨gv, 0, none⟩))) (hv : w.cell? ⟨gv, 0, none⟩ = some (.int .u8 108)) :
 Calls Tryz.prog 113 #[.pointer p, .pointer (some ⟨cb, 0, none⟩)] w fun e w' => ∃ r, e = .returned (.pointer r) /\ VAt w' (V.l x) r /\ Below w.heap.size w w' := by
 have HX := Lib.hid hx
 have lc := World.block_lt_of_cell? w _ hc
 have lv := World.block_lt_of_cell? w _ hv
 clear hx
 go_enter Tryz.func113, Tryz.ntmps113
 go_wp2_with (go_at_call 114; refine (with_any 108 p _).mono ?_; rintro e w1 ⟨g, rfl, hg, hb⟩; have HG := Lib.hid hg; have HB := Lib.hid hb; clear hg hb)
 go_ret
 exact ⟨_, rfl, ⟨p, ⟨g, rfl, HG.out⟩, HX.out.up HB.out⟩, HB.out⟩
theorem around_r (cb gv : Nat) (x : V) (p : Option Addr) (w : World) (hx : VAt w x p) (hc : w.cell? ⟨cb, 0, none⟩ = some (.pointer (some ⟨gv, 0, none⟩))) (hv : w.cell? ⟨gv, 0, none⟩ = some (.int .u8 114)) :
 Calls Tryz.prog 113 #[.pointer p, .pointer (some ⟨cb, 0, none⟩)] w fun e w' => ∃ r, e = .returned (.pointer r) /\ VAt w' (V.r x) r /\ Below w.heap.size w w' := by
 have HX := Lib.hid hx
 have lc := World.block_lt_of_cell? w _ hc
 have lv := World.block_lt_of_cell? w _ hv
 clear hx
 go_enter Tryz.func113, Tryz.ntmps113
 go_wp2_with (go_at_call 114; refine (with_any 114 p _).mono ?_; rintro e w1 ⟨g, rfl, hg, hb⟩; have HG := Lib.hid hg; have HB := Lib.hid hb; clear hg hb)
 go_ret
 exact ⟨_, rfl, ⟨p, ⟨g, rfl, HG.out⟩, HX.out.up HB.out⟩, HB.out⟩
theorem around_pl (cb gv : Nat) (y : V) (q : Option Addr) (x : V) (p : Option Addr) (w : World) (hx : VAt w x p) (hy : VAt w y q) (hc : w.cell? ⟨cb, 0, none⟩ = some (.pointer (some ⟨gv, 0, none⟩))) (hv : w.cell? ⟨gv, 3, none⟩ = some (.pointer q)) :
 Calls Tryz.prog 115 #[.pointer p, .pointer (some ⟨cb, 0, none⟩)] w fun e w' => ∃ r, e = .returned (.pointer r) /\ VAt w' (V.l (.p x y)) r /\ Below w.heap.size w w' := by
 have HX := Lib.hid hx
 have HY := Lib.hid hy
 have lc := World.block_lt_of_cell? w _ hc
 have lv := World.block_lt_of_cell? w _ hv
 clear hx hy
 go_enter Tryz.func115, Tryz.ntmps115
 go_wp2_with (first | (go_at_call 116; refine (mkpair_any p q _).mono ?_; rintro e w1 ⟨g, rfl, hg, hb⟩; have HG := Lib.hid hg; have HB := Lib.hid hb; clear hg hb) | (go_at_call 114; refine (with_any 108 _ _).mono ?_; rintro e w2 ⟨g2, rfl, hg2, hb2⟩; have HG2 := Lib.hid hg2; have HB2 := Lib.hid hb2; clear hg2 hb2))
 go_ret
 exact ⟨_, rfl, ⟨_, ⟨g2, rfl, HG2.out⟩, ⟨_, _, ⟨g, rfl, block_up HB2.out HG.out⟩, HX.out.up (up_trans HB.out HB2.out), HY.out.up (up_trans HB.out HB2.out)⟩⟩, up_trans HB.out HB2.out⟩
theorem around_pr (cb gv : Nat) (y : V) (q : Option Addr) (x : V) (p : Option Addr) (w : World) (hx : VAt w x p) (hy : VAt w y q) (hc : w.cell? ⟨cb, 0, none⟩ = some (.pointer (some ⟨gv, 0, none⟩))) (hv : w.cell? ⟨gv, 2, none⟩ = some (.pointer q)) :
 Calls Tryz.prog 117 #[.pointer p, .pointer (some ⟨cb, 0, none⟩)] w fun e w' => ∃ r, e = .returned (.pointer r) /\ VAt w' (V.r (.p y x)) r /\ Below w.heap.size w w' := by
 have HX := Lib.hid hx
 have HY := Lib.hid hy
 have lc := World.block_lt_of_cell? w _ hc
 have lv := World.block_lt_of_cell? w _ hv
 clear hx hy
 go_enter Tryz.func117, Tryz.ntmps117
 go_wp2_with (first | (go_at_call 116; refine (mkpair_any q p _).mono ?_; rintro e w1 ⟨g, rfl, hg, hb⟩; have HG := Lib.hid hg; have HB := Lib.hid hb; clear hg hb) | (go_at_call 114; refine (with_any 114 _ _).mono ?_; rintro e w2 ⟨g2, rfl, hg2, hb2⟩; have HG2 := Lib.hid hg2; have HB2 := Lib.hid hb2; clear hg2 hb2))
 go_ret
 exact ⟨_, rfl, ⟨_, ⟨g2, rfl, HG2.out⟩, ⟨_, _, ⟨g, rfl, block_up HB2.out HG.out⟩, HY.out.up (up_trans HB.out HB2.out), HX.out.up (up_trans HB.out HB2.out)⟩⟩, up_trans HB.out HB2.out⟩
theorem around_f  (x : V) (p : Option Addr) (w : World) (hx : VAt w x p)  :
 Calls Tryz.prog 119 #[.pointer p] w fun e w' => ∃ r, e = .returned (.pointer r) /\ VAt w' (V.f (.l x)) r /\ Below w.heap.size w w' := by
 have HX := Lib.hid hx
 clear hx
 go_enter Tryz.func119, Tryz.ntmps119
 go_wp2_with (first | (go_at_call 114; first | (have HB' := HB.out; clear HB'; refine (with_any 102 _ _).mono ?_; rintro e w2 ⟨g2, rfl, hg2, hb2⟩; have HG2 := Lib.hid hg2; have HB2 := Lib.hid hb2; clear hg2 hb2) | (refine (with_any 108 p _).mono ?_; rintro e w1 ⟨g, rfl, hg, hb⟩; have HG := Lib.hid hg; have HB := Lib.hid hb; clear hg hb)))
 go_ret
 exact ⟨_, rfl, ⟨_, ⟨g2, rfl, HG2.out⟩, ⟨_, ⟨g, rfl, block_up HB2.out HG.out⟩, HX.out.up (up_trans HB.out HB2.out)⟩⟩, up_trans HB.out HB2.out⟩
theorem around_k (cb : Nat) (y : V) (q : Option Addr) (x : V) (p : Option Addr) (w : World) (hx : VAt w x p) (hy : VAt w y q) (hc : w.cell? ⟨cb, 0, none⟩ = some (.pointer q)) :
 Calls Tryz.prog 120 #[.pointer p, .pointer (some ⟨cb, 0, none⟩)] w fun e w' => ∃ r, e = .returned (.pointer r) /\ VAt w' (V.f (.r (.p y x))) r /\ Below w.heap.size w w' := by
 have HX := Lib.hid hx
 have HY := Lib.hid hy
 have lc := World.block_lt_of_cell? w _ hc
 clear hx hy
 go_enter Tryz.func120, Tryz.ntmps120
 go_wp2_with (first | (go_at_call 116; refine (mkpair_any q p _).mono ?_; rintro e w1 ⟨g, rfl, hg, hb⟩; have HG := Lib.hid hg; have HB := Lib.hid hb; clear hg hb) | (go_at_call 114; first | (have HB2' := HB2.out; clear HB2'; refine (with_any 102 _ _).mono ?_; rintro e w3 ⟨g3, rfl, hg3, hb3⟩; have HG3 := Lib.hid hg3; have HB3 := Lib.hid hb3; clear hg3 hb3) | (refine (with_any 114 _ _).mono ?_; rintro e w2 ⟨g2, rfl, hg2, hb2⟩; have HG2 := Lib.hid hg2; have HB2 := Lib.hid hb2; clear hg2 hb2)))
 go_ret
 exact ⟨_, rfl, ⟨_, ⟨g3, rfl, HG3.out⟩, ⟨_, ⟨g2, rfl, block_up HB3.out HG2.out⟩, ⟨_, _, ⟨g, rfl, block_up (up_trans HB2.out HB3.out) HG.out⟩, HY.out.up (up_trans HB.out (up_trans HB2.out HB3.out)), HX.out.up (up_trans HB.out (up_trans HB2.out HB3.out))⟩⟩⟩, up_trans HB.out (up_trans HB2.out HB3.out)⟩
theorem cell_other {w : World} {k b i : Nat} {u : Value} (h : ¬ k = b) {j : Nat} : (w.setCell ⟨b, j, none⟩ u).cell? ⟨k, i, none⟩ = w.cell? ⟨k, i, none⟩ := by
 simp only [World.cell?]
 rw [Below.heap_setCell _ ⟨b, j, none⟩ _ k h]
theorem add_one (KF : Nat) (hcl : ∀ (args : Array Value) (w : World), (callFunc KF args).run Tryz.prog w = .ok (.enter KF args) w) (cp : Option Addr) (F : V -> V) (w0 : World) (b g c : Nat) (hs hs2 : List (V × V)) (A : Option Addr) (c2 : Nat) (us2 : List Value) (w : World) (hi : HBx w0 b g c hs w) (hr : RCells w A us2) (h2 : HL w hs2 us2) (hA : ∀ k o, A = some ⟨k, o, none⟩ -> k ≠ b /\ k ≠ g) (hn : hs.length + hs2.length <= 1000000)
 (hK : ∀ w1 v p, Ot b g w w1 -> Below w0.heap.size w0 w1 -> VAt w1 v p -> Calls Tryz.prog KF #[.pointer p, .pointer cp] w1 fun e w' => ∃ r, e = .returned (.pointer r) /\ VAt w' (F v) r /\ Below w1.heap.size w1 w') :
 Calls Tryz.prog 110 #[.slice A hs2.length c2, .func (.func KF) #[] #[.pointer cp], .pointer (some ⟨b, 0, none⟩)] w fun e w' => e = .returned (.tuple #[]) /\ ∃ g' c', HBx w0 b g' c' (hs ++ hs2.map fun h => (F h.1, h.2)) w' /\ Ot b g w w' /\ (g' = g \/ w.heap.size <= g') := by
 obtain ⟨i0, hi0, hz0, hz1, hz2⟩ := info_parts Tryz.infoHole
 have HCL := Lib.hid hcl
 have HI := Lib.hid hi
 have HR := Lib.hid hr
 have H2 := Lib.hid h2
 have HA := Lib.hid hA
 have HN := Lib.hid hn
 have HK := Lib.hid hK
 clear hi hr h2 hA hn hK hcl
 generalize hL : hs2.length = n at *
 have HL2 := Lib.hid hL
 have hn9 : n <= 1000000 := by have := HN.out; omega
 clear hL
 go_enter Tryz.func110, Tryz.ntmps110
 go_wp2
 go_loopg [9] n (fun m v9 wr => ∃ i : Nat, v9 = .int .i64 i /\ Hid (m + i = n) /\ Hid (∃ g' c', HBx w0 b g' c' (hs ++ (hs2.take i).map fun h => (F h.1, h.2)) wr /\ Ot b g w wr /\ (g' = g \/ w.heap.size <= g')))
 case atStart => exact ⟨0, rfl, rfl, g, c, by simpa using HI.out, Ot.refl _ _ _, .inl rfl⟩
 case round =>
  obtain ⟨i, rfl, HM, HB⟩ := hrel
  have hm := HM.out
  cases gk with
  | zero =>
   have h1 : decide (i < n) = false := decide_eq_false (by omega)
   have HP : Hid (∃ g' c', HBx w0 b g' c' (hs ++ hs2.map fun h => (F h.1, h.2)) wr /\ Ot b g w wr /\ (g' = g \/ w.heap.size <= g')) := by
    have := HB.out
    rwa [List.take_of_length_le (by rw [HL2.out]; omega)] at this
   clear HM hm HB
   go_wp2
   go_end0
   exact ⟨rfl, HP.out⟩
  | succ m =>
   have h1 : decide (i < n) = true := decide_eq_true (by omega)
   have hin : i < n := by omega
   obtain ⟨g', c', hbx, hot, hgg⟩ := HB.out
   have hkp := HI.out.kp hot
   have hrow := hot.cells HR.out HA.out
   obtain ⟨hh, hih⟩ : ∃ hh, hs2[i]? = some hh := ⟨_, List.getElem?_eq_getElem (by rw [HL2.out]; exact hin)⟩
   obtain ⟨p, q, u1, u2, hp, hq⟩ := (H2.out.keep hkp.vl).get i hh hih
   obtain ⟨gl, ol, rfl, hc⟩ : ∃ gl ol, A = some ⟨gl, ol, none⟩ /\ ∀ j u, us2[j]? = some u -> wr.cell? ⟨gl, ol + j, none⟩ = some u := by
    rcases hrow with h | ⟨gl, ol, h, h'⟩
    · rw [h] at u1; simp at u1
    · exact ⟨gl, ol, h, h'⟩
   have d1 := hc _ _ u1
   have d2 := hc _ _ u2
   rw [Nat.mul_comm 2 i] at d1 d2
   have d3 : wr.cell? ⟨gl, ol + i * 2 + 1, none⟩ = some (.pointer q) := by rw [Nat.add_assoc]; exact d2
   have hln : (hs ++ (hs2.take i).map fun h => (F h.1, h.2)).length = hs.length + i := by
    rw [List.length_append, List.length_map, List.length_take, Nat.min_eq_left (by rw [HL2.out]; omega)]
   have htk : (hs ++ (hs2.take i).map fun h => (F h.1, h.2)) ++ [(F hh.1, hh.2)] = hs ++ (hs2.take (i + 1)).map fun h => (F h.1, h.2) := by
    rw [List.take_add_one, hih]
    simp
   generalize hacc : (hs ++ (hs2.take i).map fun h => (F h.1, h.2)) = acc at *
   obtain ⟨b1, b2, b3, us, b4, b5⟩ := id hbx
   have HM9 : Hid (acc.length + 1 <= 1000001) := by show _ <= _; have := HN.out; omega
   have HNEXT : Hid (∀ w4 g2 c2', HBx w0 b g2 c2' (acc ++ [(F hh.1, hh.2)]) w4 -> Ot b g' wr w4 -> (g2 = g' \/ wr.heap.size <= g2) -> ∃ g' c', HBx w0 b g' c' (hs ++ (hs2.take (i + 1)).map fun h => (F h.1, h.2)) w4 /\ Ot b g w w4 /\ (g' = g \/ w.heap.size <= g')) := fun w4 g2 c2' k1 k2 k3 => by
    rw [htk] at k1
    refine ⟨g2, c2', k1, hot.trans hgg k2, ?_⟩
    have := hot.size
    omega
   generalize hml : acc.length = m0 at *
   have HBXW := Lib.hid hbx
   have HBL := Lib.hid b1
   go_wp2
   have BW := up1 wr (.cells #[.pointer p, .pointer q] 134)
   have CW := block_new wr (.cells #[.pointer p, .pointer q] 134)
   generalize (wr.alloc (.cells #[.pointer p, .pointer q] 134)) = W1 at *
   have HBW := Lib.hid BW
   have hbc1 := block_up BW b3
   have HS : Hid (∀ w', Below W1.heap.size W1 w' -> w'.cell? ⟨wr.heap.size, 0, none⟩ = some (.pointer p) /\ w'.cell? ⟨wr.heap.size, 1, none⟩ = some (.pointer q)) := fun w' h => ⟨block_cell (block_up h CW) 0, block_cell (block_up h CW) 1⟩
   have HBC : Hid (∀ w', Below W1.heap.size W1 w' -> w'.cell? ⟨b, 0, none⟩ = some (.slice (some ⟨g', 0, none⟩) m0 c') /\ b < w'.heap.size) := fun w' h => ⟨block_cell (block_up h hbc1) 0, lt_of_block (block_up h hbc1)⟩
   obtain ⟨e1, e2⟩ := HS.out W1 (Below.refl _ _)
   obtain ⟨e0, _⟩ := HBC.out W1 (Below.refl _ _)
   have f0 := block_free hbc1 0
   have l0 := lt_of_block hbc1
   have HKK : Hid (∀ w2, Below W1.heap.size W1 w2 -> Calls Tryz.prog KF #[.pointer p, .pointer cp] w2 fun e w' => ∃ r, e = .returned (.pointer r) /\ VAt w' (F hh.1) r /\ Below w2.heap.size w2 w') := fun w2 h => HK.out w2 hh.1 p (hot.trans hgg (.up (up_trans HBW.out h))) (up_trans HBL.out (up_trans HBW.out h)) (hp.up (up_trans HBW.out h))
   have HO : Hid (∀ w2, Below W1.heap.size W1 w2 -> w2.ownsRow w0.heap.size 134 2 (.slice (some ⟨g', 0, none⟩) m0 c') m0 us) := fun w2 h => own_up b4 (up_trans HBW.out h)
   have HSZ : Hid (∀ w2, Below W1.heap.size W1 w2 -> w0.heap.size <= w2.heap.size) := fun w2 h => (up_trans HBL.out (up_trans HBW.out h)).size
   have hgb := HBXW.out.row
   have HAF : Hid (∀ w3 w4, Below W1.heap.size W1 w3 -> w3.grownBy w4 (some g') -> w4.cell? ⟨b, 0, none⟩ = some (.slice (some ⟨g', 0, none⟩) m0 c') /\ w4.frozen? ⟨b, 0, none⟩ = false /\ b < w4.heap.size /\ w4.cell? ⟨wr.heap.size, 0, none⟩ = some (.pointer p) /\ w4.cell? ⟨wr.heap.size, 1, none⟩ = some (.pointer q)) := fun w3 w4 hb hg => by
    have k1 := block_up hb hbc1
    have k2 := block_up hb CW
    have hgw : g' < wr.heap.size := by obtain ⟨⟨cur, e⟩, _, _⟩ := hgb; exact lt_of_block e
    have k3 : w4.heap[b]? = _ := (hg.block b (lt_of_block k1) (by simp; exact fun h => hgb.2.1 h.symm)).trans k1
    have k4 : w4.heap[wr.heap.size]? = _ := (hg.block _ (lt_of_block k2) (by simp; omega)).trans k2
    exact ⟨block_cell k3 0, block_free k3 0, lt_of_block k3, block_cell k4 0, block_cell k4 1⟩
   have HFIN : Hid (∀ w3 w4 g2 c2' r, Below W1.heap.size W1 w3 -> VAt w3 (F hh.1) r -> w3.grownBy w4 (some g') -> (g2 = g' \/ w3.heap.size <= g2) -> w4.ownsRow w0.heap.size 134 2 (.slice (some ⟨g2, 0, none⟩) (m0 + 1) c2') (m0 + 1) (us ++ [.pointer r, .pointer q]) ->
    Hid (∃ g' c', HBx w0 b g' c' (hs ++ (hs2.take (i + 1)).map fun h => (F h.1, h.2)) (w4.setCell ⟨b, 0, none⟩ (.slice (some ⟨g2, 0, none⟩) (m0 + 1) c2')) /\ Ot b g w (w4.setCell ⟨b, 0, none⟩ (.slice (some ⟨g2, 0, none⟩) (m0 + 1) c2')) /\ (g' = g \/ w.heap.size <= g')) /\
    ((w4.setCell ⟨b, 0, none⟩ (.slice (some ⟨g2, 0, none⟩) (m0 + 1) c2')).cell? ⟨b, 0, none⟩ = some (.slice (some ⟨g2, 0, none⟩) (m0 + 1) c2') /\ (w4.setCell ⟨b, 0, none⟩ (.slice (some ⟨g2, 0, none⟩) (m0 + 1) c2')).cell? ⟨wr.heap.size, 0, none⟩ = some (.pointer p) /\ (w4.setCell ⟨b, 0, none⟩ (.slice (some ⟨g2, 0, none⟩) (m0 + 1) c2')).cell? ⟨wr.heap.size, 1, none⟩ = some (.pointer q))) := fun w3 w4 g2 c2' r hb hrv hg hat ho => by
    subst hml
    obtain ⟨k1, k2⟩ := HBx.put HBXW.out (up_trans HBW.out hb) b5 hg hat ho hrv (x := (F hh.1, hh.2)) (hq.up (up_trans HBW.out hb))
    have hsz : wr.heap.size <= w3.heap.size := (up_trans HBW.out hb).size
    have k3 := HNEXT.out _ g2 c2' k1 k2 (by omega)
    refine ⟨k3, ?_⟩
    obtain ⟨z0, z1, z2, z3, z4⟩ := HAF.out w3 w4 hb hg
    have hbw : ¬ wr.heap.size = b := by have := lt_of_block b3; omega
    obtain ⟨_, _, k5, _⟩ := k1
    simp only [List.length_append, List.length_cons, List.length_nil] at k5
    refine ⟨block_cell k5 0, ?_, ?_⟩
    · rw [cell_other (by exact hbw)]; exact z3
    · rw [cell_other (by exact hbw)]; exact z4
   clear hbx hot hgg hkp hrow hih hp hq hc u1 u2 d1 d2 d3 hln htk hacc b1 b2 b3 b4 b5 hml BW CW hbc1 hgb HM HB
   refine wp_region_noPanic ?_
   refine wp_region_held_drew (S := (fun w' => w'.cell? ⟨wr.heap.size, 0, none⟩ = some (.pointer p) /\ w'.cell? ⟨wr.heap.size, 1, none⟩ = some (.pointer q))) (by kernel_rfl) (by exact HS.out _ (up_drew (Below.refl _ _))) (fun hHeld => ?_)
   refine tq 1 rfl ?_
   refine tq 2 rfl ?_
   refine tq 3 rfl ?_
   refine tq 5 rfl ?_
   refine tq 6 rfl ?_
   refine wpAnyH_ready (rs := [0, 4]) (by kernel_rfl) (by simp) ?_
   refine AllReadyH.cons rfl (fun K hK => ?_) (AllReadyH.cons rfl (fun K hK => ?_) AllReadyH.nil)
   · skip
     go_simp
     refine hK.out _ _ (by exact HS.out _ (up_drew (Below.refl _ _))) (fun hHeld => ?_)
     clear hK
     try simp only [Act.put, zA, zB, zC, zD, zE, zF]
     refine tz 4 rfl fun K hK => ?_
     go_simp
     rw [HCL.out, Oper.upon_enter]
     (with_reducible refine (HKK.out _ (up_drew (Below.refl _ _))).mono ?_)
     rintro e w2 ⟨r, rfl, hr2, hb2⟩
     have HB2 : Hid (Below W1.heap.size W1 w2) := up_trans (up_drew (Below.refl _ _)) hb2
     have HR2 := Lib.hid hr2
     obtain ⟨q0, q1⟩ := HBC.out _ HB2.out
     clear hr2 hb2
     refine hK.out _ _ (by exact HS.out _ HB2.out) (fun hHeld => ?_)
     clear hK
     try simp only [Act.put, zA, zB, zC, zD, zE, zF]
     refine tq 7 rfl ?_
     refine tz 8 rfl fun K hK => ?_
     go_simp
     refine hK.out _ _ (by exact HS.out _ (up_trans HB2.out (up1 _ _))) (fun hHeld => ?_)
     clear hK
     try simp only [Act.put, zA, zB, zC, zD, zE, zF]
     refine tz 9 rfl fun K hK => ?_
     refine step_append_rows _ rfl _ _ 67 rfl w0.heap.size 2 134 i0 (.agg #[.pointer none, .pointer none]) 16 Tryz.underlying67 hi0 hz0 hz1 hz2 rfl (by decide) g' m0 c' us rfl (HO.out _ (up_trans HB2.out (up1 _ _))) (some ⟨_, 0, none⟩) 1 1 [.pointer r, .pointer q] rfl rfl (row_two (block_new w2 _)) (by simp [Value.oneCell']) (by have := HM9.out; omega) (by decide) (HSZ.out _ (up_trans HB2.out (up1 _ _))) (m0 + 1) rfl (us ++ [.pointer r, .pointer q]) rfl ?_
     intro g2 c2' w4 hown hgrow hbel hat
     obtain ⟨z0, z1, z2, z3, z4⟩ := HAF.out _ w4 (up_trans HB2.out (up1 _ _)) hgrow
     have HFF := HFIN.out _ w4 g2 c2' r (up_trans HB2.out (up1 _ _)) (HR2.out.up (up1 _ _)) hgrow (by simpa using hat) hown
     clear hown hgrow hbel hat
     refine hK.out _ _ (by exact ⟨z3, z4⟩) (fun hHeld => ?_)
     clear hK
     try simp only [Act.put, zA, zB, zC, zD, zE, zF]
     refine tz 10 rfl fun K hK => ?_
     go_simp
     refine hK.out _ _ (by exact HFF.2.2) (fun hHeld => ?_)
     clear hK
     try simp only [Act.put, zA, zB, zC, zD, zE, zF]
     refine wpAnyH_done (by kernel_rfl) ?_ _
     refine NoPanic.normal ?_
     go_wp2
     go_roundg m
     case measure => omega
     case rel => exact ⟨i + 1, rfl, by show m + (i + 1) = n; omega, HFF.1.out⟩
   · skip
     go_simp
     rw [HCL.out, Oper.upon_enter]
     (with_reducible refine (HKK.out _ (up_drew (Below.refl _ _))).mono ?_)
     rintro e w2 ⟨r, rfl, hr2, hb2⟩
     have HB2 : Hid (Below W1.heap.size W1 w2) := up_trans (up_drew (Below.refl _ _)) hb2
     have HR2 := Lib.hid hr2
     obtain ⟨q0, q1⟩ := HBC.out _ HB2.out
     clear hr2 hb2
     refine hK.out _ _ (by exact HS.out _ HB2.out) (fun hHeld => ?_)
     clear hK
     try simp only [Act.put, zA, zB, zC, zD, zE, zF]
     refine tq 7 rfl ?_
     refine wpAnyH_ready (rs := [0, 8]) (by kernel_rfl) (by simp) ?_
     refine AllReadyH.cons rfl (fun K hK => ?_) (AllReadyH.cons rfl (fun K hK => ?_) AllReadyH.nil)
     · skip
       go_simp
       refine hK.out _ _ (by exact HS.out _ HB2.out) (fun hHeld => ?_)
       clear hK
       try simp only [Act.put, zA, zB, zC, zD, zE, zF]
       refine tz 8 rfl fun K hK => ?_
       go_simp
       refine hK.out _ _ (by exact HS.out _ (up_trans HB2.out (up1 _ _))) (fun hHeld => ?_)
       clear hK
       try simp only [Act.put, zA, zB, zC, zD, zE, zF]
       refine tz 9 rfl fun K hK => ?_
       refine step_append_rows _ rfl _ _ 67 rfl w0.heap.size 2 134 i0 (.agg #[.pointer none, .pointer none]) 16 Tryz.underlying67 hi0 hz0 hz1 hz2 rfl (by decide) g' m0 c' us rfl (HO.out _ (up_trans HB2.out (up1 _ _))) (some ⟨_, 0, none⟩) 1 1 [.pointer r, .pointer q] rfl rfl (row_two (block_new w2 _)) (by simp [Value.oneCell']) (by have := HM9.out; omega) (by decide) (HSZ.out _ (up_trans HB2.out (up1 _ _))) (m0 + 1) rfl (us ++ [.pointer r, .pointer q]) rfl ?_
       intro g2 c2' w4 hown hgrow hbel hat
       obtain ⟨z0, z1, z2, z3, z4⟩ := HAF.out _ w4 (up_trans HB2.out (up1 _ _)) hgrow
       have HFF := HFIN.out _ w4 g2 c2' r (up_trans HB2.out (up1 _ _)) (HR2.out.up (up1 _ _)) hgrow (by simpa using hat) hown
       clear hown hgrow hbel hat
       refine hK.out _ _ (by exact ⟨z3, z4⟩) (fun hHeld => ?_)
       clear hK
       try simp only [Act.put, zA, zB, zC, zD, zE, zF]
       refine tz 10 rfl fun K hK => ?_
       go_simp
       refine hK.out _ _ (by exact HFF.2.2) (fun hHeld => ?_)
       clear hK
       try simp only [Act.put, zA, zB, zC, zD, zE, zF]
       refine wpAnyH_done (by kernel_rfl) ?_ _
       refine NoPanic.normal ?_
       go_wp2
       go_roundg m
       case measure => omega
       case rel => exact ⟨i + 1, rfl, by show m + (i + 1) = n; omega, HFF.1.out⟩
     · skip
       go_simp
       refine hK.out _ _ (by exact HS.out _ (up_trans HB2.out (up1 _ _))) (fun hHeld => ?_)
       clear hK
       try simp only [Act.put, zA, zB, zC, zD, zE, zF]
       refine tz 0 rfl fun K hK => ?_
       go_simp
       refine hK.out _ _ (by exact HS.out _ (up_trans HB2.out (up1 _ _))) (fun hHeld => ?_)
       clear hK
       try simp only [Act.put, zA, zB, zC, zD, zE, zF]
       refine tz 9 rfl fun K hK => ?_
       refine step_append_rows _ rfl _ _ 67 rfl w0.heap.size 2 134 i0 (.agg #[.pointer none, .pointer none]) 16 Tryz.underlying67 hi0 hz0 hz1 hz2 rfl (by decide) g' m0 c' us rfl (HO.out _ (up_trans HB2.out (up1 _ _))) (some ⟨_, 0, none⟩) 1 1 [.pointer r, .pointer q] rfl rfl (row_two (block_new w2 _)) (by simp [Value.oneCell']) (by have := HM9.out; omega) (by decide) (HSZ.out _ (up_trans HB2.out (up1 _ _))) (m0 + 1) rfl (us ++ [.pointer r, .pointer q]) rfl ?_
       intro g2 c2' w4 hown hgrow hbel hat
       obtain ⟨z0, z1, z2, z3, z4⟩ := HAF.out _ w4 (up_trans HB2.out (up1 _ _)) hgrow
       have HFF := HFIN.out _ w4 g2 c2' r (up_trans HB2.out (up1 _ _)) (HR2.out.up (up1 _ _)) hgrow (by simpa using hat) hown
       clear hown hgrow hbel hat
       refine hK.out _ _ (by exact ⟨z3, z4⟩) (fun hHeld => ?_)
       clear hK
       try simp only [Act.put, zA, zB, zC, zD, zE, zF]
       refine tz 10 rfl fun K hK => ?_
       go_simp
       refine hK.out _ _ (by exact HFF.2.2) (fun hHeld => ?_)
       clear hK
       try simp only [Act.put, zA, zB, zC, zD, zE, zF]
       refine wpAnyH_done (by kernel_rfl) ?_ _
       refine NoPanic.normal ?_
       go_wp2
       go_roundg m
       case measure => omega
       case rel => exact ⟨i + 1, rfl, by show m + (i + 1) = n; omega, HFF.1.out⟩
theorem add_nil (KF : Nat) (hcl : ∀ (args : Array Value) (w : World), (callFunc KF args).run Tryz.prog w = .ok (.enter KF args) w) (cp : Option Addr) (F : V -> V) (w0 : World) (b g c : Nat) (hs hs2 : List (V × V)) (A : Option Addr) (c2 : Nat) (us2 : List Value) (w : World) (hi : HBx w0 b g c hs w) (hr : RCells w A us2) (h2 : HL w hs2 us2) (hA : ∀ k o, A = some ⟨k, o, none⟩ -> k ≠ b /\ k ≠ g) (hn : hs.length + hs2.length <= 1000000)
 (hK : ∀ w1 v p, Ot b g w w1 -> Below w0.heap.size w0 w1 -> VAt w1 v p -> Calls Tryz.prog KF #[.pointer p] w1 fun e w' => ∃ r, e = .returned (.pointer r) /\ VAt w' (F v) r /\ Below w1.heap.size w1 w') :
 Calls Tryz.prog 110 #[.slice A hs2.length c2, .func (.func KF) #[] #[], .pointer (some ⟨b, 0, none⟩)] w fun e w' => e = .returned (.tuple #[]) /\ ∃ g' c', HBx w0 b g' c' (hs ++ hs2.map fun h => (F h.1, h.2)) w' /\ Ot b g w w' /\ (g' = g \/ w.heap.size <= g') := by
 obtain ⟨i0, hi0, hz0, hz1, hz2⟩ := info_parts Tryz.infoHole
 have HCL := Lib.hid hcl
 have HI := Lib.hid hi
 have HR := Lib.hid hr
 have H2 := Lib.hid h2
 have HA := Lib.hid hA
 have HN := Lib.hid hn
 have HK := Lib.hid hK
 clear hi hr h2 hA hn hK hcl
 generalize hL : hs2.length = n at *
 have HL2 := Lib.hid hL
 have hn9 : n <= 1000000 := by have := HN.out; omega
 clear hL
 go_enter Tryz.func110, Tryz.ntmps110
 go_wp2
 go_loopg [9] n (fun m v9 wr => ∃ i : Nat, v9 = .int .i64 i /\ Hid (m + i = n) /\ Hid (∃ g' c', HBx w0 b g' c' (hs ++ (hs2.take i).map fun h => (F h.1, h.2)) wr /\ Ot b g w wr /\ (g' = g \/ w.heap.size <= g')))
 case atStart => exact ⟨0, rfl, rfl, g, c, by simpa using HI.out, Ot.refl _ _ _, .inl rfl⟩
 case round =>
  obtain ⟨i, rfl, HM, HB⟩ := hrel
  have hm := HM.out
  cases gk with
  | zero =>
   have h1 : decide (i < n) = false := decide_eq_false (by omega)
   have HP : Hid (∃ g' c', HBx w0 b g' c' (hs ++ hs2.map fun h => (F h.1, h.2)) wr /\ Ot b g w wr /\ (g' = g \/ w.heap.size <= g')) := by
    have := HB.out
    rwa [List.take_of_length_le (by rw [HL2.out]; omega)] at this
   clear HM hm HB
   go_wp2
   go_end0
   exact ⟨rfl, HP.out⟩
  | succ m =>
   have h1 : decide (i < n) = true := decide_eq_true (by omega)
   have hin : i < n := by omega
   obtain ⟨g', c', hbx, hot, hgg⟩ := HB.out
   have hkp := HI.out.kp hot
   have hrow := hot.cells HR.out HA.out
   obtain ⟨hh, hih⟩ : ∃ hh, hs2[i]? = some hh := ⟨_, List.getElem?_eq_getElem (by rw [HL2.out]; exact hin)⟩
   obtain ⟨p, q, u1, u2, hp, hq⟩ := (H2.out.keep hkp.vl).get i hh hih
   obtain ⟨gl, ol, rfl, hc⟩ : ∃ gl ol, A = some ⟨gl, ol, none⟩ /\ ∀ j u, us2[j]? = some u -> wr.cell? ⟨gl, ol + j, none⟩ = some u := by
    rcases hrow with h | ⟨gl, ol, h, h'⟩
    · rw [h] at u1; simp at u1
    · exact ⟨gl, ol, h, h'⟩
   have d1 := hc _ _ u1
   have d2 := hc _ _ u2
   rw [Nat.mul_comm 2 i] at d1 d2
   have d3 : wr.cell? ⟨gl, ol + i * 2 + 1, none⟩ = some (.pointer q) := by rw [Nat.add_assoc]; exact d2
   have hln : (hs ++ (hs2.take i).map fun h => (F h.1, h.2)).length = hs.length + i := by
    rw [List.length_append, List.length_map, List.length_take, Nat.min_eq_left (by rw [HL2.out]; omega)]
   have htk : (hs ++ (hs2.take i).map fun h => (F h.1, h.2)) ++ [(F hh.1, hh.2)] = hs ++ (hs2.take (i + 1)).map fun h => (F h.1, h.2) := by
    rw [List.take_add_one, hih]
    simp
   generalize hacc : (hs ++ (hs2.take i).map fun h => (F h.1, h.2)) = acc at *
   obtain ⟨b1, b2, b3, us, b4, b5⟩ := id hbx
   have HM9 : Hid (acc.length + 1 <= 1000001) := by show _ <= _; have := HN.out; omega
   have HNEXT : Hid (∀ w4 g2 c2', HBx w0 b g2 c2' (acc ++ [(F hh.1, hh.2)]) w4 -> Ot b g' wr w4 -> (g2 = g' \/ wr.heap.size <= g2) -> ∃ g' c', HBx w0 b g' c' (hs ++ (hs2.take (i + 1)).map fun h => (F h.1, h.2)) w4 /\ Ot b g w w4 /\ (g' = g \/ w.heap.size <= g')) := fun w4 g2 c2' k1 k2 k3 => by
    rw [htk] at k1
    refine ⟨g2, c2', k1, hot.trans hgg k2, ?_⟩
    have := hot.size
    omega
   generalize hml : acc.length = m0 at *
   have HBXW := Lib.hid hbx
   have HBL := Lib.hid b1
   go_wp2
   have BW := up1 wr (.cells #[.pointer p, .pointer q] 134)
   have CW := block_new wr (.cells #[.pointer p, .pointer q] 134)
   generalize (wr.alloc (.cells #[.pointer p, .pointer q] 134)) = W1 at *
   have HBW := Lib.hid BW
   have hbc1 := block_up BW b3
   have HS : Hid (∀ w', Below W1.heap.size W1 w' -> w'.cell? ⟨wr.heap.size, 0, none⟩ = some (.pointer p) /\ w'.cell? ⟨wr.heap.size, 1, none⟩ = some (.pointer q)) := fun w' h => ⟨block_cell (block_up h CW) 0, block_cell (block_up h CW) 1⟩
   have HBC : Hid (∀ w', Below W1.heap.size W1 w' -> w'.cell? ⟨b, 0, none⟩ = some (.slice (some ⟨g', 0, none⟩) m0 c') /\ b < w'.heap.size) := fun w' h => ⟨block_cell (block_up h hbc1) 0, lt_of_block (block_up h hbc1)⟩
   obtain ⟨e1, e2⟩ := HS.out W1 (Below.refl _ _)
   obtain ⟨e0, _⟩ := HBC.out W1 (Below.refl _ _)
   have f0 := block_free hbc1 0
   have l0 := lt_of_block hbc1
   have HKK : Hid (∀ w2, Below W1.heap.size W1 w2 -> Calls Tryz.prog KF #[.pointer p] w2 fun e w' => ∃ r, e = .returned (.pointer r) /\ VAt w' (F hh.1) r /\ Below w2.heap.size w2 w') := fun w2 h => HK.out w2 hh.1 p (hot.trans hgg (.up (up_trans HBW.out h))) (up_trans HBL.out (up_trans HBW.out h)) (hp.up (up_trans HBW.out h))
   have HO : Hid (∀ w2, Below W1.heap.size W1 w2 -> w2.ownsRow w0.heap.size 134 2 (.slice (some ⟨g', 0, none⟩) m0 c') m0 us) := fun w2 h => own_up b4 (up_trans HBW.out h)
   have HSZ : Hid (∀ w2, Below W1.heap.size W1 w2 -> w0.heap.size <= w2.heap.size) := fun w2 h => (up_trans HBL.out (up_trans HBW.out h)).size
   have hgb := HBXW.out.row
   have HAF : Hid (∀ w3 w4, Below W1.heap.size W1 w3 -> w3.grownBy w4 (some g') -> w4.cell? ⟨b, 0, none⟩ = some (.slice (some ⟨g', 0, none⟩) m0 c') /\ w4.frozen? ⟨b, 0, none⟩ = false /\ b < w4.heap.size /\ w4.cell? ⟨wr.heap.size, 0, none⟩ = some (.pointer p) /\ w4.cell? ⟨wr.heap.size, 1, none⟩ = some (.pointer q)) := fun w3 w4 hb hg => by
    have k1 := block_up hb hbc1
    have k2 := block_up hb CW
    have hgw : g' < wr.heap.size := by obtain ⟨⟨cur, e⟩, _, _⟩ := hgb; exact lt_of_block e
    have k3 : w4.heap[b]? = _ := (hg.block b (lt_of_block k1) (by simp; exact fun h => hgb.2.1 h.symm)).trans k1
    have k4 : w4.heap[wr.heap.size]? = _ := (hg.block _ (lt_of_block k2) (by simp; omega)).trans k2
    exact ⟨block_cell k3 0, block_free k3 0, lt_of_block k3, block_cell k4 0, block_cell k4 1⟩
   have HFIN : Hid (∀ w3 w4 g2 c2' r, Below W1.heap.size W1 w3 -> VAt w3 (F hh.1) r -> w3.grownBy w4 (some g') -> (g2 = g' \/ w3.heap.size <= g2) -> w4.ownsRow w0.heap.size 134 2 (.slice (some ⟨g2, 0, none⟩) (m0 + 1) c2') (m0 + 1) (us ++ [.pointer r, .pointer q]) ->
    Hid (∃ g' c', HBx w0 b g' c' (hs ++ (hs2.take (i + 1)).map fun h => (F h.1, h.2)) (w4.setCell ⟨b, 0, none⟩ (.slice (some ⟨g2, 0, none⟩) (m0 + 1) c2')) /\ Ot b g w (w4.setCell ⟨b, 0, none⟩ (.slice (some ⟨g2, 0, none⟩) (m0 + 1) c2')) /\ (g' = g \/ w.heap.size <= g')) /\
    ((w4.setCell ⟨b, 0, none⟩ (.slice (some ⟨g2, 0, none⟩) (m0 + 1) c2')).cell? ⟨b, 0, none⟩ = some (.slice (some ⟨g2, 0, none⟩) (m0 + 1) c2') /\ (w4.setCell ⟨b, 0, none⟩ (.slice (some ⟨g2, 0, none⟩) (m0 + 1) c2')).cell? ⟨wr.heap.size, 0, none⟩ = some (.pointer p) /\ (w4.setCell ⟨b, 0, none⟩ (.slice (some ⟨g2, 0, none⟩) (m0 + 1) c2')).cell? ⟨wr.heap.size, 1, none⟩ = some (.pointer q))) := fun w3 w4 g2 c2' r hb hrv hg hat ho => by
    subst hml
    obtain ⟨k1, k2⟩ := HBx.put HBXW.out (up_trans HBW.out hb) b5 hg hat ho hrv (x := (F hh.1, hh.2)) (hq.up (up_trans HBW.out hb))
    have hsz : wr.heap.size <= w3.heap.size := (up_trans HBW.out hb).size
    have k3 := HNEXT.out _ g2 c2' k1 k2 (by omega)
    refine ⟨k3, ?_⟩
    obtain ⟨z0, z1, z2, z3, z4⟩ := HAF.out w3 w4 hb hg
    have hbw : ¬ wr.heap.size = b := by have := lt_of_block b3; omega
    obtain ⟨_, _, k5, _⟩ := k1
    simp only [List.length_append, List.length_cons, List.length_nil] at k5
    refine ⟨block_cell k5 0, ?_, ?_⟩
    · rw [cell_other (by exact hbw)]; exact z3
    · rw [cell_other (by exact hbw)]; exact z4
   clear hbx hot hgg hkp hrow hih hp hq hc u1 u2 d1 d2 d3 hln htk hacc b1 b2 b3 b4 b5 hml BW CW hbc1 hgb HM HB
   refine wp_region_noPanic ?_
   refine wp_region_held_drew (S := (fun w' => w'.cell? ⟨wr.heap.size, 0, none⟩ = some (.pointer p) /\ w'.cell? ⟨wr.heap.size, 1, none⟩ = some (.pointer q))) (by kernel_rfl) (by exact HS.out _ (up_drew (Below.refl _ _))) (fun hHeld => ?_)
   refine tq 1 rfl ?_
   refine tq 2 rfl ?_
   refine tq 3 rfl ?_
   refine tq 5 rfl ?_
   refine tq 6 rfl ?_
   refine wpAnyH_ready (rs := [0, 4]) (by kernel_rfl) (by simp) ?_
   refine AllReadyH.cons rfl (fun K hK => ?_) (AllReadyH.cons rfl (fun K hK => ?_) AllReadyH.nil)
   · skip
     go_simp
     refine hK.out _ _ (by exact HS.out _ (up_drew (Below.refl _ _))) (fun hHeld => ?_)
     clear hK
     try simp only [Act.put, zA, zB, zC, zD, zE, zF]
     refine tz 4 rfl fun K hK => ?_
     go_simp
     rw [HCL.out, Oper.upon_enter]
     (with_reducible refine (HKK.out _ (up_drew (Below.refl _ _))).mono ?_)
     rintro e w2 ⟨r, rfl, hr2, hb2⟩
     have HB2 : Hid (Below W1.heap.size W1 w2) := up_trans (up_drew (Below.refl _ _)) hb2
     have HR2 := Lib.hid hr2
     obtain ⟨q0, q1⟩ := HBC.out _ HB2.out
     clear hr2 hb2
     refine hK.out _ _ (by exact HS.out _ HB2.out) (fun hHeld => ?_)
     clear hK
     try simp only [Act.put, zA, zB, zC, zD, zE, zF]
     refine tq 7 rfl ?_
     refine tz 8 rfl fun K hK => ?_
     go_simp
     refine hK.out _ _ (by exact HS.out _ (up_trans HB2.out (up1 _ _))) (fun hHeld => ?_)
     clear hK
     try simp only [Act.put, zA, zB, zC, zD, zE, zF]
     refine tz 9 rfl fun K hK => ?_
     refine step_append_rows _ rfl _ _ 67 rfl w0.heap.size 2 134 i0 (.agg #[.pointer none, .pointer none]) 16 Tryz.underlying67 hi0 hz0 hz1 hz2 rfl (by decide) g' m0 c' us rfl (HO.out _ (up_trans HB2.out (up1 _ _))) (some ⟨_, 0, none⟩) 1 1 [.pointer r, .pointer q] rfl rfl (row_two (block_new w2 _)) (by simp [Value.oneCell']) (by have := HM9.out; omega) (by decide) (HSZ.out _ (up_trans HB2.out (up1 _ _))) (m0 + 1) rfl (us ++ [.pointer r, .pointer q]) rfl ?_
     intro g2 c2' w4 hown hgrow hbel hat
     obtain ⟨z0, z1, z2, z3, z4⟩ := HAF.out _ w4 (up_trans HB2.out (up1 _ _)) hgrow
     have HFF := HFIN.out _ w4 g2 c2' r (up_trans HB2.out (up1 _ _)) (HR2.out.up (up1 _ _)) hgrow (by simpa using hat) hown
     clear hown hgrow hbel hat
     refine hK.out _ _ (by exact ⟨z3, z4⟩) (fun hHeld => ?_)
     clear hK
     try simp only [Act.put, zA, zB, zC, zD, zE, zF]
     refine tz 10 rfl fun K hK => ?_
     go_simp
     refine hK.out _ _ (by exact HFF.2.2) (fun hHeld => ?_)
     clear hK
     try simp only [Act.put, zA, zB, zC, zD, zE, zF]
     refine wpAnyH_done (by kernel_rfl) ?_ _
     refine NoPanic.normal ?_
     go_wp2
     go_roundg m
     case measure => omega
     case rel => exact ⟨i + 1, rfl, by show m + (i + 1) = n; omega, HFF.1.out⟩
   · skip
     go_simp
     rw [HCL.out, Oper.upon_enter]
     (with_reducible refine (HKK.out _ (up_drew (Below.refl _ _))).mono ?_)
     rintro e w2 ⟨r, rfl, hr2, hb2⟩
     have HB2 : Hid (Below W1.heap.size W1 w2) := up_trans (up_drew (Below.refl _ _)) hb2
     have HR2 := Lib.hid hr2
     obtain ⟨q0, q1⟩ := HBC.out _ HB2.out
     clear hr2 hb2
     refine hK.out _ _ (by exact HS.out _ HB2.out) (fun hHeld => ?_)
     clear hK
     try simp only [Act.put, zA, zB, zC, zD, zE, zF]
     refine tq 7 rfl ?_
     refine wpAnyH_ready (rs := [0, 8]) (by kernel_rfl) (by simp) ?_
     refine AllReadyH.cons rfl (fun K hK => ?_) (AllReadyH.cons rfl (fun K hK => ?_) AllReadyH.nil)
     · skip
       go_simp
       refine hK.out _ _ (by exact HS.out _ HB2.out) (fun hHeld => ?_)
       clear hK
       try simp only [Act.put, zA, zB, zC, zD, zE, zF]
       refine tz 8 rfl fun K hK => ?_
       go_simp
       refine hK.out _ _ (by exact HS.out _ (up_trans HB2.out (up1 _ _))) (fun hHeld => ?_)
       clear hK
       try simp only [Act.put, zA, zB, zC, zD, zE, zF]
       refine tz 9 rfl fun K hK => ?_
       refine step_append_rows _ rfl _ _ 67 rfl w0.heap.size 2 134 i0 (.agg #[.pointer none, .pointer none]) 16 Tryz.underlying67 hi0 hz0 hz1 hz2 rfl (by decide) g' m0 c' us rfl (HO.out _ (up_trans HB2.out (up1 _ _))) (some ⟨_, 0, none⟩) 1 1 [.pointer r, .pointer q] rfl rfl (row_two (block_new w2 _)) (by simp [Value.oneCell']) (by have := HM9.out; omega) (by decide) (HSZ.out _ (up_trans HB2.out (up1 _ _))) (m0 + 1) rfl (us ++ [.pointer r, .pointer q]) rfl ?_
       intro g2 c2' w4 hown hgrow hbel hat
       obtain ⟨z0, z1, z2, z3, z4⟩ := HAF.out _ w4 (up_trans HB2.out (up1 _ _)) hgrow
       have HFF := HFIN.out _ w4 g2 c2' r (up_trans HB2.out (up1 _ _)) (HR2.out.up (up1 _ _)) hgrow (by simpa using hat) hown
       clear hown hgrow hbel hat
       refine hK.out _ _ (by exact ⟨z3, z4⟩) (fun hHeld => ?_)
       clear hK
       try simp only [Act.put, zA, zB, zC, zD, zE, zF]
       refine tz 10 rfl fun K hK => ?_
       go_simp
       refine hK.out _ _ (by exact HFF.2.2) (fun hHeld => ?_)
       clear hK
       try simp only [Act.put, zA, zB, zC, zD, zE, zF]
       refine wpAnyH_done (by kernel_rfl) ?_ _
       refine NoPanic.normal ?_
       go_wp2
       go_roundg m
       case measure => omega
       case rel => exact ⟨i + 1, rfl, by show m + (i + 1) = n; omega, HFF.1.out⟩
     · skip
       go_simp
       refine hK.out _ _ (by exact HS.out _ (up_trans HB2.out (up1 _ _))) (fun hHeld => ?_)
       clear hK
       try simp only [Act.put, zA, zB, zC, zD, zE, zF]
       refine tz 0 rfl fun K hK => ?_
       go_simp
       refine hK.out _ _ (by exact HS.out _ (up_trans HB2.out (up1 _ _))) (fun hHeld => ?_)
       clear hK
       try simp only [Act.put, zA, zB, zC, zD, zE, zF]
       refine tz 9 rfl fun K hK => ?_
       refine step_append_rows _ rfl _ _ 67 rfl w0.heap.size 2 134 i0 (.agg #[.pointer none, .pointer none]) 16 Tryz.underlying67 hi0 hz0 hz1 hz2 rfl (by decide) g' m0 c' us rfl (HO.out _ (up_trans HB2.out (up1 _ _))) (some ⟨_, 0, none⟩) 1 1 [.pointer r, .pointer q] rfl rfl (row_two (block_new w2 _)) (by simp [Value.oneCell']) (by have := HM9.out; omega) (by decide) (HSZ.out _ (up_trans HB2.out (up1 _ _))) (m0 + 1) rfl (us ++ [.pointer r, .pointer q]) rfl ?_
       intro g2 c2' w4 hown hgrow hbel hat
       obtain ⟨z0, z1, z2, z3, z4⟩ := HAF.out _ w4 (up_trans HB2.out (up1 _ _)) hgrow
       have HFF := HFIN.out _ w4 g2 c2' r (up_trans HB2.out (up1 _ _)) (HR2.out.up (up1 _ _)) hgrow (by simpa using hat) hown
       clear hown hgrow hbel hat
       refine hK.out _ _ (by exact ⟨z3, z4⟩) (fun hHeld => ?_)
       clear hK
       try simp only [Act.put, zA, zB, zC, zD, zE, zF]
       refine tz 10 rfl fun K hK => ?_
       go_simp
       refine hK.out _ _ (by exact HFF.2.2) (fun hHeld => ?_)
       clear hK
       try simp only [Act.put, zA, zB, zC, zD, zE, zF]
       refine wpAnyH_done (by kernel_rfl) ?_ _
       refine NoPanic.normal ?_
       go_wp2
       go_roundg m
       case measure => omega
       case rel => exact ⟨i + 1, rfl, by show m + (i + 1) = n; omega, HFF.1.out⟩
theorem add_at (KF : Nat) (hcl : ∀ (args : Array Value) (w : World), (callFunc KF args).run Tryz.prog w = .ok (.enter KF args) w) (cp : Option Addr) (F : V -> V) {w W1 w3 : World} {b g0 c0 : Nat} {hs : List (V × V)} (h1 : HBx w b g0 c0 hs W1) (hb3 : Below W1.heap.size W1 w3) {gl cl : Nat} {hs2 : List (V × V)} {us : List Value} (hgl : W1.heap.size <= gl) (hr : RCells w3 (some ⟨gl, 0, none⟩) us) (hl : HL w3 hs2 us) (hn : hs.length + hs2.length <= 1000000) {out : List (V × V)} (hout : (hs ++ hs2.map fun h => (F h.1, h.2)) = out)
 (hK : ∀ w4 v p, Ot b g0 W1 w4 -> Below w.heap.size w w4 -> VAt w4 v p -> Calls Tryz.prog KF #[.pointer p, .pointer cp] w4 fun e w' => ∃ r, e = .returned (.pointer r) /\ VAt w' (F v) r /\ Below w4.heap.size w4 w') :
 Calls Tryz.prog 110 #[.slice (some ⟨gl, 0, none⟩) hs2.length cl, .func (.func KF) #[] #[.pointer cp], .pointer (some ⟨b, 0, none⟩)] w3 fun e w' => e = .returned (.tuple #[]) /\ ∃ g' c', HBx w b g' c' out w' /\ Ot b g0 W1 w' /\ (g' = g0 \/ W1.heap.size <= g') := by
 subst hout
 obtain ⟨⟨cur, e2⟩, _, _⟩ := h1.row
 have hlg := lt_of_block e2
 have hlb := lt_of_block h1.2.2.1
 refine (add_one KF hcl cp F w b g0 c0 hs hs2 (some ⟨gl, 0, none⟩) cl us w3 (h1.up hb3) hr hl (fun k o h => by cases h; exact ⟨by omega, by omega⟩) hn (fun w4 v p ho hbl hv => hK w4 v p ((Ot.up hb3).trans (.inl rfl) ho) hbl hv)).mono ?_
 rintro e w' ⟨he, g', c', hbx, hot, hgg⟩
 have := hb3.size
 exact ⟨he, g', c', hbx, (Ot.up hb3).trans (.inl rfl) hot, by omega⟩
theorem add_at0 (KF : Nat) (hcl : ∀ (args : Array Value) (w : World), (callFunc KF args).run Tryz.prog w = .ok (.enter KF args) w) (cp : Option Addr) (F : V -> V) {w W1 w3 : World} {b g0 c0 : Nat} {hs : List (V × V)} (h1 : HBx w b g0 c0 hs W1) (hb3 : Below W1.heap.size W1 w3) {gl cl : Nat} {hs2 : List (V × V)} {us : List Value} (hgl : W1.heap.size <= gl) (hr : RCells w3 (some ⟨gl, 0, none⟩) us) (hl : HL w3 hs2 us) (hn : hs.length + hs2.length <= 1000000) {out : List (V × V)} (hout : (hs ++ hs2.map fun h => (F h.1, h.2)) = out)
 (hK : ∀ w4 v p, Ot b g0 W1 w4 -> Below w.heap.size w w4 -> VAt w4 v p -> Calls Tryz.prog KF #[.pointer p] w4 fun e w' => ∃ r, e = .returned (.pointer r) /\ VAt w' (F v) r /\ Below w4.heap.size w4 w') :
 Calls Tryz.prog 110 #[.slice (some ⟨gl, 0, none⟩) hs2.length cl, .func (.func KF) #[] #[], .pointer (some ⟨b, 0, none⟩)] w3 fun e w' => e = .returned (.tuple #[]) /\ ∃ g' c', HBx w b g' c' out w' /\ Ot b g0 W1 w' /\ (g' = g0 \/ W1.heap.size <= g') := by
 subst hout
 obtain ⟨⟨cur, e2⟩, _, _⟩ := h1.row
 have hlg := lt_of_block e2
 have hlb := lt_of_block h1.2.2.1
 refine (add_nil KF hcl cp F w b g0 c0 hs hs2 (some ⟨gl, 0, none⟩) cl us w3 (h1.up hb3) hr hl (fun k o h => by cases h; exact ⟨by omega, by omega⟩) hn (fun w4 v p ho hbl hv => hK w4 v p ((Ot.up hb3).trans (.inl rfl) ho) hbl hv)).mono ?_
 rintro e w' ⟨he, g', c', hbx, hot, hgg⟩
 have := hb3.size
 exact ⟨he, g', c', hbx, (Ot.up hb3).trans (.inl rfl) hot, by omega⟩
end Go.Proofs.YtpokompplapkhaaGreatDoor

