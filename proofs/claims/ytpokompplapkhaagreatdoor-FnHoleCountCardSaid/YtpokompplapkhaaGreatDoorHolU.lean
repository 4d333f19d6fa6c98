/- The reference's l4Within. -/
import Derived.Test.YtpokompplapkhaaGreatDoorHolS
import Derived.Test.YtpokompplapkhaaGreatDoorEnv2
import Derived.Test.YtpokompplapkhaaGreatDoorTk
namespace Go.Proofs.YtpokompplapkhaaGreatDoor
set_option maxHeartbeats 8000000
set_option maxRecDepth 100000
open Go.RowKit
set_option linter.unusedVariables false
set_option linter.unusedSimpArgs false
theorem mk1 (h : List UInt8) (ta : Tr) (W : World) (s : ByteArray) (A : Option Addr) (n c : Nat) (ht : TAt W (fun _ => True) ta (.agg #[.string s, .slice A n c])) :
 Calls Tryz.prog 71 #[.string (St h), .slice (some ⟨W.heap.size, 0, none⟩) 1 1] (W.alloc (.cells #[.string s, .slice A n c] 59)) fun e w' => ∃ x A n c, e = .returned (.agg #[.string x, .slice A n c]) /\ TAt w' (fun _ => True) (.mk [] [.mk h [], ta]) (.agg #[.string x, .slice A n c]) /\ Below W.heap.size W w' := by
 refine (list1T h ta (W.alloc (.cells #[.string s, .slice A n c] 59)) W.heap.size s A n c (fun _ => True) (fun _ _ => trivial) (block_new W _) (ht.up (up1 W _))).mono ?_
 rintro e w' ⟨⟨x, A', n', c', he, htt⟩, hb⟩
 exact ⟨x, A', n', c', he, htt, up_trans (up1 W _) hb⟩
theorem mk2 (h : List UInt8) (ta tb : Tr) (W : World) (s s2 : ByteArray) (A A2 : Option Addr) (n c n2 c2 : Nat) (ht : TAt W (fun _ => True) ta (.agg #[.string s, .slice A n c])) (ht2 : TAt W (fun _ => True) tb (.agg #[.string s2, .slice A2 n2 c2])) :
 Calls Tryz.prog 71 #[.string (St h), .slice (some ⟨W.heap.size, 0, none⟩) 2 2] (W.alloc (.cells #[.string s, .slice A n c, .string s2, .slice A2 n2 c2] 59)) fun e w' => ∃ x A n c, e = .returned (.agg #[.string x, .slice A n c]) /\ TAt w' (fun _ => True) (.mk [] [.mk h [], ta, tb]) (.agg #[.string x, .slice A n c]) /\ Below W.heap.size W w' := by
 refine (list2T h ta tb (W.alloc (.cells #[.string s, .slice A n c, .string s2, .slice A2 n2 c2] 59)) W.heap.size s s2 A A2 n c n2 c2 (fun _ => True) (fun _ _ => trivial) (block_new W _) (ht.up (up1 W _)) (ht2.up (up1 W _))).mono ?_
 rintro e w' ⟨⟨x, A', n', c', he, htt⟩, hb⟩
 exact ⟨x, A', n', c', he, htt, up_trans (up1 W _) hb⟩
theorem Tryz.infoL4 : (Tryz.prog.info? 146).map (fun i => (i.zero, i.size, i.bytes)) = some (some (.agg #[.string ⟨#[]⟩, .slice none 0 0, .string ⟨#[]⟩, .slice none 0 0]), 4, 80) := by kernel_rfl
def LH (w : World) (B g0 g c : Nat) (hs : List (V × V)) (wr : World) : Prop := HOw wr B g c hs /\ Ot g0 g0 w wr /\ (g = g0 \/ w.heap.size <= g) /\ Below B w wr
theorem LH.keeps {w wr : World} {B g0 g c c0 : Nat} {hs hs0 : List (V × V)} (h : LH w B g0 g c hs wr) (h0 : HOw w B g0 c0 hs0) : Keeps 59 w wr := h0.keeps h.2.1 (by decide)
theorem LH.step {w wr w1 w2 : World} {B g0 g c c0 : Nat} {hs hs0 : List (V × V)} {us : List Value} (h : LH w B g0 g c hs wr) (h0 : HOw w B g0 c0 hs0) (ho : wr.ownsRow B 146 4 (.slice (some ⟨g, 0, none⟩) hs.length c) hs.length us) (hl : TR wr hs us) (hb : Below wr.heap.size wr w1) (hg : w1.grownBy w2 (some g)) {g2 c2 n n2 m m2 : Nat} (hat : g2 = g \/ w1.heap.size <= g2) (hbl : Below B w1 w2) {s s2 : ByteArray} {A A2 : Option Addr} {x : V × V}
 (ho2 : w2.ownsRow B 146 4 (.slice (some ⟨g2, 0, none⟩) (hs.length + 1) c2) (hs.length + 1) (us ++ [.string s, .slice A n m, .string s2, .slice A2 n2 m2])) (hx : TAt w1 (fun _ => True) x.1.toTr (.agg #[.string s, .slice A n m])) (hy : TAt w1 (fun _ => True) x.2.toTr (.agg #[.string s2, .slice A2 n2 m2])) :
 LH w B g0 g2 c2 (hs ++ [x]) w2 := by
 obtain ⟨k1, k2, k3, k4⟩ := h
 obtain ⟨_, hBg, hgl⟩ := k1.row
 obtain ⟨_, hBg0, hgl0⟩ := h0.row
 obtain ⟨r1, r2⟩ := HOw.put ho hl hb hg ho2 hx hy
 have hsz := hb.size
 have hsz2 := k2.size
 refine ⟨r1, ⟨Nat.le_trans k2.size r2.size, fun k hk n1 _ => ?_⟩, by omega, k4.trans (Below.trans ⟨hb.os, hb.tape, hb.output, hb.size, fun k hk => hb.block k (by omega)⟩ hbl)⟩
 rw [r2.blk k (by omega) (by omega) (by omega), k2.blk k hk n1 n1]
theorem l4Within_any (h : List UInt8) (F : V -> V) (hF : ∀ x : V, (F x).toTr = .mk [] [.mk h [], x.toTr]) (hs hs2 : List (V × V)) (B g0 c0 : Nat) (A : Option Addr) (c2 : Nat) (us2 : List Value) (w : World) (hh0 : HOw w B g0 c0 hs) (hr : RCells w A us2) (h2 : TR w hs2 us2) (hA : ∀ k o, A = some ⟨k, o, none⟩ -> k ≠ g0) (hn : hs.length + hs2.length <= 1000000) :
 Calls Tryz.prog 126 #[.slice A hs2.length c2, .string (St h), .slice (some ⟨g0, 0, none⟩) hs.length c0] w fun e w' => ∃ g' c', e = .returned (.slice (some ⟨g', 0, none⟩) (hs ++ hs2.map fun p => (F p.1, p.2)).length c') /\ LH w B g0 g' c' (hs ++ hs2.map fun p => (F p.1, p.2)) w' := by
 obtain ⟨i0, hi0, hz0, hz1, hz2⟩ := info_parts Tryz.infoL4
 have HH0 := Lib.hid hh0
 have HR := Lib.hid hr
 have H2 := Lib.hid h2
 have HA := Lib.hid hA
 have HN := Lib.hid hn
 clear hh0 hr h2 hA hn
 generalize hout : (hs ++ hs2.map fun p => (F p.1, p.2)) = out
 have HOUT := Lib.hid hout
 clear hout
 generalize hL : hs2.length = n at *
 have HL2 := Lib.hid hL
 have hn9 : n <= 1000000 := by have := HN.out; omega
 clear hL
 go_enter Tryz.func126, Tryz.ntmps126
 go_wp2
 go_loopg [2, 7] n (fun m v2 v7 wr => ∃ (i gr cr : Nat), v7 = .int .i64 i /\ v2 = .slice (some ⟨gr, 0, none⟩) (hs ++ (hs2.take i).map fun p => (F p.1, p.2)).length cr /\ Hid (m + i = n) /\ Hid (LH w B g0 gr cr (hs ++ (hs2.take i).map fun p => (F p.1, p.2)) wr))
 case atStart => exact ⟨0, g0, c0, rfl, by simp, rfl, by simpa [LH] using ⟨HH0.out, Ot.refl _ _ _, Below.refl _ _⟩⟩
 case round =>
  obtain ⟨i, gr, cr, rfl, rfl, HM, HB⟩ := hrel
  have hm := HM.out
  cases gk with
  | zero =>
   have h1 : decide (i < n) = false := decide_eq_false (by omega)
   have HP := HB.out
   rw [List.take_of_length_le (by rw [HL2.out]; omega), HOUT.out] at HP ⊢
   have HP := Lib.hid HP
   clear HM hm HB
   go_wp2
   go_ret
   exact ⟨_, _, rfl, HP.out⟩
  | succ m =>
   have h1 : decide (i < n) = true := decide_eq_true (by omega)
   have hin : i < n := by omega
   have hlh := HB.out
   have hkp := hlh.keeps HH0.out
   have hgr := HH0.out.row
   obtain ⟨hh, hih⟩ : ∃ hh, hs2[i]? = some hh := ⟨_, List.getElem?_eq_getElem (by rw [HL2.out]; exact hin)⟩
   obtain ⟨x0, x1, x2, x3, y0, y1, y2, y3, u1, u2, u3, u4, hx, hy⟩ := (H2.out.keep hkp).get i hh hih
   obtain ⟨gl, ol, rfl, hc⟩ : ∃ gl ol, A = some ⟨gl, ol, none⟩ /\ ∀ j u, us2[j]? = some u -> wr.cell? ⟨gl, ol + j, none⟩ = some u := by
    rcases hlh.2.1.cells HR.out (fun k o hk => ⟨HA.out k o hk, HA.out k o hk⟩) with h | ⟨gl, ol, h, h'⟩
    · rw [h] at u1; simp at u1
    · exact ⟨gl, ol, h, h'⟩
   have d1 := hc _ _ u1
   have d2 := hc _ _ u2
   have d3 := hc _ _ u3
   have d4 := hc _ _ u4
   rw [Nat.mul_comm 4 i] at d1 d2 d3 d4
   rw [<- Nat.add_assoc] at d2 d3 d4
   have hlk : gl < wr.heap.size := World.block_lt_of_cell? wr _ d1
   have hgne : gl ≠ gr := by
    have h9 := HA.out gl ol rfl
    rcases hlh.2.2.1 with h | h
    · omega
    · have : gl < w.heap.size := by
       rcases HR.out with h8 | ⟨g8, o8, h8, h8'⟩
       · rw [h8] at u1; simp at u1
       · cases h8; exact World.block_lt_of_cell? w _ (h8' _ _ u1)
      omega
   have hln : (hs ++ (hs2.take i).map fun p => (F p.1, p.2)).length = hs.length + i := by
    rw [List.length_append, List.length_map, List.length_take, Nat.min_eq_left (by rw [HL2.out]; omega)]
   have htk : (hs ++ (hs2.take i).map fun p => (F p.1, p.2)) ++ [(F hh.1, hh.2)] = hs ++ (hs2.take (i + 1)).map fun p => (F p.1, p.2) := by
    rw [List.take_add_one, hih]
    simp
   have hln1 : (hs ++ (hs2.take (i + 1)).map fun p => (F p.1, p.2)).length = (hs ++ (hs2.take i).map fun p => (F p.1, p.2)).length + 1 := by
    rw [<- htk]; simp; omega
   generalize hacc : (hs ++ (hs2.take i).map fun p => (F p.1, p.2)) = acc at *
   obtain ⟨us, hous, htr⟩ := hlh.1
   have hrow0 := hlh.1.row
   have HM9 : Hid (acc.length + 1 <= 1000001) := by show _ <= _; have := HN.out; omega
   generalize hml : acc.length = m0 at *
   have HLN1 := Lib.hid hln1
   have HO : Hid (∀ w2, Below wr.heap.size wr w2 -> w2.ownsRow B 146 4 (.slice (some ⟨gr, 0, none⟩) m0 cr) m0 us) := fun w2 h => own_up hous h
   have HSZ : Hid (∀ w2, Below wr.heap.size wr w2 -> B <= w2.heap.size) := fun w2 h => Nat.le_trans (Nat.le_trans hrow0.2.1 (Nat.le_of_lt hrow0.2.2)) h.size
   have HAF : Hid (∀ w3 w4, Below wr.heap.size wr w3 -> w3.grownBy w4 (some gr) -> Hid (Keeps 59 wr w4 /\ Keeps 146 wr w4 = Keeps 146 wr w4 /\ ∀ k, k < wr.heap.size -> k ≠ gr -> w4.heap[k]? = wr.heap[k]?)) := fun w3 w4 hb hg => ⟨(Keeps.up hb).trans (Keeps.grown (own_up hous hb) hg (by decide)), rfl, fun k hk hne => by rw [hg.block k (Nat.lt_of_lt_of_le hk hb.size) (by simpa using hne), hb.block k hk]⟩
   have HFIN : Hid (∀ w3 w4 g2 c2 x A n c, Below wr.heap.size wr w3 -> TAt w3 (fun _ => True) (F hh.1).toTr (.agg #[.string x, .slice A n c]) -> w3.grownBy w4 (some gr) -> (g2 = gr \/ w3.heap.size <= g2) -> Below B w3 w4 -> w4.ownsRow B 146 4 (.slice (some ⟨g2, 0, none⟩) (m0 + 1) c2) (m0 + 1) (us ++ [.string x, .slice A n c, .string y0, .slice y1 y2 y3]) -> Hid (LH w B g0 g2 c2 (hs ++ (hs2.take (i + 1)).map fun p => (F p.1, p.2)) w4)) := fun w3 w4 g2 c2 x A n c hb ht hg hat hbl ho => by
    subst hml
    have := LH.step hlh HH0.out hous htr hb hg hat hbl ho ht (x := (F hh.1, hh.2)) (hy.up hb)
    rw [htk] at this
    exact this
   have HS : Hid (∀ w', Below wr.heap.size wr w' -> w'.cell? ⟨gl, ol + i * 4, none⟩ = some (.string x0) /\ w'.cell? ⟨gl, ol + i * 4 + 1, none⟩ = some (.slice x1 x2 x3) /\ w'.cell? ⟨gl, ol + i * 4 + 2, none⟩ = some (.string y0) /\ w'.cell? ⟨gl, ol + i * 4 + 3, none⟩ = some (.slice y1 y2 y3)) := fun w' h => ⟨cell_up h d1, cell_up h d2, cell_up h d3, cell_up h d4⟩
   have HS9 : Hid (∀ w', Hid (Keeps 59 wr w' /\ Keeps 146 wr w' = Keeps 146 wr w' /\ ∀ k, k < wr.heap.size -> k ≠ gr -> w'.heap[k]? = wr.heap[k]?) -> w'.cell? ⟨gl, ol + i * 4, none⟩ = some (.string x0) /\ w'.cell? ⟨gl, ol + i * 4 + 1, none⟩ = some (.slice x1 x2 x3) /\ w'.cell? ⟨gl, ol + i * 4 + 2, none⟩ = some (.string y0) /\ w'.cell? ⟨gl, ol + i * 4 + 3, none⟩ = some (.slice y1 y2 y3)) := fun w' h => by
    have h := h.out.2.2 gl hlk hgne
    simp only [World.cell?] at d1 d2 d3 d4 ⊢
    rw [h]
    exact ⟨d1, d2, d3, d4⟩
   obtain ⟨s0, s1, s2, s3⟩ := HS.out wr (Below.refl _ _)
   clear hlh hkp hih hc u1 u2 u3 u4 d1 d2 d3 d4 hgne hln htk hacc hous htr hrow0 hml hln1 hgr HM HB
   go_wp2
   refine wp_region_noPanic ?_
   refine wp_region_held_drew (S := (fun w' => w'.cell? ⟨gl, ol + i * 4, none⟩ = some (.string x0) /\ w'.cell? ⟨gl, ol + i * 4 + 1, none⟩ = some (.slice x1 x2 x3) /\ w'.cell? ⟨gl, ol + i * 4 + 2, none⟩ = some (.string y0) /\ w'.cell? ⟨gl, ol + i * 4 + 3, none⟩ = some (.slice y1 y2 y3))) (by kernel_rfl) (by exact HS.out _ (up_drew (Below.refl _ _))) (fun hHeld => ?_)
   refine tq 0 rfl ?_
   refine tq 1 rfl ?_
   refine tq 2 rfl ?_
   refine tq 3 rfl ?_
   refine tq 4 rfl ?_
   refine tq 5 rfl ?_
   refine tq 6 rfl ?_
   refine tq 9 rfl ?_
   refine tq 10 rfl ?_
   refine tq 11 rfl ?_
   refine tq 12 rfl ?_
   refine tq 13 rfl ?_
   refine tz 7 rfl fun K hK => ?_
   go_simp
   refine hK.out _ _ (by exact HS.out _ (up_trans (up_drew (Below.refl _ _)) (up1 _ _))) (fun hHeld => ?_)
   clear hK
   try simp only [Act.put, zA, zB, zC, zD, zE, zF]
   refine tz 8 rfl fun K hK => ?_
   go_simp
   go_at_call 71
   refine (mk1 h hh.1.toTr wr.drew _ _ _ _ (hx.up (up_drew (Below.refl _ _)))).mono ?_
   rintro e w5 ⟨z0, z1, z2, z3, rfl, ht5, hb5⟩
   have HB5 : Hid (Below wr.heap.size wr w5) := up_trans (up_drew (Below.refl _ _)) hb5
   have HT5 := Lib.hid ht5
   clear ht5 hb5
   refine hK.out _ _ (by exact HS.out _ HB5.out) (fun hHeld => ?_)
   clear hK
   try simp only [Act.put, zA, zB, zC, zD, zE, zF]
   refine tq 14 rfl ?_
   refine tz 15 rfl fun K hK => ?_
   go_simp
   refine hK.out _ _ (by exact HS.out _ (up_trans HB5.out (up1 _ _))) (fun hHeld => ?_)
   clear hK
   try simp only [Act.put, zA, zB, zC, zD, zE, zF]
   refine tz 16 rfl fun K hK => ?_
   refine step_append_rows _ rfl _ _ 76 rfl B 4 146 i0 (.agg #[.string ⟨#[]⟩, .slice none 0 0, .string ⟨#[]⟩, .slice none 0 0]) 80 Tryz.underlying76 hi0 hz0 hz1 hz2 rfl (by decide) gr m0 cr us rfl (HO.out _ (up_trans HB5.out (up1 _ _))) (some ⟨_, 0, none⟩) 1 1 [.string z0, .slice z1 z2 z3, .string y0, .slice y1 y2 y3] rfl rfl (row_four (block_new w5 _)) (by simp [Value.oneCell']) (by have := HM9.out; omega) (by decide) (HSZ.out _ (up_trans HB5.out (up1 _ _))) (m0 + 1) rfl (us ++ [.string z0, .slice z1 z2 z3, .string y0, .slice y1 y2 y3]) rfl ?_
   intro gn cn w9 hown hgrow hbel hat
   have HK9 := HAF.out _ w9 (up_trans HB5.out (up1 _ _)) hgrow
   have HG9 := Lib.hid hgrow
   have HFF := HFIN.out _ w9 gn cn _ _ _ _ (up_trans HB5.out (up1 _ _)) (by rw [hF]; exact HT5.out.up (up1 _ _)) hgrow (by simpa using hat) hbel hown
   clear hown hgrow hbel hat
   refine hK.out _ _ (by exact HS9.out _ HK9) (fun hHeld => ?_)
   clear hK
   try simp only [Act.put, zA, zB, zC, zD, zE, zF]
   refine tq 17 rfl ?_
   refine wpAnyH_done (by kernel_rfl) ?_ _
   refine NoPanic.normal ?_
   go_wp2
   go_roundg m
   case measure => omega
   case rel => exact ⟨i + 1, gn, cn, rfl, by rw [HLN1.out], by show m + (i + 1) = n; omega, HFF.out⟩
theorem mk2K (kb : Nat) (h : List UInt8) (ta tb : Tr) (w0 W : World) (gp : Nat) (s s2 : ByteArray) (A A2 : Option Addr) (n c n2 c2 : Nat) (hr : W.heap[gp]? = some (.cells #[.string s, .slice A n c, .string s2, .slice A2 n2 c2] 59 (0, 0))) (hb : Below w0.heap.size w0 W) (hkb : w0.heap.size <= kb) (hkb2 : kb < W.heap.size) (ht : TAt w0 (fun _ => True) ta (.agg #[.string s, .slice A n c])) (ht2 : TAt w0 (fun _ => True) tb (.agg #[.string s2, .slice A2 n2 c2])) :
 Calls Tryz.prog 71 #[.string (St h), .slice (some ⟨gp, 0, none⟩) 2 2] W fun e w' => ∃ x A n c, e = .returned (.agg #[.string x, .slice A n c]) /\ TAt w' (fun k => k ≠ kb) (.mk [] [.mk h [], ta, tb]) (.agg #[.string x, .slice A n c]) /\ Below W.heap.size W w' := by
 have lw : ∀ {t : Tr} {v : Value}, TAt w0 (fun _ => True) t v -> TAt W (fun k => k ≠ kb) t v := fun h => h.move fun k hk _ => ⟨by omega, hb.block k hk⟩
 refine (list2T h ta tb W gp s s2 A A2 n c n2 c2 (fun k => k ≠ kb) (fun k hk => by omega) hr (lw ht) (lw ht2)).mono ?_
 rintro e w' ⟨⟨x, A', n', c', he, htt⟩, hb'⟩
 exact ⟨x, A', n', c', he, htt, hb'⟩
theorem HOw.newH (w : World) (B : Nat) (hB : B <= w.heap.size) (H : Nat) (hH : w.heap.size = H) : HOw (w.alloc (.cells #[] 146)) B H 0 [] := hH ▸ HOw.new w B hB
theorem two_keeps2 {w : World} {ok : Nat -> Prop} {h : List UInt8} {q : List Tr} {a : Tr} {v : Value} (hp : TAt w ok (.mk [] [.mk h q, a]) v) :
 ∃ bl o c, v = .agg #[.string (St []), .slice (some ⟨bl, o, none⟩) 2 c] /\ bl < w.heap.size /\ ∃ A2 n2 c2, Hid (∀ w1, Keeps 59 w w1 -> w1.cell? ⟨bl, o + 2, none⟩ = some (.string (St a.atom)) /\ w1.cell? ⟨bl, o + 3, none⟩ = some (.slice A2 n2 c2) /\ Hid (TAt w1 ok a (.agg #[.string (St a.atom), .slice A2 n2 c2]))) /\
  Hid (∀ w1, Keeps 59 w w1 -> Calls Tryz.prog 125 #[.agg #[.string (St []), .slice (some ⟨bl, o, none⟩) 2 c]] w1 fun e w' => e = .returned (.string (St h)) /\ Below w1.heap.size w1 w') := by
 have hh : ∀ w1, Keeps 59 w w1 -> Calls Tryz.prog 125 #[v] w1 fun e w' => e = .returned (.string (St h)) /\ Below w1.heap.size w1 w' := fun w1 hb => l1Head_any _ v w1 (hp.keep hb)
 obtain ⟨A, c, rfl, hr⟩ := hp.parts
 obtain ⟨bl, o, A', c', rfl, c0, _, _, _, hr⟩ := hr.uncons
 have hl := World.block_lt_of_cell? w _ c0
 obtain ⟨A2, n2, c2, d2, ha, hr⟩ := hr.at3k
 exact ⟨bl, o, c, rfl, hl, A2, n2, c2, fun w1 hk => ⟨(d2 w1 hk).1, (d2 w1 hk).2, ha.keep hk⟩, hh⟩
theorem TAt.lw {w : World} {ok : Nat -> Prop} {t : Tr} {v : Value} (h : TAt w ok t v) : TAt w (fun k => k < w.heap.size) t v := h.move fun k hk _ => ⟨hk, rfl⟩
theorem set_two {W : World} {kb : Nat} {a b : Value} {T : TypeId} (h : W.heap[kb]? = some (.cells #[a, b] T (0, 0))) (x y : Value) : ((W.setCell ⟨kb, 0, none⟩ x).setCell ⟨kb, 1, none⟩ y).heap[kb]? = some (.cells #[x, y] T (0, 0)) := by
 simp only [World.setCell]
 rw [Array.getElem?_modify, Array.getElem?_modify, h]
 simp
theorem set_far {W : World} {kb k : Nat} (h : k ≠ kb) (x y : Value) : ((W.setCell ⟨kb, 0, none⟩ x).setCell ⟨kb, 1, none⟩ y).heap[k]? = W.heap[k]? := by
 rw [Below.heap_setCell _ ⟨kb, 1, none⟩ _ k h, Below.heap_setCell _ ⟨kb, 0, none⟩ _ k h]
end Go.Proofs.YtpokompplapkhaaGreatDoor

