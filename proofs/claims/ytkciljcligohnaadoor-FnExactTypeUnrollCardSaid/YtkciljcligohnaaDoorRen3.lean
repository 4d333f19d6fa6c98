/- l1Rename: recs. -/
import Derived.Test.YtkciljcligohnaaDoorRen2
namespace Go.Proofs.YtkciljcligohnaaDoor
open Go.RowKit
set_option linter.unusedVariables false
set_option linter.unusedSimpArgs false

theorem tN_cat (k : Nat) : (⟨#[116]⟩ : ByteArray) ++ St (decL k) = St (tN k) := by
  apply ByteArray.ext
  simp [ByteArray.data_append, tN]
theorem NB.next {w : World} {r : Nat} {F : Option Addr} {cF : Nat} {free : List (List UInt8)} {k : Nat} (h : NB w r F cF free k) :
    NB (w.setCell ⟨r, 1, none⟩ (.int .i64 ((k : Int) + 1))) r F cF free (k + 1) ∧ w.grownBy (w.setCell ⟨r, 1, none⟩ (.int .i64 ((k : Int) + 1))) (some r) := by
  have hg : w.grownBy (w.setCell ⟨r, 1, none⟩ (.int .i64 ((k : Int) + 1))) (some r) := ⟨rfl, rfl, rfl, by simp [World.setCell], fun j _ hne => Below.heap_setCell _ _ _ _ (fun e => hne (by rw [e]))⟩
  refine ⟨?_, hg⟩
  have hlt := lt_of_block h
  have h' : w.heap[r] = .cells #[.slice F free.length cF, .int .i64 k] 97 (0, 0) := by
    have h2 : w.heap[r]? = some (.cells #[.slice F free.length cF, .int .i64 k] 97 (0, 0)) := h
    simpa [Array.getElem?_eq_getElem hlt] using h2
  show (w.heap.modify r _)[r]? = _
  rw [Array.getElem?_eq_getElem (by simpa using hlt), Array.getElem_modify_self, h']
  rfl
theorem fresh_stop {free : List (List UInt8)} {k : Nat} (h : tN k ∉ free) : ∀ f, fresh free f k = k
  | 0 => rfl
  | f + 1 => by rw [fresh, if_neg h]

set_option maxHeartbeats 8000000 in
set_option maxRecDepth 100000 in
theorem l1Rename_rec (free : List (List UInt8)) (x : List UInt8) (a f2 : NT) (k K ka : Nat) (a' : NT) (hK : K = freshN free k) (hf : f2.toTr = .mk [] [.mk [114, 101, 99] [], .mk (tN K) [], a'.toTr]) (v : Value) (w : World) (A : Option Addr) (c : Nat) (B : Option Addr) (d n : Nat) (frs tos : List (List UInt8)) (hfr : frs.length = n) (hto : tos.length = n) (hn : n ≤ 100000) (r : Nat) (F : Option Addr) (cF : Nat) (okT : Nat → Prop)
    (hp : TAt w okT (.mk [] [.mk [114, 101, 99] [], .mk x [], a.toTr]) v) (hok : ∀ j, okT j → j ≠ r) (hA : SFar w A r frs) (hB : SFar w B r tos) (hF : SFar w F r free) (hfl : free.length ≤ 100000) (hNB : NB w r F cF free k) (hk : k + free.length ≤ 20000000)
    (ih : ∀ w1 v A1 c1 B1 d1, w.grownBy w1 (some r) → NB w1 r F cF free (K + 1) → SFar w1 A1 r (frs ++ [x]) → SFar w1 B1 r (tos ++ [tN K]) → TAt w1 okT a.toTr v → Calls Tryd.prog 100 #[v, .slice A1 (n + 1) c1, .slice B1 (n + 1) d1, .pointer (some ⟨r, 0, none⟩)] w1 (RPost w1 r F cF free (a', ka))) :
    Calls Tryd.prog 100 #[v, .slice A n c, .slice B n d, .pointer (some ⟨r, 0, none⟩)] w (RPost w r F cF free (f2, ka)) := by
  have hr : r < w.heap.size := lt_of_block hNB
  obtain ⟨bl, o, c', rfl, A2, n2, cc2, A4, n4, c4, HC, HH⟩ := three_far hok hp
  have hxa : (Tr.mk x []).atom = x := rfl
  rw [hxa] at HC
  have HDEC : Hid (∀ (w1 : World) (j : Nat), j ≤ 30000000 → Calls Tryd.prog 115 #[.int .i64 j] w1 fun e w' => ∃ b : ByteArray, b = St (decL j) ∧ b.size ≤ 9 ∧ e = .returned (.string b) ∧ Below w1.heap.size w1 w') := fun w1 j hj =>
    (l6Dec_any j w1 (by omega)).mono fun e w' ⟨h1, h2⟩ => ⟨_, rfl, decL_len 8 j (by omega), h1, h2⟩
  have HHAS : Hid (∀ (w1 : World) (j : Nat) (b : ByteArray), b = St (decL j) → w.grownBy w1 (some r) → Calls Tryd.prog 93 #[.slice F free.length cF, .string (⟨#[116]⟩ ++ b)] w1 fun e w' => e = .returned (.bool (decide (tN j ∈ free))) ∧ Below w1.heap.size w1 w') := fun w1 j b hb hg => by
    subst hb
    rw [tN_cat]
    exact l1Has_any free F cF (tN j) w1 (by omega) (hF.grown hg (.inl rfl)).cells
  have far : ∀ (w1 w2 : World) (ls : List (List UInt8)) g c, r < w1.heap.size → SOwn w2 w1.heap.size (ls ++ [x]) g c → SFar w2 (some ⟨g, 0, none⟩) r (ls ++ [x]) := fun w1 w2 ls g c hr ho => by
    have hl := ho.lt
    rcases ho.reads with h0 | ⟨g', o', he', hcell⟩
    · simp at h0
    · cases he'
      exact .inr ⟨g, 0, rfl, by omega, hl.2, hcell⟩
  have far2 : ∀ (w1 w2 : World) (ls : List (List UInt8)) g c, r < w1.heap.size → SOwn w2 w1.heap.size (ls ++ [tN K]) g c → SFar w2 (some ⟨g, 0, none⟩) r (ls ++ [tN K]) := fun w1 w2 ls g c hr ho => by
    have hl := ho.lt
    rcases ho.reads with h0 | ⟨g', o', he', hcell⟩
    · simp at h0
    · cases he'
      exact .inr ⟨g, 0, rfl, by omega, hl.2, hcell⟩
  have HWA : Hid (∀ w1, w.grownBy w1 (some r) → Calls Tryd.prog 94 #[.slice A n c, .string (St x)] w1 (fun e w2 => Below w1.heap.size w1 w2 ∧ ∃ g3 c3, e = .returned (.slice (some ⟨g3, 0, none⟩) (n + 1) c3) ∧ SFar w2 (some ⟨g3, 0, none⟩) r (frs ++ [x]))) := fun w1 hg => by
    have := l1With_any frs A c x w1 (by omega) (hA.grown hg (.inl rfl)).cells
    rw [hfr] at this
    refine this.mono ?_
    rintro e w2 ⟨hb2, g3, c3, he, ho3⟩
    exact ⟨hb2, g3, c3, by rw [he]; simp [hfr], far w1 w2 frs g3 c3 (Nat.lt_of_lt_of_le hr hg.size) ho3⟩
  have HWB : Hid (∀ w1 (b : ByteArray), w.grownBy w1 (some r) → b = St (decL K) → Calls Tryd.prog 94 #[.slice B n d, .string (⟨#[116]⟩ ++ b)] w1 (fun e w2 => Below w1.heap.size w1 w2 ∧ ∃ g3 c3, e = .returned (.slice (some ⟨g3, 0, none⟩) (n + 1) c3) ∧ SFar w2 (some ⟨g3, 0, none⟩) r (tos ++ [tN K]))) := fun w1 b hg hb => by
    subst hb
    rw [tN_cat]
    have := l1With_any tos B d (tN K) w1 (by omega) (hB.grown hg (.inl rfl)).cells
    rw [hto] at this
    refine this.mono ?_
    rintro e w2 ⟨hb2, g3, c3, he, ho3⟩
    exact ⟨hb2, g3, c3, by rw [he]; simp [hto], far2 w1 w2 tos g3 c3 (Nat.lt_of_lt_of_le hr hg.size) ho3⟩
  have HIH := Lib.hid ih
  have HLS : Hid (∀ (w5 : World) (b : ByteArray) (hb : b = St (decL K)) (x5 : ByteArray) (B5 : Option Addr) (n5 c5 : Nat) (ok : Nat → Prop), TAt w5 ok a'.toTr (.agg #[.string x5, .slice B5 n5 c5]) → Calls Tryd.prog 106 #[.string ⟨#[114, 101, 99]⟩, .slice (some ⟨w5.heap.size, 0, none⟩) 2 2] (w5.alloc (.cells #[.string (⟨#[116]⟩ ++ b), .slice none 0 0, .string x5, .slice B5 n5 c5] 43)) fun e w' => (∃ x A n c, e = .returned (.agg #[.string x, .slice A n c]) ∧ TAt w' (fun k => w5.heap.size < k ∨ ok k) f2.toTr (.agg #[.string x, .slice A n c])) ∧ Below w5.heap.size w5 w') := fun w5 b hb x5 B5 n5 c5 ok h2 => by
    subst hb
    rw [tN_cat]
    have h1 : TAt (w5.alloc (.cells #[.string (St (tN K)), .slice none 0 0, .string x5, .slice B5 n5 c5] 43)) ok (.mk (tN K) []) (.agg #[.string (St (tN K)), .slice none 0 0]) := ⟨none, 0, rfl, Nat.le_refl _, .nil _⟩
    have ht := trees2 h1 (h2.up (up1 w5 (.cells #[.string (St (tN K)), .slice none 0 0, .string x5, .slice B5 n5 c5] 43)))
    refine (l1List_any [114, 101, 99] [.mk (tN K) [], a'.toTr] w5.heap.size 0 2 _ ok _ ht (fun j u hu => ?_) (by simp) (by simp)).mono ?_
    · rw [Nat.zero_add, block_cell (block_new w5 _) j]
      simpa using hu
    · rintro e w' ⟨⟨x, A, n, c, he, htt⟩, hb⟩
      refine ⟨⟨x, A, n, c, he, ?_⟩, up_trans (up1 w5 _) hb⟩
      rw [hf]
      refine htt.move fun k hk ho => ⟨?_, rfl⟩
      rcases ho with ho | ho
      · exact .inl (show w5.heap.size < k from Nat.lt_of_succ_le (by simpa using ho))
      · exact .inr ho
  have HNB : Hid (NB w r F cF free k) := hNB
  have HK0 : Hid (K = fresh free free.length k) := hK
  have HKN : Hid (tN K ∉ free) := by show tN K ∉ free; rw [hK]; exact freshN_not free k
  clear hp ih hf hA hB hF hNB hK far far2 hfr hto
  generalize a.toTr.atom = xb at *
  have hfl2 : (free.length : Int) ≤ 100000 := by omega
  obtain ⟨nf, hnf⟩ : ∃ nf, nf = free.length := ⟨_, rfl⟩
  rw [← hnf] at HHAS HK0 hfl hk hfl2
  have HNF := Lib.hid hnf
  clear hnf
  go_enter Tryd.func100, Tryd.ntmps100
  go_wp2_with (first
    | (go_at_call 55; refine (HH.out _ (below_grow (up_alloc (up1 w _) _))).mono ?_; rintro e w1 ⟨rfl, hb1⟩; have X1 := Lib.hid (block_up hb1 (old2 w (.cells #[.string (St []), .slice (some ⟨bl, o, none⟩) 3 c'] 43) (.cells #[.string (St []), .slice none 0 0] 43))); have R1 := Lib.hid (block_up hb1 (new2 w (.cells #[.string (St []), .slice (some ⟨bl, o, none⟩) 3 c'] 43) (.cells #[.string (St []), .slice none 0 0] 43))); have HB1 := Lib.hid (up_trans (up_alloc (up1 w _) _) hb1); have e1 : w1.cell? ⟨r, 1, none⟩ = some (.int .i64 k) := block_cell (block_up HB1.out HNB.out) 1; clear hb1)
    | (go_at_call 115; (with_reducible refine (HDEC.out _ k (by omega)).mono ?_); rintro e w2 ⟨b, hb, hbs, rfl, hb2⟩; have HBD := Lib.hid hb; have HB2 := Lib.hid (up_trans HB1.out hb2); have X2 := Lib.hid (block_up hb2 X1.out); have R2 := Lib.hid (block_up hb2 R1.out); clear hb hb2))
  go_loopg [10] nf (fun m v10 wr => ∃ (k' : Nat) (b : ByteArray), v10 = .string (⟨#[116]⟩ ++ b) ∧ Hid (b = St (decL k')) ∧ Hid (fresh free m k' = K ∧ k' + m ≤ 20000000) ∧ Hid (NB wr r F cF free k') ∧ Hid (w.grownBy wr (some r)) ∧ Hid (wr.heap[w.heap.size]? = some (.cells #[.string (St []), .slice (some ⟨bl, o, none⟩) 3 c'] 43 (0, 0))) ∧ Hid (wr.heap[w.heap.size + 1]? = some (.cells #[.string (St []), .slice none 0 0] 43 (0, 0))))
  case atStart => exact ⟨k, b, rfl, HBD, ⟨HK0.out.symm, hk⟩, block_up HB2.out HNB.out, below_grow HB2.out, X2, R2⟩
  case round =>
    obtain ⟨k', b, rfl, HBD', HKK, HNBR, HGR, XR, RR⟩ := hrel
    clear HBD HB2 X2 R2 HB1 X1 R1 HNB
    have hkk := HKK.out
    have HHW := Lib.hid (HHAS.out wr k' b HBD'.out HGR.out)
    have hnbr : wr.heap[r]? = some (.cells #[.slice F nf cF, .int .i64 k'] 97 (0, 0)) := by rw [HNF.out]; exact HNBR.out
    have d0 : wr.cell? ⟨r, 0, none⟩ = some (.slice F nf cF) := block_cell hnbr 0
    by_cases hm : tN k' ∈ free
    · rw [decide_eq_true hm] at HHW
      cases gk with
      | zero =>
        exfalso
        have h1 : k' = K := hkk.1
        rw [h1] at hm
        exact HKN.out hm
      | succ m =>
        have hk2 : fresh free m (k' + 1) = K ∧ k' + 1 + m ≤ 20000000 := by
          refine ⟨?_, by omega⟩
          have := hkk.1
          rw [fresh, if_pos hm] at this
          exact this
        have HK2 : Hid (fresh free m (k' + 1) = K ∧ k' + 1 + m ≤ 20000000) := hk2
        have hb1 : (k' : Int) + 1 ≤ 20000000 := by omega
        have HD2 : Hid (∀ w1 : World, Calls Tryd.prog 115 #[.int .i64 ((k' : Int) + 1)] w1 fun e w' => ∃ b : ByteArray, b = St (decL (k' + 1)) ∧ b.size ≤ 9 ∧ e = .returned (.string b) ∧ Below w1.heap.size w1 w') := fun w1 => HDEC.out w1 (k' + 1) (by omega)
        clear hm hkk HKK hk2 hnbr
        go_wp2_with (first
          | (go_at_call 93; (with_reducible refine HHW.out.mono ?_); rintro e w3 ⟨rfl, hb3⟩; have NB3 : Hid (NB w3 r F cF free k') := block_up hb3 HNBR.out; have e3 : w3.cell? ⟨r, 1, none⟩ = some (.int .i64 k') := block_cell NB3.out 1; have f3 := block_free NB3.out 1; have l3 := lt_of_block NB3.out; have HG3 := Lib.hid (grow_up2 HGR.out hb3); have X3 := Lib.hid (block_up hb3 XR.out); have R3 := Lib.hid (block_up hb3 RR.out); clear hb3)
          | (go_at_call 115; (with_reducible refine (HD2.out _).mono ?_); rintro e w4 ⟨b4, hb4, hbs4, rfl, hbl4⟩; have HB4 := Lib.hid hb4; have NB4 : Hid (NB w4 r F cF free (k' + 1)) := block_up hbl4 NB3.out.next.1; have HG4 := Lib.hid (grow_up2 (grow_grow HG3.out NB3.out.next.2 (.inl rfl)) hbl4); have X4 := Lib.hid (block_up hbl4 ((NB3.out.next.2.block w.heap.size (lt_of_block X3.out) (by simp; omega)).trans X3.out)); have R4 := Lib.hid (block_up hbl4 ((NB3.out.next.2.block (w.heap.size + 1) (lt_of_block R3.out) (by simp; omega)).trans R3.out)); clear hb4 hbl4))
        go_roundg m
        case measure => omega
        case rel => exact ⟨k' + 1, b4, rfl, HB4, HK2, NB4, HG4, X4, R4⟩
    · rw [decide_eq_false hm] at HHW
      have hkK : k' = K := by
        have := hkk.1
        rw [fresh_stop hm] at this
        exact this
      have hb1 : (k' : Int) + 1 ≤ 20000001 := by omega
      subst hkK
      have HBB : Hid (b = St (decL k')) := HBD'.out
      clear hm hkk HKK hnbr HDEC HHAS HK0 HKN
      go_wp2_with (go_at_call 93; (with_reducible refine HHW.out.mono ?_); rintro e w9 ⟨rfl, hb3⟩; have NB3 : Hid (NB w9 r F cF free k') := block_up hb3 HNBR.out; have e3 : w9.cell? ⟨r, 1, none⟩ = some (.int .i64 k') := block_cell NB3.out 1; have f3 := block_free NB3.out 1; have l3 := lt_of_block NB3.out; have HG3 := Lib.hid (grow_up2 HGR.out hb3); have X3 := Lib.hid (block_up hb3 XR.out); have R3 := Lib.hid (block_up hb3 RR.out); clear hb3)
      have NB9 : Hid (NB (w9.setCell ⟨r, 1, none⟩ (.int .i64 ((k' : Int) + 1))) r F cF free (k' + 1)) := NB3.out.next.1
      have HG9 : Hid (w.grownBy (w9.setCell ⟨r, 1, none⟩ (.int .i64 ((k' : Int) + 1))).drew (some r)) := grow_up2 (grow_grow HG3.out NB3.out.next.2 (.inl rfl)) (up_drew (Below.refl _ _))
      have HG9' : Hid (w.grownBy (w9.setCell ⟨r, 1, none⟩ (.int .i64 ((k' : Int) + 1))) (some r)) := grow_grow HG3.out NB3.out.next.2 (.inl rfl)
      have X9 : Hid ((w9.setCell ⟨r, 1, none⟩ (.int .i64 ((k' : Int) + 1))).heap[w.heap.size]? = some (.cells #[.string (St []), .slice (some ⟨bl, o, none⟩) 3 c'] 43 (0, 0))) := (NB3.out.next.2.block w.heap.size (lt_of_block X3.out) (by simp; omega)).trans X3.out
      have R9 : Hid ((w9.setCell ⟨r, 1, none⟩ (.int .i64 ((k' : Int) + 1))).heap[w.heap.size + 1]? = some (.cells #[.string (St []), .slice none 0 0] 43 (0, 0))) := (NB3.out.next.2.block (w.heap.size + 1) (lt_of_block R3.out) (by simp; omega)).trans R3.out
      have s9 : (w9.setCell ⟨r, 1, none⟩ (.int .i64 ((k' : Int) + 1))).cell? ⟨w.heap.size, 1, none⟩ = some (.slice (some ⟨bl, o, none⟩) 3 c') ∧ (w9.setCell ⟨r, 1, none⟩ (.int .i64 ((k' : Int) + 1))).cell? ⟨bl, o + 2, none⟩ = some (.string (St x)) ∧ (w9.setCell ⟨r, 1, none⟩ (.int .i64 ((k' : Int) + 1))).cell? ⟨bl, o + 3, none⟩ = some (.slice A2 n2 cc2) ∧ (w9.setCell ⟨r, 1, none⟩ (.int .i64 ((k' : Int) + 1))).cell? ⟨bl, o + 4, none⟩ = some (.string (St xb)) ∧ (w9.setCell ⟨r, 1, none⟩ (.int .i64 ((k' : Int) + 1))).cell? ⟨bl, o + 5, none⟩ = some (.slice A4 n4 c4) := ⟨block_cell X9.out 1, (HC.out _ HG9'.out).1, (HC.out _ HG9'.out).2.1, (HC.out _ HG9'.out).2.2.1, (HC.out _ HG9'.out).2.2.2.1⟩
      go_region_held3 (fun w' => w'.cell? ⟨w.heap.size, 1, none⟩ = some (.slice (some ⟨bl, o, none⟩) 3 c') ∧ w'.cell? ⟨bl, o + 2, none⟩ = some (.string (St x)) ∧ w'.cell? ⟨bl, o + 3, none⟩ = some (.slice A2 n2 cc2) ∧ w'.cell? ⟨bl, o + 4, none⟩ = some (.string (St xb)) ∧ w'.cell? ⟨bl, o + 5, none⟩ = some (.slice A4 n4 c4))
        (first | exact s7 | exact s6 | exact s5 | exact ⟨cell_up (up1 w5 (.cells #[.string (⟨#[116]⟩ ++ b), .slice none 0 0, .string x5, .slice B5 m5 q5] 43)) s5.1, cell_up (up1 w5 (.cells #[.string (⟨#[116]⟩ ++ b), .slice none 0 0, .string x5, .slice B5 m5 q5] 43)) s5.2.1, cell_up (up1 w5 (.cells #[.string (⟨#[116]⟩ ++ b), .slice none 0 0, .string x5, .slice B5 m5 q5] 43)) s5.2.2.1, cell_up (up1 w5 (.cells #[.string (⟨#[116]⟩ ++ b), .slice none 0 0, .string x5, .slice B5 m5 q5] 43)) s5.2.2.2.1, cell_up (up1 w5 (.cells #[.string (⟨#[116]⟩ ++ b), .slice none 0 0, .string x5, .slice B5 m5 q5] 43)) s5.2.2.2.2⟩ | exact s11 | exact s10 | exact s9 | go_keep)
        (first
      | (go_at_call 94; first
        | ((with_reducible refine (HWB.out _ b HG10.out HBB.out).mono ?_); rintro e w11 ⟨hb11, g4, c4', rfl, hf4⟩; have X11 := Lib.hid (block_up hb11 X10.out); have R11 := Lib.hid (block_up hb11 R10.out); have HG11 := Lib.hid (grow_up2 HG10.out hb11); have NB11 : Hid (NB w11 r F cF free (k' + 1)) := block_up hb11 NB10.out; have HF4 := Lib.hid hf4; have HF3' := Lib.hid (HF3.out.up hb11); have s11 : w11.cell? ⟨w.heap.size, 1, none⟩ = some (.slice (some ⟨bl, o, none⟩) 3 c') ∧ w11.cell? ⟨bl, o + 2, none⟩ = some (.string (St x)) ∧ w11.cell? ⟨bl, o + 3, none⟩ = some (.slice A2 n2 cc2) ∧ w11.cell? ⟨bl, o + 4, none⟩ = some (.string (St xb)) ∧ w11.cell? ⟨bl, o + 5, none⟩ = some (.slice A4 n4 c4) := ⟨block_cell X11.out 1, (HC.out _ HG11.out).1, (HC.out _ HG11.out).2.1, (HC.out _ HG11.out).2.2.1, (HC.out _ HG11.out).2.2.2.1⟩; have TB11 := (HC.out _ HG11.out).2.2.2.2.2; clear hb11 hf4)
        | ((with_reducible refine (HWA.out _ HG9.out).mono ?_); rintro e w10 ⟨hb10, g3, c3', rfl, hf3⟩; have X10 : Hid (w10.heap[w.heap.size]? = some (.cells #[.string (St []), .slice (some ⟨bl, o, none⟩) 3 c'] 43 (0, 0))) := block_up hb10 X9.out; have R10 : Hid (w10.heap[w.heap.size + 1]? = some (.cells #[.string (St []), .slice none 0 0] 43 (0, 0))) := block_up hb10 R9.out; have HG10 := Lib.hid (grow_up2 HG9.out hb10); have NB10 : Hid (NB w10 r F cF free (k' + 1)) := block_up hb10 NB9.out; have HF3 := Lib.hid hf3; have s10 : w10.cell? ⟨w.heap.size, 1, none⟩ = some (.slice (some ⟨bl, o, none⟩) 3 c') ∧ w10.cell? ⟨bl, o + 2, none⟩ = some (.string (St x)) ∧ w10.cell? ⟨bl, o + 3, none⟩ = some (.slice A2 n2 cc2) ∧ w10.cell? ⟨bl, o + 4, none⟩ = some (.string (St xb)) ∧ w10.cell? ⟨bl, o + 5, none⟩ = some (.slice A4 n4 c4) := ⟨block_cell X10.out 1, (HC.out _ HG10.out).1, (HC.out _ HG10.out).2.1, (HC.out _ HG10.out).2.2.1, (HC.out _ HG10.out).2.2.2.1⟩; clear hb10 hf3))
      | (go_at_call 100; (with_reducible refine (HIH.out _ _ _ _ _ _ HG11.out NB11.out HF3'.out HF4.out TB11.out).mono ?_); rintro e w5 ⟨x5, B5, m5, q5, rfl, ht5, hnb5, hg5⟩; have HG5 := Lib.hid (grow_grow HG11.out hg5 (.inl rfl)); have X5 := Lib.hid ((hg5.block w.heap.size (lt_of_block X11.out) (by simp; omega)).trans X11.out); have R5 := Lib.hid ((hg5.block (w.heap.size + 1) (lt_of_block R11.out) (by simp; omega)).trans R11.out); have HT5 : Hid (TAt w5 (fun k => w.heap.size + 1 < k) a'.toTr (.agg #[.string x5, .slice B5 m5 q5])) := ht5.move (fun k hk ho => ⟨by (have ho2 : w11.heap.size ≤ k := ho); (have := lt_of_block R11.out); show w.heap.size + 1 < k; omega, rfl⟩); have HNB5 := Lib.hid hnb5; have HS5 : Hid (w.heap.size + 1 < w5.heap.size) := lt_of_block R5.out; have s5 : w5.cell? ⟨w.heap.size, 1, none⟩ = some (.slice (some ⟨bl, o, none⟩) 3 c') ∧ w5.cell? ⟨bl, o + 2, none⟩ = some (.string (St x)) ∧ w5.cell? ⟨bl, o + 3, none⟩ = some (.slice A2 n2 cc2) ∧ w5.cell? ⟨bl, o + 4, none⟩ = some (.string (St xb)) ∧ w5.cell? ⟨bl, o + 5, none⟩ = some (.slice A4 n4 c4) := ⟨block_cell X5.out 1, (HC.out _ HG5.out).1, (HC.out _ HG5.out).2.1, (HC.out _ HG5.out).2.2.1, (HC.out _ HG5.out).2.2.2.1⟩; clear ht5 hnb5 hg5)
      | (go_at_call 106; (with_reducible refine (HLS.out w5 b HBB.out x5 B5 m5 q5 (fun k => w.heap.size + 1 < k) HT5.out).mono ?_); rintro e w6 ⟨⟨x6, B6, m6, q6, rfl, ht6⟩, hb6⟩; have X6 := Lib.hid (block_up hb6 X5.out); have R6 := Lib.hid (block_up hb6 R5.out); have HG6 := Lib.hid (grow_up2 HG5.out hb6); have NB6 : Hid (NB w6 r F cF free ka) := block_up hb6 HNB5.out; have rc0 : w6.cell? ⟨w.heap.size + 1, 0, none⟩ = some (.string (St [])) := block_cell R6.out 0; have rc1 : w6.cell? ⟨w.heap.size + 1, 1, none⟩ = some (.slice none 0 0) := block_cell R6.out 1; have fr0 := block_free R6.out 0; have fr1 := block_free R6.out 1; have lr6 := lt_of_block R6.out; have s6 : w6.cell? ⟨w.heap.size, 1, none⟩ = some (.slice (some ⟨bl, o, none⟩) 3 c') ∧ w6.cell? ⟨bl, o + 2, none⟩ = some (.string (St x)) ∧ w6.cell? ⟨bl, o + 3, none⟩ = some (.slice A2 n2 cc2) ∧ w6.cell? ⟨bl, o + 4, none⟩ = some (.string (St xb)) ∧ w6.cell? ⟨bl, o + 5, none⟩ = some (.slice A4 n4 c4) := ⟨block_cell X6.out 1, (HC.out _ HG6.out).1, (HC.out _ HG6.out).2.1, (HC.out _ HG6.out).2.2.1, (HC.out _ HG6.out).2.2.2.1⟩; have HG7 : Hid (w.grownBy ((w6.setCell ⟨w.heap.size + 1, 0, none⟩ (.string x6)).setCell ⟨w.heap.size + 1, 1, none⟩ (.slice B6 m6 q6)) (some r)) := grow_set (grow_set HG6.out (Nat.le_succ _)) (Nat.le_succ _); have X7 : Hid (((w6.setCell ⟨w.heap.size + 1, 0, none⟩ (.string x6)).setCell ⟨w.heap.size + 1, 1, none⟩ (.slice B6 m6 q6)).heap[w.heap.size]? = some (.cells #[.string (St []), .slice (some ⟨bl, o, none⟩) 3 c'] 43 (0, 0))) := (set2_block w6 _ _ (by omega)).trans X6.out; have s7 : ((w6.setCell ⟨w.heap.size + 1, 0, none⟩ (.string x6)).setCell ⟨w.heap.size + 1, 1, none⟩ (.slice B6 m6 q6)).cell? ⟨w.heap.size, 1, none⟩ = some (.slice (some ⟨bl, o, none⟩) 3 c') ∧ ((w6.setCell ⟨w.heap.size + 1, 0, none⟩ (.string x6)).setCell ⟨w.heap.size + 1, 1, none⟩ (.slice B6 m6 q6)).cell? ⟨bl, o + 2, none⟩ = some (.string (St x)) ∧ ((w6.setCell ⟨w.heap.size + 1, 0, none⟩ (.string x6)).setCell ⟨w.heap.size + 1, 1, none⟩ (.slice B6 m6 q6)).cell? ⟨bl, o + 3, none⟩ = some (.slice A2 n2 cc2) ∧ ((w6.setCell ⟨w.heap.size + 1, 0, none⟩ (.string x6)).setCell ⟨w.heap.size + 1, 1, none⟩ (.slice B6 m6 q6)).cell? ⟨bl, o + 4, none⟩ = some (.string (St xb)) ∧ ((w6.setCell ⟨w.heap.size + 1, 0, none⟩ (.string x6)).setCell ⟨w.heap.size + 1, 1, none⟩ (.slice B6 m6 q6)).cell? ⟨bl, o + 5, none⟩ = some (.slice A4 n4 c4) := ⟨block_cell X7.out 1, (HC.out _ HG7.out).1, (HC.out _ HG7.out).2.1, (HC.out _ HG7.out).2.2.1, (HC.out _ HG7.out).2.2.2.1⟩; have HFIN : Hid (RPost w r F cF free (f2, ka) (.returned (.agg #[.string x6, .slice B6 m6 q6])) ((w6.setCell ⟨w.heap.size + 1, 0, none⟩ (.string x6)).setCell ⟨w.heap.size + 1, 1, none⟩ (.slice B6 m6 q6))) := ⟨x6, B6, m6, q6, rfl, ht6.move (fun k hk ho => ⟨by (have ho2 : w5.heap.size < k ∨ w.heap.size + 1 < k := ho); have := HS5.out; show w.heap.size ≤ k; omega, set2_block w6 _ _ (show k ≠ w.heap.size + 1 by (have ho2 : w5.heap.size < k ∨ w.heap.size + 1 < k := ho); have := HS5.out; omega)⟩), (set2_block w6 _ _ (show r ≠ w.heap.size + 1 by omega)).trans NB6.out, HG7.out⟩; clear ht6 hb6))
      all_goals go_wp2
      all_goals refine bodyPost_ret (v := .agg #[.string x6, .slice B6 m6 q6]) (by simp [results, Tryd.results100, go_sem, rc0, rc1, lr6]) rfl ?_
      all_goals exact HFIN.out

end Go.Proofs.YtkciljcligohnaaDoor
