/- l1Rename: sums and products. -/
import Derived.Test.YtkciljcligohnaaDoorRen
namespace Go.Proofs.YtkciljcligohnaaDoor
open Go.RowKit
set_option linter.unusedVariables false
set_option linter.unusedSimpArgs false

/-- The giver of names: its block, with the row of the free ones. -/
def NB (w : World) (r : Nat) (F : Option Addr) (cF : Nat) (free : List (List UInt8)) (k : Nat) : Prop :=
  w.heap[r]? = some (.cells #[.slice F free.length cF, .int .i64 k] 97 (0, 0))
/-- What l1Rename does. -/
def RPost (w : World) (r : Nat) (F : Option Addr) (cF : Nat) (free : List (List UInt8)) (nk : NT × Nat) (e : Ending) (w' : World) : Prop :=
  ∃ x A n c, e = .returned (.agg #[.string x, .slice A n c]) ∧ TAt w' (fun k => w.heap.size ≤ k) nk.1.toTr (.agg #[.string x, .slice A n c]) ∧ NB w' r F cF free nk.2 ∧ w.grownBy w' (some r)
def LRn (free : List (List UInt8)) (n : NT) : Prop := ∀ (v : Value) (w : World) (A : Option Addr) (c : Nat) (B : Option Addr) (d : Nat) (env : List (List UInt8 × List UInt8)) (r : Nat) (F : Option Addr) (cF k : Nat) (okT : Nat → Prop),
  TAt w okT n.toTr v → (∀ j, okT j → j ≠ r) → SFar w A r (env.reverse.map (·.1)) → SFar w B r (env.reverse.map (·.2)) → NB w r F cF free k → SFar w F r free → (∀ p ∈ env, p.1 ≠ [48] ∧ p.1 ≠ [49]) → env.length + n.atoms ≤ 2000 → k + n.atoms * (free.length + 1) ≤ 10000000 →
  Calls Tryd.prog 100 #[v, .slice A env.length c, .slice B env.length d, .pointer (some ⟨r, 0, none⟩)] w (RPost w r F cF free (n.ren free env k))

theorem below_grow {w w1 : World} {r : Nat} (hb : Below w.heap.size w w1) : w.grownBy w1 (some r) := ⟨hb.os, hb.tape, hb.output, hb.size, fun j hj _ => hb.block j hj⟩
theorem grow_up2 {w w1 w2 : World} {g : Nat} (h : w.grownBy w1 (some g)) (hb : Below w1.heap.size w1 w2) : w.grownBy w2 (some g) :=
  ⟨hb.os.trans h.os, hb.tape.trans h.tape, hb.output.trans h.output, Nat.le_trans h.size hb.size, fun j hj hne => by rw [hb.block j (Nat.lt_of_lt_of_le hj h.size), h.block j hj hne]⟩
theorem grow_set {w w1 : World} {g b i : Nat} {v : Value} (h : w.grownBy w1 (some g)) (hb : w.heap.size ≤ b) : w.grownBy (w1.setCell ⟨b, i, none⟩ v) (some g) :=
  ⟨h.os, h.tape, h.output, by simpa [World.setCell] using h.size, fun j hj hne => by rw [Below.heap_setCell _ _ _ _ (by show j ≠ b; omega), h.block j hj hne]⟩
theorem set2_block (w : World) {b k : Nat} (v0 v1 : Value) (h : k ≠ b) : ((w.setCell ⟨b, 0, none⟩ v0).setCell ⟨b, 1, none⟩ v1).heap[k]? = w.heap[k]? := by
  rw [Below.heap_setCell _ ⟨b, 1, none⟩ _ k h, Below.heap_setCell _ ⟨b, 0, none⟩ _ k h]

theorem TRow.at3f {w : World} {ok : Nat → Prop} {a : Tr} {ts : List Tr} {b o : Nat} (h : TRow w ok (a :: ts) (some ⟨b, o, none⟩)) :
    ∃ A n c, (∀ w1 : World, (∀ k, k < w.heap.size → ok k → w1.heap[k]? = w.heap[k]?) → w1.cell? ⟨b, o, none⟩ = some (.string (St a.atom)) ∧ w1.cell? ⟨b, o + 1, none⟩ = some (.slice A n c)) ∧ TAt w ok a (.agg #[.string (St a.atom), .slice A n c]) ∧ TRow w ok ts (some ⟨b, o + 2, none⟩) := by
  obtain ⟨s, ps⟩ := a
  cases h with
  | cons b o s ps ts A' c cur h0 h1 h2 h3 hc hp ht =>
    refine ⟨A', _, c, fun w1 hk => ?_, ⟨A', c, rfl, hc, hp⟩, ht⟩
    have hb := (hk b (lt_of_block h1) h0).trans h1
    exact ⟨(block_cell hb o).trans h2, (block_cell hb (o + 1)).trans h3⟩

/-- What the three parts of a list give, while all but block r stays. -/
theorem three_far {w : World} {ok : Nat → Prop} {r : Nat} (hr : ∀ j, ok j → j ≠ r) {h : List UInt8} {q : List Tr} {a b : Tr} {v : Value} (hp : TAt w ok (.mk [] [.mk h q, a, b]) v) :
    ∃ bl o c, v = .agg #[.string (St []), .slice (some ⟨bl, o, none⟩) 3 c] ∧ ∃ A2 n2 c2 A4 n4 c4, Hid (∀ w1, w.grownBy w1 (some r) → w1.cell? ⟨bl, o + 2, none⟩ = some (.string (St a.atom)) ∧ w1.cell? ⟨bl, o + 3, none⟩ = some (.slice A2 n2 c2) ∧ w1.cell? ⟨bl, o + 4, none⟩ = some (.string (St b.atom)) ∧ w1.cell? ⟨bl, o + 5, none⟩ = some (.slice A4 n4 c4) ∧
      Hid (TAt w1 ok a (.agg #[.string (St a.atom), .slice A2 n2 c2])) ∧ Hid (TAt w1 ok b (.agg #[.string (St b.atom), .slice A4 n4 c4]))) ∧
      Hid (∀ w1, w.grownBy w1 (some r) → Calls Tryd.prog 55 #[.agg #[.string (St []), .slice (some ⟨bl, o, none⟩) 3 c]] w1 fun e w' => e = .returned (.string (St h)) ∧ Below w1.heap.size w1 w') := by
  have hg : ∀ w1 : World, w.grownBy w1 (some r) → ∀ k, k < w.heap.size → ok k → w1.heap[k]? = w.heap[k]? := fun w1 hg k hk ho => hg.block k hk (by simp; exact hr k ho)
  have hh : ∀ w1, w.grownBy w1 (some r) → Calls Tryd.prog 55 #[v] w1 fun e w' => e = .returned (.string (St h)) ∧ Below w1.heap.size w1 w' := fun w1 hb => l1Head_any _ v w1 (hp.move fun k hk ho => ⟨ho, hg w1 hb k hk ho⟩)
  obtain ⟨A, c, rfl, hrow⟩ := hp.parts
  obtain ⟨bl, o, A', c', rfl, _, _, _, _, hrow⟩ := hrow.uncons
  obtain ⟨A2, n2, c2, d2, ha, hrow⟩ := hrow.at3f
  obtain ⟨A4, n4, c4, d4, hb, _⟩ := hrow.at3f
  exact ⟨bl, o, c, rfl, A2, n2, c2, A4, n4, c4, fun w1 hk => ⟨(d2 w1 (hg w1 hk)).1, (d2 w1 (hg w1 hk)).2, (d4 w1 (hg w1 hk)).1, (d4 w1 (hg w1 hk)).2, ha.move fun k h1 h2 => ⟨h2, hg w1 hk k h1 h2⟩, hb.move fun k h1 h2 => ⟨h2, hg w1 hk k h1 h2⟩⟩, hh⟩

theorem trees2 {w : World} {ok : Nat → Prop} {t u : Tr} {x y : ByteArray} {A A' : Option Addr} {n c n' c' : Nat} (ht : TAt w ok t (.agg #[.string x, .slice A n c])) (hu : TAt w ok u (.agg #[.string y, .slice A' n' c'])) :
    Trees w ok [t, u] [.string x, .slice A n c, .string y, .slice A' n' c'] := by
  obtain ⟨s, ps⟩ := t
  obtain ⟨s', ps'⟩ := u
  obtain ⟨B, d, h1, h2, h3⟩ := ht
  obtain ⟨B', d', h1', h2', h3'⟩ := hu
  simp only [Value.agg.injEq, Array.mk.injEq, List.cons.injEq, Value.string.injEq, Value.slice.injEq, and_true] at h1 h1'
  obtain ⟨rfl, rfl, rfl, rfl⟩ := h1
  obtain ⟨rfl, rfl, rfl, rfl⟩ := h1'
  exact .cons _ _ _ _ _ _ h2 h3 (.cons _ _ _ _ _ _ h2' h3' .nil)

set_option maxHeartbeats 8000000 in
set_option maxRecDepth 100000 in
theorem l1Rename_two (free : List (List UInt8)) (h : List UInt8) (hne : h ≠ [114, 101, 99]) (a b f2 : NT) (ka kb : Nat) (a' b' : NT) (hf : f2.toTr = .mk [] [.mk h [], a'.toTr, b'.toTr]) (v : Value) (w : World) (A : Option Addr) (c : Nat) (B : Option Addr) (d n : Nat) (r : Nat) (F : Option Addr) (cF : Nat) (okT : Nat → Prop)
    (hp : TAt w okT (.mk [] [.mk h [], a.toTr, b.toTr]) v) (hok : ∀ j, okT j → j ≠ r) (hr : r < w.heap.size)
    (iha : ∀ w1 v, w.grownBy w1 (some r) → Below w.heap.size w w1 → TAt w1 okT a.toTr v → Calls Tryd.prog 100 #[v, .slice A n c, .slice B n d, .pointer (some ⟨r, 0, none⟩)] w1 (RPost w1 r F cF free (a', ka)))
    (ihb : ∀ w1 v, w.grownBy w1 (some r) → NB w1 r F cF free ka → TAt w1 okT b.toTr v → Calls Tryd.prog 100 #[v, .slice A n c, .slice B n d, .pointer (some ⟨r, 0, none⟩)] w1 (RPost w1 r F cF free (b', kb))) :
    Calls Tryd.prog 100 #[v, .slice A n c, .slice B n d, .pointer (some ⟨r, 0, none⟩)] w (RPost w r F cF free (f2, kb)) := by
  obtain ⟨bl, o, c', rfl, A2, n2, cc2, A4, n4, c4, HC, HH⟩ := three_far hok hp
  have k0 : (h == [114, 101, 99]) = false := St_ne hne
  have IHA := Lib.hid iha
  have IHB := Lib.hid ihb
  have HLS : Hid (∀ (w5 : World) (x2 x5 : ByteArray) (B2 B5 : Option Addr) (n2 c2 n5 c5 : Nat) (ok : Nat → Prop), TAt w5 ok a'.toTr (.agg #[.string x2, .slice B2 n2 c2]) → TAt w5 ok b'.toTr (.agg #[.string x5, .slice B5 n5 c5]) → Calls Tryd.prog 106 #[.string (St h), .slice (some ⟨w5.heap.size, 0, none⟩) 2 2] (w5.alloc (.cells #[.string x2, .slice B2 n2 c2, .string x5, .slice B5 n5 c5] 43)) fun e w' => (∃ x A n c, e = .returned (.agg #[.string x, .slice A n c]) ∧ TAt w' (fun k => w5.heap.size < k ∨ ok k) f2.toTr (.agg #[.string x, .slice A n c])) ∧ Below w5.heap.size w5 w') := fun w5 x2 x5 B2 B5 n2 c2 n5 c5 ok h1 h2 => by
    have ht := trees2 (h1.up (up1 w5 (.cells #[.string x2, .slice B2 n2 c2, .string x5, .slice B5 n5 c5] 43))) (h2.up (up1 w5 (.cells #[.string x2, .slice B2 n2 c2, .string x5, .slice B5 n5 c5] 43)))
    refine (l1List_any h [a'.toTr, b'.toTr] w5.heap.size 0 2 _ ok _ ht (fun j u hu => ?_) (by simp) (by simp)).mono ?_
    · rw [Nat.zero_add, block_cell (block_new w5 _) j]
      simpa using hu
    · rintro e w' ⟨⟨x, A, n, c, he, htt⟩, hb⟩
      refine ⟨⟨x, A, n, c, he, ?_⟩, up_trans (up1 w5 _) hb⟩
      rw [hf]
      refine htt.move fun k hk ho => ⟨?_, rfl⟩
      rcases ho with ho | ho
      · exact .inl (show w5.heap.size < k from Nat.lt_of_succ_le (by simpa using ho))
      · exact .inr ho
  clear hp iha ihb hne hf
  generalize a.toTr.atom = xa at *
  generalize b.toTr.atom = xb at *
  go_enter Tryd.func100, Tryd.ntmps100
  go_wp2_with (first
    | (go_at_call 55; refine (HH.out _ (below_grow (up_alloc (up1 w _) _))).mono ?_; rintro e w1 ⟨rfl, hb1⟩; have X1 := Lib.hid (block_up hb1 (old2 w (.cells #[.string (St []), .slice (some ⟨bl, o, none⟩) 3 c'] 43) (.cells #[.string (St []), .slice none 0 0] 43))); have R1 := Lib.hid (block_up hb1 (new2 w (.cells #[.string (St []), .slice (some ⟨bl, o, none⟩) 3 c'] 43) (.cells #[.string (St []), .slice none 0 0] 43))); have e1 : w1.cell? ⟨w.heap.size, 1, none⟩ = some (.slice (some ⟨bl, o, none⟩) 3 c') := block_cell X1.out 1; have HB1 := Lib.hid (up_trans (up_alloc (up1 w _) _) hb1); obtain ⟨d2, d3, _, _, TA, _⟩ := HC.out w1 (below_grow HB1.out); clear hb1)
    | (go_at_call 100; (with_reducible refine (IHA.out _ _ (below_grow HB1.out) HB1.out TA.out).mono ?_); rintro e w2 ⟨x2, B2, m2, q2, rfl, ht2, hnb2, hg2⟩; have HG2 := Lib.hid (up_grow HB1.out hg2); have X2 := Lib.hid ((hg2.block w.heap.size (lt_of_block X1.out) (by simp; omega)).trans X1.out); have R2 := Lib.hid ((hg2.block (w.heap.size + 1) (lt_of_block R1.out) (by simp; omega)).trans R1.out); have HT2 := Lib.hid ht2; have HNB2 := Lib.hid hnb2; have HS12 : Hid (w1.heap.size ≤ w2.heap.size) := hg2.size; clear ht2 hnb2 hg2))
  have X3 : Hid ((w2.alloc (.cells #[.string x2, .slice B2 m2 q2] 43)).heap[w.heap.size]? = some (.cells #[.string (St []), .slice (some ⟨bl, o, none⟩) 3 c'] 43 (0, 0))) := block_alloc X2.out _
  have R3 : Hid ((w2.alloc (.cells #[.string x2, .slice B2 m2 q2] 43)).heap[w.heap.size + 1]? = some (.cells #[.string (St []), .slice none 0 0] 43 (0, 0))) := block_alloc R2.out _
  have T3 := Lib.hid (block_new w2 (.cells #[.string x2, .slice B2 m2 q2] 43))
  have HG3 : Hid (w.grownBy (w2.alloc (.cells #[.string x2, .slice B2 m2 q2] 43)).drew (some r)) := grow_up2 HG2.out (up_drew (up1 w2 _))
  have HG3' : Hid (w.grownBy (w2.alloc (.cells #[.string x2, .slice B2 m2 q2] 43)) (some r)) := grow_up2 HG2.out (up1 w2 _)
  have NB3 : Hid (NB (w2.alloc (.cells #[.string x2, .slice B2 m2 q2] 43)) r F cF free ka) := block_alloc HNB2.out _
  have HT3 := Lib.hid (HT2.out.up (up_drew (up1 w2 (.cells #[.string x2, .slice B2 m2 q2] 43))))
  have l1 : w.heap.size + 1 < w1.heap.size := lt_of_block R1.out
  have l2 : w1.heap.size ≤ w2.heap.size := HS12.out
  have HS3 : Hid (w1.heap.size ≤ (w2.alloc (.cells #[.string x2, .slice B2 m2 q2] 43)).heap.size) := by show _ ≤ _; simp; omega
  have s3 : (w2.alloc (.cells #[.string x2, .slice B2 m2 q2] 43)).cell? ⟨w.heap.size, 0, none⟩ = some (.string (St [])) ∧ (w2.alloc (.cells #[.string x2, .slice B2 m2 q2] 43)).cell? ⟨w.heap.size, 1, none⟩ = some (.slice (some ⟨bl, o, none⟩) 3 c') ∧ (w2.alloc (.cells #[.string x2, .slice B2 m2 q2] 43)).cell? ⟨w2.heap.size, 0, none⟩ = some (.string x2) ∧ (w2.alloc (.cells #[.string x2, .slice B2 m2 q2] 43)).cell? ⟨w2.heap.size, 1, none⟩ = some (.slice B2 m2 q2) ∧ (w2.alloc (.cells #[.string x2, .slice B2 m2 q2] 43)).cell? ⟨bl, o + 4, none⟩ = some (.string (St xb)) ∧ (w2.alloc (.cells #[.string x2, .slice B2 m2 q2] 43)).cell? ⟨bl, o + 5, none⟩ = some (.slice A4 n4 c4) := ⟨block_cell X3.out 0, block_cell X3.out 1, block_cell T3.out 0, block_cell T3.out 1, (HC.out _ HG3'.out).2.2.1, (HC.out _ HG3'.out).2.2.2.1⟩
  go_region_held3 (fun w' => w'.cell? ⟨w.heap.size, 0, none⟩ = some (.string (St [])) ∧ w'.cell? ⟨w.heap.size, 1, none⟩ = some (.slice (some ⟨bl, o, none⟩) 3 c') ∧ w'.cell? ⟨w2.heap.size, 0, none⟩ = some (.string x2) ∧ w'.cell? ⟨w2.heap.size, 1, none⟩ = some (.slice B2 m2 q2) ∧ w'.cell? ⟨bl, o + 4, none⟩ = some (.string (St xb)) ∧ w'.cell? ⟨bl, o + 5, none⟩ = some (.slice A4 n4 c4))
    (first | exact s7 | exact s6 | exact s5 | exact ⟨cell_up (up1 w5 (.cells #[.string x2, .slice B2 m2 q2, .string x5, .slice B5 m5 q5] 43)) s5.1, cell_up (up1 w5 (.cells #[.string x2, .slice B2 m2 q2, .string x5, .slice B5 m5 q5] 43)) s5.2.1, cell_up (up1 w5 (.cells #[.string x2, .slice B2 m2 q2, .string x5, .slice B5 m5 q5] 43)) s5.2.2.1, cell_up (up1 w5 (.cells #[.string x2, .slice B2 m2 q2, .string x5, .slice B5 m5 q5] 43)) s5.2.2.2.1, cell_up (up1 w5 (.cells #[.string x2, .slice B2 m2 q2, .string x5, .slice B5 m5 q5] 43)) s5.2.2.2.2.1, cell_up (up1 w5 (.cells #[.string x2, .slice B2 m2 q2, .string x5, .slice B5 m5 q5] 43)) s5.2.2.2.2.2⟩ | exact s4 | exact s3 | go_keep)
    (first
      | (go_at_call 55; go_loud ((with_reducible refine (HH.out _ HG3.out).mono ?_); rintro e w4 ⟨rfl, hb4⟩; have X4 : Hid (w4.heap[w.heap.size]? = some (.cells #[.string (St []), .slice (some ⟨bl, o, none⟩) 3 c'] 43 (0, 0))) := block_up hb4 X3.out; have R4 : Hid (w4.heap[w.heap.size + 1]? = some (.cells #[.string (St []), .slice none 0 0] 43 (0, 0))) := block_up hb4 R3.out; have T4 := Lib.hid (block_up hb4 T3.out); have HG4 := Lib.hid (grow_up2 HG3.out hb4); have NB4 : Hid (NB w4 r F cF free ka) := block_up hb4 NB3.out; have HT4 := Lib.hid (HT3.out.up hb4); have HS4 : Hid (w1.heap.size ≤ w4.heap.size) := Nat.le_trans HS3.out hb4.size; have s4 : w4.cell? ⟨w.heap.size, 0, none⟩ = some (.string (St [])) ∧ w4.cell? ⟨w.heap.size, 1, none⟩ = some (.slice (some ⟨bl, o, none⟩) 3 c') ∧ w4.cell? ⟨w2.heap.size, 0, none⟩ = some (.string x2) ∧ w4.cell? ⟨w2.heap.size, 1, none⟩ = some (.slice B2 m2 q2) ∧ w4.cell? ⟨bl, o + 4, none⟩ = some (.string (St xb)) ∧ w4.cell? ⟨bl, o + 5, none⟩ = some (.slice A4 n4 c4) := ⟨block_cell X4.out 0, block_cell X4.out 1, block_cell T4.out 0, block_cell T4.out 1, (HC.out _ HG4.out).2.2.1, (HC.out _ HG4.out).2.2.2.1⟩; have TB4 := (HC.out _ HG4.out).2.2.2.2.2; clear hb4))
      | (go_at_call 100; (with_reducible refine (IHB.out _ _ HG4.out NB4.out TB4.out).mono ?_); rintro e w5 ⟨x5, B5, m5, q5, rfl, ht5, hnb5, hg5⟩; have HG5 := Lib.hid (grow_grow HG4.out hg5 (.inl rfl)); have X5 := Lib.hid ((hg5.block w.heap.size (lt_of_block X4.out) (by simp; omega)).trans X4.out); have R5 := Lib.hid ((hg5.block (w.heap.size + 1) (lt_of_block R4.out) (by simp; omega)).trans R4.out); have T5 := Lib.hid ((hg5.block w2.heap.size (lt_of_block T4.out) (by simp; omega)).trans T4.out); have HT25 : Hid (TAt w5 (fun k => w1.heap.size ≤ k) a'.toTr (.agg #[.string x2, .slice B2 m2 q2])) := HT4.out.move (fun k hk ho => ⟨ho, hg5.block k hk (by simp; omega)⟩); have HT5 : Hid (TAt w5 (fun k => w1.heap.size ≤ k) b'.toTr (.agg #[.string x5, .slice B5 m5 q5])) := ht5.move (fun k hk ho => ⟨Nat.le_trans HS4.out ho, rfl⟩); have HNB5 := Lib.hid hnb5; have HS5 : Hid (w1.heap.size ≤ w5.heap.size) := Nat.le_trans HS4.out hg5.size; have s5 : w5.cell? ⟨w.heap.size, 0, none⟩ = some (.string (St [])) ∧ w5.cell? ⟨w.heap.size, 1, none⟩ = some (.slice (some ⟨bl, o, none⟩) 3 c') ∧ w5.cell? ⟨w2.heap.size, 0, none⟩ = some (.string x2) ∧ w5.cell? ⟨w2.heap.size, 1, none⟩ = some (.slice B2 m2 q2) ∧ w5.cell? ⟨bl, o + 4, none⟩ = some (.string (St xb)) ∧ w5.cell? ⟨bl, o + 5, none⟩ = some (.slice A4 n4 c4) := ⟨block_cell X5.out 0, block_cell X5.out 1, block_cell T5.out 0, block_cell T5.out 1, (HC.out _ HG5.out).2.2.1, (HC.out _ HG5.out).2.2.2.1⟩; clear ht5 hnb5 hg5)
      | (go_at_call 106; (with_reducible refine (HLS.out w5 x2 x5 B2 B5 m2 q2 m5 q5 (fun k => w1.heap.size ≤ k) HT25.out HT5.out).mono ?_); rintro e w6 ⟨⟨x6, B6, m6, q6, rfl, ht6⟩, hb6⟩; have X6 := Lib.hid (block_up hb6 X5.out); have R6 := Lib.hid (block_up hb6 R5.out); have T6 := Lib.hid (block_up hb6 T5.out); have HG6 := Lib.hid (grow_up2 HG5.out hb6); have NB6 : Hid (NB w6 r F cF free kb) := block_up hb6 HNB5.out; have rc0 : w6.cell? ⟨w.heap.size + 1, 0, none⟩ = some (.string (St [])) := block_cell R6.out 0; have rc1 : w6.cell? ⟨w.heap.size + 1, 1, none⟩ = some (.slice none 0 0) := block_cell R6.out 1; have fr0 := block_free R6.out 0; have fr1 := block_free R6.out 1; have lr6 := lt_of_block R6.out; have s6 : w6.cell? ⟨w.heap.size, 0, none⟩ = some (.string (St [])) ∧ w6.cell? ⟨w.heap.size, 1, none⟩ = some (.slice (some ⟨bl, o, none⟩) 3 c') ∧ w6.cell? ⟨w2.heap.size, 0, none⟩ = some (.string x2) ∧ w6.cell? ⟨w2.heap.size, 1, none⟩ = some (.slice B2 m2 q2) ∧ w6.cell? ⟨bl, o + 4, none⟩ = some (.string (St xb)) ∧ w6.cell? ⟨bl, o + 5, none⟩ = some (.slice A4 n4 c4) := ⟨block_cell X6.out 0, block_cell X6.out 1, block_cell T6.out 0, block_cell T6.out 1, (HC.out _ HG6.out).2.2.1, (HC.out _ HG6.out).2.2.2.1⟩; have HG7 : Hid (w.grownBy ((w6.setCell ⟨w.heap.size + 1, 0, none⟩ (.string x6)).setCell ⟨w.heap.size + 1, 1, none⟩ (.slice B6 m6 q6)) (some r)) := grow_set (grow_set HG6.out (Nat.le_succ _)) (Nat.le_succ _); have X7 : Hid (((w6.setCell ⟨w.heap.size + 1, 0, none⟩ (.string x6)).setCell ⟨w.heap.size + 1, 1, none⟩ (.slice B6 m6 q6)).heap[w.heap.size]? = some (.cells #[.string (St []), .slice (some ⟨bl, o, none⟩) 3 c'] 43 (0, 0))) := (set2_block w6 _ _ (by omega)).trans X6.out; have T7 := Lib.hid ((set2_block w6 (b := w.heap.size + 1) (.string x6) (.slice B6 m6 q6) (by omega : w2.heap.size ≠ w.heap.size + 1)).trans T6.out); have s7 : ((w6.setCell ⟨w.heap.size + 1, 0, none⟩ (.string x6)).setCell ⟨w.heap.size + 1, 1, none⟩ (.slice B6 m6 q6)).cell? ⟨w.heap.size, 0, none⟩ = some (.string (St [])) ∧ ((w6.setCell ⟨w.heap.size + 1, 0, none⟩ (.string x6)).setCell ⟨w.heap.size + 1, 1, none⟩ (.slice B6 m6 q6)).cell? ⟨w.heap.size, 1, none⟩ = some (.slice (some ⟨bl, o, none⟩) 3 c') ∧ ((w6.setCell ⟨w.heap.size + 1, 0, none⟩ (.string x6)).setCell ⟨w.heap.size + 1, 1, none⟩ (.slice B6 m6 q6)).cell? ⟨w2.heap.size, 0, none⟩ = some (.string x2) ∧ ((w6.setCell ⟨w.heap.size + 1, 0, none⟩ (.string x6)).setCell ⟨w.heap.size + 1, 1, none⟩ (.slice B6 m6 q6)).cell? ⟨w2.heap.size, 1, none⟩ = some (.slice B2 m2 q2) ∧ ((w6.setCell ⟨w.heap.size + 1, 0, none⟩ (.string x6)).setCell ⟨w.heap.size + 1, 1, none⟩ (.slice B6 m6 q6)).cell? ⟨bl, o + 4, none⟩ = some (.string (St xb)) ∧ ((w6.setCell ⟨w.heap.size + 1, 0, none⟩ (.string x6)).setCell ⟨w.heap.size + 1, 1, none⟩ (.slice B6 m6 q6)).cell? ⟨bl, o + 5, none⟩ = some (.slice A4 n4 c4) := ⟨block_cell X7.out 0, block_cell X7.out 1, block_cell T7.out 0, block_cell T7.out 1, (HC.out _ HG7.out).2.2.1, (HC.out _ HG7.out).2.2.2.1⟩; have HFIN : Hid (RPost w r F cF free (f2, kb) (.returned (.agg #[.string x6, .slice B6 m6 q6])) ((w6.setCell ⟨w.heap.size + 1, 0, none⟩ (.string x6)).setCell ⟨w.heap.size + 1, 1, none⟩ (.slice B6 m6 q6))) := ⟨x6, B6, m6, q6, rfl, ht6.move (fun k hk ho => ⟨by (have ho2 : w5.heap.size < k ∨ w1.heap.size ≤ k := ho); have := HS5.out; show w.heap.size ≤ k; omega, set2_block w6 _ _ (show k ≠ w.heap.size + 1 by (have ho2 : w5.heap.size < k ∨ w1.heap.size ≤ k := ho); have := HS5.out; omega)⟩), (set2_block w6 _ _ (show r ≠ w.heap.size + 1 by omega)).trans NB6.out, HG7.out⟩; clear ht6 hb6))
  all_goals go_wp2
  all_goals refine bodyPost_ret (v := .agg #[.string x6, .slice B6 m6 q6]) (by simp [results, Tryd.results100, go_sem, rc0, rc1, lr6]) rfl ?_
  all_goals exact HFIN.out

end Go.Proofs.YtkciljcligohnaaDoor
