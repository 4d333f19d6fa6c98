/- The reference's l1Free whole. -/
import Derived.Test.YtkciljcligohnaaDoorSFree
namespace Go.Proofs.YtkciljcligohnaaDoor
open Go.RowKit
set_option linter.unusedVariables false
set_option linter.unusedSimpArgs false

theorem SOwn.keeps {w w1 : World} {B g c : Nat} {ls : List (List UInt8)} (h : SOwn w B ls g c) (hg : w.grownBy w1 (some g)) : Keeps 43 w w1 :=
  Keeps.grown h hg (by decide)

set_option maxHeartbeats 8000000 in
set_option maxRecDepth 100000 in
theorem l1Free_rec (x : List UInt8) (a : NT) (ih : LF a) : LF (.loop x a) := by
  intro v w A c bd B g c2 ls hp hA ho hB h1 h2
  have hp : TAt w (fun _ => True) (.mk [] [.mk [114, 101, 99] [], .mk x [], a.toTr]) v := hp
  simp only [NT.fr, NT.atoms] at h1 h2 ⊢
  obtain ⟨bl, o, c', rfl, A2, n2, cc2, A4, n4, c4, HC, HH⟩ := three_keeps hp
  have hxa : (Tr.mk x []).atom = x := rfl
  rw [hxa] at HC
  have hgl := ho.lt
  have HWI : Hid (∀ w1, Below w.heap.size w w1 → Calls Tryd.prog 94 #[.slice A bd.length c, .string (St x)] w1 (fun e w2 => Below w1.heap.size w1 w2 ∧ ∃ g3 c3, e = .returned (.slice (some ⟨g3, 0, none⟩) (bd.length + 1) c3) ∧ SFar w2 (some ⟨g3, 0, none⟩) g (bd ++ [x]))) := fun w1 hb => by
    refine (l1With_any bd A c x w1 (by omega) (hA.up hb).cells).mono ?_
    rintro e w2 ⟨hb2, g3, c3, he, ho3⟩
    refine ⟨hb2, g3, c3, by rw [he]; simp, ?_⟩
    have hl3 := ho3.lt
    have := hb.size
    rcases ho3.reads with hr0 | ⟨g', o', he', hcell⟩
    · simp at hr0
    · cases he'
      exact .inr ⟨g3, 0, rfl, by omega, hl3.2, hcell⟩
  have HIH : Hid (∀ w1 g3 c3, Below w.heap.size w w1 → SFar w1 (some ⟨g3, 0, none⟩) g (bd ++ [x]) → Hid (TAt w1 (fun _ => True) a.toTr (.agg #[.string (St a.toTr.atom), .slice A4 n4 c4])) → Calls Tryd.prog 64 #[.agg #[.string (St a.toTr.atom), .slice A4 n4 c4], .slice (some ⟨g3, 0, none⟩) (bd.length + 1) c3, .slice (some ⟨g, 0, none⟩) ls.length c2] w1 (FPost w1 B g (a.fr (bd ++ [x]) ls))) := fun w1 g3 c3 hb hf ht => by
    have := ih _ w1 (some ⟨g3, 0, none⟩) c3 (bd ++ [x]) B g c2 ls ht.out hf (ho.up hb) (Nat.le_trans hB hb.size) (by simp; omega) (by omega)
    rw [show (bd ++ [x]).length = bd.length + 1 by simp] at this
    exact this
  have HKK : Hid (∀ w1 w2, Below w.heap.size w w1 → w1.grownBy w2 (some g) → Keeps 43 w1 w2) := fun w1 w2 hb hg => (ho.up hb).keeps hg
  clear hp hA ho hB h1 h2 hgl ih
  generalize a.toTr.atom = y at *
  generalize a.fr (bd ++ [x]) ls = ls' at *
  generalize bd ++ [x] = bd' at *
  generalize bd.length = n at *
  generalize ls.length = m at *
  go_enter Tryd.func64, Tryd.ntmps64
  go_wp2_with (go_at_call 55; refine (HH.out _ (.up (up1 w _))).mono ?_; rintro e w1 ⟨rfl, hb1⟩; have G0 := Lib.hid (block_up hb1 (block_new w (.cells #[.string (St []), .slice (some ⟨bl, o, none⟩) 3 c'] 43))); have e1 : w1.cell? ⟨w.heap.size, 1, none⟩ = some (.slice (some ⟨bl, o, none⟩) 3 c') := block_cell G0.out 1; obtain ⟨d2, d3, d4, d5, _, _⟩ := HC.out w1 (.up (up_trans (up1 w _) hb1)); have HB1 := Lib.hid (up_trans (up1 w _) hb1); clear hb1)
  go_region_held3 (fun w' => w'.cell? ⟨w.heap.size, 1, none⟩ = some (.slice (some ⟨bl, o, none⟩) 3 c') ∧ w'.cell? ⟨bl, o + 2, none⟩ = some (.string (St x)) ∧ w'.cell? ⟨bl, o + 3, none⟩ = some (.slice A2 n2 cc2) ∧ w'.cell? ⟨bl, o + 4, none⟩ = some (.string (St y)) ∧ w'.cell? ⟨bl, o + 5, none⟩ = some (.slice A4 n4 c4))
    (first | exact ⟨t1, t2, t3, t4, t5⟩ | exact ⟨s1, s2, s3, s4, s5⟩ | exact ⟨e1, d2, d3, d4, d5⟩ | go_keep)
    (first
      | (go_at_call 94; (with_reducible refine (HWI.out _ (up_drew HB1.out)).mono ?_); rintro e w2 ⟨hb2, g3, c3, rfl, hf⟩; have HB2 := Lib.hid (up_trans (up_drew HB1.out) hb2); have hk2 : Below w1.heap.size w1 w2 := up_trans (up_drew (Below.refl _ w1)) hb2; have s1 := cell_up hk2 e1; have G2 := Lib.hid (block_up hk2 G0.out); obtain ⟨s2, s3, s4, s5, _, TB⟩ := HC.out w2 (.up HB2.out); have HF := Lib.hid hf; clear hb2 hf hk2)
      | (go_at_call 64; (with_reducible refine (HIH.out _ _ _ HB2.out HF.out TB).mono ?_); rintro e w3 hpost; have HP := Lib.hid (FPost.after HB2.out hpost); obtain ⟨g4, c4', rfl, ho4, hg4, hat4⟩ := hpost; have hk3 : Keeps 43 w2 w3 := HKK.out w2 w3 HB2.out hg4; have t1 : w3.cell? ⟨w.heap.size, 1, none⟩ = some (.slice (some ⟨bl, o, none⟩) 3 c') := block_cell (hk3 _ _ _ G2.out) 1; obtain ⟨t2, t3, t4, t5, _, _⟩ := HC.out w3 ((Keeps.up HB2.out).trans hk3); clear ho4 hg4 hat4 hk3))
  all_goals go_wp2
  all_goals go_ret
  all_goals exact HP.out

set_option maxHeartbeats 8000000 in
set_option maxRecDepth 100000 in
theorem l1Free_two (h : List UInt8) (hne : h ≠ [114, 101, 99]) (a b : NT) (v : Value) (w : World) (A : Option Addr) (c : Nat) (bd : List (List UInt8)) (B g c2 : Nat) (ls : List (List UInt8)) (hp : TAt w (fun _ => True) (.mk [] [.mk h [], a.toTr, b.toTr]) v) (hA : SFar w A g bd) (ho : SOwn w B ls g c2) (hB : B ≤ w.heap.size)
    (h1 : bd.length + (1 + a.atoms + b.atoms) ≤ 100000) (h2 : ls.length + (1 + a.atoms + b.atoms) ≤ 100000) (iha : LF a) (ihb : LF b) :
    Calls Tryd.prog 64 #[v, .slice A bd.length c, .slice (some ⟨g, 0, none⟩) ls.length c2] w (FPost w B g (b.fr bd (a.fr bd ls))) := by
  obtain ⟨bl, o, c', rfl, A2, n2, cc2, A4, n4, c4, HC, HH⟩ := three_keeps hp
  have k : (h == [114, 101, 99]) = false := St_ne hne
  have hlen := fr_len a bd ls
  have HIA : Hid (∀ w1, Below w.heap.size w w1 → Hid (TAt w1 (fun _ => True) a.toTr (.agg #[.string (St a.toTr.atom), .slice A2 n2 cc2])) → Calls Tryd.prog 64 #[.agg #[.string (St a.toTr.atom), .slice A2 n2 cc2], .slice A bd.length c, .slice (some ⟨g, 0, none⟩) ls.length c2] w1 (fun e w2 => ∃ g2 c3, e = .returned (.slice (some ⟨g2, 0, none⟩) (a.fr bd ls).length c3) ∧ SOwn w2 B (a.fr bd ls) g2 c3 ∧ w.grownBy w2 (some g) ∧ (g2 = g ∨ w.heap.size ≤ g2) ∧ Keeps 43 w1 w2)) := fun w1 hb ht => by
    refine (iha _ w1 A c bd B g c2 ls ht.out (hA.up hb) (ho.up hb) (Nat.le_trans hB hb.size) (by omega) (by omega)).mono ?_
    rintro e w2 ⟨g2, c3, he, ho2, hg2, hat2⟩
    refine ⟨g2, c3, he, ho2, up_grow hb hg2, ?_, (ho.up hb).keeps hg2⟩
    have := hb.size
    omega
  have HIB : Hid (∀ w1 g' c3, w.grownBy w1 (some g) → (g' = g ∨ w.heap.size ≤ g') → SOwn w1 B (a.fr bd ls) g' c3 → Hid (TAt w1 (fun _ => True) b.toTr (.agg #[.string (St b.toTr.atom), .slice A4 n4 c4])) → Calls Tryd.prog 64 #[.agg #[.string (St b.toTr.atom), .slice A4 n4 c4], .slice A bd.length c, .slice (some ⟨g', 0, none⟩) (a.fr bd ls).length c3] w1 (fun e w2 => FPost w B g (b.fr bd (a.fr bd ls)) e w2 ∧ Keeps 43 w1 w2 ∧ ∃ v, e = .returned v)) := fun w1 g' c3 hg hat ho1 ht => by
    refine (ihb _ w1 A c bd B g' c3 (a.fr bd ls) ht.out (hA.grown hg hat) ho1 (Nat.le_trans hB hg.size) (by omega) (by omega)).mono ?_
    rintro e w2 ⟨g2, c5, he, ho2, hg2, hat2⟩
    refine ⟨⟨g2, c5, he, ho2, grow_grow hg hg2 hat, ?_⟩, ho1.keeps hg2, _, he⟩
    have := hg.size
    omega
  have HKK : Hid (∀ w2, w.grownBy w2 (some g) → Keeps 43 w w2) := fun w2 hg => ho.keeps hg
  clear hp hA ho hB h1 h2 iha ihb hne hlen
  generalize a.toTr.atom = x at *
  generalize b.toTr.atom = y at *
  generalize b.fr bd (a.fr bd ls) = ls3 at *
  generalize hls2 : a.fr bd ls = ls2 at *
  clear hls2
  generalize hn2 : ls2.length = n2' at *
  generalize bd.length = n at *
  generalize ls.length = m at *
  go_enter Tryd.func64, Tryd.ntmps64
  go_wp2_with (go_at_call 55; refine (HH.out _ (.up (up1 w _))).mono ?_; rintro e w1 ⟨rfl, hb1⟩; have G0 := Lib.hid (block_up hb1 (block_new w (.cells #[.string (St []), .slice (some ⟨bl, o, none⟩) 3 c'] 43))); have e1 : w1.cell? ⟨w.heap.size, 1, none⟩ = some (.slice (some ⟨bl, o, none⟩) 3 c') := block_cell G0.out 1; obtain ⟨d2, d3, d4, d5, TA, _⟩ := HC.out w1 (.up (up_trans (up1 w _) hb1)); have HB1 := Lib.hid (up_trans (up1 w _) hb1); clear hb1)
  go_region_held3 (fun w' => w'.cell? ⟨w.heap.size, 1, none⟩ = some (.slice (some ⟨bl, o, none⟩) 3 c') ∧ w'.cell? ⟨bl, o + 2, none⟩ = some (.string (St x)) ∧ w'.cell? ⟨bl, o + 3, none⟩ = some (.slice A2 n2 cc2) ∧ w'.cell? ⟨bl, o + 4, none⟩ = some (.string (St y)) ∧ w'.cell? ⟨bl, o + 5, none⟩ = some (.slice A4 n4 c4))
    (first | exact ⟨t1, t2, t3, t4, t5⟩ | exact ⟨s1, s2, s3, s4, s5⟩ | exact ⟨e1, d2, d3, d4, d5⟩ | go_keep)
    ((go_at_call 64; first
      | ((with_reducible refine (HIB.out _ _ _ HG2.out HAT.out HO2.out TB).mono ?_); rintro e w3 ⟨hpost, hk3, v3, rfl⟩; have HP := Lib.hid hpost; have t1 : w3.cell? ⟨w.heap.size, 1, none⟩ = some (.slice (some ⟨bl, o, none⟩) 3 c') := block_cell (hk3 _ _ _ G2.out) 1; obtain ⟨t2, t3, t4, t5, _, _⟩ := HC.out w3 ((HKK.out w2 HG2.out).trans hk3); clear hpost hk3)
      | ((with_reducible refine (HIA.out _ (up_drew HB1.out) (Lib.hid (TAt.up (up_drew (Below.refl _ w1)) TA.out))).mono ?_); rintro e w2 ⟨g2, c3', rfl, ho2, hg2, hat2, hk2⟩; have HO2 := Lib.hid ho2; have HG2 := Lib.hid hg2; have HAT := Lib.hid hat2; have G2 : Hid (w2.heap[w.heap.size]? = some (.cells #[.string (St []), .slice (some ⟨bl, o, none⟩) 3 c'] 43 (0, 0))) := hk2 _ _ _ G0.out; have s1 : w2.cell? ⟨w.heap.size, 1, none⟩ = some (.slice (some ⟨bl, o, none⟩) 3 c') := block_cell G2.out 1; obtain ⟨s2, s3, s4, s5, _, TB⟩ := HC.out w2 (HKK.out w2 hg2); clear ho2 hg2 hat2 hk2)))
  all_goals go_wp2
  all_goals go_ret
  all_goals exact HP.out

/-- An atom, no digit, not long. -/
def nmOk (s : List UInt8) : Prop := s ≠ [] ∧ s ≠ [48] ∧ s ≠ [49] ∧ (∀ b ∈ s, atomB b = true) ∧ s.length ≤ 10
theorem digit_atom {b : UInt8} (h : digitB b = true) : atomB b = true := by
  obtain ⟨h1, h2⟩ := (digitB_iff b).1 h
  have h3 : (48 : UInt8) ≤ b := UInt8.le_iff_toNat_le.2 (by simpa using h1)
  have h4 : b ≤ (57 : UInt8) := UInt8.le_iff_toNat_le.2 (by simpa using h2)
  simp [atomB, h3, h4]
theorem named_ok {L s : List UInt8} (hL : ∀ b ∈ L, atomB b = true ∧ b ≠ 48 ∧ b ≠ 49) (h : namedB L s = true) : nmOk s := by
  cases s with
  | nil => simp [namedB] at h
  | cons c r =>
    simp only [namedB, Bool.and_eq_true, decide_eq_true_eq, List.contains_iff_mem, List.all_eq_true] at h
    obtain ⟨⟨h1, h2⟩, h3⟩ := h
    obtain ⟨a1, a2, a3⟩ := hL c h1
    refine ⟨by simp, by simp; intro h _; exact a2 h, by simp; intro h _; exact a3 h, fun b hb => ?_, by simp; omega⟩
    rcases List.mem_cons.1 hb with rfl | hb
    · exact a1
    · exact digit_atom (h3 b hb)
theorem name_ok {s : List UInt8} (h : paramB s = true ∨ loopB s = true) : nmOk s := by
  rcases h with h | h
  · exact named_ok (by decide) h
  · exact named_ok (by decide) h
/-- Names are atoms, no digits; a bound one is no parameter. -/
def NT.ok3 : NT → Prop
  | .name s => nmOk s
  | .sum a b => a.ok3 ∧ b.ok3
  | .prod a b => a.ok3 ∧ b.ok3
  | .loop s a => (nmOk s ∧ paramB s = false) ∧ a.ok3
  | _ => True
theorem loop_noparam {s : List UInt8} (h : loopB s = true) : paramB s = false := by
  cases s with
  | nil => rfl
  | cons c r =>
    simp [namedB] at h
    obtain ⟨⟨h2, _⟩, _⟩ := h
    subst h2
    simp [namedB]
theorem ok_ok3 : ∀ {n : NT}, n.ok → n.ok3
  | .zero, _ => trivial
  | .one, _ => trivial
  | .name s, h => name_ok h
  | .sum a b, h => ⟨ok_ok3 h.1, ok_ok3 h.2⟩
  | .prod a b, h => ⟨ok_ok3 h.1, ok_ok3 h.2⟩
  | .loop s a, h => ⟨⟨name_ok (.inr h.1), loop_noparam h.1⟩, ok_ok3 h.2⟩

theorem l1Free_any3 : ∀ (n : NT), n.ok3 → LF n
  | .zero, _ => fun v w A c bd B g c2 ls hp hA ho hB h1 h2 => l1Free_digit [48] (.inl rfl) [] v w A _ c B g c2 ls hp ho
  | .one, _ => fun v w A c bd B g c2 ls hp hA ho hB h1 h2 => l1Free_digit [49] (.inr rfl) [] v w A _ c B g c2 ls hp ho
  | .name s, h => fun v w A c bd B g c2 ls hp hA ho hB h1 h2 =>
    l1Free_name s h.1 h.2.1 h.2.2.1 v w A c bd B g c2 ls hp hA ho hB (by omega) (by omega)
  | .sum a b, h => fun v w A c bd B g c2 ls hp hA ho hB h1 h2 =>
    l1Free_two [43] (by decide) a b v w A c bd B g c2 ls hp hA ho hB h1 h2 (l1Free_any3 a h.1) (l1Free_any3 b h.2)
  | .prod a b, h => fun v w A c bd B g c2 ls hp hA ho hB h1 h2 =>
    l1Free_two [42] (by decide) a b v w A c bd B g c2 ls hp hA ho hB h1 h2 (l1Free_any3 a h.1) (l1Free_any3 b h.2)
  | .loop s a, h => l1Free_rec s a (l1Free_any3 a h.2)
theorem l1Free_any (n : NT) (h : n.ok) : LF n := l1Free_any3 n (ok_ok3 h)

end Go.Proofs.YtkciljcligohnaaDoor
