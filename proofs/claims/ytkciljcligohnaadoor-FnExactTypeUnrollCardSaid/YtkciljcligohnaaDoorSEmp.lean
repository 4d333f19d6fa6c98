/- The reference's l1Empty. -/
import Derived.Test.YtkciljcligohnaaDoorSFree2
namespace Go.Proofs.YtkciljcligohnaaDoor
open Go.RowKit
set_option linter.unusedVariables false
set_option linter.unusedSimpArgs false

/-- Whether a type has no value, with names that have none. -/
def NT.empS : NT → List (List UInt8) → Bool
  | .zero, _ => true
  | .one, bd => decide ([49] ∈ bd)
  | .name s, bd => decide (s ∈ bd)
  | .sum a b, bd => a.empS bd && b.empS bd
  | .prod a b, bd => a.empS bd || b.empS bd
  | .loop s a, bd => a.empS (bd ++ [s])

/-- Names are no empty text and no digit nought. -/
def NT.ok' : NT → Prop
  | .name s => s ≠ [] ∧ s ≠ [48]
  | .sum a b => a.ok' ∧ b.ok'
  | .prod a b => a.ok' ∧ b.ok'
  | .loop _ a => a.ok'
  | _ => True
theorem ok_ok' : ∀ {n : NT}, n.ok → n.ok'
  | .zero, _ => trivial
  | .one, _ => trivial
  | .name s, h => ⟨NT.name_nil h, (name_ne h).1⟩
  | .sum _ _, h => ⟨ok_ok' h.1, ok_ok' h.2⟩
  | .prod _ _, h => ⟨ok_ok' h.1, ok_ok' h.2⟩
  | .loop _ a, h => (show a.ok' from ok_ok' h.2)

def LEm (n : NT) : Prop := ∀ (v : Value) (w : World) (A : Option Addr) (c : Nat) (bd : List (List UInt8)), TAt w (fun _ => True) n.toTr v → SCells w A bd → bd.length + n.atoms ≤ 100000 →
  Calls Tryd.prog 114 #[v, .slice A bd.length c] w fun e w' => e = .returned (.bool (n.empS bd)) ∧ Below w.heap.size w w'

set_option maxHeartbeats 4000000 in
set_option maxRecDepth 100000 in
theorem l1Empty_atom (s : List UInt8) (hs : s ≠ []) (v : Value) (w : World) (A : Option Addr) (c : Nat) (bd : List (List UInt8)) (hp : TAt w (fun _ => True) (.mk s []) v) (hA : SCells w A bd) (hl : bd.length ≤ 100000) :
    Calls Tryd.prog 114 #[v, .slice A bd.length c] w fun e w' => e = .returned (.bool (decide (s = [48]) || decide (s ∈ bd))) ∧ Below w.heap.size w w' := by
  have hh : ∀ w1, Below w.heap.size w w1 → Calls Tryd.prog 55 #[v] w1 fun e w' => e = .returned (.string (St [])) ∧ Below w1.heap.size w1 w' := fun w1 (hb : Below w.heap.size w w1) => by
    have := l1Head_any _ v w1 (hp.up hb)
    rw [show headOf (.mk s []) = [] from by simp [headOf, hs]] at this
    exact this
  have HH := Lib.hid hh
  obtain ⟨A', c', rfl, _⟩ := TAt.parts hp
  have HAS : Hid (∀ w', Below w.heap.size w w' → Calls Tryd.prog 93 #[.slice A bd.length c, .string (St s)] w' fun e w2 => e = .returned (.bool (decide (s ∈ bd))) ∧ Below w'.heap.size w' w2) := fun w' hb => l1Has_any bd A c s w' (by omega) (hA.up hb)
  clear hp hA hh hl
  generalize decide (s ∈ bd) = q at *
  generalize bd.length = n at *
  by_cases h0 : s = [48]
  · subst h0
    go_enter Tryd.func114, Tryd.ntmps114
    go_wp2_with (go_at_call 55; refine (HH.out _ (up1 w _)).mono ?_; rintro e w1 ⟨rfl, hb1⟩; have e0 : w1.cell? ⟨w.heap.size, 0, none⟩ = some (.string (St [48])) := block_cell (block_up hb1 (block_new w _)) 0; have HB1 := Lib.hid (up_trans (up1 w _) hb1); clear hb1)
    go_ret
    exact ⟨by simp, HB1.out⟩
  · have k0 : (s == [48]) = false := St_ne h0
    rw [decide_eq_false h0, Bool.false_or]
    clear h0
    go_enter Tryd.func114, Tryd.ntmps114
    go_wp2_with (first
      | (go_at_call 55; refine (HH.out _ (up1 w _)).mono ?_; rintro e w1 ⟨rfl, hb1⟩; have e0 : w1.cell? ⟨w.heap.size, 0, none⟩ = some (.string (St s)) := block_cell (block_up hb1 (block_new w _)) 0; have HB1 := Lib.hid (up_trans (up1 w _) hb1); clear hb1)
      | (go_at_call 93; (with_reducible refine (HAS.out _ HB1.out).mono ?_); rintro e w2 ⟨rfl, hb2⟩; have HB2 := Lib.hid (up_trans HB1.out hb2); clear hb2))
    go_ret
    exact ⟨rfl, HB2.out⟩

set_option maxHeartbeats 8000000 in
set_option maxRecDepth 100000 in
theorem l1Empty_sum (a b : NT) (iha : LEm a) (ihb : LEm b) : LEm (.sum a b) := by
  intro v w A c bd hp hA hl
  have hp : TAt w (fun _ => True) (.mk [] [.mk [43] [], a.toTr, b.toTr]) v := hp
  simp only [NT.atoms] at hl
  obtain ⟨bl, o, c', rfl, A2, n2, cc2, A4, n4, c4, HC, HH⟩ := three_keeps hp
  have HIA : Hid (∀ w1, Below w.heap.size w w1 → Hid (TAt w1 (fun _ => True) a.toTr (.agg #[.string (St a.toTr.atom), .slice A2 n2 cc2])) → Calls Tryd.prog 114 #[.agg #[.string (St a.toTr.atom), .slice A2 n2 cc2], .slice A bd.length c] w1 fun e w' => e = .returned (.bool (a.empS bd)) ∧ Below w1.heap.size w1 w') := fun w1 hb ht => iha _ w1 A c bd ht.out (hA.up hb) (by omega)
  have HIB : Hid (∀ w1, Below w.heap.size w w1 → Hid (TAt w1 (fun _ => True) b.toTr (.agg #[.string (St b.toTr.atom), .slice A4 n4 c4])) → Calls Tryd.prog 114 #[.agg #[.string (St b.toTr.atom), .slice A4 n4 c4], .slice A bd.length c] w1 fun e w' => e = .returned (.bool (b.empS bd)) ∧ Below w1.heap.size w1 w') := fun w1 hb ht => ihb _ w1 A c bd ht.out (hA.up hb) (by omega)
  simp only [NT.empS]
  clear hp hA hl iha ihb
  generalize a.toTr.atom = x at *
  generalize b.toTr.atom = y at *
  generalize a.empS bd = p at *
  generalize b.empS bd = q at *
  generalize bd.length = n at *
  cases p with
  | false =>
    go_enter Tryd.func114, Tryd.ntmps114
    go_wp2_with (first
      | (go_at_call 55; refine (HH.out _ (.up (up1 w _))).mono ?_; rintro e w1 ⟨rfl, hb1⟩; have e1 : w1.cell? ⟨w.heap.size, 1, none⟩ = some (.slice (some ⟨bl, o, none⟩) 3 c') := block_cell (block_up hb1 (block_new w (.cells #[.string (St []), .slice (some ⟨bl, o, none⟩) 3 c'] 43))) 1; obtain ⟨d2, d3, d4, d5, TA, _⟩ := HC.out w1 (.up (up_trans (up1 w _) hb1)); have HB1 := Lib.hid (up_trans (up1 w _) hb1); clear hb1)
      | (go_at_call 114; (with_reducible refine (HIA.out _ HB1.out TA).mono ?_); rintro e w2 ⟨rfl, hb2⟩; have HB2 := Lib.hid (up_trans HB1.out hb2); clear hb2))
    go_ret
    exact ⟨rfl, HB2.out⟩
  | true =>
    go_enter Tryd.func114, Tryd.ntmps114
    go_wp2_with (first
      | (go_at_call 55; refine (HH.out _ (.up (up1 w _))).mono ?_; rintro e w1 ⟨rfl, hb1⟩; have e1 : w1.cell? ⟨w.heap.size, 1, none⟩ = some (.slice (some ⟨bl, o, none⟩) 3 c') := block_cell (block_up hb1 (block_new w (.cells #[.string (St []), .slice (some ⟨bl, o, none⟩) 3 c'] 43))) 1; obtain ⟨d2, d3, d4, d5, TA, _⟩ := HC.out w1 (.up (up_trans (up1 w _) hb1)); have HB1 := Lib.hid (up_trans (up1 w _) hb1); clear hb1)
      | (go_at_call 114; first
        | ((with_reducible refine (HIA.out _ HB1.out TA).mono ?_); rintro e w2 ⟨rfl, hb2⟩; have f1 := cell_up hb2 e1; obtain ⟨g2, g3, g4, g5, _, TB⟩ := HC.out w2 (.up (up_trans HB1.out hb2)); have HB2 := Lib.hid (up_trans HB1.out hb2); clear hb2)
        | ((with_reducible refine (HIB.out _ HB2.out TB).mono ?_); rintro e w3 ⟨rfl, hb3⟩; have HB3 := Lib.hid (up_trans HB2.out hb3); clear hb3)))
    go_ret
    exact ⟨by simp, HB3.out⟩

set_option maxHeartbeats 8000000 in
set_option maxRecDepth 100000 in
theorem l1Empty_prod (a b : NT) (iha : LEm a) (ihb : LEm b) : LEm (.prod a b) := by
  intro v w A c bd hp hA hl
  have hp : TAt w (fun _ => True) (.mk [] [.mk [42] [], a.toTr, b.toTr]) v := hp
  simp only [NT.atoms] at hl
  obtain ⟨bl, o, c', rfl, A2, n2, cc2, A4, n4, c4, HC, HH⟩ := three_keeps hp
  have HIA : Hid (∀ w1, Below w.heap.size w w1 → Hid (TAt w1 (fun _ => True) a.toTr (.agg #[.string (St a.toTr.atom), .slice A2 n2 cc2])) → Calls Tryd.prog 114 #[.agg #[.string (St a.toTr.atom), .slice A2 n2 cc2], .slice A bd.length c] w1 fun e w' => e = .returned (.bool (a.empS bd)) ∧ Below w1.heap.size w1 w') := fun w1 hb ht => iha _ w1 A c bd ht.out (hA.up hb) (by omega)
  have HIB : Hid (∀ w1, Below w.heap.size w w1 → Hid (TAt w1 (fun _ => True) b.toTr (.agg #[.string (St b.toTr.atom), .slice A4 n4 c4])) → Calls Tryd.prog 114 #[.agg #[.string (St b.toTr.atom), .slice A4 n4 c4], .slice A bd.length c] w1 fun e w' => e = .returned (.bool (b.empS bd)) ∧ Below w1.heap.size w1 w') := fun w1 hb ht => ihb _ w1 A c bd ht.out (hA.up hb) (by omega)
  simp only [NT.empS]
  clear hp hA hl iha ihb
  generalize a.toTr.atom = x at *
  generalize b.toTr.atom = y at *
  generalize a.empS bd = p at *
  generalize b.empS bd = q at *
  generalize bd.length = n at *
  cases p with
  | true =>
    go_enter Tryd.func114, Tryd.ntmps114
    go_wp2_with (first
      | (go_at_call 55; refine (HH.out _ (.up (up1 w _))).mono ?_; rintro e w1 ⟨rfl, hb1⟩; have e1 : w1.cell? ⟨w.heap.size, 1, none⟩ = some (.slice (some ⟨bl, o, none⟩) 3 c') := block_cell (block_up hb1 (block_new w (.cells #[.string (St []), .slice (some ⟨bl, o, none⟩) 3 c'] 43))) 1; obtain ⟨d2, d3, d4, d5, TA, _⟩ := HC.out w1 (.up (up_trans (up1 w _) hb1)); have HB1 := Lib.hid (up_trans (up1 w _) hb1); clear hb1)
      | (go_at_call 114; (with_reducible refine (HIA.out _ HB1.out TA).mono ?_); rintro e w2 ⟨rfl, hb2⟩; have HB2 := Lib.hid (up_trans HB1.out hb2); clear hb2))
    go_ret
    exact ⟨rfl, HB2.out⟩
  | false =>
    go_enter Tryd.func114, Tryd.ntmps114
    go_wp2_with (first
      | (go_at_call 55; refine (HH.out _ (.up (up1 w _))).mono ?_; rintro e w1 ⟨rfl, hb1⟩; have e1 : w1.cell? ⟨w.heap.size, 1, none⟩ = some (.slice (some ⟨bl, o, none⟩) 3 c') := block_cell (block_up hb1 (block_new w (.cells #[.string (St []), .slice (some ⟨bl, o, none⟩) 3 c'] 43))) 1; obtain ⟨d2, d3, d4, d5, TA, _⟩ := HC.out w1 (.up (up_trans (up1 w _) hb1)); have HB1 := Lib.hid (up_trans (up1 w _) hb1); clear hb1)
      | (go_at_call 114; first
        | ((with_reducible refine (HIA.out _ HB1.out TA).mono ?_); rintro e w2 ⟨rfl, hb2⟩; have f1 := cell_up hb2 e1; obtain ⟨g2, g3, g4, g5, _, TB⟩ := HC.out w2 (.up (up_trans HB1.out hb2)); have HB2 := Lib.hid (up_trans HB1.out hb2); clear hb2)
        | ((with_reducible refine (HIB.out _ HB2.out TB).mono ?_); rintro e w3 ⟨rfl, hb3⟩; have HB3 := Lib.hid (up_trans HB2.out hb3); clear hb3)))
    go_ret
    exact ⟨by simp, HB3.out⟩

set_option maxHeartbeats 8000000 in
set_option maxRecDepth 100000 in
theorem l1Empty_rec (x : List UInt8) (a : NT) (ih : LEm a) : LEm (.loop x a) := by
  intro v w A c bd hp hA hl
  have hp : TAt w (fun _ => True) (.mk [] [.mk [114, 101, 99] [], .mk x [], a.toTr]) v := hp
  simp only [NT.empS, NT.atoms] at hl ⊢
  obtain ⟨bl, o, c', rfl, A2, n2, cc2, A4, n4, c4, HC, HH⟩ := three_keeps hp
  have hxa : (Tr.mk x []).atom = x := rfl
  rw [hxa] at HC
  have HWI : Hid (∀ w1, Below w.heap.size w w1 → Calls Tryd.prog 94 #[.slice A bd.length c, .string (St x)] w1 (fun e w2 => Below w1.heap.size w1 w2 ∧ ∃ g3 c3, e = .returned (.slice (some ⟨g3, 0, none⟩) (bd.length + 1) c3) ∧ SCells w2 (some ⟨g3, 0, none⟩) (bd ++ [x]))) := fun w1 hb => by
    refine (l1With_any bd A c x w1 (by omega) (hA.up hb)).mono ?_
    rintro e w2 ⟨hb2, g3, c3, he, ho3⟩
    exact ⟨hb2, g3, c3, by rw [he]; simp, ho3.reads⟩
  have HIH : Hid (∀ w1 g3 c3, Below w.heap.size w w1 → SCells w1 (some ⟨g3, 0, none⟩) (bd ++ [x]) → Hid (TAt w1 (fun _ => True) a.toTr (.agg #[.string (St a.toTr.atom), .slice A4 n4 c4])) → Calls Tryd.prog 114 #[.agg #[.string (St a.toTr.atom), .slice A4 n4 c4], .slice (some ⟨g3, 0, none⟩) (bd.length + 1) c3] w1 fun e w' => e = .returned (.bool (a.empS (bd ++ [x]))) ∧ Below w1.heap.size w1 w') := fun w1 g3 c3 hb hf ht => by
    have := ih _ w1 (some ⟨g3, 0, none⟩) c3 (bd ++ [x]) ht.out hf (by simp; omega)
    rw [show (bd ++ [x]).length = bd.length + 1 by simp] at this
    exact this
  clear hp hA hl ih
  generalize a.toTr.atom = y at *
  generalize a.empS (bd ++ [x]) = r at *
  generalize bd ++ [x] = bd' at *
  generalize bd.length = n at *
  go_enter Tryd.func114, Tryd.ntmps114
  go_wp2_with (go_at_call 55; refine (HH.out _ (.up (up1 w _))).mono ?_; rintro e w1 ⟨rfl, hb1⟩; have e1 : w1.cell? ⟨w.heap.size, 1, none⟩ = some (.slice (some ⟨bl, o, none⟩) 3 c') := block_cell (block_up hb1 (block_new w (.cells #[.string (St []), .slice (some ⟨bl, o, none⟩) 3 c'] 43))) 1; obtain ⟨d2, d3, d4, d5, _, _⟩ := HC.out w1 (.up (up_trans (up1 w _) hb1)); have HB1 := Lib.hid (up_trans (up1 w _) hb1); clear hb1)
  go_region_held3 (fun w' => w'.cell? ⟨w.heap.size, 1, none⟩ = some (.slice (some ⟨bl, o, none⟩) 3 c') ∧ w'.cell? ⟨bl, o + 2, none⟩ = some (.string (St x)) ∧ w'.cell? ⟨bl, o + 3, none⟩ = some (.slice A2 n2 cc2) ∧ w'.cell? ⟨bl, o + 4, none⟩ = some (.string (St y)) ∧ w'.cell? ⟨bl, o + 5, none⟩ = some (.slice A4 n4 c4))
    (first | exact ⟨t1, t2, t3, t4, t5⟩ | exact ⟨s1, s2, s3, s4, s5⟩ | exact ⟨e1, d2, d3, d4, d5⟩ | go_keep)
    (first
      | (go_at_call 94; (with_reducible refine (HWI.out _ (up_drew HB1.out)).mono ?_); rintro e w2 ⟨hb2, g3, c3, rfl, hf⟩; have HB2 := Lib.hid (up_trans (up_drew HB1.out) hb2); have hk2 : Below w1.heap.size w1 w2 := up_trans (up_drew (Below.refl _ w1)) hb2; have s1 := cell_up hk2 e1; obtain ⟨s2, s3, s4, s5, _, TB⟩ := HC.out w2 (.up HB2.out); have HF := Lib.hid hf; clear hb2 hf hk2)
      | (go_at_call 114; (with_reducible refine (HIH.out _ _ _ HB2.out HF.out TB).mono ?_); rintro e w3 ⟨rfl, hb3⟩; have t1 := cell_up hb3 s1; obtain ⟨t2, t3, t4, t5, _, _⟩ := HC.out w3 (.up (up_trans HB2.out hb3)); have HB3 := Lib.hid (up_trans HB2.out hb3); clear hb3))
  all_goals go_wp2
  all_goals go_ret
  all_goals exact ⟨rfl, HB3.out⟩

theorem l1Empty_any : ∀ (n : NT), n.ok' → LEm n
  | .zero, _ => fun v w A c bd hp hA hl => l1Empty_atom [48] (by simp) v w A c bd hp hA (by omega)
  | .one, _ => fun v w A c bd hp hA hl => l1Empty_atom [49] (by simp) v w A c bd hp hA (by omega)
  | .name s, h => fun v w A c bd hp hA hl => by
    have := l1Empty_atom s h.1 v w A c bd hp hA (by omega)
    rw [decide_eq_false h.2, Bool.false_or] at this
    exact this
  | .sum a b, h => l1Empty_sum a b (l1Empty_any a h.1) (l1Empty_any b h.2)
  | .prod a b, h => l1Empty_prod a b (l1Empty_any a h.1) (l1Empty_any b h.2)
  | .loop s a, h => l1Empty_rec s a (l1Empty_any a h)

end Go.Proofs.YtkciljcligohnaaDoor
