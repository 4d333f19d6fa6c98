/- The reference's l1Empty. Renaming bound names, in plain Lean. l1Rename: atoms. l1Rename: sums and products. l1Rename: recs. l1Rename whole; l1Apart of one type. -/
import Derived.Test.YtpokompplapkhaaGreatDoorMF
namespace Go.Proofs.YtpokompplapkhaaGreatDoor
set_option maxHeartbeats 8000000
set_option maxRecDepth 100000
open Go.RowKit
set_option linter.unusedVariables false
set_option linter.unusedSimpArgs false
def NT.empS : NT -> List (List UInt8) -> Bool
 | .zero, _ => true
 | .one, bd => decide ([49] ∈ bd)
 | .name s, bd => decide (s ∈ bd)
 | .sum a b, bd => a.empS bd && b.empS bd
 | .prod a b, bd => a.empS bd || b.empS bd
 | .loop s a, bd => a.empS (bd ++ [s])
def NT.ok' : NT -> Prop
 | .name s => s ≠ [] /\ s ≠ [48]
 | .sum a b => a.ok' /\ b.ok'
 | .prod a b => a.ok' /\ b.ok'
 | .loop _ a => a.ok'
 | _ => True
def LEm (n : NT) : Prop := ∀ (v : Value) (w : World) (A : Option Addr) (c : Nat) (bd : List (List UInt8)), TAt w (fun _ => True) n.toTr v -> SCells w A bd -> bd.length + n.atoms <= 100000 ->
 Calls Tryz.prog 149 #[v, .slice A bd.length c] w fun e w' => e = .returned (.bool (n.empS bd)) /\ Below w.heap.size w w'
theorem l1Empty_atom (s : List UInt8) (hs : s ≠ []) (v : Value) (w : World) (A : Option Addr) (c : Nat) (bd : List (List UInt8)) (hp : TAt w (fun _ => True) (.mk s []) v) (hA : SCells w A bd) (hl : bd.length <= 100000) :
 Calls Tryz.prog 149 #[v, .slice A bd.length c] w fun e w' => e = .returned (.bool (decide (s = [48]) || decide (s ∈ bd))) /\ Below w.heap.size w w' := by
 have hh : ∀ w1, Below w.heap.size w w1 -> Calls Tryz.prog 125 #[v] w1 fun e w' => e = .returned (.string (St [])) /\ Below w1.heap.size w1 w' := fun w1 (hb : Below w.heap.size w w1) => by
  have := l1Head_any _ v w1 (hp.up hb)
  rw [show headOf (.mk s []) = [] from by simp [headOf, hs]] at this
  exact this
 have HH := Lib.hid hh
 obtain ⟨A', c', rfl, _⟩ := TAt.parts hp
 have HAS : Hid (∀ w', Below w.heap.size w w' -> Calls Tryz.prog 157 #[.slice A bd.length c, .string (St s)] w' fun e w2 => e = .returned (.bool (decide (s ∈ bd))) /\ Below w'.heap.size w' w2) := fun w' hb => l1Has_any bd A c s w' (by omega) (hA.up hb)
 clear hp hA hh hl
 generalize decide (s ∈ bd) = q at *
 generalize bd.length = n at *
 by_cases h0 : s = [48]
 · subst h0
   go_enter Tryz.func149, Tryz.ntmps149
   go_wp2_with (go_at_call 125; refine (HH.out _ (up1 w _)).mono ?_; rintro e w1 ⟨rfl, hb1⟩; have e0 : w1.cell? ⟨w.heap.size, 0, none⟩ = some (.string (St [48])) := block_cell (block_up hb1 (block_new w _)) 0; have HB1 := Lib.hid (up_trans (up1 w _) hb1); clear hb1)
   go_ret
   exact ⟨by simp, HB1.out⟩
 · have k0 : (s == [48]) = false := St_ne h0
   rw [decide_eq_false h0, Bool.false_or]
   clear h0
   go_enter Tryz.func149, Tryz.ntmps149
   go_wp2_with (first
    | (go_at_call 125; refine (HH.out _ (up1 w _)).mono ?_; rintro e w1 ⟨rfl, hb1⟩; have e0 : w1.cell? ⟨w.heap.size, 0, none⟩ = some (.string (St s)) := block_cell (block_up hb1 (block_new w _)) 0; have HB1 := Lib.hid (up_trans (up1 w _) hb1); clear hb1)
    | (go_at_call 157; (with_reducible refine (HAS.out _ HB1.out).mono ?_); rintro e w2 ⟨rfl, hb2⟩; have HB2 := Lib.hid (up_trans HB1.out hb2); clear hb2))
   go_ret
   exact ⟨rfl, HB2.out⟩
theorem l1Empty_sum (a b : NT) (iha : LEm a) (ihb : LEm b) : LEm (.sum a b) := by
 intro v w A c bd hp hA hl
 have hp : TAt w (fun _ => True) (.mk [] [.mk [43] [], a.toTr, b.toTr]) v := hp
 simp only [NT.atoms] at hl
 obtain ⟨bl, o, c', rfl, A2, n2, cc2, A4, n4, c4, HC, HH⟩ := three_keeps hp
 have HIA : Hid (∀ w1, Below w.heap.size w w1 -> Hid (TAt w1 (fun _ => True) a.toTr (.agg #[.string (St a.toTr.atom), .slice A2 n2 cc2])) -> Calls Tryz.prog 149 #[.agg #[.string (St a.toTr.atom), .slice A2 n2 cc2], .slice A bd.length c] w1 fun e w' => e = .returned (.bool (a.empS bd)) /\ Below w1.heap.size w1 w') := fun w1 hb ht => iha _ w1 A c bd ht.out (hA.up hb) (by omega)
 have HIB : Hid (∀ w1, Below w.heap.size w w1 -> Hid (TAt w1 (fun _ => True) b.toTr (.agg #[.string (St b.toTr.atom), .slice A4 n4 c4])) -> Calls Tryz.prog 149 #[.agg #[.string (St b.toTr.atom), .slice A4 n4 c4], .slice A bd.length c] w1 fun e w' => e = .returned (.bool (b.empS bd)) /\ Below w1.heap.size w1 w') := fun w1 hb ht => ihb _ w1 A c bd ht.out (hA.up hb) (by omega)
 simp only [NT.empS]
 clear hp hA hl iha ihb
 generalize a.toTr.atom = x at *
 generalize b.toTr.atom = y at *
 generalize a.empS bd = p at *
 generalize b.empS bd = q at *
 generalize bd.length = n at *
 cases p with
 | false =>
  go_enter Tryz.func149, Tryz.ntmps149
  go_wp2_with (first
   | (go_at_call 125; refine (HH.out _ (.up (up1 w _))).mono ?_; rintro e w1 ⟨rfl, hb1⟩; have e1 : w1.cell? ⟨w.heap.size, 1, none⟩ = some (.slice (some ⟨bl, o, none⟩) 3 c') := block_cell (block_up hb1 (block_new w (.cells #[.string (St []), .slice (some ⟨bl, o, none⟩) 3 c'] 59))) 1; obtain ⟨d2, d3, d4, d5, TA, _⟩ := HC.out w1 (.up (up_trans (up1 w _) hb1)); have HB1 := Lib.hid (up_trans (up1 w _) hb1); clear hb1)
   | (go_at_call 149; (with_reducible refine (HIA.out _ HB1.out TA).mono ?_); rintro e w2 ⟨rfl, hb2⟩; have HB2 := Lib.hid (up_trans HB1.out hb2); clear hb2))
  go_ret
  exact ⟨rfl, HB2.out⟩
 | true =>
  go_enter Tryz.func149, Tryz.ntmps149
  go_wp2_with (first
   | (go_at_call 125; refine (HH.out _ (.up (up1 w _))).mono ?_; rintro e w1 ⟨rfl, hb1⟩; have e1 : w1.cell? ⟨w.heap.size, 1, none⟩ = some (.slice (some ⟨bl, o, none⟩) 3 c') := block_cell (block_up hb1 (block_new w (.cells #[.string (St []), .slice (some ⟨bl, o, none⟩) 3 c'] 59))) 1; obtain ⟨d2, d3, d4, d5, TA, _⟩ := HC.out w1 (.up (up_trans (up1 w _) hb1)); have HB1 := Lib.hid (up_trans (up1 w _) hb1); clear hb1)
   | (go_at_call 149; first
    | ((with_reducible refine (HIA.out _ HB1.out TA).mono ?_); rintro e w2 ⟨rfl, hb2⟩; have f1 := cell_up hb2 e1; obtain ⟨g2, g3, g4, g5, _, TB⟩ := HC.out w2 (.up (up_trans HB1.out hb2)); have HB2 := Lib.hid (up_trans HB1.out hb2); clear hb2)
    | ((with_reducible refine (HIB.out _ HB2.out TB).mono ?_); rintro e w3 ⟨rfl, hb3⟩; have HB3 := Lib.hid (up_trans HB2.out hb3); clear hb3)))
  go_ret
  exact ⟨by simp, HB3.out⟩
theorem l1Empty_prod (a b : NT) (iha : LEm a) (ihb : LEm b) : LEm (.prod a b) := by
 intro v w A c bd hp hA hl
 have hp : TAt w (fun _ => True) (.mk [] [.mk [42] [], a.toTr, b.toTr]) v := hp
 simp only [NT.atoms] at hl
 obtain ⟨bl, o, c', rfl, A2, n2, cc2, A4, n4, c4, HC, HH⟩ := three_keeps hp
 have HIA : Hid (∀ w1, Below w.heap.size w w1 -> Hid (TAt w1 (fun _ => True) a.toTr (.agg #[.string (St a.toTr.atom), .slice A2 n2 cc2])) -> Calls Tryz.prog 149 #[.agg #[.string (St a.toTr.atom), .slice A2 n2 cc2], .slice A bd.length c] w1 fun e w' => e = .returned (.bool (a.empS bd)) /\ Below w1.heap.size w1 w') := fun w1 hb ht => iha _ w1 A c bd ht.out (hA.up hb) (by omega)
 have HIB : Hid (∀ w1, Below w.heap.size w w1 -> Hid (TAt w1 (fun _ => True) b.toTr (.agg #[.string (St b.toTr.atom), .slice A4 n4 c4])) -> Calls Tryz.prog 149 #[.agg #[.string (St b.toTr.atom), .slice A4 n4 c4], .slice A bd.length c] w1 fun e w' => e = .returned (.bool (b.empS bd)) /\ Below w1.heap.size w1 w') := fun w1 hb ht => ihb _ w1 A c bd ht.out (hA.up hb) (by omega)
 simp only [NT.empS]
 clear hp hA hl iha ihb
 generalize a.toTr.atom = x at *
 generalize b.toTr.atom = y at *
 generalize a.empS bd = p at *
 generalize b.empS bd = q at *
 generalize bd.length = n at *
 cases p with
 | true =>
  go_enter Tryz.func149, Tryz.ntmps149
  go_wp2_with (first
   | (go_at_call 125; refine (HH.out _ (.up (up1 w _))).mono ?_; rintro e w1 ⟨rfl, hb1⟩; have e1 : w1.cell? ⟨w.heap.size, 1, none⟩ = some (.slice (some ⟨bl, o, none⟩) 3 c') := block_cell (block_up hb1 (block_new w (.cells #[.string (St []), .slice (some ⟨bl, o, none⟩) 3 c'] 59))) 1; obtain ⟨d2, d3, d4, d5, TA, _⟩ := HC.out w1 (.up (up_trans (up1 w _) hb1)); have HB1 := Lib.hid (up_trans (up1 w _) hb1); clear hb1)
   | (go_at_call 149; (with_reducible refine (HIA.out _ HB1.out TA).mono ?_); rintro e w2 ⟨rfl, hb2⟩; have HB2 := Lib.hid (up_trans HB1.out hb2); clear hb2))
  go_ret
  exact ⟨rfl, HB2.out⟩
 | false =>
  go_enter Tryz.func149, Tryz.ntmps149
  go_wp2_with (first
   | (go_at_call 125; refine (HH.out _ (.up (up1 w _))).mono ?_; rintro e w1 ⟨rfl, hb1⟩; have e1 : w1.cell? ⟨w.heap.size, 1, none⟩ = some (.slice (some ⟨bl, o, none⟩) 3 c') := block_cell (block_up hb1 (block_new w (.cells #[.string (St []), .slice (some ⟨bl, o, none⟩) 3 c'] 59))) 1; obtain ⟨d2, d3, d4, d5, TA, _⟩ := HC.out w1 (.up (up_trans (up1 w _) hb1)); have HB1 := Lib.hid (up_trans (up1 w _) hb1); clear hb1)
   | (go_at_call 149; first
    | ((with_reducible refine (HIA.out _ HB1.out TA).mono ?_); rintro e w2 ⟨rfl, hb2⟩; have f1 := cell_up hb2 e1; obtain ⟨g2, g3, g4, g5, _, TB⟩ := HC.out w2 (.up (up_trans HB1.out hb2)); have HB2 := Lib.hid (up_trans HB1.out hb2); clear hb2)
    | ((with_reducible refine (HIB.out _ HB2.out TB).mono ?_); rintro e w3 ⟨rfl, hb3⟩; have HB3 := Lib.hid (up_trans HB2.out hb3); clear hb3)))
  go_ret
  exact ⟨by simp, HB3.out⟩
theorem l1Empty_rec (x : List UInt8) (a : NT) (ih : LEm a) : LEm (.loop x a) := by
 intro v w A c bd hp hA hl
 have hp : TAt w (fun _ => True) (.mk [] [.mk [114, 101, 99] [], .mk x [], a.toTr]) v := hp
 simp only [NT.empS, NT.atoms] at hl ⊢
 obtain ⟨bl, o, c', rfl, A2, n2, cc2, A4, n4, c4, HC, HH⟩ := three_keeps hp
 have hxa : (Tr.mk x []).atom = x := rfl
 rw [hxa] at HC
 have HWI : Hid (∀ w1, Below w.heap.size w w1 -> Calls Tryz.prog 158 #[.slice A bd.length c, .string (St x)] w1 (fun e w2 => Below w1.heap.size w1 w2 /\ ∃ g3 c3, e = .returned (.slice (some ⟨g3, 0, none⟩) (bd.length + 1) c3) /\ SCells w2 (some ⟨g3, 0, none⟩) (bd ++ [x]))) := fun w1 hb => by
  refine (l1With_any bd A c x w1 (by omega) (hA.up hb)).mono ?_
  rintro e w2 ⟨hb2, g3, c3, he, ho3⟩
  exact ⟨hb2, g3, c3, by rw [he]; simp, ho3.reads⟩
 have HIH : Hid (∀ w1 g3 c3, Below w.heap.size w w1 -> SCells w1 (some ⟨g3, 0, none⟩) (bd ++ [x]) -> Hid (TAt w1 (fun _ => True) a.toTr (.agg #[.string (St a.toTr.atom), .slice A4 n4 c4])) -> Calls Tryz.prog 149 #[.agg #[.string (St a.toTr.atom), .slice A4 n4 c4], .slice (some ⟨g3, 0, none⟩) (bd.length + 1) c3] w1 fun e w' => e = .returned (.bool (a.empS (bd ++ [x]))) /\ Below w1.heap.size w1 w') := fun w1 g3 c3 hb hf ht => by
  have := ih _ w1 (some ⟨g3, 0, none⟩) c3 (bd ++ [x]) ht.out hf (by simp; omega)
  rw [show (bd ++ [x]).length = bd.length + 1 by simp] at this
  exact this
 clear hp hA hl ih
 generalize a.toTr.atom = y at *
 generalize a.empS (bd ++ [x]) = r at *
 generalize bd ++ [x] = bd' at *
 generalize bd.length = n at *
 go_enter Tryz.func149, Tryz.ntmps149
 go_wp2_with (go_at_call 125; refine (HH.out _ (.up (up1 w _))).mono ?_; rintro e w1 ⟨rfl, hb1⟩; have e1 : w1.cell? ⟨w.heap.size, 1, none⟩ = some (.slice (some ⟨bl, o, none⟩) 3 c') := block_cell (block_up hb1 (block_new w (.cells #[.string (St []), .slice (some ⟨bl, o, none⟩) 3 c'] 59))) 1; obtain ⟨d2, d3, d4, d5, _, _⟩ := HC.out w1 (.up (up_trans (up1 w _) hb1)); have HB1 := Lib.hid (up_trans (up1 w _) hb1); clear hb1)
 go_region_held3 (fun w' => w'.cell? ⟨w.heap.size, 1, none⟩ = some (.slice (some ⟨bl, o, none⟩) 3 c') /\ w'.cell? ⟨bl, o + 2, none⟩ = some (.string (St x)) /\ w'.cell? ⟨bl, o + 3, none⟩ = some (.slice A2 n2 cc2) /\ w'.cell? ⟨bl, o + 4, none⟩ = some (.string (St y)) /\ w'.cell? ⟨bl, o + 5, none⟩ = some (.slice A4 n4 c4))
  (first | exact ⟨t1, t2, t3, t4, t5⟩ | exact ⟨s1, s2, s3, s4, s5⟩ | exact ⟨e1, d2, d3, d4, d5⟩ | go_keep)
  (first
   | (go_at_call 158; (with_reducible refine (HWI.out _ (up_drew HB1.out)).mono ?_); rintro e w2 ⟨hb2, g3, c3, rfl, hf⟩; have HB2 := Lib.hid (up_trans (up_drew HB1.out) hb2); have hk2 : Below w1.heap.size w1 w2 := up_trans (up_drew (Below.refl _ w1)) hb2; have s1 := cell_up hk2 e1; obtain ⟨s2, s3, s4, s5, _, TB⟩ := HC.out w2 (.up HB2.out); have HF := Lib.hid hf; clear hb2 hf hk2)
   | (go_at_call 149; (with_reducible refine (HIH.out _ _ _ HB2.out HF.out TB).mono ?_); rintro e w3 ⟨rfl, hb3⟩; have t1 := cell_up hb3 s1; obtain ⟨t2, t3, t4, t5, _, _⟩ := HC.out w3 (.up (up_trans HB2.out hb3)); have HB3 := Lib.hid (up_trans HB2.out hb3); clear hb3))
 all_goals go_wp2
 all_goals go_ret
 all_goals exact ⟨rfl, HB3.out⟩
theorem l1Empty_any : ∀ (n : NT), n.ok' -> LEm n
 | .zero, _ => fun v w A c bd hp hA hl => l1Empty_atom [48] (by simp) v w A c bd hp hA (by omega)
 | .one, _ => fun v w A c bd hp hA hl => l1Empty_atom [49] (by simp) v w A c bd hp hA (by omega)
 | .name s, h => fun v w A c bd hp hA hl => by
  have := l1Empty_atom s h.1 v w A c bd hp hA (by omega)
  rw [decide_eq_false h.2, Bool.false_or] at this
  exact this
 | .sum a b, h => l1Empty_sum a b (l1Empty_any a h.1) (l1Empty_any b h.2)
 | .prod a b, h => l1Empty_prod a b (l1Empty_any a h.1) (l1Empty_any b h.2)
 | .loop s a, h => l1Empty_rec s a (l1Empty_any a h)
end Go.Proofs.YtpokompplapkhaaGreatDoor
namespace Go.Proofs.YtpokompplapkhaaGreatDoor
set_option maxHeartbeats 8000000
set_option maxRecDepth 100000
open Go.RowKit
set_option linter.unusedVariables false
set_option linter.unusedSimpArgs false
def valL (l : List UInt8) : Nat := l.foldl (fun a b => a * 10 + (b.toNat - 48)) 0
theorem valL_dec (n : Nat) : valL (decL n) = n := by
 induction n using Nat.strongRecOn with
 | ind n ih =>
  rw [decL]
  split
  · have : (UInt8.ofNat (48 + n)).toNat = 48 + n := by simp [UInt8.toNat_ofNat']; omega
    simp only [valL, List.foldl_cons, List.foldl_nil, this]
    omega
  · have h1 : (UInt8.ofNat (48 + n % 10)).toNat = 48 + n % 10 := by simp [UInt8.toNat_ofNat']; omega
    have h2 := ih (n / 10) (by omega)
    simp only [valL, List.foldl_append, List.foldl_cons, List.foldl_nil, h1] at h2 ⊢
    rw [h2]
    omega
def tN (j : Nat) : List UInt8 := 116 :: decL j
theorem tN_inj {i j : Nat} (h : tN i = tN j) : i = j := by
 have : decL i = decL j := by simpa [tN] using h
 rw [<- valL_dec i, this, valL_dec]
theorem tN_param (j : Nat) : paramB (tN j) = false := by simp [tN, namedB]
theorem tN_ne (j : Nat) : tN j ≠ [] /\ tN j ≠ [48] /\ tN j ≠ [49] := by simp [tN]
def fresh (free : List (List UInt8)) : Nat -> Nat -> Nat
 | 0, k => k
 | f + 1, k => if tN k ∈ free then fresh free f (k + 1) else k
theorem fresh_not (free : List (List UInt8)) : ∀ (f : Nat) (l : List (List UInt8)) (k : Nat), l.length <= f -> (∀ s ∈ free, (∃ j, k <= j /\ s = tN j) -> s ∈ l) -> tN (fresh free f k) ∉ free
 | 0, l, k, hl, h => by
  intro hm
  have := h _ hm ⟨k, Nat.le_refl _, rfl⟩
  rw [List.length_eq_zero_iff.1 (by omega : l.length = 0)] at this
  cases this
 | f + 1, l, k, hl, h => by
  rw [fresh]
  split
  · rename_i hk
    have hkl := h _ hk ⟨k, Nat.le_refl _, rfl⟩
    refine fresh_not free f (l.erase (tN k)) (k + 1) ?_ ?_
    · rw [List.length_erase_of_mem hkl]
      omega
    · rintro s hs ⟨j, hj, rfl⟩
      have hne : tN j ≠ tN k := fun he => by have := tN_inj he; omega
      exact (List.mem_erase_of_ne hne).2 (h _ hs ⟨j, by omega, rfl⟩)
  · assumption
theorem fresh_le (free : List (List UInt8)) : ∀ (f k : Nat), k <= fresh free f k /\ fresh free f k <= k + f
 | 0, k => ⟨Nat.le_refl _, Nat.le_refl _⟩
 | f + 1, k => by
  rw [fresh]
  split
  · have := fresh_le free f (k + 1)
    omega
  · omega
def freshN (free : List (List UInt8)) (k : Nat) : Nat := fresh free free.length k
theorem freshN_not (free : List (List UInt8)) (k : Nat) : tN (freshN free k) ∉ free := fresh_not free free.length free k (Nat.le_refl _) fun s hs _ => hs
def sub (s : List UInt8) : List (List UInt8 × List UInt8) -> List UInt8
 | [] => s
 | (a, b) :: r => if a = s then b else sub s r
def NT.ren (free : List (List UInt8)) : NT -> List (List UInt8 × List UInt8) -> Nat -> NT × Nat
 | .zero, _, k => (.zero, k)
 | .one, _, k => (.one, k)
 | .name s, env, k => (.name (sub s env), k)
 | .sum a b, env, k => (.sum (a.ren free env k).1 (b.ren free env (a.ren free env k).2).1, (b.ren free env (a.ren free env k).2).2)
 | .prod a b, env, k => (.prod (a.ren free env k).1 (b.ren free env (a.ren free env k).2).1, (b.ren free env (a.ren free env k).2).2)
 | .loop s a, env, k => (.loop (tN (freshN free k)) (a.ren free ((s, tN (freshN free k)) :: env) (freshN free k + 1)).1, (a.ren free ((s, tN (freshN free k)) :: env) (freshN free k + 1)).2)
theorem ren_le (free : List (List UInt8)) : ∀ (n : NT) (env) (k : Nat), k <= (n.ren free env k).2 /\ (n.ren free env k).2 <= k + n.atoms * (free.length + 1)
 | .zero, _, k => by simp [NT.ren]
 | .one, _, k => by simp [NT.ren]
 | .name s, _, k => by simp [NT.ren]
 | .sum a b, env, k => by
  have h1 := ren_le free a env k
  have h2 := ren_le free b env (a.ren free env k).2
  simp only [NT.ren, NT.atoms, Nat.add_mul]
  omega
 | .prod a b, env, k => by
  have h1 := ren_le free a env k
  have h2 := ren_le free b env (a.ren free env k).2
  simp only [NT.ren, NT.atoms, Nat.add_mul]
  omega
 | .loop s a, env, k => by
  have h0 := fresh_le free free.length k
  have h1 := ren_le free a ((s, tN (freshN free k)) :: env) (freshN free k + 1)
  simp only [NT.ren, NT.atoms, Nat.add_mul]
  simp only [freshN] at h1 ⊢
  omega
theorem ren_atoms (free : List (List UInt8)) : ∀ (n : NT) (env) (k : Nat), (n.ren free env k).1.atoms = n.atoms
 | .zero, _, _ => rfl
 | .one, _, _ => rfl
 | .name _, _, _ => rfl
 | .sum a b, env, k => by simp only [NT.ren, NT.atoms, ren_atoms free a, ren_atoms free b]
 | .prod a b, env, k => by simp only [NT.ren, NT.atoms, ren_atoms free a, ren_atoms free b]
 | .loop s a, env, k => by simp only [NT.ren, NT.atoms, ren_atoms free a]
def NT.cov (free : List (List UInt8)) : NT -> List (List UInt8) -> Prop
 | .name s, bd => s ∈ bd \/ s ∈ free
 | .sum a b, bd => a.cov free bd /\ b.cov free bd
 | .prod a b, bd => a.cov free bd /\ b.cov free bd
 | .loop s a, bd => a.cov free (s :: bd)
 | _, _ => True
theorem fr_mono : ∀ (n : NT) (bd ls : List (List UInt8)), ∀ s ∈ ls, s ∈ n.fr bd ls
 | .zero, _, _, s, h => h
 | .one, _, _, s, h => h
 | .name x, bd, ls, s, h => by
  simp only [NT.fr]
  split
  · exact h
  · simp [h]
 | .sum a b, bd, ls, s, h => fr_mono b bd _ s (fr_mono a bd ls s h)
 | .prod a b, bd, ls, s, h => fr_mono b bd _ s (fr_mono a bd ls s h)
 | .loop x a, bd, ls, s, h => fr_mono a _ ls s h
theorem fr_cov (free : List (List UInt8)) : ∀ (n : NT) (bd bd' ls : List (List UInt8)), (∀ s, s ∈ bd -> s ∈ bd') -> (∀ s ∈ n.fr bd ls, s ∈ free) -> n.cov free bd'
 | .zero, _, _, _, _, _ => trivial
 | .one, _, _, _, _, _ => trivial
 | .name x, bd, bd', ls, hb, h => by
  simp only [NT.fr] at h
  by_cases hx : x ∈ bd
  · exact .inl (hb x hx)
  · by_cases hl : x ∈ ls
    · rw [if_pos (.inr hl)] at h
      exact .inr (h x hl)
    · rw [if_neg (fun hh => by rcases hh with hh | hh; exact hx hh; exact hl hh)] at h
      exact .inr (h x (by simp))
 | .sum a b, bd, bd', ls, hb, h => ⟨fr_cov free a bd bd' ls hb fun s hs => h s (fr_mono b bd _ s hs), fr_cov free b bd bd' _ hb h⟩
 | .prod a b, bd, bd', ls, hb, h => ⟨fr_cov free a bd bd' ls hb fun s hs => h s (fr_mono b bd _ s hs), fr_cov free b bd bd' _ hb h⟩
 | .loop x a, bd, bd', ls, hb, h => fr_cov free a (bd ++ [x]) (x :: bd') ls (fun s hs => by
  rcases List.mem_append.1 hs with hs | hs
  · exact List.mem_cons_of_mem _ (hb s hs)
  · simp at hs; simp [hs]) h
def Env (free : List (List UInt8)) (env : List (List UInt8 × List UInt8)) (k : Nat) : Prop :=
 (∀ p ∈ env, paramB p.1 = false /\ ∃ j, j < k /\ p.2 = tN j /\ tN j ∉ free) /\ (env.map (·.2)).Pairwise (· ≠ ·)
theorem Env.le {free : List (List UInt8)} {env : List (List UInt8 × List UInt8)} {k k' : Nat} (h : Env free env k) (hk : k <= k') : Env free env k' :=
 ⟨fun p hp => by obtain ⟨h1, j, h2, h3⟩ := h.1 p hp; exact ⟨h1, j, by omega, h3⟩, h.2⟩
theorem Env.cons {free : List (List UInt8)} {env : List (List UInt8 × List UInt8)} {k : Nat} (h : Env free env k) {s : List UInt8} (hs : paramB s = false) : Env free ((s, tN (freshN free k)) :: env) (freshN free k + 1) := by
 have hf := (fresh_le free free.length k).1
 refine ⟨fun p hp => ?_, ?_⟩
 · rcases List.mem_cons.1 hp with rfl | hp
   · exact ⟨hs, freshN free k, by omega, rfl, freshN_not free k⟩
   · obtain ⟨h1, j, h2, h3⟩ := h.1 p hp
     exact ⟨h1, j, by simp only [freshN]; omega, h3⟩
 · rw [List.map_cons, List.pairwise_cons]
   refine ⟨fun b hb => ?_, h.2⟩
   obtain ⟨p, hp, rfl⟩ := List.mem_map.1 hb
   obtain ⟨_, j, h2, h3, _⟩ := h.1 p hp
   rw [h3]
   intro he
   have := tN_inj he
   simp only [freshN] at this
   omega
theorem sub_mem {s : List UInt8} : ∀ {env : List (List UInt8 × List UInt8)} {i : Nat}, look s (env.map (·.1)) = some i -> sub s env ∈ env.map (·.2)
 | [], i, h => by simp [look] at h
 | (a, b) :: r, i, h => by
  simp only [List.map_cons, look] at h
  rw [sub]
  by_cases ha : a = s
  · rw [if_pos ha]; simp
  · rw [if_neg ha] at h ⊢
    cases hl : look s (r.map (·.1)) with
    | none => rw [hl] at h; simp at h
    | some j => exact List.mem_cons_of_mem _ (sub_mem hl)
theorem sub_look {s : List UInt8} : ∀ {env : List (List UInt8 × List UInt8)} {i : Nat}, (env.map (·.2)).Pairwise (· ≠ ·) -> look s (env.map (·.1)) = some i -> look (sub s env) (env.map (·.2)) = some i
 | [], i, _, h => by simp [look] at h
 | (a, b) :: r, i, hp, h => by
  simp only [List.map_cons, look] at h
  rw [List.map_cons, List.pairwise_cons] at hp
  rw [sub, List.map_cons, look]
  by_cases ha : a = s
  · rw [if_pos ha] at h ⊢
    rw [if_pos rfl]
    exact h
  · rw [if_neg ha] at h ⊢
    cases hl : look s (r.map (·.1)) with
    | none => rw [hl] at h; simp at h
    | some j =>
     rw [hl] at h
     rw [if_neg (hp.1 _ (sub_mem hl)), sub_look hp.2 hl]
     exact h
theorem sub_none {s : List UInt8} : ∀ {env : List (List UInt8 × List UInt8)}, s ∉ env.map (·.1) -> sub s env = s
 | [], _ => rfl
 | (a, b) :: r, h => by
  simp only [List.map_cons, List.mem_cons, not_or] at h
  rw [sub, if_neg (fun he => h.1 he.symm), sub_none h.2]
theorem ren_db (free : List (List UInt8)) : ∀ (n : NT) (env) (k : Nat), n.ok3 -> Env free env k -> n.cov free (env.map (·.1)) -> (n.ren free env k).1.db (env.map (·.2)) = n.db (env.map (·.1))
 | .zero, _, _, _, _, _ => rfl
 | .one, _, _, _, _, _ => rfl
 | .name s, env, k, hok, he, hc => by
  simp only [NT.ren, NT.db]
  by_cases hp : paramB s = true
  · have hn : s ∉ env.map (·.1) := fun hm => by
     obtain ⟨p, hpm, rfl⟩ := List.mem_map.1 hm
     rw [(he.1 p hpm).1] at hp
     cases hp
    rw [sub_none hn, if_pos hp, if_pos hp]
  · rw [if_neg hp]
    cases hl : look s (env.map (·.1)) with
    | none =>
     have hn := look_none.1 hl
     have hf : s ∈ free := by rcases hc with hc | hc; exact absurd hc hn; exact hc
     rw [sub_none hn, if_neg hp]
     have : s ∉ env.map (·.2) := fun hm => by
      obtain ⟨p, hpm, hpe⟩ := List.mem_map.1 hm
      obtain ⟨_, j, _, h3, h4⟩ := he.1 p hpm
      rw [<- hpe, h3] at hf
      exact h4 hf
     rw [look_none.2 this]
    | some i =>
     have hm := sub_mem hl
     obtain ⟨p, hpm, hpe⟩ := List.mem_map.1 hm
     obtain ⟨_, j, _, h3, h4⟩ := he.1 p hpm
     rw [sub_look he.2 hl]
     rw [if_neg (by rw [<- hpe, h3, tN_param]; simp)]
 | .sum a b, env, k, hok, he, hc => by
  simp only [NT.ren, NT.db]
  rw [ren_db free a env k hok.1 he hc.1, ren_db free b env _ hok.2 (he.le (ren_le free a env k).1) hc.2]
 | .prod a b, env, k, hok, he, hc => by
  simp only [NT.ren, NT.db]
  rw [ren_db free a env k hok.1 he hc.1, ren_db free b env _ hok.2 (he.le (ren_le free a env k).1) hc.2]
 | .loop s a, env, k, hok, he, hc => by
  simp only [NT.ren, NT.db]
  have := ren_db free a ((s, tN (freshN free k)) :: env) (freshN free k + 1) hok.2 (he.cons hok.1.2) hc
  simp only [List.map_cons] at this
  rw [this]
end Go.Proofs.YtpokompplapkhaaGreatDoor
namespace Go.Proofs.YtpokompplapkhaaGreatDoor
set_option maxHeartbeats 8000000
set_option maxRecDepth 100000
open Go.RowKit
set_option linter.unusedVariables false
set_option linter.unusedSimpArgs false
def NAt (w : World) (r : Nat) (free : List (List UInt8)) (k : Nat) : Prop :=
 ∃ F c, w.heap[r]? = some (.cells #[.slice F free.length c, .int .i64 k] 206 (0, 0)) /\ SFar w F r free
theorem NAt.up {w w1 : World} {r : Nat} {free : List (List UInt8)} {k : Nat} (h : NAt w r free k) (hb : Below w.heap.size w w1) : NAt w1 r free k := by
 obtain ⟨F, c, h1, h2⟩ := h
 exact ⟨F, c, block_up hb h1, h2.up hb⟩
theorem NAt.lt {w : World} {r : Nat} {free : List (List UInt8)} {k : Nat} (h : NAt w r free k) : r < w.heap.size := by
 obtain ⟨F, c, h1, h2⟩ := h
 exact lt_of_block h1
theorem sub_drop {s : List UInt8} {env : List (List UInt8 × List UInt8)} {p : List UInt8 × List UInt8} {r : List (List UInt8 × List UInt8)} {j : Nat} (hk : env.drop j = p :: r) (h : sub s env = sub s (env.drop j)) :
 (p.1 = s -> sub s env = p.2) /\ (p.1 ≠ s -> sub s env = sub s (env.drop (j + 1))) := by
 have hr : env.drop (j + 1) = r := by rw [<- List.drop_drop, hk]; rfl
 obtain ⟨a, b⟩ := p
 constructor
 · intro he
   rw [h, hk, sub, if_pos he]
 · intro he
   rw [h, hk, sub, if_neg he, hr]
theorem l1Rename_atom (s : List UInt8) (hs : s ≠ []) (env : List (List UInt8 × List UInt8)) (v : Value) (w : World) (A : Option Addr) (c : Nat) (B : Option Addr) (d : Nat) (np : Value) (hp : ∃ ok, TAt w ok (.mk s []) v) (hA : SCells w A (env.reverse.map (·.1))) (hB : SCells w B (env.reverse.map (·.2))) (hl : env.length <= 100000) :
 Calls Tryz.prog 173 #[v, .slice A env.length c, .slice B env.length d, np] w fun e w' => (∃ A' c', e = .returned (.agg #[.string (St (sub s env)), .slice A' 0 c'])) /\ Below w.heap.size w w' := by
 obtain ⟨ok, hp⟩ := hp
 obtain ⟨A', c', rfl, _⟩ := TAt.parts hp
 have k0 := St_ne hs
 have HE : Hid (∀ w1, Below w.heap.size w w1 -> SCells w1 A (env.reverse.map (·.1)) /\ SCells w1 B (env.reverse.map (·.2))) := fun w1 hb => ⟨hA.up hb, hB.up hb⟩
 have HN : Hid (env.length <= 100000) := hl
 clear hp hA hB hs hl
 obtain ⟨res, hres⟩ : ∃ res, res = sub s env := ⟨_, rfl⟩
 rw [<- hres]
 have HRES := Lib.hid hres
 clear hres
 obtain ⟨n, hnl⟩ : ∃ n, n = env.length := ⟨_, rfl⟩
 rw [<- hnl]
 have HNL := Lib.hid hnl
 clear hnl
 go_enter Tryz.func173, Tryz.ntmps173
 go_wp2
 go_loopg [9] n (fun m v9 wr => v9 = .int .i64 ((m : Int) - 1) /\ Hid (∃ j, m + j = n /\ sub s env = sub s (env.drop j)) /\ Hid (Below w.heap.size w wr) /\ Hid (wr.heap[w.heap.size]? = some (.cells #[.string (St s), .slice A' 0 c'] 59 (0, 0))) /\ Hid (wr.heap[w.heap.size + 1]? = some (.cells #[.string (St []), .slice none 0 0] 59 (0, 0))))
 case atStart => exact ⟨by rw [w64 (by omega) (by have := HN.out; have := HNL.out; omega)], ⟨0, by omega, by simp⟩, up_alloc (up1 w _) _, old2 w _ _, new2 w _ _⟩
 case round =>
  obtain ⟨rfl, HK, HB, HX, HR⟩ := hrel
  obtain ⟨j, hj, hsub⟩ := HK.out
  obtain ⟨hcA, hcB⟩ := HE.out wr HB.out
  have hlen := HNL.out
  have e0 : wr.cell? ⟨w.heap.size, 0, none⟩ = some (.string (St s)) := block_cell HX.out 0
  have e1 : wr.cell? ⟨w.heap.size, 1, none⟩ = some (.slice A' 0 c') := block_cell HX.out 1
  have r0 : wr.cell? ⟨w.heap.size + 1, 0, none⟩ = some (.string (St [])) := block_cell HR.out 0
  have r1 : wr.cell? ⟨w.heap.size + 1, 1, none⟩ = some (.slice none 0 0) := block_cell HR.out 1
  have f0 := block_free HR.out 0
  have f1 := block_free HR.out 1
  have lr := lt_of_block HR.out
  cases gk with
  | zero =>
   have hv : sub s env = s := by rw [hsub, List.drop_of_length_le (by omega)]; rfl
   obtain rfl : res = s := HRES.out.trans hv
   clear hj hsub hcA hcB HK hlen hv
   go_wp2
   refine bodyPost_ret (v := .agg #[.string (St res), .slice A' 0 c']) (by simp [results, Tryz.results173, go_sem, r0, r1, lr]) rfl ?_
   exact ⟨⟨_, _, rfl⟩, by repeat (first | exact HB.out | refine up_drew ?_ | refine set0 ?_ (Nat.le_succ _))⟩
  | succ m =>
   have hi : (((m + 1 : Nat) : Int) - 1) = (m : Int) := by omega
   rw [hi]
   have hjl : j < env.length := by omega
   have hdrop : env.drop j = env[j] :: env.drop (j + 1) := List.drop_eq_getElem_cons hjl
   have hld := sub_drop hdrop hsub
   have hrev : env.reverse[m]? = some env[j] := by
    rw [List.getElem?_reverse (by omega), List.getElem?_eq_getElem (by omega)]
    congr 2
    omega
   have hgA : (env.reverse.map (·.1))[m]? = some (env[j]).1 := by rw [List.getElem?_map, hrev]; rfl
   have hgB : (env.reverse.map (·.2))[m]? = some (env[j]).2 := by rw [List.getElem?_map, hrev]; rfl
   rcases hcA with hcA | ⟨ga, oa, rfl, hcA⟩
   · rw [hcA] at hgA; cases hgA
   rcases hcB with hcB | ⟨gb, ob, rfl, hcB⟩
   · rw [hcB] at hgB; cases hgB
   have d1 := hcA m _ hgA
   have d2 := hcB m _ hgB
   have hmn : m < n := by omega
   have hmn2 : (m : Int) < (n : Int) := by omega
   generalize (env[j]).1 = y at *
   generalize (env[j]).2 = z at *
   by_cases hys : y = s
   · have hv := hld.1 hys
     have q1 : (y == s) = true := by rw [hys]; simp
     obtain rfl : res = z := HRES.out.trans hv
     clear hj hsub hcA hcB HK hlen hi hjl hdrop hld hrev hgA hgB hys hv
     go_wp2
     go_region
     go_wp2
     refine bodyPost_ret (v := .agg #[.string (St res), .slice none 0 0]) (by simp [results, Tryz.results173, go_sem, r0, r1, lr]) rfl ?_
     exact ⟨⟨_, _, rfl⟩, by repeat (first | exact HB.out | refine up_drew ?_ | refine set0 ?_ (Nat.le_succ _))⟩
   · have q1 : (y == s) = false := St_ne hys
     have HK2 : Hid (∃ j, m + j = n /\ sub s env = sub s (env.drop j)) := ⟨j + 1, by omega, hld.2 hys⟩
     clear hj hsub hcA hcB HK hlen hi hjl hdrop hld hrev hgA hgB hys
     go_wp2
     go_region
     go_wp2
     go_roundg m
     case measure => omega
     case rel => exact ⟨by rw [w64 (by omega) (by have := HN.out; have := HNL.out; omega)], HK2, up_drew HB.out, HX.out, HR.out⟩
end Go.Proofs.YtpokompplapkhaaGreatDoor
namespace Go.Proofs.YtpokompplapkhaaGreatDoor
set_option maxHeartbeats 8000000
set_option maxRecDepth 100000
open Go.RowKit
set_option linter.unusedVariables false
set_option linter.unusedSimpArgs false
def NB (w : World) (r : Nat) (F : Option Addr) (cF : Nat) (free : List (List UInt8)) (k : Nat) : Prop :=
 w.heap[r]? = some (.cells #[.slice F free.length cF, .int .i64 k] 206 (0, 0))
def RPost (w : World) (r : Nat) (F : Option Addr) (cF : Nat) (free : List (List UInt8)) (nk : NT × Nat) (e : Ending) (w' : World) : Prop :=
 ∃ x A n c, e = .returned (.agg #[.string x, .slice A n c]) /\ TAt w' (fun k => w.heap.size <= k) nk.1.toTr (.agg #[.string x, .slice A n c]) /\ NB w' r F cF free nk.2 /\ w.grownBy w' (some r)
def LRn (free : List (List UInt8)) (n : NT) : Prop := ∀ (v : Value) (w : World) (A : Option Addr) (c : Nat) (B : Option Addr) (d : Nat) (env : List (List UInt8 × List UInt8)) (r : Nat) (F : Option Addr) (cF k : Nat) (okT : Nat -> Prop),
 TAt w okT n.toTr v -> (∀ j, okT j -> j ≠ r) -> SFar w A r (env.reverse.map (·.1)) -> SFar w B r (env.reverse.map (·.2)) -> NB w r F cF free k -> SFar w F r free -> (∀ p ∈ env, p.1 ≠ [48] /\ p.1 ≠ [49]) -> env.length + n.atoms <= 2000 -> k + n.atoms * (free.length + 1) <= 10000000 ->
 Calls Tryz.prog 173 #[v, .slice A env.length c, .slice B env.length d, .pointer (some ⟨r, 0, none⟩)] w (RPost w r F cF free (n.ren free env k))
theorem below_grow {w w1 : World} {r : Nat} (hb : Below w.heap.size w w1) : w.grownBy w1 (some r) := ⟨hb.os, hb.tape, hb.output, hb.size, fun j hj _ => hb.block j hj⟩
theorem grow_up2 {w w1 w2 : World} {g : Nat} (h : w.grownBy w1 (some g)) (hb : Below w1.heap.size w1 w2) : w.grownBy w2 (some g) :=
 ⟨hb.os.trans h.os, hb.tape.trans h.tape, hb.output.trans h.output, Nat.le_trans h.size hb.size, fun j hj hne => by rw [hb.block j (Nat.lt_of_lt_of_le hj h.size), h.block j hj hne]⟩
theorem grow_set {w w1 : World} {g b i : Nat} {v : Value} (h : w.grownBy w1 (some g)) (hb : w.heap.size <= b) : w.grownBy (w1.setCell ⟨b, i, none⟩ v) (some g) :=
 ⟨h.os, h.tape, h.output, by simpa [World.setCell] using h.size, fun j hj hne => by rw [Below.heap_setCell _ _ _ _ (by show j ≠ b; omega), h.block j hj hne]⟩
theorem set2_block (w : World) {b k : Nat} (v0 v1 : Value) (h : k ≠ b) : ((w.setCell ⟨b, 0, none⟩ v0).setCell ⟨b, 1, none⟩ v1).heap[k]? = w.heap[k]? := by
 rw [Below.heap_setCell _ ⟨b, 1, none⟩ _ k h, Below.heap_setCell _ ⟨b, 0, none⟩ _ k h]
theorem TRow.at3f {w : World} {ok : Nat -> Prop} {a : Tr} {ts : List Tr} {b o : Nat} (h : TRow w ok (a :: ts) (some ⟨b, o, none⟩)) :
 ∃ A n c, (∀ w1 : World, (∀ k, k < w.heap.size -> ok k -> w1.heap[k]? = w.heap[k]?) -> w1.cell? ⟨b, o, none⟩ = some (.string (St a.atom)) /\ w1.cell? ⟨b, o + 1, none⟩ = some (.slice A n c)) /\ TAt w ok a (.agg #[.string (St a.atom), .slice A n c]) /\ TRow w ok ts (some ⟨b, o + 2, none⟩) := by
 obtain ⟨s, ps⟩ := a
 cases h with
 | cons b o s ps ts A' c cur h0 h1 h2 h3 hc hp ht =>
  refine ⟨A', _, c, fun w1 hk => ?_, ⟨A', c, rfl, hc, hp⟩, ht⟩
  have hb := (hk b (lt_of_block h1) h0).trans h1
  exact ⟨(block_cell hb o).trans h2, (block_cell hb (o + 1)).trans h3⟩
theorem three_far {w : World} {ok : Nat -> Prop} {r : Nat} (hr : ∀ j, ok j -> j ≠ r) {h : List UInt8} {q : List Tr} {a b : Tr} {v : Value} (hp : TAt w ok (.mk [] [.mk h q, a, b]) v) :
 ∃ bl o c, v = .agg #[.string (St []), .slice (some ⟨bl, o, none⟩) 3 c] /\ ∃ A2 n2 c2 A4 n4 c4, Hid (∀ w1, w.grownBy w1 (some r) -> w1.cell? ⟨bl, o + 2, none⟩ = some (.string (St a.atom)) /\ w1.cell? ⟨bl, o + 3, none⟩ = some (.slice A2 n2 c2) /\ w1.cell? ⟨bl, o + 4, none⟩ = some (.string (St b.atom)) /\ w1.cell? ⟨bl, o + 5, none⟩ = some (.slice A4 n4 c4) /\
  Hid (TAt w1 ok a (.agg #[.string (St a.atom), .slice A2 n2 c2])) /\ Hid (TAt w1 ok b (.agg #[.string (St b.atom), .slice A4 n4 c4]))) /\
  Hid (∀ w1, w.grownBy w1 (some r) -> Calls Tryz.prog 125 #[.agg #[.string (St []), .slice (some ⟨bl, o, none⟩) 3 c]] w1 fun e w' => e = .returned (.string (St h)) /\ Below w1.heap.size w1 w') := by
 have hg : ∀ w1 : World, w.grownBy w1 (some r) -> ∀ k, k < w.heap.size -> ok k -> w1.heap[k]? = w.heap[k]? := fun w1 hg k hk ho => hg.block k hk (by simp; exact hr k ho)
 have hh : ∀ w1, w.grownBy w1 (some r) -> Calls Tryz.prog 125 #[v] w1 fun e w' => e = .returned (.string (St h)) /\ Below w1.heap.size w1 w' := fun w1 hb => l1Head_any _ v w1 (hp.move fun k hk ho => ⟨ho, hg w1 hb k hk ho⟩)
 obtain ⟨A, c, rfl, hrow⟩ := hp.parts
 obtain ⟨bl, o, A', c', rfl, _, _, _, _, hrow⟩ := hrow.uncons
 obtain ⟨A2, n2, c2, d2, ha, hrow⟩ := hrow.at3f
 obtain ⟨A4, n4, c4, d4, hb, _⟩ := hrow.at3f
 exact ⟨bl, o, c, rfl, A2, n2, c2, A4, n4, c4, fun w1 hk => ⟨(d2 w1 (hg w1 hk)).1, (d2 w1 (hg w1 hk)).2, (d4 w1 (hg w1 hk)).1, (d4 w1 (hg w1 hk)).2, ha.move fun k h1 h2 => ⟨h2, hg w1 hk k h1 h2⟩, hb.move fun k h1 h2 => ⟨h2, hg w1 hk k h1 h2⟩⟩, hh⟩
theorem trees2 {w : World} {ok : Nat -> Prop} {t u : Tr} {x y : ByteArray} {A A' : Option Addr} {n c n' c' : Nat} (ht : TAt w ok t (.agg #[.string x, .slice A n c])) (hu : TAt w ok u (.agg #[.string y, .slice A' n' c'])) :
 Trees w ok [t, u] [.string x, .slice A n c, .string y, .slice A' n' c'] := by
 obtain ⟨s, ps⟩ := t
 obtain ⟨s', ps'⟩ := u
 obtain ⟨B, d, h1, h2, h3⟩ := ht
 obtain ⟨B', d', h1', h2', h3'⟩ := hu
 simp only [Value.agg.injEq, Array.mk.injEq, List.cons.injEq, Value.string.injEq, Value.slice.injEq, and_true] at h1 h1'
 obtain ⟨rfl, rfl, rfl, rfl⟩ := h1
 obtain ⟨rfl, rfl, rfl, rfl⟩ := h1'
 exact .cons _ _ _ _ _ _ h2 h3 (.cons _ _ _ _ _ _ h2' h3' .nil)
theorem l1Rename_two (free : List (List UInt8)) (h : List UInt8) (hne : h ≠ [114, 101, 99]) (a b f2 : NT) (ka kb : Nat) (a' b' : NT) (hf : f2.toTr = .mk [] [.mk h [], a'.toTr, b'.toTr]) (v : Value) (w : World) (A : Option Addr) (c : Nat) (B : Option Addr) (d n : Nat) (r : Nat) (F : Option Addr) (cF : Nat) (okT : Nat -> Prop)
 (hp : TAt w okT (.mk [] [.mk h [], a.toTr, b.toTr]) v) (hok : ∀ j, okT j -> j ≠ r) (hr : r < w.heap.size)
 (iha : ∀ w1 v, w.grownBy w1 (some r) -> Below w.heap.size w w1 -> TAt w1 okT a.toTr v -> Calls Tryz.prog 173 #[v, .slice A n c, .slice B n d, .pointer (some ⟨r, 0, none⟩)] w1 (RPost w1 r F cF free (a', ka)))
 (ihb : ∀ w1 v, w.grownBy w1 (some r) -> NB w1 r F cF free ka -> TAt w1 okT b.toTr v -> Calls Tryz.prog 173 #[v, .slice A n c, .slice B n d, .pointer (some ⟨r, 0, none⟩)] w1 (RPost w1 r F cF free (b', kb))) :
 Calls Tryz.prog 173 #[v, .slice A n c, .slice B n d, .pointer (some ⟨r, 0, none⟩)] w (RPost w r F cF free (f2, kb)) := by
 obtain ⟨bl, o, c', rfl, A2, n2, cc2, A4, n4, c4, HC, HH⟩ := three_far hok hp
 have k0 : (h == [114, 101, 99]) = false := St_ne hne
 have IHA := Lib.hid iha
 have IHB := Lib.hid ihb
 have HLS : Hid (∀ (w5 : World) (x2 x5 : ByteArray) (B2 B5 : Option Addr) (n2 c2 n5 c5 : Nat) (ok : Nat -> Prop), TAt w5 ok a'.toTr (.agg #[.string x2, .slice B2 n2 c2]) -> TAt w5 ok b'.toTr (.agg #[.string x5, .slice B5 n5 c5]) -> Calls Tryz.prog 71 #[.string (St h), .slice (some ⟨w5.heap.size, 0, none⟩) 2 2] (w5.alloc (.cells #[.string x2, .slice B2 n2 c2, .string x5, .slice B5 n5 c5] 59)) fun e w' => (∃ x A n c, e = .returned (.agg #[.string x, .slice A n c]) /\ TAt w' (fun k => w5.heap.size < k \/ ok k) f2.toTr (.agg #[.string x, .slice A n c])) /\ Below w5.heap.size w5 w') := fun w5 x2 x5 B2 B5 n2 c2 n5 c5 ok h1 h2 => by
  have ht := trees2 (h1.up (up1 w5 (.cells #[.string x2, .slice B2 n2 c2, .string x5, .slice B5 n5 c5] 59))) (h2.up (up1 w5 (.cells #[.string x2, .slice B2 n2 c2, .string x5, .slice B5 n5 c5] 59)))
  refine (l1List_any h [a'.toTr, b'.toTr] w5.heap.size 0 2 _ ok _ ht (fun j u hu => ?_) (by simp) (by simp)).mono ?_
  · rw [Nat.zero_add, block_cell (block_new w5 _) j]
    simpa using hu
  · rintro e w' ⟨⟨x, A, n, c, he, htt⟩, hb⟩
    refine ⟨⟨x, A, n, c, he, ?_⟩, up_trans (up1 w5 _) hb⟩
    rw [hf]
    refine htt.move fun k hk ho => ⟨?_, rfl⟩
    rcases ho with ho | ho
    · exact .inl (show w5.heap.size < k from Nat.lt_of_succ_le (by simpa using ho))
    · exact .inr ho
 clear hp iha ihb hne hf
 generalize a.toTr.atom = xa at *
 generalize b.toTr.atom = xb at *
 go_enter Tryz.func173, Tryz.ntmps173
 go_wp2_with (first
  | (go_at_call 125; refine (HH.out _ (below_grow (up_alloc (up1 w _) _))).mono ?_; rintro e w1 ⟨rfl, hb1⟩; have X1 := Lib.hid (block_up hb1 (old2 w (.cells #[.string (St []), .slice (some ⟨bl, o, none⟩) 3 c'] 59) (.cells #[.string (St []), .slice none 0 0] 59))); have R1 := Lib.hid (block_up hb1 (new2 w (.cells #[.string (St []), .slice (some ⟨bl, o, none⟩) 3 c'] 59) (.cells #[.string (St []), .slice none 0 0] 59))); have e1 : w1.cell? ⟨w.heap.size, 1, none⟩ = some (.slice (some ⟨bl, o, none⟩) 3 c') := block_cell X1.out 1; have HB1 := Lib.hid (up_trans (up_alloc (up1 w _) _) hb1); obtain ⟨d2, d3, _, _, TA, _⟩ := HC.out w1 (below_grow HB1.out); clear hb1)
  | (go_at_call 173; (with_reducible refine (IHA.out _ _ (below_grow HB1.out) HB1.out TA.out).mono ?_); rintro e w2 ⟨x2, B2, m2, q2, rfl, ht2, hnb2, hg2⟩; have HG2 := Lib.hid (up_grow HB1.out hg2); have X2 := Lib.hid ((hg2.block w.heap.size (lt_of_block X1.out) (by simp; omega)).trans X1.out); have R2 := Lib.hid ((hg2.block (w.heap.size + 1) (lt_of_block R1.out) (by simp; omega)).trans R1.out); have HT2 := Lib.hid ht2; have HNB2 := Lib.hid hnb2; have HS12 : Hid (w1.heap.size <= w2.heap.size) := hg2.size; clear ht2 hnb2 hg2))
 have X3 : Hid ((w2.alloc (.cells #[.string x2, .slice B2 m2 q2] 59)).heap[w.heap.size]? = some (.cells #[.string (St []), .slice (some ⟨bl, o, none⟩) 3 c'] 59 (0, 0))) := block_alloc X2.out _
 have R3 : Hid ((w2.alloc (.cells #[.string x2, .slice B2 m2 q2] 59)).heap[w.heap.size + 1]? = some (.cells #[.string (St []), .slice none 0 0] 59 (0, 0))) := block_alloc R2.out _
 have T3 := Lib.hid (block_new w2 (.cells #[.string x2, .slice B2 m2 q2] 59))
 have HG3 : Hid (w.grownBy (w2.alloc (.cells #[.string x2, .slice B2 m2 q2] 59)).drew (some r)) := grow_up2 HG2.out (up_drew (up1 w2 _))
 have HG3' : Hid (w.grownBy (w2.alloc (.cells #[.string x2, .slice B2 m2 q2] 59)) (some r)) := grow_up2 HG2.out (up1 w2 _)
 have NB3 : Hid (NB (w2.alloc (.cells #[.string x2, .slice B2 m2 q2] 59)) r F cF free ka) := block_alloc HNB2.out _
 have HT3 := Lib.hid (HT2.out.up (up_drew (up1 w2 (.cells #[.string x2, .slice B2 m2 q2] 59))))
 have l1 : w.heap.size + 1 < w1.heap.size := lt_of_block R1.out
 have l2 : w1.heap.size <= w2.heap.size := HS12.out
 have HS3 : Hid (w1.heap.size <= (w2.alloc (.cells #[.string x2, .slice B2 m2 q2] 59)).heap.size) := by show _ <= _; simp; omega
 have s3 : (w2.alloc (.cells #[.string x2, .slice B2 m2 q2] 59)).cell? ⟨w.heap.size, 0, none⟩ = some (.string (St [])) /\ (w2.alloc (.cells #[.string x2, .slice B2 m2 q2] 59)).cell? ⟨w.heap.size, 1, none⟩ = some (.slice (some ⟨bl, o, none⟩) 3 c') /\ (w2.alloc (.cells #[.string x2, .slice B2 m2 q2] 59)).cell? ⟨w2.heap.size, 0, none⟩ = some (.string x2) /\ (w2.alloc (.cells #[.string x2, .slice B2 m2 q2] 59)).cell? ⟨w2.heap.size, 1, none⟩ = some (.slice B2 m2 q2) /\ (w2.alloc (.cells #[.string x2, .slice B2 m2 q2] 59)).cell? ⟨bl, o + 4, none⟩ = some (.string (St xb)) /\ (w2.alloc (.cells #[.string x2, .slice B2 m2 q2] 59)).cell? ⟨bl, o + 5, none⟩ = some (.slice A4 n4 c4) := ⟨block_cell X3.out 0, block_cell X3.out 1, block_cell T3.out 0, block_cell T3.out 1, (HC.out _ HG3'.out).2.2.1, (HC.out _ HG3'.out).2.2.2.1⟩
 go_region_held3 (fun w' => w'.cell? ⟨w.heap.size, 0, none⟩ = some (.string (St [])) /\ w'.cell? ⟨w.heap.size, 1, none⟩ = some (.slice (some ⟨bl, o, none⟩) 3 c') /\ w'.cell? ⟨w2.heap.size, 0, none⟩ = some (.string x2) /\ w'.cell? ⟨w2.heap.size, 1, none⟩ = some (.slice B2 m2 q2) /\ w'.cell? ⟨bl, o + 4, none⟩ = some (.string (St xb)) /\ w'.cell? ⟨bl, o + 5, none⟩ = some (.slice A4 n4 c4))
  (first | exact s7 | exact s6 | exact s5 | exact ⟨cell_up (up1 w5 (.cells #[.string x2, .slice B2 m2 q2, .string x5, .slice B5 m5 q5] 59)) s5.1, cell_up (up1 w5 (.cells #[.string x2, .slice B2 m2 q2, .string x5, .slice B5 m5 q5] 59)) s5.2.1, cell_up (up1 w5 (.cells #[.string x2, .slice B2 m2 q2, .string x5, .slice B5 m5 q5] 59)) s5.2.2.1, cell_up (up1 w5 (.cells #[.string x2, .slice B2 m2 q2, .string x5, .slice B5 m5 q5] 59)) s5.2.2.2.1, cell_up (up1 w5 (.cells #[.string x2, .slice B2 m2 q2, .string x5, .slice B5 m5 q5] 59)) s5.2.2.2.2.1, cell_up (up1 w5 (.cells #[.string x2, .slice B2 m2 q2, .string x5, .slice B5 m5 q5] 59)) s5.2.2.2.2.2⟩ | exact s4 | exact s3 | go_keep)
  (first
   | (go_at_call 125; go_loud ((with_reducible refine (HH.out _ HG3.out).mono ?_); rintro e w4 ⟨rfl, hb4⟩; have X4 : Hid (w4.heap[w.heap.size]? = some (.cells #[.string (St []), .slice (some ⟨bl, o, none⟩) 3 c'] 59 (0, 0))) := block_up hb4 X3.out; have R4 : Hid (w4.heap[w.heap.size + 1]? = some (.cells #[.string (St []), .slice none 0 0] 59 (0, 0))) := block_up hb4 R3.out; have T4 := Lib.hid (block_up hb4 T3.out); have HG4 := Lib.hid (grow_up2 HG3.out hb4); have NB4 : Hid (NB w4 r F cF free ka) := block_up hb4 NB3.out; have HT4 := Lib.hid (HT3.out.up hb4); have HS4 : Hid (w1.heap.size <= w4.heap.size) := Nat.le_trans HS3.out hb4.size; have s4 : w4.cell? ⟨w.heap.size, 0, none⟩ = some (.string (St [])) /\ w4.cell? ⟨w.heap.size, 1, none⟩ = some (.slice (some ⟨bl, o, none⟩) 3 c') /\ w4.cell? ⟨w2.heap.size, 0, none⟩ = some (.string x2) /\ w4.cell? ⟨w2.heap.size, 1, none⟩ = some (.slice B2 m2 q2) /\ w4.cell? ⟨bl, o + 4, none⟩ = some (.string (St xb)) /\ w4.cell? ⟨bl, o + 5, none⟩ = some (.slice A4 n4 c4) := ⟨block_cell X4.out 0, block_cell X4.out 1, block_cell T4.out 0, block_cell T4.out 1, (HC.out _ HG4.out).2.2.1, (HC.out _ HG4.out).2.2.2.1⟩; have TB4 := (HC.out _ HG4.out).2.2.2.2.2; clear hb4))
   | (go_at_call 173; (with_reducible refine (IHB.out _ _ HG4.out NB4.out TB4.out).mono ?_); rintro e w5 ⟨x5, B5, m5, q5, rfl, ht5, hnb5, hg5⟩; have HG5 := Lib.hid (grow_grow HG4.out hg5 (.inl rfl)); have X5 := Lib.hid ((hg5.block w.heap.size (lt_of_block X4.out) (by simp; omega)).trans X4.out); have R5 := Lib.hid ((hg5.block (w.heap.size + 1) (lt_of_block R4.out) (by simp; omega)).trans R4.out); have T5 := Lib.hid ((hg5.block w2.heap.size (lt_of_block T4.out) (by simp; omega)).trans T4.out); have HT25 : Hid (TAt w5 (fun k => w1.heap.size <= k) a'.toTr (.agg #[.string x2, .slice B2 m2 q2])) := HT4.out.move (fun k hk ho => ⟨ho, hg5.block k hk (by simp; omega)⟩); have HT5 : Hid (TAt w5 (fun k => w1.heap.size <= k) b'.toTr (.agg #[.string x5, .slice B5 m5 q5])) := ht5.move (fun k hk ho => ⟨Nat.le_trans HS4.out ho, rfl⟩); have HNB5 := Lib.hid hnb5; have HS5 : Hid (w1.heap.size <= w5.heap.size) := Nat.le_trans HS4.out hg5.size; have s5 : w5.cell? ⟨w.heap.size, 0, none⟩ = some (.string (St [])) /\ w5.cell? ⟨w.heap.size, 1, none⟩ = some (.slice (some ⟨bl, o, none⟩) 3 c') /\ w5.cell? ⟨w2.heap.size, 0, none⟩ = some (.string x2) /\ w5.cell? ⟨w2.heap.size, 1, none⟩ = some (.slice B2 m2 q2) /\ w5.cell? ⟨bl, o + 4, none⟩ = some (.string (St xb)) /\ w5.cell? ⟨bl, o + 5, none⟩ = some (.slice A4 n4 c4) := ⟨block_cell X5.out 0, block_cell X5.out 1, block_cell T5.out 0, block_cell T5.out 1, (HC.out _ HG5.out).2.2.1, (HC.out _ HG5.out).2.2.2.1⟩; clear ht5 hnb5 hg5)
   | (go_at_call 71; (with_reducible refine (HLS.out w5 x2 x5 B2 B5 m2 q2 m5 q5 (fun k => w1.heap.size <= k) HT25.out HT5.out).mono ?_); rintro e w6 ⟨⟨x6, B6, m6, q6, rfl, ht6⟩, hb6⟩; have X6 := Lib.hid (block_up hb6 X5.out); have R6 := Lib.hid (block_up hb6 R5.out); have T6 := Lib.hid (block_up hb6 T5.out); have HG6 := Lib.hid (grow_up2 HG5.out hb6); have NB6 : Hid (NB w6 r F cF free kb) := block_up hb6 HNB5.out; have rc0 : w6.cell? ⟨w.heap.size + 1, 0, none⟩ = some (.string (St [])) := block_cell R6.out 0; have rc1 : w6.cell? ⟨w.heap.size + 1, 1, none⟩ = some (.slice none 0 0) := block_cell R6.out 1; have fr0 := block_free R6.out 0; have fr1 := block_free R6.out 1; have lr6 := lt_of_block R6.out; have s6 : w6.cell? ⟨w.heap.size, 0, none⟩ = some (.string (St [])) /\ w6.cell? ⟨w.heap.size, 1, none⟩ = some (.slice (some ⟨bl, o, none⟩) 3 c') /\ w6.cell? ⟨w2.heap.size, 0, none⟩ = some (.string x2) /\ w6.cell? ⟨w2.heap.size, 1, none⟩ = some (.slice B2 m2 q2) /\ w6.cell? ⟨bl, o + 4, none⟩ = some (.string (St xb)) /\ w6.cell? ⟨bl, o + 5, none⟩ = some (.slice A4 n4 c4) := ⟨block_cell X6.out 0, block_cell X6.out 1, block_cell T6.out 0, block_cell T6.out 1, (HC.out _ HG6.out).2.2.1, (HC.out _ HG6.out).2.2.2.1⟩; have HG7 : Hid (w.grownBy ((w6.setCell ⟨w.heap.size + 1, 0, none⟩ (.string x6)).setCell ⟨w.heap.size + 1, 1, none⟩ (.slice B6 m6 q6)) (some r)) := grow_set (grow_set HG6.out (Nat.le_succ _)) (Nat.le_succ _); have X7 : Hid (((w6.setCell ⟨w.heap.size + 1, 0, none⟩ (.string x6)).setCell ⟨w.heap.size + 1, 1, none⟩ (.slice B6 m6 q6)).heap[w.heap.size]? = some (.cells #[.string (St []), .slice (some ⟨bl, o, none⟩) 3 c'] 59 (0, 0))) := (set2_block w6 _ _ (by omega)).trans X6.out; have T7 := Lib.hid ((set2_block w6 (b := w.heap.size + 1) (.string x6) (.slice B6 m6 q6) (by omega : w2.heap.size ≠ w.heap.size + 1)).trans T6.out); have s7 : ((w6.setCell ⟨w.heap.size + 1, 0, none⟩ (.string x6)).setCell ⟨w.heap.size + 1, 1, none⟩ (.slice B6 m6 q6)).cell? ⟨w.heap.size, 0, none⟩ = some (.string (St [])) /\ ((w6.setCell ⟨w.heap.size + 1, 0, none⟩ (.string x6)).setCell ⟨w.heap.size + 1, 1, none⟩ (.slice B6 m6 q6)).cell? ⟨w.heap.size, 1, none⟩ = some (.slice (some ⟨bl, o, none⟩) 3 c') /\ ((w6.setCell ⟨w.heap.size + 1, 0, none⟩ (.string x6)).setCell ⟨w.heap.size + 1, 1, none⟩ (.slice B6 m6 q6)).cell? ⟨w2.heap.size, 0, none⟩ = some (.string x2) /\ ((w6.setCell ⟨w.heap.size + 1, 0, none⟩ (.string x6)).setCell ⟨w.heap.size + 1, 1, none⟩ (.slice B6 m6 q6)).cell? ⟨w2.heap.size, 1, none⟩ = some (.slice B2 m2 q2) /\ ((w6.setCell ⟨w.heap.size + 1, 0, none⟩ (.string x6)).setCell ⟨w.heap.size + 1, 1, none⟩ (.slice B6 m6 q6)).cell? ⟨bl, o + 4, none⟩ = some (.string (St xb)) /\ ((w6.setCell ⟨w.heap.size + 1, 0, none⟩ (.string x6)).setCell ⟨w.heap.size + 1, 1, none⟩ (.slice B6 m6 q6)).cell? ⟨bl, o + 5, none⟩ = some (.slice A4 n4 c4) := ⟨block_cell X7.out 0, block_cell X7.out 1, block_cell T7.out 0, block_cell T7.out 1, (HC.out _ HG7.out).2.2.1, (HC.out _ HG7.out).2.2.2.1⟩; have HFIN : Hid (RPost w r F cF free (f2, kb) (.returned (.agg #[.string x6, .slice B6 m6 q6])) ((w6.setCell ⟨w.heap.size + 1, 0, none⟩ (.string x6)).setCell ⟨w.heap.size + 1, 1, none⟩ (.slice B6 m6 q6))) := ⟨x6, B6, m6, q6, rfl, ht6.move (fun k hk ho => ⟨by (have ho2 : w5.heap.size < k \/ w1.heap.size <= k := ho); have := HS5.out; show w.heap.size <= k; omega, set2_block w6 _ _ (show k ≠ w.heap.size + 1 by (have ho2 : w5.heap.size < k \/ w1.heap.size <= k := ho); have := HS5.out; omega)⟩), (set2_block w6 _ _ (show r ≠ w.heap.size + 1 by omega)).trans NB6.out, HG7.out⟩; clear ht6 hb6))
 all_goals go_wp2
 all_goals refine bodyPost_ret (v := .agg #[.string x6, .slice B6 m6 q6]) (by simp [results, Tryz.results173, go_sem, rc0, rc1, lr6]) rfl ?_
 all_goals exact HFIN.out
end Go.Proofs.YtpokompplapkhaaGreatDoor
namespace Go.Proofs.YtpokompplapkhaaGreatDoor
set_option maxHeartbeats 8000000
set_option maxRecDepth 100000
open Go.RowKit
set_option linter.unusedVariables false
set_option linter.unusedSimpArgs false
theorem tN_cat (k : Nat) : (⟨#[116]⟩ : ByteArray) ++ St (decL k) = St (tN k) := by
 apply ByteArray.ext
 simp [ByteArray.data_append, tN]
theorem NB.next {w : World} {r : Nat} {F : Option Addr} {cF : Nat} {free : List (List UInt8)} {k : Nat} (h : NB w r F cF free k) :
 NB (w.setCell ⟨r, 1, none⟩ (.int .i64 ((k : Int) + 1))) r F cF free (k + 1) /\ w.grownBy (w.setCell ⟨r, 1, none⟩ (.int .i64 ((k : Int) + 1))) (some r) := by
 have hg : w.grownBy (w.setCell ⟨r, 1, none⟩ (.int .i64 ((k : Int) + 1))) (some r) := ⟨rfl, rfl, rfl, by simp [World.setCell], fun j _ hne => Below.heap_setCell _ _ _ _ (fun e => hne (by rw [e]))⟩
 refine ⟨?_, hg⟩
 have hlt := lt_of_block h
 have h' : w.heap[r] = .cells #[.slice F free.length cF, .int .i64 k] 206 (0, 0) := by
  have h2 : w.heap[r]? = some (.cells #[.slice F free.length cF, .int .i64 k] 206 (0, 0)) := h
  simpa [Array.getElem?_eq_getElem hlt] using h2
 show (w.heap.modify r _)[r]? = _
 rw [Array.getElem?_eq_getElem (by simpa using hlt), Array.getElem_modify_self, h']
 rfl
theorem fresh_stop {free : List (List UInt8)} {k : Nat} (h : tN k ∉ free) : ∀ f, fresh free f k = k
 | 0 => rfl
 | f + 1 => by rw [fresh, if_neg h]
theorem l1Rename_rec (free : List (List UInt8)) (x : List UInt8) (a f2 : NT) (k K ka : Nat) (a' : NT) (hK : K = freshN free k) (hf : f2.toTr = .mk [] [.mk [114, 101, 99] [], .mk (tN K) [], a'.toTr]) (v : Value) (w : World) (A : Option Addr) (c : Nat) (B : Option Addr) (d n : Nat) (frs tos : List (List UInt8)) (hfr : frs.length = n) (hto : tos.length = n) (hn : n <= 100000) (r : Nat) (F : Option Addr) (cF : Nat) (okT : Nat -> Prop)
 (hp : TAt w okT (.mk [] [.mk [114, 101, 99] [], .mk x [], a.toTr]) v) (hok : ∀ j, okT j -> j ≠ r) (hA : SFar w A r frs) (hB : SFar w B r tos) (hF : SFar w F r free) (hfl : free.length <= 100000) (hNB : NB w r F cF free k) (hk : k + free.length <= 20000000)
 (ih : ∀ w1 v A1 c1 B1 d1, w.grownBy w1 (some r) -> NB w1 r F cF free (K + 1) -> SFar w1 A1 r (frs ++ [x]) -> SFar w1 B1 r (tos ++ [tN K]) -> TAt w1 okT a.toTr v -> Calls Tryz.prog 173 #[v, .slice A1 (n + 1) c1, .slice B1 (n + 1) d1, .pointer (some ⟨r, 0, none⟩)] w1 (RPost w1 r F cF free (a', ka))) :
 Calls Tryz.prog 173 #[v, .slice A n c, .slice B n d, .pointer (some ⟨r, 0, none⟩)] w (RPost w r F cF free (f2, ka)) := by
 have hr : r < w.heap.size := lt_of_block hNB
 obtain ⟨bl, o, c', rfl, A2, n2, cc2, A4, n4, c4, HC, HH⟩ := three_far hok hp
 have hxa : (Tr.mk x []).atom = x := rfl
 rw [hxa] at HC
 have HDEC : Hid (∀ (w1 : World) (j : Nat), j <= 30000000 -> Calls Tryz.prog 148 #[.int .i64 j] w1 fun e w' => ∃ b : ByteArray, b = St (decL j) /\ b.size <= 9 /\ e = .returned (.string b) /\ Below w1.heap.size w1 w') := fun w1 j hj =>
  (l6Dec_any j w1 (by omega)).mono fun e w' ⟨h1, h2⟩ => ⟨_, rfl, decL_len 8 j (by omega), h1, h2⟩
 have HHAS : Hid (∀ (w1 : World) (j : Nat) (b : ByteArray), b = St (decL j) -> w.grownBy w1 (some r) -> Calls Tryz.prog 157 #[.slice F free.length cF, .string (⟨#[116]⟩ ++ b)] w1 fun e w' => e = .returned (.bool (decide (tN j ∈ free))) /\ Below w1.heap.size w1 w') := fun w1 j b hb hg => by
  subst hb
  rw [tN_cat]
  exact l1Has_any free F cF (tN j) w1 (by omega) (hF.grown hg (.inl rfl)).cells
 have far : ∀ (w1 w2 : World) (ls : List (List UInt8)) g c, r < w1.heap.size -> SOwn w2 w1.heap.size (ls ++ [x]) g c -> SFar w2 (some ⟨g, 0, none⟩) r (ls ++ [x]) := fun w1 w2 ls g c hr ho => by
  have hl := ho.lt
  rcases ho.reads with h0 | ⟨g', o', he', hcell⟩
  · simp at h0
  · cases he'
    exact .inr ⟨g, 0, rfl, by omega, hl.2, hcell⟩
 have far2 : ∀ (w1 w2 : World) (ls : List (List UInt8)) g c, r < w1.heap.size -> SOwn w2 w1.heap.size (ls ++ [tN K]) g c -> SFar w2 (some ⟨g, 0, none⟩) r (ls ++ [tN K]) := fun w1 w2 ls g c hr ho => by
  have hl := ho.lt
  rcases ho.reads with h0 | ⟨g', o', he', hcell⟩
  · simp at h0
  · cases he'
    exact .inr ⟨g, 0, rfl, by omega, hl.2, hcell⟩
 have HWA : Hid (∀ w1, w.grownBy w1 (some r) -> Calls Tryz.prog 158 #[.slice A n c, .string (St x)] w1 (fun e w2 => Below w1.heap.size w1 w2 /\ ∃ g3 c3, e = .returned (.slice (some ⟨g3, 0, none⟩) (n + 1) c3) /\ SFar w2 (some ⟨g3, 0, none⟩) r (frs ++ [x]))) := fun w1 hg => by
  have := l1With_any frs A c x w1 (by omega) (hA.grown hg (.inl rfl)).cells
  rw [hfr] at this
  refine this.mono ?_
  rintro e w2 ⟨hb2, g3, c3, he, ho3⟩
  exact ⟨hb2, g3, c3, by rw [he]; simp [hfr], far w1 w2 frs g3 c3 (Nat.lt_of_lt_of_le hr hg.size) ho3⟩
 have HWB : Hid (∀ w1 (b : ByteArray), w.grownBy w1 (some r) -> b = St (decL K) -> Calls Tryz.prog 158 #[.slice B n d, .string (⟨#[116]⟩ ++ b)] w1 (fun e w2 => Below w1.heap.size w1 w2 /\ ∃ g3 c3, e = .returned (.slice (some ⟨g3, 0, none⟩) (n + 1) c3) /\ SFar w2 (some ⟨g3, 0, none⟩) r (tos ++ [tN K]))) := fun w1 b hg hb => by
  subst hb
  rw [tN_cat]
  have := l1With_any tos B d (tN K) w1 (by omega) (hB.grown hg (.inl rfl)).cells
  rw [hto] at this
  refine this.mono ?_
  rintro e w2 ⟨hb2, g3, c3, he, ho3⟩
  exact ⟨hb2, g3, c3, by rw [he]; simp [hto], far2 w1 w2 tos g3 c3 (Nat.lt_of_lt_of_le hr hg.size) ho3⟩
 have HIH := Lib.hid ih
 have HLS : Hid (∀ (w5 : World) (b : ByteArray) (hb : b = St (decL K)) (x5 : ByteArray) (B5 : Option Addr) (n5 c5 : Nat) (ok : Nat -> Prop), TAt w5 ok a'.toTr (.agg #[.string x5, .slice B5 n5 c5]) -> Calls Tryz.prog 71 #[.string ⟨#[114, 101, 99]⟩, .slice (some ⟨w5.heap.size, 0, none⟩) 2 2] (w5.alloc (.cells #[.string (⟨#[116]⟩ ++ b), .slice none 0 0, .string x5, .slice B5 n5 c5] 59)) fun e w' => (∃ x A n c, e = .returned (.agg #[.string x, .slice A n c]) /\ TAt w' (fun k => w5.heap.size < k \/ ok k) f2.toTr (.agg #[.string x, .slice A n c])) /\ Below w5.heap.size w5 w') := fun w5 b hb x5 B5 n5 c5 ok h2 => by
  subst hb
  rw [tN_cat]
  have h1 : TAt (w5.alloc (.cells #[.string (St (tN K)), .slice none 0 0, .string x5, .slice B5 n5 c5] 59)) ok (.mk (tN K) []) (.agg #[.string (St (tN K)), .slice none 0 0]) := ⟨none, 0, rfl, Nat.le_refl _, .nil _⟩
  have ht := trees2 h1 (h2.up (up1 w5 (.cells #[.string (St (tN K)), .slice none 0 0, .string x5, .slice B5 n5 c5] 59)))
  refine (l1List_any [114, 101, 99] [.mk (tN K) [], a'.toTr] w5.heap.size 0 2 _ ok _ ht (fun j u hu => ?_) (by simp) (by simp)).mono ?_
  · rw [Nat.zero_add, block_cell (block_new w5 _) j]
    simpa using hu
  · rintro e w' ⟨⟨x, A, n, c, he, htt⟩, hb⟩
    refine ⟨⟨x, A, n, c, he, ?_⟩, up_trans (up1 w5 _) hb⟩
    rw [hf]
    refine htt.move fun k hk ho => ⟨?_, rfl⟩
    rcases ho with ho | ho
    · exact .inl (show w5.heap.size < k from Nat.lt_of_succ_le (by simpa using ho))
    · exact .inr ho
 have HNB : Hid (NB w r F cF free k) := hNB
 have HK0 : Hid (K = fresh free free.length k) := hK
 have HKN : Hid (tN K ∉ free) := by show tN K ∉ free; rw [hK]; exact freshN_not free k
 clear hp ih hf hA hB hF hNB hK far far2 hfr hto
 generalize a.toTr.atom = xb at *
 have hfl2 : (free.length : Int) <= 100000 := by omega
 obtain ⟨nf, hnf⟩ : ∃ nf, nf = free.length := ⟨_, rfl⟩
 rw [<- hnf] at HHAS HK0 hfl hk hfl2
 have HNF := Lib.hid hnf
 clear hnf
 go_enter Tryz.func173, Tryz.ntmps173
 go_wp2_with (first
  | (go_at_call 125; refine (HH.out _ (below_grow (up_alloc (up1 w _) _))).mono ?_; rintro e w1 ⟨rfl, hb1⟩; have X1 := Lib.hid (block_up hb1 (old2 w (.cells #[.string (St []), .slice (some ⟨bl, o, none⟩) 3 c'] 59) (.cells #[.string (St []), .slice none 0 0] 59))); have R1 := Lib.hid (block_up hb1 (new2 w (.cells #[.string (St []), .slice (some ⟨bl, o, none⟩) 3 c'] 59) (.cells #[.string (St []), .slice none 0 0] 59))); have HB1 := Lib.hid (up_trans (up_alloc (up1 w _) _) hb1); have e1 : w1.cell? ⟨r, 1, none⟩ = some (.int .i64 k) := block_cell (block_up HB1.out HNB.out) 1; clear hb1)
  | (go_at_call 148; (with_reducible refine (HDEC.out _ k (by omega)).mono ?_); rintro e w2 ⟨b, hb, hbs, rfl, hb2⟩; have HBD := Lib.hid hb; have HB2 := Lib.hid (up_trans HB1.out hb2); have X2 := Lib.hid (block_up hb2 X1.out); have R2 := Lib.hid (block_up hb2 R1.out); clear hb hb2))
 go_loopg [10] nf (fun m v10 wr => ∃ (k' : Nat) (b : ByteArray), v10 = .string (⟨#[116]⟩ ++ b) /\ Hid (b = St (decL k')) /\ Hid (fresh free m k' = K /\ k' + m <= 20000000) /\ Hid (NB wr r F cF free k') /\ Hid (w.grownBy wr (some r)) /\ Hid (wr.heap[w.heap.size]? = some (.cells #[.string (St []), .slice (some ⟨bl, o, none⟩) 3 c'] 59 (0, 0))) /\ Hid (wr.heap[w.heap.size + 1]? = some (.cells #[.string (St []), .slice none 0 0] 59 (0, 0))))
 case atStart => exact ⟨k, b, rfl, HBD, ⟨HK0.out.symm, hk⟩, block_up HB2.out HNB.out, below_grow HB2.out, X2, R2⟩
 case round =>
  obtain ⟨k', b, rfl, HBD', HKK, HNBR, HGR, XR, RR⟩ := hrel
  clear HBD HB2 X2 R2 HB1 X1 R1 HNB
  have hkk := HKK.out
  have HHW := Lib.hid (HHAS.out wr k' b HBD'.out HGR.out)
  have hnbr : wr.heap[r]? = some (.cells #[.slice F nf cF, .int .i64 k'] 206 (0, 0)) := by rw [HNF.out]; exact HNBR.out
  have d0 : wr.cell? ⟨r, 0, none⟩ = some (.slice F nf cF) := block_cell hnbr 0
  by_cases hm : tN k' ∈ free
  · rw [decide_eq_true hm] at HHW
    cases gk with
    | zero =>
     exfalso
     have h1 : k' = K := hkk.1
     rw [h1] at hm
     exact HKN.out hm
    | succ m =>
     have hk2 : fresh free m (k' + 1) = K /\ k' + 1 + m <= 20000000 := by
      refine ⟨?_, by omega⟩
      have := hkk.1
      rw [fresh, if_pos hm] at this
      exact this
     have HK2 : Hid (fresh free m (k' + 1) = K /\ k' + 1 + m <= 20000000) := hk2
     have hb1 : (k' : Int) + 1 <= 20000000 := by omega
     have HD2 : Hid (∀ w1 : World, Calls Tryz.prog 148 #[.int .i64 ((k' : Int) + 1)] w1 fun e w' => ∃ b : ByteArray, b = St (decL (k' + 1)) /\ b.size <= 9 /\ e = .returned (.string b) /\ Below w1.heap.size w1 w') := fun w1 => HDEC.out w1 (k' + 1) (by omega)
     clear hm hkk HKK hk2 hnbr
     go_wp2_with (first
      | (go_at_call 157; (with_reducible refine HHW.out.mono ?_); rintro e w3 ⟨rfl, hb3⟩; have NB3 : Hid (NB w3 r F cF free k') := block_up hb3 HNBR.out; have e3 : w3.cell? ⟨r, 1, none⟩ = some (.int .i64 k') := block_cell NB3.out 1; have f3 := block_free NB3.out 1; have l3 := lt_of_block NB3.out; have HG3 := Lib.hid (grow_up2 HGR.out hb3); have X3 := Lib.hid (block_up hb3 XR.out); have R3 := Lib.hid (block_up hb3 RR.out); clear hb3)
      | (go_at_call 148; (with_reducible refine (HD2.out _).mono ?_); rintro e w4 ⟨b4, hb4, hbs4, rfl, hbl4⟩; have HB4 := Lib.hid hb4; have NB4 : Hid (NB w4 r F cF free (k' + 1)) := block_up hbl4 NB3.out.next.1; have HG4 := Lib.hid (grow_up2 (grow_grow HG3.out NB3.out.next.2 (.inl rfl)) hbl4); have X4 := Lib.hid (block_up hbl4 ((NB3.out.next.2.block w.heap.size (lt_of_block X3.out) (by simp; omega)).trans X3.out)); have R4 := Lib.hid (block_up hbl4 ((NB3.out.next.2.block (w.heap.size + 1) (lt_of_block R3.out) (by simp; omega)).trans R3.out)); clear hb4 hbl4))
     go_roundg m
     case measure => omega
     case rel => exact ⟨k' + 1, b4, rfl, HB4, HK2, NB4, HG4, X4, R4⟩
  · rw [decide_eq_false hm] at HHW
    have hkK : k' = K := by
     have := hkk.1
     rw [fresh_stop hm] at this
     exact this
    have hb1 : (k' : Int) + 1 <= 20000001 := by omega
    subst hkK
    have HBB : Hid (b = St (decL k')) := HBD'.out
    clear hm hkk HKK hnbr HDEC HHAS HK0 HKN
    go_wp2_with (go_at_call 157; (with_reducible refine HHW.out.mono ?_); rintro e w9 ⟨rfl, hb3⟩; have NB3 : Hid (NB w9 r F cF free k') := block_up hb3 HNBR.out; have e3 : w9.cell? ⟨r, 1, none⟩ = some (.int .i64 k') := block_cell NB3.out 1; have f3 := block_free NB3.out 1; have l3 := lt_of_block NB3.out; have HG3 := Lib.hid (grow_up2 HGR.out hb3); have X3 := Lib.hid (block_up hb3 XR.out); have R3 := Lib.hid (block_up hb3 RR.out); clear hb3)
    have NB9 : Hid (NB (w9.setCell ⟨r, 1, none⟩ (.int .i64 ((k' : Int) + 1))) r F cF free (k' + 1)) := NB3.out.next.1
    have HG9 : Hid (w.grownBy (w9.setCell ⟨r, 1, none⟩ (.int .i64 ((k' : Int) + 1))).drew (some r)) := grow_up2 (grow_grow HG3.out NB3.out.next.2 (.inl rfl)) (up_drew (Below.refl _ _))
    have HG9' : Hid (w.grownBy (w9.setCell ⟨r, 1, none⟩ (.int .i64 ((k' : Int) + 1))) (some r)) := grow_grow HG3.out NB3.out.next.2 (.inl rfl)
    have X9 : Hid ((w9.setCell ⟨r, 1, none⟩ (.int .i64 ((k' : Int) + 1))).heap[w.heap.size]? = some (.cells #[.string (St []), .slice (some ⟨bl, o, none⟩) 3 c'] 59 (0, 0))) := (NB3.out.next.2.block w.heap.size (lt_of_block X3.out) (by simp; omega)).trans X3.out
    have R9 : Hid ((w9.setCell ⟨r, 1, none⟩ (.int .i64 ((k' : Int) + 1))).heap[w.heap.size + 1]? = some (.cells #[.string (St []), .slice none 0 0] 59 (0, 0))) := (NB3.out.next.2.block (w.heap.size + 1) (lt_of_block R3.out) (by simp; omega)).trans R3.out
    have s9 : (w9.setCell ⟨r, 1, none⟩ (.int .i64 ((k' : Int) + 1))).cell? ⟨w.heap.size, 1, none⟩ = some (.slice (some ⟨bl, o, none⟩) 3 c') /\ (w9.setCell ⟨r, 1, none⟩ (.int .i64 ((k' : Int) + 1))).cell? ⟨bl, o + 2, none⟩ = some (.string (St x)) /\ (w9.setCell ⟨r, 1, none⟩ (.int .i64 ((k' : Int) + 1))).cell? ⟨bl, o + 3, none⟩ = some (.slice A2 n2 cc2) /\ (w9.setCell ⟨r, 1, none⟩ (.int .i64 ((k' : Int) + 1))).cell? ⟨bl, o + 4, none⟩ = some (.string (St xb)) /\ (w9.setCell ⟨r, 1, none⟩ (.int .i64 ((k' : Int) + 1))).cell? ⟨bl, o + 5, none⟩ = some (.slice A4 n4 c4) := ⟨block_cell X9.out 1, (HC.out _ HG9'.out).1, (HC.out _ HG9'.out).2.1, (HC.out _ HG9'.out).2.2.1, (HC.out _ HG9'.out).2.2.2.1⟩
    go_region_held3 (fun w' => w'.cell? ⟨w.heap.size, 1, none⟩ = some (.slice (some ⟨bl, o, none⟩) 3 c') /\ w'.cell? ⟨bl, o + 2, none⟩ = some (.string (St x)) /\ w'.cell? ⟨bl, o + 3, none⟩ = some (.slice A2 n2 cc2) /\ w'.cell? ⟨bl, o + 4, none⟩ = some (.string (St xb)) /\ w'.cell? ⟨bl, o + 5, none⟩ = some (.slice A4 n4 c4))
     (first | exact s7 | exact s6 | exact s5 | exact ⟨cell_up (up1 w5 (.cells #[.string (⟨#[116]⟩ ++ b), .slice none 0 0, .string x5, .slice B5 m5 q5] 59)) s5.1, cell_up (up1 w5 (.cells #[.string (⟨#[116]⟩ ++ b), .slice none 0 0, .string x5, .slice B5 m5 q5] 59)) s5.2.1, cell_up (up1 w5 (.cells #[.string (⟨#[116]⟩ ++ b), .slice none 0 0, .string x5, .slice B5 m5 q5] 59)) s5.2.2.1, cell_up (up1 w5 (.cells #[.string (⟨#[116]⟩ ++ b), .slice none 0 0, .string x5, .slice B5 m5 q5] 59)) s5.2.2.2.1, cell_up (up1 w5 (.cells #[.string (⟨#[116]⟩ ++ b), .slice none 0 0, .string x5, .slice B5 m5 q5] 59)) s5.2.2.2.2⟩ | exact s11 | exact s10 | exact s9 | go_keep)
     (first
    | (go_at_call 158; first
     | ((with_reducible refine (HWB.out _ b HG10.out HBB.out).mono ?_); rintro e w11 ⟨hb11, g4, c4', rfl, hf4⟩; have X11 := Lib.hid (block_up hb11 X10.out); have R11 := Lib.hid (block_up hb11 R10.out); have HG11 := Lib.hid (grow_up2 HG10.out hb11); have NB11 : Hid (NB w11 r F cF free (k' + 1)) := block_up hb11 NB10.out; have HF4 := Lib.hid hf4; have HF3' := Lib.hid (HF3.out.up hb11); have s11 : w11.cell? ⟨w.heap.size, 1, none⟩ = some (.slice (some ⟨bl, o, none⟩) 3 c') /\ w11.cell? ⟨bl, o + 2, none⟩ = some (.string (St x)) /\ w11.cell? ⟨bl, o + 3, none⟩ = some (.slice A2 n2 cc2) /\ w11.cell? ⟨bl, o + 4, none⟩ = some (.string (St xb)) /\ w11.cell? ⟨bl, o + 5, none⟩ = some (.slice A4 n4 c4) := ⟨block_cell X11.out 1, (HC.out _ HG11.out).1, (HC.out _ HG11.out).2.1, (HC.out _ HG11.out).2.2.1, (HC.out _ HG11.out).2.2.2.1⟩; have TB11 := (HC.out _ HG11.out).2.2.2.2.2; clear hb11 hf4)
     | ((with_reducible refine (HWA.out _ HG9.out).mono ?_); rintro e w10 ⟨hb10, g3, c3', rfl, hf3⟩; have X10 : Hid (w10.heap[w.heap.size]? = some (.cells #[.string (St []), .slice (some ⟨bl, o, none⟩) 3 c'] 59 (0, 0))) := block_up hb10 X9.out; have R10 : Hid (w10.heap[w.heap.size + 1]? = some (.cells #[.string (St []), .slice none 0 0] 59 (0, 0))) := block_up hb10 R9.out; have HG10 := Lib.hid (grow_up2 HG9.out hb10); have NB10 : Hid (NB w10 r F cF free (k' + 1)) := block_up hb10 NB9.out; have HF3 := Lib.hid hf3; have s10 : w10.cell? ⟨w.heap.size, 1, none⟩ = some (.slice (some ⟨bl, o, none⟩) 3 c') /\ w10.cell? ⟨bl, o + 2, none⟩ = some (.string (St x)) /\ w10.cell? ⟨bl, o + 3, none⟩ = some (.slice A2 n2 cc2) /\ w10.cell? ⟨bl, o + 4, none⟩ = some (.string (St xb)) /\ w10.cell? ⟨bl, o + 5, none⟩ = some (.slice A4 n4 c4) := ⟨block_cell X10.out 1, (HC.out _ HG10.out).1, (HC.out _ HG10.out).2.1, (HC.out _ HG10.out).2.2.1, (HC.out _ HG10.out).2.2.2.1⟩; clear hb10 hf3))
    | (go_at_call 173; (with_reducible refine (HIH.out _ _ _ _ _ _ HG11.out NB11.out HF3'.out HF4.out TB11.out).mono ?_); rintro e w5 ⟨x5, B5, m5, q5, rfl, ht5, hnb5, hg5⟩; have HG5 := Lib.hid (grow_grow HG11.out hg5 (.inl rfl)); have X5 := Lib.hid ((hg5.block w.heap.size (lt_of_block X11.out) (by simp; omega)).trans X11.out); have R5 := Lib.hid ((hg5.block (w.heap.size + 1) (lt_of_block R11.out) (by simp; omega)).trans R11.out); have HT5 : Hid (TAt w5 (fun k => w.heap.size + 1 < k) a'.toTr (.agg #[.string x5, .slice B5 m5 q5])) := ht5.move (fun k hk ho => ⟨by (have ho2 : w11.heap.size <= k := ho); (have := lt_of_block R11.out); show w.heap.size + 1 < k; omega, rfl⟩); have HNB5 := Lib.hid hnb5; have HS5 : Hid (w.heap.size + 1 < w5.heap.size) := lt_of_block R5.out; have s5 : w5.cell? ⟨w.heap.size, 1, none⟩ = some (.slice (some ⟨bl, o, none⟩) 3 c') /\ w5.cell? ⟨bl, o + 2, none⟩ = some (.string (St x)) /\ w5.cell? ⟨bl, o + 3, none⟩ = some (.slice A2 n2 cc2) /\ w5.cell? ⟨bl, o + 4, none⟩ = some (.string (St xb)) /\ w5.cell? ⟨bl, o + 5, none⟩ = some (.slice A4 n4 c4) := ⟨block_cell X5.out 1, (HC.out _ HG5.out).1, (HC.out _ HG5.out).2.1, (HC.out _ HG5.out).2.2.1, (HC.out _ HG5.out).2.2.2.1⟩; clear ht5 hnb5 hg5)
    | (go_at_call 71; (with_reducible refine (HLS.out w5 b HBB.out x5 B5 m5 q5 (fun k => w.heap.size + 1 < k) HT5.out).mono ?_); rintro e w6 ⟨⟨x6, B6, m6, q6, rfl, ht6⟩, hb6⟩; have X6 := Lib.hid (block_up hb6 X5.out); have R6 := Lib.hid (block_up hb6 R5.out); have HG6 := Lib.hid (grow_up2 HG5.out hb6); have NB6 : Hid (NB w6 r F cF free ka) := block_up hb6 HNB5.out; have rc0 : w6.cell? ⟨w.heap.size + 1, 0, none⟩ = some (.string (St [])) := block_cell R6.out 0; have rc1 : w6.cell? ⟨w.heap.size + 1, 1, none⟩ = some (.slice none 0 0) := block_cell R6.out 1; have fr0 := block_free R6.out 0; have fr1 := block_free R6.out 1; have lr6 := lt_of_block R6.out; have s6 : w6.cell? ⟨w.heap.size, 1, none⟩ = some (.slice (some ⟨bl, o, none⟩) 3 c') /\ w6.cell? ⟨bl, o + 2, none⟩ = some (.string (St x)) /\ w6.cell? ⟨bl, o + 3, none⟩ = some (.slice A2 n2 cc2) /\ w6.cell? ⟨bl, o + 4, none⟩ = some (.string (St xb)) /\ w6.cell? ⟨bl, o + 5, none⟩ = some (.slice A4 n4 c4) := ⟨block_cell X6.out 1, (HC.out _ HG6.out).1, (HC.out _ HG6.out).2.1, (HC.out _ HG6.out).2.2.1, (HC.out _ HG6.out).2.2.2.1⟩; have HG7 : Hid (w.grownBy ((w6.setCell ⟨w.heap.size + 1, 0, none⟩ (.string x6)).setCell ⟨w.heap.size + 1, 1, none⟩ (.slice B6 m6 q6)) (some r)) := grow_set (grow_set HG6.out (Nat.le_succ _)) (Nat.le_succ _); have X7 : Hid (((w6.setCell ⟨w.heap.size + 1, 0, none⟩ (.string x6)).setCell ⟨w.heap.size + 1, 1, none⟩ (.slice B6 m6 q6)).heap[w.heap.size]? = some (.cells #[.string (St []), .slice (some ⟨bl, o, none⟩) 3 c'] 59 (0, 0))) := (set2_block w6 _ _ (by omega)).trans X6.out; have s7 : ((w6.setCell ⟨w.heap.size + 1, 0, none⟩ (.string x6)).setCell ⟨w.heap.size + 1, 1, none⟩ (.slice B6 m6 q6)).cell? ⟨w.heap.size, 1, none⟩ = some (.slice (some ⟨bl, o, none⟩) 3 c') /\ ((w6.setCell ⟨w.heap.size + 1, 0, none⟩ (.string x6)).setCell ⟨w.heap.size + 1, 1, none⟩ (.slice B6 m6 q6)).cell? ⟨bl, o + 2, none⟩ = some (.string (St x)) /\ ((w6.setCell ⟨w.heap.size + 1, 0, none⟩ (.string x6)).setCell ⟨w.heap.size + 1, 1, none⟩ (.slice B6 m6 q6)).cell? ⟨bl, o + 3, none⟩ = some (.slice A2 n2 cc2) /\ ((w6.setCell ⟨w.heap.size + 1, 0, none⟩ (.string x6)).setCell ⟨w.heap.size + 1, 1, none⟩ (.slice B6 m6 q6)).cell? ⟨bl, o + 4, none⟩ = some (.string (St xb)) /\ ((w6.setCell ⟨w.heap.size + 1, 0, none⟩ (.string x6)).setCell ⟨w.heap.size + 1, 1, none⟩ (.slice B6 m6 q6)).cell? ⟨bl, o + 5, none⟩ = some (.slice A4 n4 c4) := ⟨block_cell X7.out 1, (HC.out _ HG7.out).1, (HC.out _ HG7.out).2.1, (HC.out _ HG7.out).2.2.1, (HC.out _ HG7.out).2.2.2.1⟩; have HFIN : Hid (RPost w r F cF free (f2, ka) (.returned (.agg #[.string x6, .slice B6 m6 q6])) ((w6.setCell ⟨w.heap.size + 1, 0, none⟩ (.string x6)).setCell ⟨w.heap.size + 1, 1, none⟩ (.slice B6 m6 q6))) := ⟨x6, B6, m6, q6, rfl, ht6.move (fun k hk ho => ⟨by (have ho2 : w5.heap.size < k \/ w.heap.size + 1 < k := ho); have := HS5.out; show w.heap.size <= k; omega, set2_block w6 _ _ (show k ≠ w.heap.size + 1 by (have ho2 : w5.heap.size < k \/ w.heap.size + 1 < k := ho); have := HS5.out; omega)⟩), (set2_block w6 _ _ (show r ≠ w.heap.size + 1 by omega)).trans NB6.out, HG7.out⟩; clear ht6 hb6))
    all_goals go_wp2
    all_goals refine bodyPost_ret (v := .agg #[.string x6, .slice B6 m6 q6]) (by simp [results, Tryz.results173, go_sem, rc0, rc1, lr6]) rfl ?_
    all_goals exact HFIN.out
end Go.Proofs.YtpokompplapkhaaGreatDoor
namespace Go.Proofs.YtpokompplapkhaaGreatDoor
set_option maxHeartbeats 8000000
set_option maxRecDepth 100000
open Go.RowKit
set_option linter.unusedVariables false
set_option linter.unusedSimpArgs false
theorem rename_leaf (free : List (List UInt8)) (f2 : NT) (s : List UInt8) (hs : s ≠ []) (env : List (List UInt8 × List UInt8)) (hf : f2.toTr = .mk (sub s env) []) (v : Value) (w : World) (A : Option Addr) (c : Nat) (B : Option Addr) (d : Nat) (r : Nat) (F : Option Addr) (cF k : Nat) (okT : Nat -> Prop)
 (hp : TAt w okT (.mk s []) v) (hA : SFar w A r (env.reverse.map (·.1))) (hB : SFar w B r (env.reverse.map (·.2))) (hNB : NB w r F cF free k) (hl : env.length <= 100000) :
 Calls Tryz.prog 173 #[v, .slice A env.length c, .slice B env.length d, .pointer (some ⟨r, 0, none⟩)] w (RPost w r F cF free (f2, k)) := by
 refine (l1Rename_atom s hs env v w A c B d _ ⟨okT, hp⟩ hA.cells hB.cells hl).mono ?_
 rintro e w' ⟨⟨A', c', he⟩, hb⟩
 exact ⟨St (sub s env), A', 0, c', he, by rw [hf]; exact ⟨A', c', rfl, Nat.zero_le _, .nil _⟩, block_up hb hNB, below_grow hb⟩
theorem not_fst {env : List (List UInt8 × List UInt8)} {s : List UInt8} (henv : ∀ p ∈ env, p.1 ≠ s) : s ∉ env.map (·.1) := fun hm => by
 obtain ⟨p, hp, rfl⟩ := List.mem_map.1 hm
 exact henv p hp rfl
theorem l1Rename_any (free : List (List UInt8)) (hfree : free.length <= 1000) : ∀ (n : NT), n.ok3 -> LRn free n
 | .zero, _ => fun v w A c B d env r F cF k okT hp hok hA hB hNB hF henv h1 h2 =>
  rename_leaf free .zero [48] (by simp) env (by rw [sub_none (not_fst fun p hp => (henv p hp).1)]; rfl) v w A c B d r F cF k okT hp hA hB hNB (by omega)
 | .one, _ => fun v w A c B d env r F cF k okT hp hok hA hB hNB hF henv h1 h2 =>
  rename_leaf free .one [49] (by simp) env (by rw [sub_none (not_fst fun p hp => (henv p hp).2)]; rfl) v w A c B d r F cF k okT hp hA hB hNB (by omega)
 | .name s, h => fun v w A c B d env r F cF k okT hp hok hA hB hNB hF henv h1 h2 =>
  rename_leaf free (.name (sub s env)) s h.1 env rfl v w A c B d r F cF k okT hp hA hB hNB (by omega)
 | .sum a b, h => fun v w A c B d env r F cF k okT hp hok hA hB hNB hF henv h1 h2 => by
  simp only [NT.atoms, Nat.add_mul] at h1 h2
  have hle := ren_le free a env k
  exact l1Rename_two free [43] (by decide) a b (.sum (a.ren free env k).1 (b.ren free env (a.ren free env k).2).1) (a.ren free env k).2 (b.ren free env (a.ren free env k).2).2 _ _ rfl v w A c B d env.length r F cF okT hp hok (lt_of_block hNB)
   (fun w1 v hg hb ht => l1Rename_any free hfree a h.1 v w1 A c B d env r F cF k okT ht hok (hA.up hb) (hB.up hb) (block_up hb hNB) (hF.up hb) henv (by omega) (by omega))
   (fun w1 v hg hnb ht => l1Rename_any free hfree b h.2 v w1 A c B d env r F cF _ okT ht hok (hA.grown hg (.inl rfl)) (hB.grown hg (.inl rfl)) hnb (hF.grown hg (.inl rfl)) henv (by omega) (by omega))
 | .prod a b, h => fun v w A c B d env r F cF k okT hp hok hA hB hNB hF henv h1 h2 => by
  simp only [NT.atoms, Nat.add_mul] at h1 h2
  have hle := ren_le free a env k
  exact l1Rename_two free [42] (by decide) a b (.prod (a.ren free env k).1 (b.ren free env (a.ren free env k).2).1) (a.ren free env k).2 (b.ren free env (a.ren free env k).2).2 _ _ rfl v w A c B d env.length r F cF okT hp hok (lt_of_block hNB)
   (fun w1 v hg hb ht => l1Rename_any free hfree a h.1 v w1 A c B d env r F cF k okT ht hok (hA.up hb) (hB.up hb) (block_up hb hNB) (hF.up hb) henv (by omega) (by omega))
   (fun w1 v hg hnb ht => l1Rename_any free hfree b h.2 v w1 A c B d env r F cF _ okT ht hok (hA.grown hg (.inl rfl)) (hB.grown hg (.inl rfl)) hnb (hF.grown hg (.inl rfl)) henv (by omega) (by omega))
 | .loop s a, h => fun v w A c B d env r F cF k okT hp hok hA hB hNB hF henv h1 h2 => by
  simp only [NT.atoms, Nat.add_mul] at h1 h2
  have hle := fresh_le free free.length k
  have hfr : freshN free k <= k + free.length := hle.2
  exact l1Rename_rec free s a (.loop (tN (freshN free k)) (a.ren free ((s, tN (freshN free k)) :: env) (freshN free k + 1)).1) k (freshN free k) (a.ren free ((s, tN (freshN free k)) :: env) (freshN free k + 1)).2 _ rfl rfl v w A c B d env.length (env.reverse.map (·.1)) (env.reverse.map (·.2)) (by simp) (by simp) (by omega) r F cF okT hp hok hA hB hF (by omega) hNB (by omega)
   (fun w1 v A1 c1 B1 d1 hg hnb hA1 hB1 ht => l1Rename_any free hfree a h.2 v w1 A1 c1 B1 d1 ((s, tN (freshN free k)) :: env) r F cF (freshN free k + 1) okT ht hok (by simpa using hA1) (by simpa using hB1) hnb (hF.grown hg (.inl rfl))
    (by intro p hp; rcases List.mem_cons.1 hp with rfl | hp; exact ⟨h.1.1.2.1, h.1.1.2.2.1⟩; exact henv p hp) (by simp only [List.length_cons]; omega) (by omega))
def NT.apart (n : NT) : NT := (n.ren n.names [] 0).1
def Oth (w : World) (b : Option Addr) (us : List NT) : Prop := us = [] \/ ∃ g o, b = some ⟨g, o, none⟩ /\ ∀ i u, us[i]? = some u -> ∃ x A n c, w.cell? ⟨g, o + i * 2, none⟩ = some (.string x) /\ w.cell? ⟨g, o + i * 2 + 1, none⟩ = some (.slice A n c) /\ TAt w (fun _ => True) u.toTr (.agg #[.string x, .slice A n c])
theorem Oth.up {w w1 : World} {b : Option Addr} {us : List NT} (h : Oth w b us) (hb : Below w.heap.size w w1) : Oth w1 b us := by
 rcases h with h | ⟨g, o, rfl, h⟩
 · exact .inl h
 · refine .inr ⟨g, o, rfl, fun i u hu => ?_⟩
   obtain ⟨x, A, n, c, h1, h2, h3⟩ := h i u hu
   exact ⟨x, A, n, c, cell_up hb h1, cell_up hb h2, h3.up hb⟩
def frees (us : List NT) : List (List UInt8) := us.flatMap NT.names
theorem frees_len : ∀ (us : List NT), (∀ u ∈ us, u.atoms <= 400) -> (frees us).length <= 400 * us.length
 | [], _ => by simp [frees]
 | u :: us, h => by
  have h1 := frees_len us fun v hv => h v (by simp [hv])
  have h2 := names_len u
  have h3 := h u (by simp)
  simp only [frees, List.flatMap_cons, List.length_append, List.length_cons] at *
  omega
theorem frees_take {us : List NT} {j : Nat} {u : NT} (h : us[j]? = some u) : frees (us.take (j + 1)) = frees (us.take j) ++ u.names := by
 simp [frees, List.take_add_one, h]
theorem l1Apart_with (n : NT) (us : List NT) (hok : n.ok3) (hat : n.atoms <= 400) (hus : ∀ u ∈ us, u.ok3 /\ u.atoms <= 400) (hul : us.length <= 10) (hfr : (frees us).length <= 500) (v : Value) (b : Option Addr) (w : World) (okT : Nat -> Prop) (c : Nat) (hp : TAt w okT n.toTr v) (ho : Oth w b us) :
 Calls Tryz.prog 139 #[v, .slice b us.length c] w fun e w' => (∃ x A n' c, e = .returned (.agg #[.string x, .slice A n' c]) /\ TAt w' (fun k => w.heap.size <= k) (n.ren (n.names ++ frees us) [] 0).1.toTr (.agg #[.string x, .slice A n' c])) /\ Below w.heap.size w w' := by
 obtain ⟨i0, hi0, hz0, hz1, hz2⟩ := info_parts Tryz.infoStr
 obtain ⟨x, A, n', c', rfl⟩ := hp.form
 have hnl := names_len n
 have HF : Hid (Calls Tryz.prog 103 #[.agg #[.string x, .slice A n' c'], .slice (some ⟨w.heap.size + 2, 0, none⟩) 0 0, .slice (some ⟨w.heap.size + 3, 0, none⟩) 0 0] ((((w.alloc (.cells #[.string x, .slice A n' c'] 59)).alloc (.cells #[.string (St []), .slice none 0 0] 59)).alloc (.cells #[] 9)).alloc (.cells #[] 9)) fun e w2 => ∃ g c3, e = .returned (.slice (some ⟨g, 0, none⟩) n.names.length c3) /\ SOwn w2 (w.heap.size + 2) n.names g c3 /\ Below (w.heap.size + 2) ((w.alloc (.cells #[.string x, .slice A n' c'] 59)).alloc (.cells #[.string (St []), .slice none 0 0] 59)) w2) := by
  have e1 : (w.alloc (.cells #[.string x, .slice A n' c'] 59)).heap.size + 2 = w.heap.size + 3 := by simp
  have ho := own_new2 (w.alloc (.cells #[.string x, .slice A n' c'] 59)) (.cells #[.string (St []), .slice none 0 0] 59) (w.heap.size + 2) (by simp)
  rw [e1] at ho
  have ht := ((((hp.up (up1 w (.cells #[.string x, .slice A n' c'] 59))).up (up1 _ (.cells #[.string (St []), .slice none 0 0] 59))).up (up1 _ (.cells #[] 9))).up (up1 _ (.cells #[] 9))).weak (ok' := fun _ => True) (fun _ _ => trivial)
  refine (l1Free_any3 n hok _ _ (some ⟨w.heap.size + 2, 0, none⟩) 0 [] (w.heap.size + 2) (w.heap.size + 3) 0 [] ht (.inl rfl) ho (by simp) (by simp; omega) (by simp; omega)).mono ?_
  rintro e w2 ⟨g, c3, he, ho2, hg, _⟩
  refine ⟨g, c3, he, ho2, ?_⟩
  have hb0 : Below (w.heap.size + 2) ((w.alloc (.cells #[.string x, .slice A n' c'] 59)).alloc (.cells #[.string (St []), .slice none 0 0] 59)) ((((w.alloc (.cells #[.string x, .slice A n' c'] 59)).alloc (.cells #[.string (St []), .slice none 0 0] 59)).alloc (.cells #[] 9)).alloc (.cells #[] 9)) := ((Below.refl _ _).alloc (by simp) _).alloc (by simp) _
  have := hb0.grown hg (by simp) (fun k hk => by cases hk; omega)
  exact this
 have HFO : Hid (∀ j u, us[j]? = some u -> ∀ w1 : World, Below w.heap.size w w1 -> ∃ g o x A n c, b = some ⟨g, o, none⟩ /\ w1.cell? ⟨g, o + j * 2, none⟩ = some (.string x) /\ w1.cell? ⟨g, o + j * 2 + 1, none⟩ = some (.slice A n c) /\ Hid (Calls Tryz.prog 103 #[.agg #[.string x, .slice A n c], .slice (some ⟨w1.heap.size, 0, none⟩) 0 0, .slice (some ⟨w1.heap.size + 1, 0, none⟩) 0 0] ((w1.alloc (.cells #[] 9)).alloc (.cells #[] 9)) fun e w2 => ∃ g c3, e = .returned (.slice (some ⟨g, 0, none⟩) u.names.length c3) /\ SOwn w2 w1.heap.size u.names g c3 /\ Below w1.heap.size w1 w2)) := fun j u hu w1 hb => by
  rcases ho with rfl | ⟨g, o, rfl, hcells⟩
  · simp at hu
  obtain ⟨x, A, n, c, h1, h2, h3⟩ := hcells j u hu
  have hm := List.mem_of_getElem? hu
  refine ⟨g, o, x, A, n, c, rfl, cell_up hb h1, cell_up hb h2, ?_⟩
  have hown : SOwn ((w1.alloc (.cells #[] 9)).alloc (.cells #[] 9)) w1.heap.size [] (w1.heap.size + 1) 0 := own_nilH (w1.alloc (.cells #[] 9)) w1.heap.size (by simp) 9 (w1.heap.size + 1) (by simp)
  have hat2 := (hus u hm).2
  refine (l1Free_any3 u (hus u hm).1 _ _ (some ⟨w1.heap.size, 0, none⟩) 0 [] w1.heap.size (w1.heap.size + 1) 0 [] (((h3.up hb).up (up1 w1 _)).up (up1 _ _)) (.inl rfl) hown (by simp; omega) (by simp; omega) (by simp; omega)).mono ?_
  rintro e w2 ⟨g, c3, he, ho2, hg, _⟩
  refine ⟨g, c3, he, ho2, ?_⟩
  have hb0 : Below w1.heap.size w1 ((w1.alloc (.cells #[] 9)).alloc (.cells #[] 9)) := up_alloc (up1 w1 _) _
  exact hb0.grown hg (by simp; omega) (fun k hk => by cases hk; omega)
 have HR : Hid (∀ (w1 : World) (fs : List (List UInt8)) g c3, fs = n.names ++ frees us -> TAt w1 (fun k => k < w1.heap.size) n.toTr (.agg #[.string x, .slice A n' c']) -> SOwn w1 (w.heap.size + 2) fs g c3 -> Calls Tryz.prog 173 #[.agg #[.string x, .slice A n' c'], .slice (some ⟨w1.heap.size, 0, none⟩) 0 0, .slice (some ⟨w1.heap.size + 1, 0, none⟩) 0 0, .pointer (some ⟨w1.heap.size + 2, 0, none⟩)] (((w1.alloc (.cells #[] 9)).alloc (.cells #[] 9)).alloc (.cells #[.slice (some ⟨g, 0, none⟩) fs.length c3, .int .i64 0] 206)) fun e w2 => ∃ x A n' c, e = .returned (.agg #[.string x, .slice A n' c]) /\ TAt w2 (fun k => w1.heap.size <= k) (n.ren (n.names ++ frees us) [] 0).1.toTr (.agg #[.string x, .slice A n' c]) /\ Below w1.heap.size w1 w2) := fun w1 fs g c3 hfs ht ho => by
  have hfl : fs.length <= 900 := by rw [hfs, List.length_append]; omega
  rw [<- hfs]
  have e3 : ((w1.alloc (.cells #[] 9)).alloc (.cells #[] 9)).heap.size = w1.heap.size + 2 := by simp
  have hnb : NB (((w1.alloc (.cells #[] 9)).alloc (.cells #[] 9)).alloc (.cells #[.slice (some ⟨g, 0, none⟩) fs.length c3, .int .i64 0] 206)) (w1.heap.size + 2) (some ⟨g, 0, none⟩) c3 fs 0 := by
   have := block_new ((w1.alloc (.cells #[] 9)).alloc (.cells #[] 9)) (.cells #[.slice (some ⟨g, 0, none⟩) fs.length c3, .int .i64 0] 206)
   rw [e3] at this
   exact this
  have hb3 : Below w1.heap.size w1 (((w1.alloc (.cells #[] 9)).alloc (.cells #[] 9)).alloc (.cells #[.slice (some ⟨g, 0, none⟩) fs.length c3, .int .i64 0] 206)) := up_alloc (up_alloc (up1 w1 _) _) _
  have hsf : SFar (((w1.alloc (.cells #[] 9)).alloc (.cells #[] 9)).alloc (.cells #[.slice (some ⟨g, 0, none⟩) fs.length c3, .int .i64 0] 206)) (some ⟨g, 0, none⟩) (w1.heap.size + 2) fs := by
   have hl := ho.lt
   rcases (ho.up hb3).reads with h0 | ⟨g', o', he', hcell⟩
   · exact .inl h0
   · cases he'
     exact .inr ⟨g, 0, rfl, by omega, by have := hb3.size; omega, hcell⟩
  have ht' : TAt (((w1.alloc (.cells #[] 9)).alloc (.cells #[] 9)).alloc (.cells #[.slice (some ⟨g, 0, none⟩) fs.length c3, .int .i64 0] 206)) (fun k => k < w1.heap.size) n.toTr (.agg #[.string x, .slice A n' c']) := ht.up hb3
  refine (l1Rename_any fs (by omega) n hok _ _ (some ⟨w1.heap.size, 0, none⟩) 0 (some ⟨w1.heap.size + 1, 0, none⟩) 0 [] (w1.heap.size + 2) (some ⟨g, 0, none⟩) c3 0 (fun k => k < w1.heap.size) ht' (fun j hj => by omega) (.inl rfl) (.inl rfl) hnb hsf (by simp) (by simp; omega) (by
   have h1 : n.atoms * (fs.length + 1) <= 400 * 901 := Nat.mul_le_mul hat (by omega)
   omega)).mono ?_
  rintro e w2 ⟨x2, A2, n2, c2, he, ht2, _, hg⟩
  refine ⟨x2, A2, n2, c2, he, ht2.move fun k hk ho => ⟨?_, rfl⟩, hb3.grown hg hb3.size (fun k hk => by cases hk; omega)⟩
  have : w1.heap.size + 3 <= k := by simpa using ho
  omega
 have HTA : Hid (TAt w (fun k => k < w.heap.size) n.toTr (.agg #[.string x, .slice A n' c'])) := hp.move fun k hk _ => ⟨hk, rfl⟩
 have HR2 : Hid (∀ (w1 : World) (fs : List (List UInt8)) g c3, Hid (fs = n.names ++ frees us) -> Below w.heap.size w w1 -> SOwn w1 (w.heap.size + 2) fs g c3 -> Calls Tryz.prog 173 #[.agg #[.string x, .slice A n' c'], .slice (some ⟨w1.heap.size, 0, none⟩) 0 0, .slice (some ⟨w1.heap.size + 1, 0, none⟩) 0 0, .pointer (some ⟨w1.heap.size + 1 + 1, 0, none⟩)] (((w1.alloc (.cells #[] 9)).alloc (.cells #[] 9)).alloc (.cells #[.slice (some ⟨g, 0, none⟩) fs.length c3, .int .i64 0] 206)) fun e w2 => ∃ x A n' c, e = .returned (.agg #[.string x, .slice A n' c]) /\ TAt w2 (fun k => w1.heap.size <= k) (n.ren (n.names ++ frees us) [] 0).1.toTr (.agg #[.string x, .slice A n' c]) /\ Below w1.heap.size w1 w2) := fun w1 fs g c3 hfs hb ho => HR.out w1 fs g c3 hfs.out (HTA.out.move fun k hk _ => ⟨Nat.lt_of_lt_of_le hk hb.size, hb.block k hk⟩) ho
 have HNXT : Hid (∀ j u, us[j]? = some u -> (n.names ++ frees (us.take j)) ++ u.names = n.names ++ frees (us.take (j + 1)) /\ (n.names ++ frees (us.take j)).length <= 100000 /\ u.names.length <= 400) := fun j u hu => by
  refine ⟨by rw [frees_take hu, List.append_assoc], ?_, ?_⟩
  · have h1 := frees_len (us.take j) fun v hv => (hus v (List.mem_of_mem_take hv)).2
    rw [List.length_append]
    have h2 : (us.take j).length <= us.length := by rw [List.length_take]; omega
    omega
  · have := names_len u
    have := (hus u (List.mem_of_getElem? hu)).2
    omega
 have HALL : Hid (frees (us.take us.length) = frees us) := congrArg frees List.take_length
 clear hp hok hat hnl HR hus hfr ho
 generalize (n.ren (n.names ++ frees us) [] 0).1.toTr = tr at *
 obtain ⟨k, hk⟩ : ∃ k, k = us.length := ⟨_, rfl⟩
 rw [<- hk] at hul ⊢
 have HK := Lib.hid hk
 clear hk
 obtain ⟨nm0, hnm0⟩ : ∃ nm0, nm0 = n.names := ⟨_, rfl⟩
 rw [<- hnm0] at HF HNXT HR2
 clear hnm0
 go_enter Tryz.func139, Tryz.ntmps139
 go_wp2_with (go_at_call 103; (with_reducible refine HF.out.mono ?_); rintro e w1 ⟨g, c3, rfl, ho, hb1⟩; have X1 : Hid (w1.heap[w.heap.size]? = some (.cells #[.string x, .slice A n' c'] 59 (0, 0))) := (hb1.block _ (by omega)).trans (old2 w _ _); have R1 : Hid (w1.heap[w.heap.size + 1]? = some (.cells #[.string (St []), .slice none 0 0] 59 (0, 0))) := (hb1.block _ (by omega)).trans (new2 w _ _); have HB1 : Hid (Below w.heap.size w w1) := Below.trans (up_alloc (up1 w _) _) (hb1.mono (by omega)); have HO := Lib.hid ho; clear hb1 ho)
 go_loopg [5, 6] k (fun m v5 v6 wr => ∃ (j : Nat) (ls : List (List UInt8)) (g c3 : Nat), v5 = .slice (some ⟨g, 0, none⟩) ls.length c3 /\ v6 = .int .i64 j /\ Hid (m + j = k /\ ls = nm0 ++ frees (us.take j)) /\ Hid (SOwn wr (w.heap.size + 2) ls g c3) /\ Hid (Below w.heap.size w wr) /\ Hid (wr.heap[w.heap.size]? = some (.cells #[.string x, .slice A n' c'] 59 (0, 0))) /\ Hid (wr.heap[w.heap.size + 1]? = some (.cells #[.string (St []), .slice none 0 0] 59 (0, 0))))
 case atStart => exact ⟨0, nm0, g, c3, rfl, rfl, ⟨rfl, by simp [frees]⟩, HO, HB1, X1, R1⟩
 case round =>
  clear HB1 X1 R1 HO
  obtain ⟨j, ls, g, c3, rfl, rfl, HJ, HO, HB1, X1, R1⟩ := hrel
  obtain ⟨hjk, hls⟩ := HJ.out
  have e0 : wr.cell? ⟨w.heap.size, 0, none⟩ = some (.string x) := block_cell X1.out 0
  have e1 : wr.cell? ⟨w.heap.size, 1, none⟩ = some (.slice A n' c') := block_cell X1.out 1
  have lw1 := lt_of_block R1.out
  cases gk with
  | zero =>
   have h1 : decide (j < k) = false := decide_eq_false (by omega)
   have HLS : Hid (ls = nm0 ++ frees us) := by
    show _ = _
    rw [hls]
    have hj0 : j = us.length := by have := HK.out; omega
    rw [hj0, HALL.out]
   clear hls HJ hjk HNXT
   go_wp2_with (go_at_call 173; (with_reducible refine (HR2.out _ _ _ _ HLS HB1.out HO.out).mono ?_); rintro e w2 ⟨x2, A2, n2, c2, rfl, ht2, hb2⟩; have HT2 := Lib.hid ht2; have HB2 := Lib.hid (up_trans HB1.out hb2); have g0 := block_up hb2 R1.out; have c0 : w2.cell? ⟨w.heap.size + 1, 0, none⟩ = some (.string (St [])) := block_cell g0 0; have c1 : w2.cell? ⟨w.heap.size + 1, 1, none⟩ = some (.slice none 0 0) := block_cell g0 1; have f0 := block_free g0 0; have f1 := block_free g0 1; have l0 := lt_of_block g0; clear ht2 hb2 g0)
   refine bodyPost_ret (v := .agg #[.string x2, .slice A2 n2 c2]) (by simp [results, Tryz.results139, go_sem, c0, c1, l0]) rfl ?_
   refine ⟨⟨_, _, _, _, rfl, HT2.out.move fun k hk ho => ⟨?_, ?_⟩⟩, set0 (set0 HB2.out (Nat.le_succ _)) (Nat.le_succ _)⟩
   · have ho2 : wr.heap.size <= k := ho
     show w.heap.size <= k
     omega
   · have ho2 : wr.heap.size <= k := ho
     exact set2_block w2 _ _ (show k ≠ w.heap.size + 1 by omega)
  | succ m =>
   have h1 : decide (j < k) = true := decide_eq_true (by omega)
   have hjk2 : j < k := by omega
   obtain ⟨u, hu⟩ : ∃ u, us[j]? = some u := ⟨_, List.getElem?_eq_getElem (by have := HK.out; omega)⟩
   obtain ⟨bg, bo, xu, Au, nu, cu, rfl, d0, d1, HFU⟩ := HFO.out j u hu wr HB1.out
   obtain ⟨q1, q2, q3⟩ := HNXT.out j u hu
   have HJ2 : Hid (m + (j + 1) = k /\ ls ++ u.names = nm0 ++ frees (us.take (j + 1))) := ⟨by omega, by rw [hls]; exact q1⟩
   have HLB : Hid (ls.length + u.names.length <= 1000000) := by
    show _ <= _
    rw [hls]
    omega
   have HRW : Hid (∀ w2 g2 c4, SOwn w2 wr.heap.size u.names g2 c4 -> RCells w2 (some ⟨g2, 0, none⟩) (strs u.names)) := fun w2 g2 c4 h => h.reads.row
   have HONE : Hid (∀ v ∈ strs u.names, v.oneCell' = true) := strs_one _ []
   have HLEN : Hid ((strs u.names).length = u.names.length) := by show _ = _; simp [strs]
   clear hls HJ hjk HNXT hu q1 q2 q3 HFO HR2 HALL
   generalize u.names = un at *
   go_wp2_with (first
    | (go_at_call 103; (with_reducible refine HFU.out.mono ?_); rintro e w2 ⟨g2, c4, rfl, ho2, hb2⟩; have HO2 := Lib.hid ho2; have HO' := Lib.hid (HO.out.up hb2); have HB2 := Lib.hid (up_trans HB1.out hb2); have X2 := Lib.hid (block_up hb2 X1.out); have R2 := Lib.hid (block_up hb2 R1.out); clear ho2 hb2)
    | (at_builtin; refine wpList_append_row _ rfl _ _ 38 rfl (w.heap.size + 2) 9 i0 (.string ⟨#[]⟩) 16 Tryz.underlying38 hi0 hz0 hz1 hz2 rfl g ls.length c3 (strs ls) rfl HO'.out (some ⟨g2, 0, none⟩) un.length c4 (strs un) rfl HLEN.out (HRW.out _ _ _ HO2.out) HONE.out (by have := HLB.out; omega) (by decide) (by have := lt_of_block R2.out; omega) (ls ++ un).length (by simp) (strs ls ++ strs un) rfl ?_; intro g3 c5 w3 hown hgrow hbel hat; have HO3 : Hid (SOwn w3 (w.heap.size + 2) (ls ++ un) g3 c5) := SOwn.of hown rfl rfl; have HB3 : Hid (Below w.heap.size w w3) := Below.trans HB2.out (hbel.mono (by omega)); have X3 : Hid (w3.heap[w.heap.size]? = some (.cells #[.string x, .slice A n' c'] 59 (0, 0))) := (hbel.block _ (by omega)).trans X2.out; have R3 : Hid (w3.heap[w.heap.size + 1]? = some (.cells #[.string (St []), .slice none 0 0] 59 (0, 0))) := (hbel.block _ (by omega)).trans R2.out; clear hown hgrow hbel hat))
   go_roundg m
   case measure => omega
   case rel => exact ⟨j + 1, ls ++ un, g3, c5, by simp, rfl, HJ2, HO3, HB3, X3, R3⟩
theorem l1Apart_any (n : NT) (hok : n.ok) (hat : n.atoms <= 400) (v : Value) (w : World) (okT : Nat -> Prop) (c : Nat) (hp : TAt w okT n.toTr v) :
 Calls Tryz.prog 139 #[v, .slice none 0 c] w fun e w' => (∃ x A n' c, e = .returned (.agg #[.string x, .slice A n' c]) /\ TAt w' (fun k => w.heap.size <= k) n.apart.toTr (.agg #[.string x, .slice A n' c])) /\ Below w.heap.size w w' := by
 have := l1Apart_with n [] (ok_ok3 hok) hat (by simp) (by simp) (by simp [frees]) v none w okT c hp (.inl rfl)
 simp only [frees, List.flatMap_nil, List.append_nil] at this
 exact this
end Go.Proofs.YtpokompplapkhaaGreatDoor

