/- The reference's l1Fits, l1Canon. -/
import Derived.Test.YtkciljcligohnaaDoorSub
import Derived.Test.YtkciljcligohnaaDoorSUse
import Derived.Test.YtkciljcligohnaaDoorSText
namespace Go.Proofs.YtkciljcligohnaaDoor
open Go.RowKit
set_option linter.unusedVariables false
set_option linter.unusedSimpArgs false

theorem l1Atoms_any3 : ∀ (n : NT), n.ok3 → n.atoms ≤ 100000 → LA n.toTr n.atoms
  | .zero, _, _ => l1Atoms_leaf _ (by simp) []
  | .one, _, _ => l1Atoms_leaf _ (by simp) []
  | .name s, h, _ => l1Atoms_leaf s h.1 []
  | .sum a b, h, hn => by
    simp only [NT.atoms] at hn ⊢
    exact l1Atoms_three _ _ _ 1 a.atoms b.atoms (by omega) (by omega) (by omega) (l1Atoms_leaf _ (by simp) []) (l1Atoms_any3 a h.1 (by omega)) (l1Atoms_any3 b h.2 (by omega))
  | .prod a b, h, hn => by
    simp only [NT.atoms] at hn ⊢
    exact l1Atoms_three _ _ _ 1 a.atoms b.atoms (by omega) (by omega) (by omega) (l1Atoms_leaf _ (by simp) []) (l1Atoms_any3 a h.1 (by omega)) (l1Atoms_any3 b h.2 (by omega))
  | .loop s a, h, hn => by
    simp only [NT.atoms] at hn ⊢
    exact l1Atoms_three _ _ _ 1 1 a.atoms (by omega) (by omega) (by omega) (l1Atoms_leaf _ (by simp) []) (l1Atoms_leaf s h.1.1.1 []) (l1Atoms_any3 a h.2 (by omega))
theorem l1Uses_any3 (nm : List UInt8) (hp : nm ≠ [48] ∧ nm ≠ [49]) : ∀ (n : NT), n.ok3 → n.atoms ≤ 100000 → LU nm n.toTr (n.uses nm)
  | .zero, _, _ => by
    have := l1Uses_leaf nm [48] (by simp) []
    rw [if_neg (fun h => hp.1 h.symm)] at this
    exact this
  | .one, _, _ => by
    have := l1Uses_leaf nm [49] (by simp) []
    rw [if_neg (fun h => hp.2 h.symm)] at this
    exact this
  | .name s, h, _ => l1Uses_leaf nm s h.1 []
  | .sum a b, h, hn => by
    simp only [NT.atoms] at hn
    exact l1Uses_two nm _ (by decide) _ _ _ _ _ (by have := uses_atoms nm a; omega) (by have := uses_atoms nm b; omega) (l1Uses_any3 nm hp a h.1 (by omega)) (l1Uses_any3 nm hp b h.2 (by omega))
  | .prod a b, h, hn => by
    simp only [NT.atoms] at hn
    exact l1Uses_two nm _ (by decide) _ _ _ _ _ (by have := uses_atoms nm a; omega) (by have := uses_atoms nm b; omega) (l1Uses_any3 nm hp a h.1 (by omega)) (l1Uses_any3 nm hp b h.2 (by omega))
  | .loop s a, h, hn => by
    simp only [NT.atoms] at hn
    exact l1Uses_rec nm _ _ _ _ (l1Uses_any3 nm hp a h.2 (by omega))

set_option maxHeartbeats 8000000 in
set_option maxRecDepth 100000 in
theorem l1Fits_any (nm : List UInt8) (hnm : nm ≠ [48] ∧ nm ≠ [49]) (u n : NT) (hn : n.ok3) (hna : n.atoms ≤ 400) (hu3 : u.ok3) (hua : u.atoms ≤ 400) (v vu : Value) (w : World) (hp : TAt w (fun _ => True) n.toTr v) (hu : TAt w (fun _ => True) u.toTr vu) :
    Calls Tryd.prog 50 #[v, .string (St nm), vu] w fun e w' => e = .returned (.bool (fitsN nm u n)) ∧ Below w.heap.size w w' := by
  obtain ⟨x, A, n', c, rfl⟩ := hp.form
  obtain ⟨y, By, ny, cy, rfl⟩ := hu.form
  have HNA : Hid (∀ w1 : World, Below w.heap.size w w1 → Calls Tryd.prog 77 #[.agg #[.string x, .slice A n' c]] w1 fun e w' => e = .returned (.int .i64 n.atoms) ∧ Below w1.heap.size w1 w') := fun w1 hb => l1Atoms_any3 n hn (by omega) _ w1 (hp.up hb)
  have HNAd : Hid (∀ w1 : World, Below w.heap.size w w1 → Calls Tryd.prog 77 #[.agg #[.string x, .slice A n' c]] w1.drew fun e w' => e = .returned (.int .i64 n.atoms) ∧ Below w1.drew.heap.size w1.drew w') := fun w1 hb => HNA.out _ (up_drew hb)
  have HUA : Hid (∀ w1 : World, Below w.heap.size w w1 → Calls Tryd.prog 77 #[.agg #[.string y, .slice By ny cy]] w1 fun e w' => e = .returned (.int .i64 u.atoms) ∧ Below w1.heap.size w1 w') := fun w1 hb => l1Atoms_any3 u hu3 (by omega) _ w1 (hu.up hb)
  have HUAd : Hid (∀ w1 : World, Below w.heap.size w w1 → Calls Tryd.prog 77 #[.agg #[.string y, .slice By ny cy]] w1.drew fun e w' => e = .returned (.int .i64 u.atoms) ∧ Below w1.drew.heap.size w1.drew w') := fun w1 hb => HUA.out _ (up_drew hb)
  have HUS : Hid (∀ w1 : World, Below w.heap.size w w1 → Calls Tryd.prog 84 #[.agg #[.string x, .slice A n' c], .string (St nm)] w1 fun e w' => e = .returned (.int .i64 (n.uses nm)) ∧ Below w1.heap.size w1 w') := fun w1 hb => l1Uses_any3 nm hnm n hn (by omega) _ w1 (hp.up hb)
  have HUSd : Hid (∀ w1 : World, Below w.heap.size w w1 → Calls Tryd.prog 84 #[.agg #[.string x, .slice A n' c], .string (St nm)] w1.drew fun e w' => e = .returned (.int .i64 (n.uses nm)) ∧ Below w1.drew.heap.size w1.drew w') := fun w1 hb => HUS.out _ (up_drew hb)
  have hm : n.uses nm ≤ 400 := Nat.le_trans (uses_atoms nm n) hna
  have hup := atoms_pos u
  obtain ⟨res, hres⟩ : ∃ res, res = fitsN nm u n := ⟨_, rfl⟩
  rw [← hres]
  rw [fitsN] at hres
  generalize n.atoms = a at *
  generalize u.atoms = b at *
  generalize n.uses nm = m at *
  have hmb : (m : Int) * ((b : Int) - 1) = ((m * (b - 1) : Nat) : Int) := by
    rw [Int.natCast_mul, Int.natCast_sub hup]
    rfl
  have hmx : m * (b - 1) ≤ 400 * 399 := Nat.mul_le_mul hm (by omega)
  have hw1 : IntKind.i64.wrap ((b : Int) - 1) = (b : Int) - 1 := by rw [IntKind.wrap_i64]; omega
  have hw2 : IntKind.i64.wrap ((m : Int) * ((b : Int) - 1)) = (m : Int) * ((b : Int) - 1) := by rw [IntKind.wrap_i64, hmb]; omega
  have hw3 : IntKind.i64.wrap ((a : Int) + (m : Int) * ((b : Int) - 1)) = (a : Int) + (m : Int) * ((b : Int) - 1) := by rw [IntKind.wrap_i64, hmb]; omega
  have HRES : Hid (decide (IntKind.i64.wrap ((a : Int) + IntKind.i64.wrap ((m : Int) * IntKind.i64.wrap ((b : Int) - 1))) ≤ 400) = res) := by
    rw [hw1, hw2, hw3]
    exact hres.symm
  clear hp hu hn hna hu3 hua hnm hm hup hres hmb hmx hw1 hw2 hw3
  have X1 : Hid (((w.alloc (.cells #[.string x, .slice A n' c] 43)).alloc (.cells #[.string y, .slice By ny cy] 43)).heap[w.heap.size]? = some (.cells #[.string x, .slice A n' c] 43 (0, 0))) := old2 w _ _
  have Y1 : Hid (((w.alloc (.cells #[.string x, .slice A n' c] 43)).alloc (.cells #[.string y, .slice By ny cy] 43)).heap[w.heap.size + 1]? = some (.cells #[.string y, .slice By ny cy] 43 (0, 0))) := new2 w _ _
  have s1 : ((w.alloc (.cells #[.string x, .slice A n' c] 43)).alloc (.cells #[.string y, .slice By ny cy] 43)).cell? ⟨w.heap.size, 0, none⟩ = some (.string x) ∧ ((w.alloc (.cells #[.string x, .slice A n' c] 43)).alloc (.cells #[.string y, .slice By ny cy] 43)).cell? ⟨w.heap.size, 1, none⟩ = some (.slice A n' c) ∧ ((w.alloc (.cells #[.string x, .slice A n' c] 43)).alloc (.cells #[.string y, .slice By ny cy] 43)).cell? ⟨w.heap.size + 1, 0, none⟩ = some (.string y) ∧ ((w.alloc (.cells #[.string x, .slice A n' c] 43)).alloc (.cells #[.string y, .slice By ny cy] 43)).cell? ⟨w.heap.size + 1, 1, none⟩ = some (.slice By ny cy) := ⟨block_cell X1.out 0, block_cell X1.out 1, block_cell Y1.out 0, block_cell Y1.out 1⟩
  have HBK : Hid (Below w.heap.size w ((w.alloc (.cells #[.string x, .slice A n' c] 43)).alloc (.cells #[.string y, .slice By ny cy] 43))) := up_alloc (up1 w _) _
  go_enter Tryd.func50, Tryd.ntmps50
  go_wp2
  go_region_held3 (fun w' => w'.cell? ⟨w.heap.size, 0, none⟩ = some (.string x) ∧ w'.cell? ⟨w.heap.size, 1, none⟩ = some (.slice A n' c) ∧ w'.cell? ⟨w.heap.size + 1, 0, none⟩ = some (.string y) ∧ w'.cell? ⟨w.heap.size + 1, 1, none⟩ = some (.slice By ny cy))
    (first | exact s1 | go_keep)
    (first
      | (go_at_call 84; (first | (with_reducible refine (HUS.out _ HBK.out).mono ?_) | (with_reducible refine (HUSd.out _ HBK.out).mono ?_)); rintro e w5 ⟨rfl, hb5⟩; have X1 := Lib.hid (block_up hb5 X1.out); have Y1 := Lib.hid (block_up hb5 Y1.out); have HBK : Hid (Below w.heap.size w w5) := (by first | exact up_trans HBK.out hb5 | exact up_trans (up_drew HBK.out) hb5); have s1 : w5.cell? ⟨w.heap.size, 0, none⟩ = some (.string x) ∧ w5.cell? ⟨w.heap.size, 1, none⟩ = some (.slice A n' c) ∧ w5.cell? ⟨w.heap.size + 1, 0, none⟩ = some (.string y) ∧ w5.cell? ⟨w.heap.size + 1, 1, none⟩ = some (.slice By ny cy) := ⟨block_cell X1.out 0, block_cell X1.out 1, block_cell Y1.out 0, block_cell Y1.out 1⟩; clear hb5)
      | (go_at_call 77; (first | (with_reducible refine (HNA.out _ HBK.out).mono ?_) | (with_reducible refine (HNAd.out _ HBK.out).mono ?_)); rintro e w5 ⟨rfl, hb5⟩; have X1 := Lib.hid (block_up hb5 X1.out); have Y1 := Lib.hid (block_up hb5 Y1.out); have HBK : Hid (Below w.heap.size w w5) := (by first | exact up_trans HBK.out hb5 | exact up_trans (up_drew HBK.out) hb5); have s1 : w5.cell? ⟨w.heap.size, 0, none⟩ = some (.string x) ∧ w5.cell? ⟨w.heap.size, 1, none⟩ = some (.slice A n' c) ∧ w5.cell? ⟨w.heap.size + 1, 0, none⟩ = some (.string y) ∧ w5.cell? ⟨w.heap.size + 1, 1, none⟩ = some (.slice By ny cy) := ⟨block_cell X1.out 0, block_cell X1.out 1, block_cell Y1.out 0, block_cell Y1.out 1⟩; clear hb5)
      | (go_at_call 77; (first | (with_reducible refine (HUA.out _ HBK.out).mono ?_) | (with_reducible refine (HUAd.out _ HBK.out).mono ?_)); rintro e w5 ⟨rfl, hb5⟩; have X1 := Lib.hid (block_up hb5 X1.out); have Y1 := Lib.hid (block_up hb5 Y1.out); have HBK : Hid (Below w.heap.size w w5) := (by first | exact up_trans HBK.out hb5 | exact up_trans (up_drew HBK.out) hb5); have s1 : w5.cell? ⟨w.heap.size, 0, none⟩ = some (.string x) ∧ w5.cell? ⟨w.heap.size, 1, none⟩ = some (.slice A n' c) ∧ w5.cell? ⟨w.heap.size + 1, 0, none⟩ = some (.string y) ∧ w5.cell? ⟨w.heap.size + 1, 1, none⟩ = some (.slice By ny cy) := ⟨block_cell X1.out 0, block_cell X1.out 1, block_cell Y1.out 0, block_cell Y1.out 1⟩; clear hb5))
  all_goals go_wp2
  all_goals go_ret
  all_goals exact ⟨congrArg (fun z => Ending.returned (.bool z)) HRES.out, HBK.out⟩

/-- A text and whether there is one. -/
def outOf : Option (List UInt8) → Value
  | none => .tuple #[.string (St []), .bool false]
  | some s => .tuple #[.string (St s), .bool true]

set_option maxHeartbeats 4000000 in
theorem l1Canon_any (n : NT) (hn : n.ok3) (hna : n.atoms ≤ 100000) (v : Value) (w : World) (hp : TAt w (fun _ => True) n.toTr v) :
    Calls Tryd.prog 45 #[v] w fun e w' => e = .returned (outOf (n.db []).told) ∧ Below w.heap.size w w' := by
  rw [← canonN_told n hn, canonN]
  have HNA : Hid (∀ w1 : World, Below w.heap.size w w1 → Calls Tryd.prog 77 #[v] w1 fun e w' => e = .returned (.int .i64 n.atoms) ∧ Below w1.heap.size w1 w') := fun w1 hb => l1Atoms_any3 n hn (by omega) _ w1 (hp.up hb)
  obtain ⟨x, A, n', c, rfl⟩ := hp.form
  by_cases hb : 400 < n.atoms
  · rw [if_pos hb]
    have h1 : decide ((400 : Int) < n.atoms) = true := decide_eq_true (by omega)
    have h2 : decide ((n.atoms : Int) > 400) = true := decide_eq_true (by omega)
    have h3 : decide (400 < n.atoms) = true := decide_eq_true hb
    clear hp hn
    generalize n.atoms = a at *
    go_enter Tryd.func45, Tryd.ntmps45
    go_wp2_with (go_at_call 77; (refine (HNA.out _ (up1 w _)).mono ?_); rintro e w1 ⟨rfl, hb1⟩; have HB1 := Lib.hid (up_trans (up1 w _) hb1); clear hb1)
    go_ret2
    exact ⟨rfl, HB1.out⟩
  · rw [if_neg hb]
    have h1 : decide ((400 : Int) < n.atoms) = false := decide_eq_false (by omega)
    have h2 : decide ((n.atoms : Int) > 400) = false := decide_eq_false (by omega)
    have h3 : decide (400 < n.atoms) = false := decide_eq_false hb
    have hat : n.apart.ok3 := ren_ok3 n.names n [] 0 hn (by simp) (by
      have h1 : n.atoms * (n.names.length + 1) ≤ 400 * 401 := Nat.mul_le_mul (by omega) (by have := names_len n; omega)
      omega)
    have hlen : n.apart.toTr.txt.length ≤ 1000000 := by
      have h1 := ok3_len hat
      have h2 : n.apart.atoms = n.atoms := ren_atoms n.names n [] 0
      omega
    have HAP : Hid (∀ w1 : World, Below w.heap.size w w1 → Calls Tryd.prog 79 #[.agg #[.string x, .slice A n' c], .slice none 0 0] w1 fun e w' => (∃ x A n' c, e = .returned (.agg #[.string x, .slice A n' c]) ∧ Hid (TAt w' (fun _ => True) n.apart.toTr (.agg #[.string x, .slice A n' c]))) ∧ Below w1.heap.size w1 w') := fun w1 hb => by
      have := l1Apart_with n [] hn (by omega) (by simp) (by simp) (by simp [frees]) _ none w1 _ 0 (hp.up hb) (.inl rfl)
      simp only [frees, List.flatMap_nil, List.append_nil] at this
      refine this.mono ?_
      rintro e w' ⟨⟨x, A, n', c, he, ht⟩, hb⟩
      exact ⟨⟨x, A, n', c, he, ht.weak fun _ _ => trivial⟩, hb⟩
    have HTX : Hid (∀ (v : Value) (w1 : World), Hid (TAt w1 (fun _ => True) n.apart.toTr v) → Calls Tryd.prog 78 #[v] w1 fun e w' => e = .returned (.string (St n.apart.toTr.txt)) ∧ Below w1.heap.size w1 w') := fun v w1 ht =>
      l1Text_any _ n.apart.toTr (Nat.le_refl _) (ok3_wf hat) hlen v w1 ht.out
    have HTV : Hid (∀ w1 : World, Calls Tryd.prog 25 #[.string (St n.apart.toTr.txt)] w1 fun e w' => e = .returned (.bool (rdTy n.apart.toTr.txt).isSome) ∧ Below w1.heap.size w1 w') := fun w1 =>
      specTypeValid_any (St n.apart.toTr.txt) w1 (by show n.apart.toTr.txt.length ≤ _; omega)
    clear hp hn hat hlen
    generalize n.atoms = a at *
    generalize n.apart.toTr.txt = tx at *
    generalize n.apart.toTr = tr at *
    cases ho : rdTy tx with
    | none =>
      rw [if_pos rfl]
      rw [ho] at HTV
      have HTV' : Hid (∀ w1 : World, Calls Tryd.prog 25 #[.string (St tx)] w1 fun e w' => e = .returned (.bool false) ∧ Below w1.heap.size w1 w') := HTV
      clear HTV ho
      go_enter Tryd.func45, Tryd.ntmps45
      go_wp2_with (first
        | (go_at_call 77; (refine (HNA.out _ (up1 w _)).mono ?_); rintro e w1 ⟨rfl, hb1⟩; have HB1 := Lib.hid (up_trans (up1 w _) hb1); have X1 := Lib.hid (block_up hb1 (block_new w (.cells #[.string x, .slice A n' c] 43))); have e0 : w1.cell? ⟨w.heap.size, 0, none⟩ = some (.string x) := block_cell X1.out 0; have e1 : w1.cell? ⟨w.heap.size, 1, none⟩ = some (.slice A n' c) := block_cell X1.out 1; clear hb1)
        | (go_at_call 79; ((with_reducible refine (HAP.out _ HB1.out).mono ?_)); rintro e w2 ⟨⟨x2, A2, m2, c2, rfl, HT⟩, hb2⟩; have HB2 := Lib.hid (up_trans HB1.out hb2); clear hb2)
        | (go_at_call 78; ((with_reducible refine (HTX.out _ _ HT).mono ?_)); rintro e w3 ⟨rfl, hb3⟩; have HB3 := Lib.hid (up_trans HB2.out hb3); clear hb3)
        | (go_at_call 25; ((with_reducible refine (HTV'.out _).mono ?_)); rintro e w4 ⟨rfl, hb4⟩; have HB4 := Lib.hid (up_trans HB3.out hb4); clear hb4))
      go_ret2
      exact ⟨rfl, HB4.out⟩
    | some m =>
      rw [if_neg (by simp)]
      rw [ho] at HTV
      have HTV' : Hid (∀ w1 : World, Calls Tryd.prog 25 #[.string (St tx)] w1 fun e w' => e = .returned (.bool true) ∧ Below w1.heap.size w1 w') := HTV
      clear HTV ho
      go_enter Tryd.func45, Tryd.ntmps45
      go_wp2_with (first
        | (go_at_call 77; (refine (HNA.out _ (up1 w _)).mono ?_); rintro e w1 ⟨rfl, hb1⟩; have HB1 := Lib.hid (up_trans (up1 w _) hb1); have X1 := Lib.hid (block_up hb1 (block_new w (.cells #[.string x, .slice A n' c] 43))); have e0 : w1.cell? ⟨w.heap.size, 0, none⟩ = some (.string x) := block_cell X1.out 0; have e1 : w1.cell? ⟨w.heap.size, 1, none⟩ = some (.slice A n' c) := block_cell X1.out 1; clear hb1)
        | (go_at_call 79; ((with_reducible refine (HAP.out _ HB1.out).mono ?_)); rintro e w2 ⟨⟨x2, A2, m2, c2, rfl, HT⟩, hb2⟩; have HB2 := Lib.hid (up_trans HB1.out hb2); clear hb2)
        | (go_at_call 78; ((with_reducible refine (HTX.out _ _ HT).mono ?_)); rintro e w3 ⟨rfl, hb3⟩; have HB3 := Lib.hid (up_trans HB2.out hb3); clear hb3)
        | (go_at_call 25; ((with_reducible refine (HTV'.out _).mono ?_)); rintro e w4 ⟨rfl, hb4⟩; have HB4 := Lib.hid (up_trans HB3.out hb4); clear hb4))
      go_ret2
      exact ⟨rfl, HB4.out⟩

end Go.Proofs.YtkciljcligohnaaDoor
