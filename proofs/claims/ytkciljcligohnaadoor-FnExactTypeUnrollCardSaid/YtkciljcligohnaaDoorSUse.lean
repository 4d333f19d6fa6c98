/- The reference's l1Uses and DerivPlaces. -/
import Derived.Test.YtkciljcligohnaaDoorSTy3
import Derived.Test.YtkciljcligohnaaDoorDP
import Derived.Deep.RegionHeld3
namespace Go.Proofs.YtkciljcligohnaaDoor
open Go.RowKit
set_option linter.unusedVariables false
set_option linter.unusedSimpArgs false

def LU (nm : List UInt8) (t : Tr) (m : Nat) : Prop := ∀ (v : Value) (w : World), TAt w (fun _ => True) t v → Calls Tryd.prog 84 #[v, .string (St nm)] w fun e w' => e = .returned (.int .i64 m) ∧ Below w.heap.size w w'

set_option maxHeartbeats 2000000 in
set_option maxRecDepth 100000 in
theorem l1Uses_leaf (nm s : List UInt8) (hs : s ≠ []) (ps : List Tr) : LU nm (.mk s ps) (if s = nm then 1 else 0) := by
  intro v w hp
  obtain ⟨A, c, rfl, _⟩ := TAt.parts hp
  have k0 := St_ne hs
  clear hp
  by_cases h : s = nm
  · have q : (s == nm) = true := by rw [h]; simp
    rw [if_pos h]
    clear h
    go_enter Tryd.func84, Tryd.ntmps84
    go_wp2
    go_ret
    exact ⟨rfl, up1 w _⟩
  · have q : (s == nm) = false := St_ne h
    rw [if_neg h]
    clear h
    go_enter Tryd.func84, Tryd.ntmps84
    go_wp2
    go_ret
    exact ⟨rfl, up1 w _⟩

/-- What the three parts of a list give: the cells, and the trees, in whatever world follows. -/
theorem three_cells {w : World} {h : List UInt8} {q : List Tr} {a b : Tr} {v : Value} (hp : TAt w (fun _ => True) (.mk [] [.mk h q, a, b]) v) :
    ∃ bl o c, v = .agg #[.string (St []), .slice (some ⟨bl, o, none⟩) 3 c] ∧ ∃ A2 n2 c2 A4 n4 c4, Hid (∀ w1, Below w.heap.size w w1 → w1.cell? ⟨bl, o + 2, none⟩ = some (.string (St a.atom)) ∧ w1.cell? ⟨bl, o + 3, none⟩ = some (.slice A2 n2 c2) ∧ w1.cell? ⟨bl, o + 4, none⟩ = some (.string (St b.atom)) ∧ w1.cell? ⟨bl, o + 5, none⟩ = some (.slice A4 n4 c4) ∧
      Hid (TAt w1 (fun _ => True) a (.agg #[.string (St a.atom), .slice A2 n2 c2])) ∧ Hid (TAt w1 (fun _ => True) b (.agg #[.string (St b.atom), .slice A4 n4 c4]))) ∧
      Hid (∀ w1, Below w.heap.size w w1 → Calls Tryd.prog 55 #[.agg #[.string (St []), .slice (some ⟨bl, o, none⟩) 3 c]] w1 fun e w' => e = .returned (.string (St h)) ∧ Below w1.heap.size w1 w') := by
  have hh : ∀ w1, Below w.heap.size w w1 → Calls Tryd.prog 55 #[v] w1 fun e w' => e = .returned (.string (St h)) ∧ Below w1.heap.size w1 w' := fun w1 (hb : Below w.heap.size w w1) => l1Head_any _ v w1 (hp.up hb)
  obtain ⟨A, c, rfl, hr⟩ := hp.parts
  obtain ⟨bl, o, A', c', rfl, _, _, _, _, hr⟩ := hr.uncons
  obtain ⟨A2, n2, c2, d2, d3, ha, hr⟩ := hr.at3
  obtain ⟨A4, n4, c4, d4, d5, hb, _⟩ := hr.at3
  exact ⟨bl, o, c, rfl, A2, n2, c2, A4, n4, c4, fun w1 hb' => ⟨cell_up hb' d2, cell_up hb' d3, cell_up hb' d4, cell_up hb' d5, ha.up hb', hb.up hb'⟩, hh⟩

set_option maxHeartbeats 4000000 in
set_option maxRecDepth 100000 in
theorem l1Uses_rec (nm : List UInt8) (q : List Tr) (a b : Tr) (m : Nat) (ih : LU nm b m) : LU nm (.mk [] [.mk [114, 101, 99] q, a, b]) (if a.atom = nm then 0 else m) := by
  intro v w hp
  obtain ⟨bl, o, c, rfl, A2, n2, c2, A4, n4, c4, HC, HH⟩ := three_cells hp
  have IH := Lib.hid ih
  clear hp ih
  generalize a.atom = x at *
  by_cases h : x = nm
  · have k : (x == nm) = true := by rw [h]; simp
    rw [if_pos h]
    clear h
    go_enter Tryd.func84, Tryd.ntmps84
    go_wp2_with (go_at_call 55; refine (HH.out _ (up1 w _)).mono ?_; rintro e w1 ⟨rfl, hb1⟩; have g0 : w1.heap[w.heap.size]? = some (.cells #[.string (St []), .slice (some ⟨bl, o, none⟩) 3 c] 43 (0, 0)) := block_up hb1 (block_new w _); have e0 : w1.cell? ⟨w.heap.size, 0, none⟩ = some (.string (St [])) := block_cell g0 0; have e1 : w1.cell? ⟨w.heap.size, 1, none⟩ = some (.slice (some ⟨bl, o, none⟩) 3 c) := block_cell g0 1; obtain ⟨d2, d3, d4, d5, _, _⟩ := HC.out w1 (up_trans (up1 w _) hb1); have HB1 := Lib.hid (up_trans (up1 w _) hb1); clear hb1 g0)
    go_ret
    exact ⟨rfl, HB1.out⟩
  · have k : (x == nm) = false := St_ne h
    rw [if_neg h]
    clear h
    go_enter Tryd.func84, Tryd.ntmps84
    go_wp2_with (first
      | (go_at_call 55; refine (HH.out _ (up1 w _)).mono ?_; rintro e w1 ⟨rfl, hb1⟩; have g0 : w1.heap[w.heap.size]? = some (.cells #[.string (St []), .slice (some ⟨bl, o, none⟩) 3 c] 43 (0, 0)) := block_up hb1 (block_new w _); have e0 : w1.cell? ⟨w.heap.size, 0, none⟩ = some (.string (St [])) := block_cell g0 0; have e1 : w1.cell? ⟨w.heap.size, 1, none⟩ = some (.slice (some ⟨bl, o, none⟩) 3 c) := block_cell g0 1; obtain ⟨d2, d3, d4, d5, _, hb'⟩ := HC.out w1 (up_trans (up1 w _) hb1); have HB1 := Lib.hid (up_trans (up1 w _) hb1); clear hb1 g0)
      | (go_at_call 84; refine (IH.out _ _ hb'.out).mono ?_; rintro e w2 ⟨rfl, hb2⟩; have HB2 := Lib.hid (up_trans HB1.out hb2); clear hb2))
    go_ret
    exact ⟨rfl, HB2.out⟩

set_option maxHeartbeats 8000000 in
set_option maxRecDepth 100000 in
theorem l1Uses_two (nm h : List UInt8) (hne : h ≠ [114, 101, 99]) (q : List Tr) (a b : Tr) (ma mb : Nat) (hma : ma ≤ 1000000) (hmb : mb ≤ 1000000) (iha : LU nm a ma) (ihb : LU nm b mb) : LU nm (.mk [] [.mk h q, a, b]) (ma + mb) := by
  intro v w hp
  obtain ⟨bl, o, c, rfl, A2, n2, c2, A4, n4, c4, HC, HH⟩ := three_cells hp
  have IHA : Hid (∀ (v : Value) (w : World), TAt w (fun _ => True) a v → Calls Tryd.prog 84 #[v, .string (St nm)] w fun e w' => e = .returned (.int .i64 ma) ∧ Below w.heap.size w w') := iha
  have IHB : Hid (∀ (v : Value) (w : World), TAt w (fun _ => True) b v → Calls Tryd.prog 84 #[v, .string (St nm)] w fun e w' => e = .returned (.int .i64 mb) ∧ Below w.heap.size w w') := ihb
  have k : (h == [114, 101, 99]) = false := St_ne hne
  have hw : IntKind.i64.wrap ((ma : Int) + (mb : Int)) = ((ma + mb : Nat) : Int) := by
    rw [IntKind.wrap_i64]
    omega
  have HW := Lib.hid hw
  clear hp iha ihb hne hw
  generalize a.atom = x at *
  generalize b.atom = y at *
  go_enter Tryd.func84, Tryd.ntmps84
  go_wp2_with (go_at_call 55; refine (HH.out _ (up1 w _)).mono ?_; rintro e w1 ⟨rfl, hb1⟩; have G0 := Lib.hid (block_up hb1 (block_new w (.cells #[.string (St []), .slice (some ⟨bl, o, none⟩) 3 c] 43))); have e1 : w1.cell? ⟨w.heap.size, 1, none⟩ = some (.slice (some ⟨bl, o, none⟩) 3 c) := block_cell G0.out 1; obtain ⟨d2, d3, d4, d5, HA1, HB1'⟩ := HC.out w1 (up_trans (up1 w _) hb1); have HB1 := Lib.hid (up_trans (up1 w _) hb1); clear hb1)
  go_region_held3 (fun w' => w'.cell? ⟨w.heap.size, 1, none⟩ = some (.slice (some ⟨bl, o, none⟩) 3 c) ∧ w'.cell? ⟨bl, o + 2, none⟩ = some (.string (St x)) ∧ w'.cell? ⟨bl, o + 3, none⟩ = some (.slice A2 n2 c2) ∧ w'.cell? ⟨bl, o + 4, none⟩ = some (.string (St y)) ∧ w'.cell? ⟨bl, o + 5, none⟩ = some (.slice A4 n4 c4) ∧ Hid (Below w1.heap.size w1 w'))
    (first | exact ⟨t1, t2, t3, t4, t5, HBT⟩ | exact ⟨s1, s2, s3, s4, s5, HBS⟩ | exact ⟨e1, d2, d3, d4, d5, up_drew (Below.refl _ _)⟩ | exact ⟨e1, d2, d3, d4, d5, Below.refl _ _⟩ | go_keep)
    (first
      | (go_at_call 84; first
          | ((with_reducible refine (IHB.out _ _ (TAt.up HBS.out HB1'.out)).mono ?_); rintro e w3 ⟨rfl, hb3⟩; have HBT : Hid (Below w1.heap.size w1 w3) := up_trans HBS.out hb3; have t1 := cell_up HBT.out e1; have t2 := cell_up HBT.out d2; have t3 := cell_up HBT.out d3; have t4 := cell_up HBT.out d4; have t5 := cell_up HBT.out d5; clear hb3)
          | ((with_reducible refine (IHA.out _ _ (TAt.up (up_drew (Below.refl _ _)) HA1.out)).mono ?_); rintro e w2 ⟨rfl, hb2⟩; have HBS : Hid (Below w1.heap.size w1 w2) := up_trans (up_drew (Below.refl _ w1)) hb2; have s1 := cell_up HBS.out e1; have s2 := cell_up HBS.out d2; have s3 := cell_up HBS.out d3; have s4 := cell_up HBS.out d4; have s5 := cell_up HBS.out d5; clear hb2)))
  all_goals go_wp2
  all_goals go_ret
  all_goals exact ⟨congrArg (fun z => Ending.returned (.int .i64 z)) HW.out, up_trans HB1.out HBT.out⟩

theorem uses_atoms (nm : List UInt8) : ∀ (n : NT), n.uses nm ≤ n.atoms
  | .zero => by simp [NT.uses]
  | .one => by simp [NT.uses]
  | .name s => by simp only [NT.uses, NT.atoms]; split <;> omega
  | .sum a b => by have := uses_atoms nm a; have := uses_atoms nm b; simp only [NT.uses, NT.atoms]; omega
  | .prod a b => by have := uses_atoms nm a; have := uses_atoms nm b; simp only [NT.uses, NT.atoms]; omega
  | .loop s a => by have := uses_atoms nm a; simp only [NT.uses, NT.atoms]; split <;> omega
theorem l1Uses_any2 (nm : List UInt8) (hp : nm ≠ [48] ∧ nm ≠ [49]) : ∀ (n : NT), n.ok → n.atoms ≤ 100000 → LU nm n.toTr (n.uses nm)
  | .zero, _, _ => by
    have := l1Uses_leaf nm [48] (by simp) []
    rw [if_neg (fun h => hp.1 h.symm)] at this
    exact this
  | .one, _, _ => by
    have := l1Uses_leaf nm [49] (by simp) []
    rw [if_neg (fun h => hp.2 h.symm)] at this
    exact this
  | .name s, h, _ => l1Uses_leaf nm s (NT.name_nil h) []
  | .sum a b, h, hn => by
    simp only [NT.atoms] at hn
    exact l1Uses_two nm _ (by decide) _ _ _ _ _ (by have := uses_atoms nm a; omega) (by have := uses_atoms nm b; omega) (l1Uses_any2 nm hp a h.1 (by omega)) (l1Uses_any2 nm hp b h.2 (by omega))
  | .prod a b, h, hn => by
    simp only [NT.atoms] at hn
    exact l1Uses_two nm _ (by decide) _ _ _ _ _ (by have := uses_atoms nm a; omega) (by have := uses_atoms nm b; omega) (l1Uses_any2 nm hp a h.1 (by omega)) (l1Uses_any2 nm hp b h.2 (by omega))
  | .loop s a, h, hn => by
    simp only [NT.atoms] at hn
    exact l1Uses_rec nm _ _ _ _ (l1Uses_any2 nm hp a h.2 (by omega))
theorem l1Uses_any (nm : List UInt8) (hp : paramB nm = true) (n : NT) (h : n.ok) (hn : n.atoms ≤ 100000) : LU nm n.toTr (n.uses nm) := l1Uses_any2 nm (name_ne (.inl hp)) n h hn


end Go.Proofs.YtkciljcligohnaaDoor
