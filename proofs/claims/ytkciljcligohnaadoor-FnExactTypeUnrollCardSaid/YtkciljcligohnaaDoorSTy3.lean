/- The reference's types: l1Atoms, l1Type, TypeValid, TypeSize. -/
import Derived.Test.YtkciljcligohnaaDoorSTy2
namespace Go.Proofs.YtkciljcligohnaaDoor
open Go.RowKit
set_option linter.unusedVariables false
set_option linter.unusedSimpArgs false

def LA (t : Tr) (m : Nat) : Prop := ∀ (v : Value) (w : World), TAt w (fun _ => True) t v → Calls Tryd.prog 77 #[v] w fun e w' => e = .returned (.int .i64 m) ∧ Below w.heap.size w w'

set_option maxHeartbeats 2000000 in
set_option maxRecDepth 100000 in
theorem l1Atoms_leaf (s : List UInt8) (hs : s ≠ []) (ps : List Tr) : LA (.mk s ps) 1 := by
  intro v w hp
  obtain ⟨A, c, rfl, _⟩ := TAt.parts hp
  have k0 := St_ne hs
  clear hp
  go_enter Tryd.func77, Tryd.ntmps77
  go_wp2
  go_ret
  exact ⟨rfl, up1 w _⟩

set_option maxHeartbeats 4000000 in
set_option maxRecDepth 100000 in
theorem l1Atoms_three (t0 a a2 : Tr) (m0 ma mb : Nat) (hm0 : m0 ≤ 100000) (hma : ma ≤ 100000) (hmb : mb ≤ 100000) (i0 : LA t0 m0) (ih : LA a ma) (ih2 : LA a2 mb) : LA (.mk [] [t0, a, a2]) (m0 + ma + mb) := by
  intro v w hp
  have I0 := Lib.hid i0
  have IH := Lib.hid ih
  have IH2 := Lib.hid ih2
  obtain ⟨A, c, rfl, hr⟩ := TAt.parts hp
  have hr0 := hr
  obtain ⟨b, o, _, _, rfl, _, _, _, _, _⟩ := (show ∃ b o A' c', A = some ⟨b, o, none⟩ ∧ True ∧ True ∧ True ∧ True ∧ True from by
    obtain ⟨s0, p0⟩ := t0
    obtain ⟨b, o, A', c', h, _⟩ := hr.uncons
    exact ⟨b, o, A', c', h, trivial, trivial, trivial, trivial, trivial⟩)
  obtain ⟨x0, A0, n0, c0, d0, d1, h0, hr⟩ := hr.at2
  obtain ⟨x, A2, n2, c2, d2, d3, ha, hr⟩ := hr.at2
  obtain ⟨x4, A4, n4, c4, d4, d5, hb, _⟩ := hr.at2
  have HC : Hid (∀ w1, Below w.heap.size w w1 → w1.cell? ⟨b, o, none⟩ = some (.string x0) ∧ w1.cell? ⟨b, o + 1, none⟩ = some (.slice A0 n0 c0) ∧ w1.cell? ⟨b, o + 2, none⟩ = some (.string x) ∧ w1.cell? ⟨b, o + 3, none⟩ = some (.slice A2 n2 c2) ∧ w1.cell? ⟨b, o + 4, none⟩ = some (.string x4) ∧ w1.cell? ⟨b, o + 5, none⟩ = some (.slice A4 n4 c4) ∧ Hid (TAt w1 (fun _ => True) t0 (.agg #[.string x0, .slice A0 n0 c0])) ∧ Hid (TAt w1 (fun _ => True) a (.agg #[.string x, .slice A2 n2 c2])) ∧ Hid (TAt w1 (fun _ => True) a2 (.agg #[.string x4, .slice A4 n4 c4]))) := fun w1 hb' => ⟨cell_up hb' d0, cell_up hb' d1, cell_up hb' d2, cell_up hb' d3, cell_up hb' d4, cell_up hb' d5, h0.up hb', ha.up hb', hb.up hb'⟩
  clear hp hr hr0 h0 ha hb i0 ih ih2 d0 d1 d2 d3 d4 d5
  have hlen : ([t0, a, a2] : List Tr).length = 3 := rfl
  rw [hlen]
  clear hlen
  go_enter Tryd.func77, Tryd.ntmps77
  go_wp2
  go_loopw [3, 4] (fun n i wr => ((i = .int .i64 0 ∧ n = .int .i64 0) ∨ (i = .int .i64 1 ∧ n = .int .i64 (m0 : Int)) ∨ (i = .int .i64 2 ∧ n = .int .i64 ((m0 : Int) + (ma : Int))) ∨ (i = .int .i64 3 ∧ n = .int .i64 ((m0 : Int) + (ma : Int) + (mb : Int)))) ∧ Hid (Below w.heap.size w wr) ∧ Hid (wr.heap[w.heap.size]? = some (.cells #[.string (St []), .slice (some ⟨b, o, none⟩) 3 c] 43 (0, 0)))) (fun _ i _ => 3 - (intOf i).toNat)
  case atStart => exact ⟨.inl ⟨rfl, rfl⟩, up1 w _, block_new w _⟩
  case round =>
    obtain ⟨hin, HB, G0⟩ := hrel
    have e0 : wr.cell? ⟨w.heap.size, 0, none⟩ = some (.string (St [])) := block_cell G0.out 0
    have e1 : wr.cell? ⟨w.heap.size, 1, none⟩ = some (.slice (some ⟨b, o, none⟩) 3 c) := block_cell G0.out 1
    obtain ⟨d0, d1, d2, d3, d4, d5, H0, HA, HA2⟩ := HC.out wr HB.out
    rcases hin with ⟨rfl, rfl⟩ | ⟨rfl, rfl⟩ | ⟨rfl, rfl⟩ | ⟨rfl, rfl⟩
    · go_wp2_with (go_at_call 77; refine (I0.out _ _ H0.out).mono ?_; rintro e w2 ⟨rfl, hb2⟩)
      go_roundw
      case rel => exact ⟨.inr (.inl ⟨rfl, by simp⟩), up_trans HB.out hb2, block_up hb2 G0.out⟩
      case measure => simp [intOf]
    · go_wp2_with (go_at_call 77; refine (IH.out _ _ HA.out).mono ?_; rintro e w2 ⟨rfl, hb2⟩)
      go_roundw
      case rel => exact ⟨.inr (.inr (.inl ⟨rfl, rfl⟩)), up_trans HB.out hb2, block_up hb2 G0.out⟩
      case measure => simp [intOf]
    · go_wp2_with (go_at_call 77; refine (IH2.out _ _ HA2.out).mono ?_; rintro e w2 ⟨rfl, hb2⟩)
      go_roundw
      case rel => exact ⟨.inr (.inr (.inr ⟨rfl, rfl⟩)), up_trans HB.out hb2, block_up hb2 G0.out⟩
      case measure => simp [intOf]
    · go_wp2
      go_ret
      exact ⟨congrArg (fun z => Ending.returned (.int .i64 z)) (by omega), HB.out⟩

theorem NT.name_nil {s : List UInt8} (h : paramB s = true ∨ loopB s = true) : s ≠ [] := by rintro rfl; revert h; decide

theorem l1Atoms_any : ∀ (n : NT), n.ok → n.atoms ≤ 100000 → LA n.toTr n.atoms
  | .zero, _, _ => l1Atoms_leaf _ (by simp) []
  | .one, _, _ => l1Atoms_leaf _ (by simp) []
  | .name s, h, _ => l1Atoms_leaf s (NT.name_nil h) []
  | .sum a b, h, hn => by
    simp only [NT.atoms] at hn
    exact l1Atoms_three _ _ _ 1 a.atoms b.atoms (by omega) (by omega) (by omega) (l1Atoms_leaf _ (by simp) []) (l1Atoms_any a h.1 (by omega)) (l1Atoms_any b h.2 (by omega))
  | .prod a b, h, hn => by
    simp only [NT.atoms] at hn
    exact l1Atoms_three _ _ _ 1 a.atoms b.atoms (by omega) (by omega) (by omega) (l1Atoms_leaf _ (by simp) []) (l1Atoms_any a h.1 (by omega)) (l1Atoms_any b h.2 (by omega))
  | .loop s a, h, hn => by
    simp only [NT.atoms] at hn
    exact l1Atoms_three _ _ _ 1 1 a.atoms (by omega) (by omega) (by omega) (l1Atoms_leaf _ (by simp) []) (l1Atoms_leaf s (NT.name_nil (.inr h.1)) []) (l1Atoms_any a h.2 (by omega))

theorem tyOf_atoms : ∀ (t : Tr) (n : NT), tyOf t = some n → OkT t → n.atoms ≤ t.size := by
  intro t n h hok
  obtain ⟨rfl, hn⟩ := tyOf_toTr t n hok h
  clear h hok
  induction n with
  | zero => simp [NT.atoms, NT.toTr, Tr.size, Tr.sizes]
  | one => simp [NT.atoms, NT.toTr, Tr.size, Tr.sizes]
  | name s => simp [NT.atoms, NT.toTr, Tr.size, Tr.sizes]
  | sum a b iha ihb => have := iha hn.1; have := ihb hn.2; simp only [NT.atoms, NT.toTr, Tr.size, Tr.sizes]; omega
  | prod a b iha ihb => have := iha hn.1; have := ihb hn.2; simp only [NT.atoms, NT.toTr, Tr.size, Tr.sizes]; omega
  | loop s a iha => have := iha hn.2; simp only [NT.atoms, NT.toTr, Tr.size, Tr.sizes]; omega

theorem rdTy_some {l : List UInt8} {n : NT} (h : rdTy l = some n) : n.ok ∧ n.atoms ≤ 400 := by
  unfold rdTy at h
  split at h
  · cases h
  · rename_i t ht
    split at h
    · cases h
    · rename_i m hm
      split at h
      · cases h
      · simp at h
        subst h
        exact ⟨(tyOf_toTr _ _ (rdText_ok ht) hm).2, by omega⟩

/-- What l1Type does. -/
def STPost (w : World) (o : Option NT) (e : Ending) (w' : World) : Prop :=
  Below w.heap.size w w' ∧ match o with
    | some v => ∃ x A n c, e = .returned (.tuple #[.agg #[.string x, .slice A n c], .bool true]) ∧ TAt w' (fun k => w.heap.size ≤ k) v.toTr (.agg #[.string x, .slice A n c])
    | none => ∃ x A n c, e = .returned (.tuple #[.agg #[.string x, .slice A n c], .bool false])

set_option maxHeartbeats 4000000 in
set_option maxRecDepth 100000 in
theorem l1Type_none (s : ByteArray) (w : World) (hs : s.size ≤ 9223372036854775807) (h : rdText s.data.toList = none) : Calls Tryd.prog 44 #[.string s] w (STPost w none) := by
  have hc : ∀ w, Calls Tryd.prog 75 #[.string s] w (fun e w' => Below w.heap.size w w' ∧ ∃ x A n c, e = .returned (.tuple #[.agg #[.string x, .slice A n c], .bool false])) := fun w => by
    have := l1Parse_any s w hs
    rw [h] at this
    exact this
  have HCALL := Lib.hid hc
  clear hc hs h
  go_enter Tryd.func44, Tryd.ntmps44
  go_wp2_with (go_at_call 75; refine (HCALL.out _).mono ?_; rintro e w1 ⟨hb1, x, A, n, c, rfl⟩; have g0 : w1.heap[w.heap.size]? = some (.cells #[.string (St []), .slice none 0 0] 43 (0, 0)) := block_up hb1 (block_new w _); have c0 : w1.cell? ⟨w.heap.size, 0, none⟩ = some (.string (St [])) := block_cell g0 0; have c1 : w1.cell? ⟨w.heap.size, 1, none⟩ = some (.slice none 0 0) := block_cell g0 1; have f0 := block_free g0 0; have f1 := block_free g0 1; have l0 := lt_of_block g0; have HB1 := Lib.hid (up_trans (up1 w _) hb1); clear hb1 g0)
  go_region
  go_wp2
  refine bodyPost_ret (v := .tuple #[.agg #[.string x, .slice A n c], .bool false]) (by simp [results, Tryd.results44, go_sem, c0, c1, l0]) rfl ?_
  exact ⟨by repeat (first | exact HB1.out | refine up_drew ?_ | refine up_alloc ?_ _ | refine set0 ?_ (Nat.le_refl _)), _, _, _, _, rfl⟩

set_option maxHeartbeats 4000000 in
set_option maxRecDepth 100000 in
theorem l1Type_some (s : ByteArray) (w : World) (hs : s.size ≤ 9223372036854775807) (t : Tr) (h : rdText s.data.toList = some t) (hv : tyOf t = none) : Calls Tryd.prog 44 #[.string s] w (STPost w none) := by
  have hok := rdText_ok h
  have hc : ∀ w, Calls Tryd.prog 75 #[.string s] w (fun e w' => Below w.heap.size w w' ∧ ∃ x A n c, e = .returned (.tuple #[.agg #[.string x, .slice A n c], .bool true]) ∧ TAt w' (fun _ => True) t (.agg #[.string x, .slice A n c])) := fun w => by
    have := l1Parse_any s w hs
    rw [h] at this
    refine this.mono fun e w' ⟨h1, v, h2, h3⟩ => ?_
    obtain ⟨x, A, n, c, rfl⟩ := h3.form
    exact ⟨h1, x, A, n, c, h2, h3.weak fun _ _ => trivial⟩
  have hsh : ∀ (v : Value) (w : World), TAt w (fun _ => True) t v → Calls Tryd.prog 76 #[v] w fun e w' => e = .returned (.bool false) ∧ Below w.heap.size w w' := fun v w hp => by
    have := l1Is_any t v w hok hp
    rw [hv] at this
    exact this
  have HCALL := Lib.hid hc
  have HSH := Lib.hid hsh
  clear hc hs h hok hv hsh
  go_enter Tryd.func44, Tryd.ntmps44
  go_wp2_with (go_at_call 75; refine (HCALL.out _).mono ?_; rintro e w1 ⟨hb1, x, A, n, c, rfl, hv⟩; have HV := Lib.hid hv; have g0 : w1.heap[w.heap.size]? = some (.cells #[.string (St []), .slice none 0 0] 43 (0, 0)) := block_up hb1 (block_new w _); have c0 : w1.cell? ⟨w.heap.size, 0, none⟩ = some (.string (St [])) := block_cell g0 0; have c1 : w1.cell? ⟨w.heap.size, 1, none⟩ = some (.slice none 0 0) := block_cell g0 1; have f0 := block_free g0 0; have f1 := block_free g0 1; have l0 := lt_of_block g0; have G0 := Lib.hid g0; have HB1 := Lib.hid (up_trans (up1 w _) hb1); clear hb1 g0 hv)
  go_region_with (first
      | (go_at_call 76; (with_reducible refine (HSH.out _ _ (HV.out.up (up_drew (up1 w1 _)))).mono ?_); rintro e w2 ⟨rfl, hb2⟩; have g1 : w2.heap[w1.heap.size]? = some (.cells #[.string x, .slice A n c] 43 (0, 0)) := block_up hb2 (block_new w1 _); have k0 : w2.cell? ⟨w1.heap.size, 0, none⟩ = some (.string x) := block_cell g1 0; have k1 : w2.cell? ⟨w1.heap.size, 1, none⟩ = some (.slice A n c) := block_cell g1 1; have g0 := block_up hb2 (block_alloc G0.out _); have c0' : w2.cell? ⟨w.heap.size, 0, none⟩ = some (.string (St [])) := block_cell g0 0; have c1' : w2.cell? ⟨w.heap.size, 1, none⟩ = some (.slice none 0 0) := block_cell g0 1; have f0' := block_free g0 0; have f1' := block_free g0 1; have l0' := lt_of_block g0; have HB2 := Lib.hid (up_trans (up_drew (up_alloc HB1.out _)) hb2); clear hb2 g0 g1))
  all_goals go_wp2
  all_goals refine bodyPost_ret (v := .tuple #[.agg #[.string x, .slice A n c], .bool false]) (by simp [results, Tryd.results44, go_sem, c0', c1', l0']) rfl ?_
  all_goals exact ⟨by repeat (first | exact HB2.out | refine up_drew ?_ | refine up_alloc ?_ _ | refine set0 ?_ (Nat.le_refl _)), _, _, _, _, rfl⟩

set_option maxHeartbeats 4000000 in
set_option maxRecDepth 100000 in
theorem l1Type_ok (s : ByteArray) (w : World) (hs : s.size ≤ 9223372036854775807) (t : Tr) (x0 : NT) (h : rdText s.data.toList = some t) (hv : tyOf t = some x0) :
    Calls Tryd.prog 44 #[.string s] w (fun e w' => Below w.heap.size w w' ∧ ∃ x A n c, e = .returned (.tuple #[.agg #[.string x, .slice A n c], .bool (decide (x0.atoms ≤ 400))]) ∧ TAt w' (fun k => w.heap.size ≤ k) x0.toTr (.agg #[.string x, .slice A n c])) := by
  have hok := rdText_ok h
  have hsz := rdText_size h
  have hn := tyOf_atoms t x0 hv hok
  have ht := (tyOf_toTr t x0 hok hv).1
  have hc : ∀ w, Calls Tryd.prog 75 #[.string s] w (fun e w' => Below w.heap.size w w' ∧ ∃ x A n c, e = .returned (.tuple #[.agg #[.string x, .slice A n c], .bool true]) ∧ TAt w' (fun k => w.heap.size ≤ k) x0.toTr (.agg #[.string x, .slice A n c])) := fun w => by
    have := l1Parse_any s w hs
    rw [h] at this
    refine this.mono fun e w' ⟨h1, v, h2, h3⟩ => ?_
    obtain ⟨x, A, n, c, rfl⟩ := h3.form
    exact ⟨h1, x, A, n, c, h2, ht ▸ h3⟩
  have hsh : ∀ (v : Value) (w : World), TAt w (fun _ => True) x0.toTr v → Calls Tryd.prog 76 #[v] w fun e w' => e = .returned (.bool true) ∧ Below w.heap.size w w' := fun v w hp => by
    have := l1Is_any t v w hok (ht ▸ hp)
    rw [hv] at this
    exact this
  have hsi : ∀ (v : Value) (w : World), TAt w (fun _ => True) x0.toTr v → Calls Tryd.prog 77 #[v] w fun e w' => e = .returned (.int .i64 x0.atoms) ∧ Below w.heap.size w w' := l1Atoms_any x0 (tyOf_toTr t x0 hok hv).2 (by omega)
  have HCALL := Lib.hid hc
  have HSH := Lib.hid hsh
  have HSI := Lib.hid hsi
  clear hc hs h hok hv hsh hsi hn hsz ht
  have hd : (decide ((x0.atoms : Int) ≤ 400)) = decide (x0.atoms ≤ 400) := by simp; omega
  generalize decide (x0.atoms ≤ 400) = b at *
  generalize x0.atoms = n0 at *
  go_enter Tryd.func44, Tryd.ntmps44
  go_wp2_with (go_at_call 75; refine (HCALL.out _).mono ?_; rintro e w1 ⟨hb1, x, A, n, c, rfl, hv⟩; have HV := Lib.hid hv; have g0 : w1.heap[w.heap.size]? = some (.cells #[.string (St []), .slice none 0 0] 43 (0, 0)) := block_up hb1 (block_new w _); have c0 : w1.cell? ⟨w.heap.size, 0, none⟩ = some (.string (St [])) := block_cell g0 0; have c1 : w1.cell? ⟨w.heap.size, 1, none⟩ = some (.slice none 0 0) := block_cell g0 1; have f0 := block_free g0 0; have f1 := block_free g0 1; have l0 := lt_of_block g0; have G0 := Lib.hid g0; have HB1 := Lib.hid (up_trans (up1 w _) hb1); clear hb1 g0 hv)
  go_region_with (first
      | (go_at_call 76; (with_reducible refine (HSH.out _ _ ((HV.out.up (up_drew (up1 w1 _))).weak fun _ _ => trivial)).mono ?_); rintro e w2 ⟨rfl, hb2⟩; have g1 : w2.heap[w1.heap.size]? = some (.cells #[.string x, .slice A n c] 43 (0, 0)) := block_up hb2 (block_new w1 _); have k0 : w2.cell? ⟨w1.heap.size, 0, none⟩ = some (.string x) := block_cell g1 0; have k1 : w2.cell? ⟨w1.heap.size, 1, none⟩ = some (.slice A n c) := block_cell g1 1; have g0 := block_up hb2 (block_alloc G0.out _); have G0' := Lib.hid g0; have G1' := Lib.hid g1; have c0' : w2.cell? ⟨w.heap.size, 0, none⟩ = some (.string (St [])) := block_cell g0 0; have c1' : w2.cell? ⟨w.heap.size, 1, none⟩ = some (.slice none 0 0) := block_cell g0 1; have f0' := block_free g0 0; have f1' := block_free g0 1; have l0' := lt_of_block g0; have l1' := lt_of_block g1; have HB2 := Lib.hid (up_trans (up_drew (up_alloc HB1.out _)) hb2); have HV2 : Hid (TAt w2 _ _ _) := Lib.hid ((HV.out.up (up_drew (up1 w1 _))).up hb2); clear hb2 g0 g1)
      | (go_at_call 77; (with_reducible refine (HSI.out _ _ (HV2.out.weak fun _ _ => trivial)).mono ?_); rintro e w3 ⟨rfl, hb3⟩; have g1 := block_up hb3 G1'.out; have g0 := block_up hb3 G0'.out; have k0' : w3.cell? ⟨w1.heap.size, 0, none⟩ = some (.string x) := block_cell g1 0; have k1' : w3.cell? ⟨w1.heap.size, 1, none⟩ = some (.slice A n c) := block_cell g1 1; have c0'' : w3.cell? ⟨w.heap.size, 0, none⟩ = some (.string (St [])) := block_cell g0 0; have c1'' : w3.cell? ⟨w.heap.size, 1, none⟩ = some (.slice none 0 0) := block_cell g0 1; have f0'' := block_free g0 0; have f1'' := block_free g0 1; have l0'' := lt_of_block g0; have l1'' := lt_of_block g1; have HB3 := Lib.hid (up_trans HB2.out hb3); have HV3 : Hid (TAt w3 _ _ _) := Lib.hid (HV2.out.up hb3); clear hb3 g0 g1))
  all_goals go_wp2
  all_goals refine bodyPost_ret (v := .tuple #[.agg #[.string x, .slice A n c], .bool b]) (by simp [results, Tryd.results44, go_sem, c0'', c1'', l0'', ← hd]) rfl ?_
  all_goals exact ⟨by repeat (first | exact HB3.out | refine up_drew ?_ | refine up_alloc ?_ _ | refine set0 ?_ (Nat.le_refl _)), _, _, _, _, rfl, HV3.out.move fun k hk hok => by
    have h' : w.heap.size + 1 ≤ k := by simpa using hok
    refine ⟨by omega, ?_⟩
    repeat (first | rfl | rw [drew_heap] | rw [Below.heap_setCell _ ⟨w.heap.size, 0, none⟩ _ k (by show k ≠ w.heap.size; omega)] | rw [Below.heap_setCell _ ⟨w.heap.size, 1, none⟩ _ k (by show k ≠ w.heap.size; omega)])⟩

theorem l1Type_any (s : ByteArray) (w : World) (hs : s.size ≤ 9223372036854775807) : Calls Tryd.prog 44 #[.string s] w (STPost w (rdTy s.data.toList)) := by
  cases h : rdText s.data.toList with
  | none => rw [show rdTy s.data.toList = none by unfold rdTy; rw [h]]; exact l1Type_none s w hs h
  | some t =>
    cases hv : tyOf t with
    | none => rw [show rdTy s.data.toList = none by unfold rdTy; rw [h]; simp only; rw [hv]]; exact l1Type_some s w hs t h hv
    | some v =>
      refine (l1Type_ok s w hs t v h hv).mono fun e w' ⟨hb, x, A, n, c, he, hr⟩ => ?_
      by_cases hn : v.atoms ≤ 400
      · rw [show rdTy s.data.toList = some v by unfold rdTy; rw [h]; simp only; rw [hv]; simp only; rw [if_neg (by omega)]]
        exact ⟨hb, x, A, n, c, by rw [he, decide_eq_true hn], hr⟩
      · rw [show rdTy s.data.toList = none by unfold rdTy; rw [h]; simp only; rw [hv]; simp only; rw [if_pos (by omega)]]
        exact ⟨hb, x, A, n, c, by rw [he, decide_eq_false hn]⟩

/-- The number of atoms, or -1. -/
def sizeOfT : Option NT → Int
  | none => -1
  | some v => v.atoms

theorem specTypeValid_any (s : ByteArray) (w : World) (hs : s.size ≤ 9223372036854775807) :
    Calls Tryd.prog 25 #[.string s] w fun e w' => e = .returned (.bool (rdTy s.data.toList).isSome) ∧ Below w.heap.size w w' := by
  have hv := fun w => l1Type_any s w hs
  clear hs
  generalize rdTy s.data.toList = o at *
  cases o with
  | none =>
    have HV := Lib.hid hv
    clear hv
    go_enter Tryd.func25, Tryd.ntmps25
    go_wp2_with (go_at_call 44; refine (HV.out _).mono ?_; rintro e w1 ⟨hb1, x, A, n, c, rfl⟩)
    go_ret
    exact ⟨rfl, up_alloc hb1 _⟩
  | some v =>
    have HV := Lib.hid hv
    clear hv
    go_enter Tryd.func25, Tryd.ntmps25
    go_wp2_with (go_at_call 44; refine (HV.out _).mono ?_; rintro e w1 ⟨hb1, x, A, n, c, rfl, _⟩)
    go_ret
    exact ⟨rfl, up_alloc hb1 _⟩


end Go.Proofs.YtkciljcligohnaaDoor
