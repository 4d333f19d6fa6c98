/- The reference's values: l2Value, ValueValid, ValueSize. -/
import Derived.Test.YtkciljcligohnaaDoorSVal2
namespace Go.Proofs.YtkciljcligohnaaDoor
open Go.RowKit
set_option linter.unusedVariables false
set_option linter.unusedSimpArgs false

/-- What l2Value does. -/
def SVPost (w : World) (o : Option V) (e : Ending) (w' : World) : Prop :=
  Below w.heap.size w w' ∧ match o with
    | some v => ∃ x A n c, e = .returned (.tuple #[.agg #[.string x, .slice A n c], .bool true]) ∧ TAt w' (fun k => w.heap.size ≤ k) v.toTr (.agg #[.string x, .slice A n c])
    | none => ∃ x A n c, e = .returned (.tuple #[.agg #[.string x, .slice A n c], .bool false])

set_option maxHeartbeats 4000000 in
set_option maxRecDepth 100000 in
theorem l2Value_none (s : ByteArray) (w : World) (hs : s.size ≤ 9223372036854775807) (h : rdText s.data.toList = none) : Calls Tryd.prog 70 #[.string s] w (SVPost w none) := by
  have hc : ∀ w, Calls Tryd.prog 75 #[.string s] w (fun e w' => Below w.heap.size w w' ∧ ∃ x A n c, e = .returned (.tuple #[.agg #[.string x, .slice A n c], .bool false])) := fun w => by
    have := l1Parse_any s w hs
    rw [h] at this
    exact this
  have HCALL := Lib.hid hc
  clear hc hs h
  go_enter Tryd.func70, Tryd.ntmps70
  go_wp2_with (go_at_call 75; refine (HCALL.out _).mono ?_; rintro e w1 ⟨hb1, x, A, n, c, rfl⟩; have g0 : w1.heap[w.heap.size]? = some (.cells #[.string (St []), .slice none 0 0] 43 (0, 0)) := block_up hb1 (block_new w _); have c0 : w1.cell? ⟨w.heap.size, 0, none⟩ = some (.string (St [])) := block_cell g0 0; have c1 : w1.cell? ⟨w.heap.size, 1, none⟩ = some (.slice none 0 0) := block_cell g0 1; have f0 := block_free g0 0; have f1 := block_free g0 1; have l0 := lt_of_block g0; have HB1 := Lib.hid (up_trans (up1 w _) hb1); clear hb1 g0)
  go_region
  go_wp2
  refine bodyPost_ret (v := .tuple #[.agg #[.string x, .slice A n c], .bool false]) (by simp [results, Tryd.results70, go_sem, c0, c1, l0]) rfl ?_
  exact ⟨by repeat (first | exact HB1.out | refine up_drew ?_ | refine up_alloc ?_ _ | refine set0 ?_ (Nat.le_refl _)), _, _, _, _, rfl⟩

set_option maxHeartbeats 4000000 in
set_option maxRecDepth 100000 in
theorem l2Value_some (s : ByteArray) (w : World) (hs : s.size ≤ 9223372036854775807) (t : Tr) (h : rdText s.data.toList = some t) (hv : valOf t = none) : Calls Tryd.prog 70 #[.string s] w (SVPost w none) := by
  have hok := rdText_ok h
  have hc : ∀ w, Calls Tryd.prog 75 #[.string s] w (fun e w' => Below w.heap.size w w' ∧ ∃ x A n c, e = .returned (.tuple #[.agg #[.string x, .slice A n c], .bool true]) ∧ TAt w' (fun _ => True) t (.agg #[.string x, .slice A n c])) := fun w => by
    have := l1Parse_any s w hs
    rw [h] at this
    refine this.mono fun e w' ⟨h1, v, h2, h3⟩ => ?_
    obtain ⟨x, A, n, c, rfl⟩ := h3.form
    exact ⟨h1, x, A, n, c, h2, h3.weak fun _ _ => trivial⟩
  have hsh : ∀ (v : Value) (w : World), TAt w (fun _ => True) t v → Calls Tryd.prog 97 #[v] w fun e w' => e = .returned (.bool false) ∧ Below w.heap.size w w' := fun v w hp => by
    have := l2Shape_any t v w hok hp
    rw [hv] at this
    exact this
  have HCALL := Lib.hid hc
  have HSH := Lib.hid hsh
  clear hc hs h hok hv hsh
  go_enter Tryd.func70, Tryd.ntmps70
  go_wp2_with (go_at_call 75; refine (HCALL.out _).mono ?_; rintro e w1 ⟨hb1, x, A, n, c, rfl, hv⟩; have HV := Lib.hid hv; have g0 : w1.heap[w.heap.size]? = some (.cells #[.string (St []), .slice none 0 0] 43 (0, 0)) := block_up hb1 (block_new w _); have c0 : w1.cell? ⟨w.heap.size, 0, none⟩ = some (.string (St [])) := block_cell g0 0; have c1 : w1.cell? ⟨w.heap.size, 1, none⟩ = some (.slice none 0 0) := block_cell g0 1; have f0 := block_free g0 0; have f1 := block_free g0 1; have l0 := lt_of_block g0; have G0 := Lib.hid g0; have HB1 := Lib.hid (up_trans (up1 w _) hb1); clear hb1 g0 hv)
  go_region_with (first
      | (go_at_call 97; (with_reducible refine (HSH.out _ _ (HV.out.up (up_drew (up1 w1 _)))).mono ?_); rintro e w2 ⟨rfl, hb2⟩; have g1 : w2.heap[w1.heap.size]? = some (.cells #[.string x, .slice A n c] 43 (0, 0)) := block_up hb2 (block_new w1 _); have k0 : w2.cell? ⟨w1.heap.size, 0, none⟩ = some (.string x) := block_cell g1 0; have k1 : w2.cell? ⟨w1.heap.size, 1, none⟩ = some (.slice A n c) := block_cell g1 1; have g0 := block_up hb2 (block_alloc G0.out _); have c0' : w2.cell? ⟨w.heap.size, 0, none⟩ = some (.string (St [])) := block_cell g0 0; have c1' : w2.cell? ⟨w.heap.size, 1, none⟩ = some (.slice none 0 0) := block_cell g0 1; have f0' := block_free g0 0; have f1' := block_free g0 1; have l0' := lt_of_block g0; have HB2 := Lib.hid (up_trans (up_drew (up_alloc HB1.out _)) hb2); clear hb2 g0 g1))
  all_goals go_wp2
  all_goals refine bodyPost_ret (v := .tuple #[.agg #[.string x, .slice A n c], .bool false]) (by simp [results, Tryd.results70, go_sem, c0', c1', l0']) rfl ?_
  all_goals exact ⟨by repeat (first | exact HB2.out | refine up_drew ?_ | refine up_alloc ?_ _ | refine set0 ?_ (Nat.le_refl _)), _, _, _, _, rfl⟩

set_option maxHeartbeats 4000000 in
set_option maxRecDepth 100000 in
theorem l2Value_ok (s : ByteArray) (w : World) (hs : s.size ≤ 9223372036854775807) (t : Tr) (x0 : V) (h : rdText s.data.toList = some t) (hv : valOf t = some x0) :
    Calls Tryd.prog 70 #[.string s] w (fun e w' => Below w.heap.size w w' ∧ ∃ x A n c, e = .returned (.tuple #[.agg #[.string x, .slice A n c], .bool (decide (x0.nodes ≤ 200))]) ∧ TAt w' (fun k => w.heap.size ≤ k) x0.toTr (.agg #[.string x, .slice A n c])) := by
  have hok := rdText_ok h
  have hsz := rdText_size h
  have hn := valOf_nodes t x0 hv
  have ht := valOf_toTr t x0 hok hv
  have hc : ∀ w, Calls Tryd.prog 75 #[.string s] w (fun e w' => Below w.heap.size w w' ∧ ∃ x A n c, e = .returned (.tuple #[.agg #[.string x, .slice A n c], .bool true]) ∧ TAt w' (fun k => w.heap.size ≤ k) x0.toTr (.agg #[.string x, .slice A n c])) := fun w => by
    have := l1Parse_any s w hs
    rw [h] at this
    refine this.mono fun e w' ⟨h1, v, h2, h3⟩ => ?_
    obtain ⟨x, A, n, c, rfl⟩ := h3.form
    exact ⟨h1, x, A, n, c, h2, ht ▸ h3⟩
  have hsh : ∀ (v : Value) (w : World), TAt w (fun _ => True) x0.toTr v → Calls Tryd.prog 97 #[v] w fun e w' => e = .returned (.bool true) ∧ Below w.heap.size w w' := fun v w hp => by
    have := l2Shape_any t v w hok (ht ▸ hp)
    rw [hv] at this
    exact this
  have hsi := fun v w => l2Size_any x0 v w (by omega)
  have HCALL := Lib.hid hc
  have HSH := Lib.hid hsh
  have HSI := Lib.hid hsi
  clear hc hs h hok hv hsh hsi hn hsz ht
  have hd : (decide ((x0.nodes : Int) ≤ 200)) = decide (x0.nodes ≤ 200) := by simp; omega
  generalize decide (x0.nodes ≤ 200) = b at *
  generalize x0.nodes = n0 at *
  go_enter Tryd.func70, Tryd.ntmps70
  go_wp2_with (go_at_call 75; refine (HCALL.out _).mono ?_; rintro e w1 ⟨hb1, x, A, n, c, rfl, hv⟩; have HV := Lib.hid hv; have g0 : w1.heap[w.heap.size]? = some (.cells #[.string (St []), .slice none 0 0] 43 (0, 0)) := block_up hb1 (block_new w _); have c0 : w1.cell? ⟨w.heap.size, 0, none⟩ = some (.string (St [])) := block_cell g0 0; have c1 : w1.cell? ⟨w.heap.size, 1, none⟩ = some (.slice none 0 0) := block_cell g0 1; have f0 := block_free g0 0; have f1 := block_free g0 1; have l0 := lt_of_block g0; have G0 := Lib.hid g0; have HB1 := Lib.hid (up_trans (up1 w _) hb1); clear hb1 g0 hv)
  go_region_with (first
      | (go_at_call 97; (with_reducible refine (HSH.out _ _ ((HV.out.up (up_drew (up1 w1 _))).weak fun _ _ => trivial)).mono ?_); rintro e w2 ⟨rfl, hb2⟩; have g1 : w2.heap[w1.heap.size]? = some (.cells #[.string x, .slice A n c] 43 (0, 0)) := block_up hb2 (block_new w1 _); have k0 : w2.cell? ⟨w1.heap.size, 0, none⟩ = some (.string x) := block_cell g1 0; have k1 : w2.cell? ⟨w1.heap.size, 1, none⟩ = some (.slice A n c) := block_cell g1 1; have g0 := block_up hb2 (block_alloc G0.out _); have G0' := Lib.hid g0; have G1' := Lib.hid g1; have c0' : w2.cell? ⟨w.heap.size, 0, none⟩ = some (.string (St [])) := block_cell g0 0; have c1' : w2.cell? ⟨w.heap.size, 1, none⟩ = some (.slice none 0 0) := block_cell g0 1; have f0' := block_free g0 0; have f1' := block_free g0 1; have l0' := lt_of_block g0; have l1' := lt_of_block g1; have HB2 := Lib.hid (up_trans (up_drew (up_alloc HB1.out _)) hb2); have HV2 : Hid (TAt w2 _ _ _) := Lib.hid ((HV.out.up (up_drew (up1 w1 _))).up hb2); clear hb2 g0 g1)
      | (go_at_call 71; (with_reducible refine (HSI.out _ _ (HV2.out.weak fun _ _ => trivial)).mono ?_); rintro e w3 ⟨rfl, hb3⟩; have g1 := block_up hb3 G1'.out; have g0 := block_up hb3 G0'.out; have k0' : w3.cell? ⟨w1.heap.size, 0, none⟩ = some (.string x) := block_cell g1 0; have k1' : w3.cell? ⟨w1.heap.size, 1, none⟩ = some (.slice A n c) := block_cell g1 1; have c0'' : w3.cell? ⟨w.heap.size, 0, none⟩ = some (.string (St [])) := block_cell g0 0; have c1'' : w3.cell? ⟨w.heap.size, 1, none⟩ = some (.slice none 0 0) := block_cell g0 1; have f0'' := block_free g0 0; have f1'' := block_free g0 1; have l0'' := lt_of_block g0; have l1'' := lt_of_block g1; have HB3 := Lib.hid (up_trans HB2.out hb3); have HV3 : Hid (TAt w3 _ _ _) := Lib.hid (HV2.out.up hb3); clear hb3 g0 g1))
  all_goals go_wp2
  all_goals refine bodyPost_ret (v := .tuple #[.agg #[.string x, .slice A n c], .bool b]) (by simp [results, Tryd.results70, go_sem, c0'', c1'', l0'', ← hd]) rfl ?_
  all_goals exact ⟨by repeat (first | exact HB3.out | refine up_drew ?_ | refine up_alloc ?_ _ | refine set0 ?_ (Nat.le_refl _)), _, _, _, _, rfl, HV3.out.move fun k hk hok => by
    have h' : w.heap.size + 1 ≤ k := by simpa using hok
    refine ⟨by omega, ?_⟩
    repeat (first | rfl | rw [drew_heap] | rw [Below.heap_setCell _ ⟨w.heap.size, 0, none⟩ _ k (by show k ≠ w.heap.size; omega)] | rw [Below.heap_setCell _ ⟨w.heap.size, 1, none⟩ _ k (by show k ≠ w.heap.size; omega)])⟩

theorem l2Value_any (s : ByteArray) (w : World) (hs : s.size ≤ 9223372036854775807) : Calls Tryd.prog 70 #[.string s] w (SVPost w (rdVal s.data.toList)) := by
  cases h : rdText s.data.toList with
  | none => rw [show rdVal s.data.toList = none by unfold rdVal; rw [h]]; exact l2Value_none s w hs h
  | some t =>
    cases hv : valOf t with
    | none => rw [show rdVal s.data.toList = none by unfold rdVal; rw [h]; simp only; rw [hv]]; exact l2Value_some s w hs t h hv
    | some v =>
      refine (l2Value_ok s w hs t v h hv).mono fun e w' ⟨hb, x, A, n, c, he, hr⟩ => ?_
      by_cases hn : v.nodes ≤ 200
      · rw [show rdVal s.data.toList = some v by unfold rdVal; rw [h]; simp only; rw [hv]; simp only; rw [if_neg (by omega)]]
        exact ⟨hb, x, A, n, c, by rw [he, decide_eq_true hn], hr⟩
      · rw [show rdVal s.data.toList = none by unfold rdVal; rw [h]; simp only; rw [hv]; simp only; rw [if_pos (by omega)]]
        exact ⟨hb, x, A, n, c, by rw [he, decide_eq_false hn]⟩

theorem specValueValid_any (s : ByteArray) (w : World) (hs : s.size ≤ 9223372036854775807) :
    Calls Tryd.prog 42 #[.string s] w fun e w' => e = .returned (.bool (rdVal s.data.toList).isSome) ∧ Below w.heap.size w w' := by
  have hv := fun w => l2Value_any s w hs
  clear hs
  generalize rdVal s.data.toList = o at *
  cases o with
  | none =>
    have HV := Lib.hid hv
    clear hv
    go_enter Tryd.func42, Tryd.ntmps42
    go_wp2_with (go_at_call 70; refine (HV.out _).mono ?_; rintro e w1 ⟨hb1, x, A, n, c, rfl⟩)
    go_ret
    exact ⟨rfl, up_alloc hb1 _⟩
  | some v =>
    have HV := Lib.hid hv
    clear hv
    go_enter Tryd.func42, Tryd.ntmps42
    go_wp2_with (go_at_call 70; refine (HV.out _).mono ?_; rintro e w1 ⟨hb1, x, A, n, c, rfl, _⟩)
    go_ret
    exact ⟨rfl, up_alloc hb1 _⟩

theorem specValueSize_any (s : ByteArray) (w : World) (hs : s.size ≤ 9223372036854775807) :
    Calls Tryd.prog 39 #[.string s] w fun e w' => e = .returned (.int .i64 (sizeOfV (rdVal s.data.toList))) ∧ Below w.heap.size w w' := by
  have hv := fun w => l2Value_any s w hs
  have hn := fun v h => rdVal_nodes (l := s.data.toList) (v := v) h
  clear hs
  generalize rdVal s.data.toList = o at *
  cases o with
  | none =>
    have HV := Lib.hid hv
    clear hv hn
    go_enter Tryd.func39, Tryd.ntmps39
    go_wp2_with (go_at_call 70; refine (HV.out _).mono ?_; rintro e w1 ⟨hb1, x, A, n, c, rfl⟩; have HB1 := Lib.hid hb1; clear hb1)
    go_ret
    exact ⟨rfl, up_alloc HB1.out _⟩
  | some v =>
    have HV := Lib.hid hv
    have HN := Lib.hid fun x w => l2Size_any v x w (by have := hn v rfl; omega)
    clear hv hn
    go_enter Tryd.func39, Tryd.ntmps39
    go_wp2_with (first
      | (go_at_call 70; refine (HV.out _).mono ?_; rintro e w1 ⟨hb1, x, A, n, c, rfl, hp⟩; have HP := Lib.hid hp; have HB1 := Lib.hid hb1; clear hb1 hp)
      | (go_at_call 71; refine (HN.out _ _ ((HP.out.up (up1 _ _)).weak fun _ _ => trivial)).mono ?_; rintro e w2 ⟨rfl, hb2⟩; have HB2 := Lib.hid (up_trans (up_alloc HB1.out _) hb2); clear hb2))
    go_ret
    exact ⟨rfl, HB2.out⟩

end Go.Proofs.YtkciljcligohnaaDoor
