/- The reference's values: l2Shape, l2Size, l2Value, ValueValid, ValueSize. -/
import Derived.Test.YtkciljcligohnaaDoorSVal
namespace Go.Proofs.YtkciljcligohnaaDoor
open Go.RowKit
set_option linter.unusedVariables false
set_option linter.unusedSimpArgs false

mutual
/-- An atom has no parts. -/
def OkT : Tr → Prop
  | .mk s ps => (s ≠ [] → ps = []) ∧ OkTs ps
def OkTs : List Tr → Prop
  | [] => True
  | t :: ts => OkT t ∧ OkTs ts
end
theorem OkTs_append {a b : List Tr} (ha : OkTs a) (hb : OkTs b) : OkTs (a ++ b) := by
  induction a with
  | nil => exact hb
  | cons t ts ih => exact ⟨ha.1, ih ha.2⟩

theorem rdLoop_ok {f : List UInt8 → Option (Tr × List UInt8)} (hf : ∀ l t r, f l = some (t, r) → OkT t) : ∀ (n : Nat) (acc : List Tr) (l : List UInt8) (t : Tr) (r : List UInt8), OkTs acc → rdLoop f n acc l = some (t, r) → OkT t
  | 0, _, _, _, _, _, h => by simp [rdLoop] at h
  | n + 1, acc, l, t, r, ha, h => by
    unfold rdLoop at h
    split at h
    · rename_i t' b r' hfl
      have h1 := hf _ _ _ hfl
      split at h
      · simp only [Option.some.injEq, Prod.mk.injEq] at h
        obtain ⟨rfl, rfl⟩ := h
        exact ⟨fun h => absurd rfl h, OkTs_append ha (show OkTs [t'] from ⟨h1, trivial⟩)⟩
      · split at h
        · exact rdLoop_ok hf n _ _ _ _ (OkTs_append ha (show OkTs [t'] from ⟨h1, trivial⟩)) h
        · simp at h
    · simp at h

theorem rd_ok : ∀ (d : Nat) (l : List UInt8) (t : Tr) (r : List UInt8), rd d l = some (t, r) → OkT t
  | 0, l, t, r, h => by
    unfold rd at h
    split at h
    · simp only [Option.some.injEq, Prod.mk.injEq] at h
      obtain ⟨rfl, rfl⟩ := h
      exact ⟨fun _ => rfl, trivial⟩
    · simp at h
  | d + 1, l, t, r, h => by
    unfold rd at h
    split at h
    · simp only [Option.some.injEq, Prod.mk.injEq] at h
      obtain ⟨rfl, rfl⟩ := h
      exact ⟨fun _ => rfl, trivial⟩
    · cases l with
      | nil => simp at h
      | cons b r' =>
        simp only at h
        split at h
        · exact rdLoop_ok (rd_ok d) _ _ _ _ _ (show OkTs [] from trivial) h
        · simp at h

theorem rdText_ok {l : List UInt8} {t : Tr} (h : rdText l = some t) : OkT t := by
  unfold rdText at h
  split at h
  · simp at h
  · split at h
    · rename_i h1
      simp only [Option.some.injEq] at h
      subst h
      exact rd_ok _ _ _ _ h1
    · simp at h

/-- A value as a text that is read. -/
def V.toTr : V → Tr
  | .u => .mk [117] []
  | .el s => .mk s []
  | .l a => .mk [] [.mk [108] [], a.toTr]
  | .r a => .mk [] [.mk [114] [], a.toTr]
  | .f a => .mk [] [.mk [102] [], a.toTr]
  | .p a b => .mk [] [.mk [112] [], a.toTr, b.toTr]

theorem elemB_nil : elemB [] = false := rfl

/-- What reads as a value is that value's text. -/
theorem valOf_toTr : ∀ (t : Tr) (v : V), OkT t → valOf t = some v → t = v.toTr
  | .mk s ps, v, hok, hv => by
    by_cases hs : s = [117]
    · subst hs
      rw [valOf_u] at hv
      simp only [Option.some.injEq] at hv
      subst hv
      rw [hok.1 (by simp)]
      rfl
    · cases he : elemB s with
      | true =>
        rw [valOf_el hs he] at hv
        simp only [Option.some.injEq] at hv
        subst hv
        rw [hok.1 (by intro h; subst h; simp [elemB_nil] at he)]
        rfl
      | false =>
        match ps, hok, hv with
        | [], _, hv => rw [valOf_no hs he [] (by simp) (by simp)] at hv; cases hv
        | [a], _, hv => rw [valOf_no hs he [a] (by simp) (by simp)] at hv; cases hv
        | a :: b :: c :: d :: r, _, hv => rw [valOf_no hs he (a :: b :: c :: d :: r) (by simp) (by simp)] at hv; cases hv
        | [.mk h q, a], hok, hv =>
          have h0 : s = [] := by
            by_cases h : s = []
            · exact h
            · have := hok.1 h; simp at this
          subst h0
          have ih := valOf_toTr a
          rw [valOf_two hs he] at hv
          cases ha : valOf a with
          | none => rw [ha] at hv; unfold valTwo at hv; (repeat' split at hv) <;> simp at hv
          | some x =>
            have hx := ih x hok.2.2.1 ha
            have hq : h ≠ [] → q = [] := hok.2.1.1
            rw [ha] at hv
            unfold valTwo at hv
            split at hv
            · rename_i hh; subst hh; simp at hv; subst hv; rw [hx, hq (by simp)]; rfl
            · split at hv
              · rename_i hh; subst hh; simp at hv; subst hv; rw [hx, hq (by simp)]; rfl
              · split at hv
                · rename_i hh; subst hh; simp at hv; subst hv; rw [hx, hq (by simp)]; rfl
                · cases hv
        | [.mk h q, a, b], hok, hv =>
          have h0 : s = [] := by
            by_cases h : s = []
            · exact h
            · have := hok.1 h; simp at this
          subst h0
          have iha := valOf_toTr a
          have ihb := valOf_toTr b
          rw [valOf_three hs he] at hv
          cases ha : valOf a with
          | none => rw [ha, valThree_l] at hv; cases hv
          | some x =>
            cases hb : valOf b with
            | none => rw [hb, valThree_r] at hv; cases hv
            | some y =>
              have hx := iha x hok.2.2.1 ha
              have hy := ihb y hok.2.2.2.1 hb
              have hq : h ≠ [] → q = [] := hok.2.1.1
              rw [ha, hb] at hv
              unfold valThree at hv
              split at hv
              · rename_i hh; subst hh; simp at hv; subst hv; rw [hx, hy, hq (by simp)]; rfl
              · cases hv

/-- The next struct of a row. -/
theorem TRow.at2 {w : World} {ok : Nat → Prop} {a : Tr} {ts : List Tr} {b o : Nat} (h : TRow w ok (a :: ts) (some ⟨b, o, none⟩)) :
    ∃ x A n c, w.cell? ⟨b, o, none⟩ = some (.string x) ∧ w.cell? ⟨b, o + 1, none⟩ = some (.slice A n c) ∧ TAt w ok a (.agg #[.string x, .slice A n c]) ∧ TRow w ok ts (some ⟨b, o + 2, none⟩) := by
  obtain ⟨s, ps⟩ := a
  obtain ⟨A, c, h0, h1, hc, hr, ht⟩ := h.next
  exact ⟨_, A, _, c, h0, h1, ⟨A, c, rfl, hc, hr⟩, ht⟩

set_option maxHeartbeats 2000000 in
set_option maxRecDepth 100000 in
theorem l2Shape_atom (s : List UInt8) (hs : s ≠ []) (v : Value) (w : World) {ok : Nat → Prop} (h : TAt w ok (.mk s []) v) :
    Calls Tryd.prog 97 #[v] w fun e w' => e = .returned (.bool (valOf (.mk s [])).isSome) ∧ Below w.heap.size w w' := by
  obtain ⟨A, c, rfl, _⟩ := h.parts
  clear h
  have h2 : s.isEmpty = false := by cases s with | nil => exact absurd rfl hs | cons => rfl
  by_cases h117 : s = [117]
  · subst h117
    rw [valOf_u]
    clear hs h2
    go_enter Tryd.func97, Tryd.ntmps97
    go_wp2_with fail
    go_ret
    exact ⟨rfl, up1 w _⟩
  · have hv : (valOf (.mk s [])).isSome = decide (0 ≤ elemNum s) := by
      cases he : elemB s with
      | true => rw [valOf_el h117 he]; have := (elemNum_neg s).2 he; simp [this]
      | false => rw [valOf_no h117 he [] (by simp) (by simp)]; have : ¬ 0 ≤ elemNum s := mt (elemNum_neg s).1 (by simp [he]); simp [this]
    rw [hv]
    have h3 := St_ne h117
    have hc := fun w => l2Element_any (St s) w
    have hc2 : ∀ w, Calls Tryd.prog 113 #[.string (St s)] w fun e w' => e = .returned (.int .i64 (elemNum s)) ∧ w = w' := hc
    clear hs hv h117 hc
    generalize elemNum s = z at *
    go_enter Tryd.func97, Tryd.ntmps97
    go_wp2_with (go_at_call 113; refine (hc2 _).mono ?_; rintro e w' ⟨rfl, rfl⟩)
    go_ret
    exact ⟨rfl, up1 w _⟩

set_option maxHeartbeats 2000000 in
set_option maxRecDepth 100000 in
theorem l2Shape_no (ps : List Tr) (h2 : ps.length ≠ 2) (h3 : ps.length ≠ 3) (v : Value) (w : World) {ok : Nat → Prop} (h : TAt w ok (.mk [] ps) v) :
    Calls Tryd.prog 97 #[v] w fun e w' => e = .returned (.bool (valOf (.mk [] ps)).isSome) ∧ Below w.heap.size w w' := by
  rw [valOf_no (by simp) elemB_nil ps h2 h3]
  have hh := fun w1 (hb : Below w.heap.size w w1) => l1Head_any _ v w1 (h.up hb)
  obtain ⟨A, c, rfl, _⟩ := h.parts
  have HH := Lib.hid hh
  have k2 : ((ps.length : Int) == 2) = false := by rw [beq_eq_false_iff_ne]; omega
  have k3 : ((ps.length : Int) == 3) = false := by rw [beq_eq_false_iff_ne]; omega
  generalize headOf (.mk [] ps) = hd at *
  generalize ps.length = L at *
  clear h h2 h3 hh
  go_enter Tryd.func97, Tryd.ntmps97
  go_wp2_with (go_at_call 55; refine (HH.out _ (up1 w _)).mono ?_; rintro e w1 ⟨rfl, hb1⟩; have g0 := block_up hb1 (block_new w _); have c0 := block_cell g0 0; have c1 := block_cell g0 1; simp only [List.getElem?_toArray, List.getElem?_cons_zero, List.getElem?_cons_succ] at c0 c1; have HB1 := Lib.hid (up_trans (up1 w _) hb1); clear hb1 g0)
  all_goals (go_ret; exact ⟨rfl, HB1.out⟩)

set_option maxHeartbeats 4000000 in
set_option maxRecDepth 100000 in
theorem l2Shape_two (h : List UInt8) (q : List Tr) (a : Tr) (v : Value) (w : World) (hp : TAt w (fun _ => True) (.mk [] [.mk h q, a]) v)
    (ih : ∀ (v : Value) (w : World), TAt w (fun _ => True) a v → Calls Tryd.prog 97 #[v] w fun e w' => e = .returned (.bool (valOf a).isSome) ∧ Below w.heap.size w w') :
    Calls Tryd.prog 97 #[v] w fun e w' => e = .returned (.bool (valOf (.mk [] [.mk h q, a])).isSome) ∧ Below w.heap.size w w' := by
  rw [valOf_two (by simp) elemB_nil]
  have hh : ∀ w1, Below w.heap.size w w1 → Calls Tryd.prog 55 #[v] w1 fun e w' => e = .returned (.string (St h)) ∧ Below w1.heap.size w1 w' := fun w1 (hb : Below w.heap.size w w1) => l1Head_any _ v w1 (hp.up hb)
  have HH := Lib.hid hh
  have IH := Lib.hid ih
  obtain ⟨A, c, rfl, hr⟩ := hp.parts
  obtain ⟨b, o, A', c', rfl, _, _, _, _, hr⟩ := hr.uncons
  obtain ⟨x, A2, n2, c2, d2, d3, ha, _⟩ := hr.at2
  have HC : Hid (∀ w1, Below w.heap.size w w1 → w1.cell? ⟨b, o + 2, none⟩ = some (.string x) ∧ w1.cell? ⟨b, o + 3, none⟩ = some (.slice A2 n2 c2) ∧ Hid (TAt w1 (fun _ => True) a (.agg #[.string x, .slice A2 n2 c2]))) := fun w1 hb => ⟨cell_up hb d2, cell_up hb d3, ha.up hb⟩
  clear hp hr ha hh ih d2 d3
  have hx : (valTwo h (valOf a)).isSome = (((h == [108]) || (h == [114]) || (h == [102])) && (valOf a).isSome) := by
    unfold valTwo
    by_cases h1 : h = [108]
    · simp [h1]
    · by_cases h2 : h = [114]
      · simp [h2]
      · by_cases h3 : h = [102]
        · simp [h3]
        · simp [h1, h2, h3]
  rw [hx]
  clear hx
  generalize (valOf a).isSome = y at *
  by_cases hcase : h = [108] ∨ h = [114] ∨ h = [102]
  · have hz : ((h == [108]) || (h == [114]) || (h == [102])) = true := by rcases hcase with rfl | rfl | rfl <;> rfl
    rw [hz]
    clear hz
    rcases hcase with rfl | rfl | rfl
    all_goals
      go_enter Tryd.func97, Tryd.ntmps97
      go_wp2_with (first
        | (go_at_call 55; refine (HH.out _ (up1 w _)).mono ?_; rintro e w1 ⟨rfl, hb1⟩; have g0 := block_up hb1 (block_new w _); have c0 := block_cell g0 0; have c1 := block_cell g0 1; simp only [List.getElem?_toArray, List.getElem?_cons_zero, List.getElem?_cons_succ] at c0 c1; obtain ⟨d2, d3, HA⟩ := HC.out w1 (up_trans (up1 w _) hb1); have HB1 := Lib.hid (up_trans (up1 w _) hb1); clear hb1 g0)
        | (go_at_call 97; refine (IH.out _ _ HA.out).mono ?_; rintro e w2 ⟨rfl, hb2⟩))
      go_ret
      exact ⟨rfl, up_trans HB1.out hb2⟩
  · have k1 := St_ne (fun h' => hcase (.inl h'))
    have k2 := St_ne (fun h' => hcase (.inr (.inl h')))
    have k3 := St_ne (fun h' => hcase (.inr (.inr h')))
    have kz : (((h == [108]) || (h == [114]) || (h == [102])) && y) = false := by rw [k1, k2, k3]; rfl
    rw [kz]
    clear hcase kz
    go_enter Tryd.func97, Tryd.ntmps97
    go_wp2_with (go_at_call 55; refine (HH.out _ (up1 w _)).mono ?_; rintro e w1 ⟨rfl, hb1⟩; have g0 := block_up hb1 (block_new w _); have c0 := block_cell g0 0; have c1 := block_cell g0 1; simp only [List.getElem?_toArray, List.getElem?_cons_zero, List.getElem?_cons_succ] at c0 c1; obtain ⟨d2, d3, HA⟩ := HC.out w1 (up_trans (up1 w _) hb1); have HB1 := Lib.hid (up_trans (up1 w _) hb1); clear hb1 g0)
    all_goals go_ret
    all_goals exact ⟨rfl, HB1.out⟩

set_option maxHeartbeats 4000000 in
set_option maxRecDepth 100000 in
theorem l2Shape_three (h : List UInt8) (q : List Tr) (a b : Tr) (v : Value) (w : World) (hp : TAt w (fun _ => True) (.mk [] [.mk h q, a, b]) v)
    (iha : ∀ (v : Value) (w : World), TAt w (fun _ => True) a v → Calls Tryd.prog 97 #[v] w fun e w' => e = .returned (.bool (valOf a).isSome) ∧ Below w.heap.size w w')
    (ihb : ∀ (v : Value) (w : World), TAt w (fun _ => True) b v → Calls Tryd.prog 97 #[v] w fun e w' => e = .returned (.bool (valOf b).isSome) ∧ Below w.heap.size w w') :
    Calls Tryd.prog 97 #[v] w fun e w' => e = .returned (.bool (valOf (.mk [] [.mk h q, a, b])).isSome) ∧ Below w.heap.size w w' := by
  rw [valOf_three (by simp) elemB_nil]
  have hh : ∀ w1, Below w.heap.size w w1 → Calls Tryd.prog 55 #[v] w1 fun e w' => e = .returned (.string (St h)) ∧ Below w1.heap.size w1 w' := fun w1 (hb : Below w.heap.size w w1) => l1Head_any _ v w1 (hp.up hb)
  have HH := Lib.hid hh
  have IHA := Lib.hid iha
  have IHB := Lib.hid ihb
  obtain ⟨A, c, rfl, hr⟩ := hp.parts
  obtain ⟨bl, o, A', c', rfl, _, _, _, _, hr⟩ := hr.uncons
  obtain ⟨x, A2, n2, c2, d2, d3, ha, hr⟩ := hr.at2
  obtain ⟨x4, A4, n4, c4, d4, d5, hb, _⟩ := hr.at2
  have HC : Hid (∀ w1, Below w.heap.size w w1 → w1.cell? ⟨bl, o + 2, none⟩ = some (.string x) ∧ w1.cell? ⟨bl, o + 3, none⟩ = some (.slice A2 n2 c2) ∧ w1.cell? ⟨bl, o + 4, none⟩ = some (.string x4) ∧ w1.cell? ⟨bl, o + 5, none⟩ = some (.slice A4 n4 c4) ∧
      Hid (TAt w1 (fun _ => True) a (.agg #[.string x, .slice A2 n2 c2])) ∧ Hid (TAt w1 (fun _ => True) b (.agg #[.string x4, .slice A4 n4 c4]))) := fun w1 hb' => ⟨cell_up hb' d2, cell_up hb' d3, cell_up hb' d4, cell_up hb' d5, ha.up hb', hb.up hb'⟩
  clear hp hr ha hb hh iha ihb d2 d3 d4 d5
  have hx : (valThree h (valOf a) (valOf b)).isSome = ((h == [112]) && ((valOf a).isSome && (valOf b).isSome)) := by
    unfold valThree
    by_cases h1 : h = [112]
    · rw [if_pos h1, h1]
      cases valOf a <;> cases valOf b <;> rfl
    · rw [if_neg h1, St_ne h1]; rfl
  rw [hx]
  clear hx
  generalize (valOf a).isSome = y at *
  generalize (valOf b).isSome = z at *
  by_cases hcase : h = [112]
  · subst hcase
    rw [show ((([112] : List UInt8) == [112]) && (y && z)) = (y && z) from rfl]
    cases y with
    | false =>
      go_enter Tryd.func97, Tryd.ntmps97
      go_wp2_with (first
        | (go_at_call 55; refine (HH.out _ (up1 w _)).mono ?_; rintro e w1 ⟨rfl, hb1⟩; have g0 := block_up hb1 (block_new w _); have c0 := block_cell g0 0; have c1 := block_cell g0 1; simp only [List.getElem?_toArray, List.getElem?_cons_zero, List.getElem?_cons_succ] at c0 c1; obtain ⟨d2, d3, d4, d5, HA, HB⟩ := HC.out w1 (up_trans (up1 w _) hb1); have G0 := Lib.hid g0; have HB1 := Lib.hid (up_trans (up1 w _) hb1); clear hb1 g0)
        | (go_at_call 97; refine (IHA.out _ _ HA.out).mono ?_; rintro e w2 ⟨rfl, hb2⟩))
      go_ret
      exact ⟨rfl, up_trans HB1.out hb2⟩
    | true =>
      go_enter Tryd.func97, Tryd.ntmps97
      go_wp2_with (first
        | (go_at_call 55; refine (HH.out _ (up1 w _)).mono ?_; rintro e w1 ⟨rfl, hb1⟩; have g0 := block_up hb1 (block_new w _); have c0 := block_cell g0 0; have c1 := block_cell g0 1; simp only [List.getElem?_toArray, List.getElem?_cons_zero, List.getElem?_cons_succ] at c0 c1; obtain ⟨d2, d3, d4, d5, HA, HB⟩ := HC.out w1 (up_trans (up1 w _) hb1); have G0 := Lib.hid g0; have HB1 := Lib.hid (up_trans (up1 w _) hb1); clear hb1 g0)
        | (go_at_call 97; ((with_reducible refine (IHA.out _ _ HA.out).mono ?_); rintro e w2 ⟨rfl, hb2⟩; have g0 := block_up hb2 G0.out; have c0' := block_cell g0 0; have c1' := block_cell g0 1; simp only [List.getElem?_toArray, List.getElem?_cons_zero, List.getElem?_cons_succ] at c0' c1'; obtain ⟨_, _, d4', d5', _, HB'⟩ := HC.out w2 (up_trans HB1.out hb2); have HB2 := Lib.hid (up_trans HB1.out hb2); clear hb2 g0))
        | (go_at_call 97; ((with_reducible refine (IHB.out _ _ HB'.out).mono ?_); rintro e w3 ⟨rfl, hb3⟩)))
      go_ret
      exact ⟨rfl, up_trans HB2.out hb3⟩
  · have k1 := St_ne hcase
    have kz : ((h == [112]) && (y && z)) = false := by rw [k1]; rfl
    rw [kz]
    clear hcase kz
    go_enter Tryd.func97, Tryd.ntmps97
    go_wp2_with (go_at_call 55; refine (HH.out _ (up1 w _)).mono ?_; rintro e w1 ⟨rfl, hb1⟩; have g0 := block_up hb1 (block_new w _); have c0 := block_cell g0 0; have c1 := block_cell g0 1; simp only [List.getElem?_toArray, List.getElem?_cons_zero, List.getElem?_cons_succ] at c0 c1; obtain ⟨d2, d3, d4, d5, HA, HB⟩ := HC.out w1 (up_trans (up1 w _) hb1); have G0 := Lib.hid g0; have HB1 := Lib.hid (up_trans (up1 w _) hb1); clear hb1 g0)
    all_goals go_ret
    all_goals exact ⟨rfl, HB1.out⟩

theorem l2Shape_any : ∀ (t : Tr) (v : Value) (w : World), OkT t → TAt w (fun _ => True) t v → Calls Tryd.prog 97 #[v] w fun e w' => e = .returned (.bool (valOf t).isSome) ∧ Below w.heap.size w w'
  | .mk s ps, v, w, hok, hp => by
    by_cases hs : s = []
    · subst hs
      match ps, hok, hp with
      | [], _, hp => exact l2Shape_no [] (by simp) (by simp) v w hp
      | [a], _, hp => exact l2Shape_no [a] (by simp) (by simp) v w hp
      | [.mk h q, a], hok, hp => exact l2Shape_two h q a v w hp (fun v w hp => l2Shape_any a v w hok.2.2.1 hp)
      | [.mk h q, a, b], hok, hp => exact l2Shape_three h q a b v w hp (fun v w hp => l2Shape_any a v w hok.2.2.1 hp) (fun v w hp => l2Shape_any b v w hok.2.2.2.1 hp)
      | a :: b :: c :: d :: r, _, hp => exact l2Shape_no (a :: b :: c :: d :: r) (by simp) (by simp) v w hp
    · have := hok.1 hs
      subst this
      exact l2Shape_atom s hs v w hp

/-- Two parts behind the first word, or one. -/
def V.kids : V → List V
  | .u => []
  | .el _ => []
  | .l a => [a]
  | .r a => [a]
  | .f a => [a]
  | .p a b => [a, b]

set_option maxHeartbeats 2000000 in
set_option maxRecDepth 100000 in
theorem l2Size_leaf (s : List UInt8) (v : Value) (w : World) {ok : Nat → Prop} (hp : TAt w ok (.mk s []) v) :
    Calls Tryd.prog 71 #[v] w fun e w' => e = .returned (.int .i64 1) ∧ Below w.heap.size w w' := by
  obtain ⟨A, c, rfl, _⟩ := hp.parts
  clear hp
  go_enter Tryd.func71, Tryd.ntmps71
  go_wp2
  go_loopw [3, 4] (fun n i wr => n = .int .i64 1 ∧ i = .int .i64 1 ∧ wr = w.alloc (.cells #[.string (St s), .slice A 0 c] 43)) (fun _ _ _ => 0)
  case atStart => exact ⟨rfl, rfl, rfl⟩
  case round =>
    obtain ⟨rfl, rfl, rfl⟩ := hrel
    go_wp2
    go_ret
    exact ⟨rfl, up1 w _⟩

set_option maxHeartbeats 4000000 in
set_option maxRecDepth 100000 in
theorem l2Size_two (h : List UInt8) (q : List Tr) (a : Tr) (na : Nat) (hna : na ≤ 1000000) (v : Value) (w : World) (hp : TAt w (fun _ => True) (.mk [] [.mk h q, a]) v)
    (ih : ∀ (v : Value) (w : World), TAt w (fun _ => True) a v → Calls Tryd.prog 71 #[v] w fun e w' => e = .returned (.int .i64 na) ∧ Below w.heap.size w w') :
    Calls Tryd.prog 71 #[v] w fun e w' => e = .returned (.int .i64 (1 + na : Nat)) ∧ Below w.heap.size w w' := by
  have IH := Lib.hid ih
  obtain ⟨A, c, rfl, hr⟩ := hp.parts
  obtain ⟨b, o, A', c', rfl, _, _, _, _, hr⟩ := hr.uncons
  obtain ⟨x, A2, n2, c2, d2, d3, ha, _⟩ := hr.at2
  have HC : Hid (∀ w1, Below w.heap.size w w1 → w1.cell? ⟨b, o + 2, none⟩ = some (.string x) ∧ w1.cell? ⟨b, o + 3, none⟩ = some (.slice A2 n2 c2) ∧ Hid (TAt w1 (fun _ => True) a (.agg #[.string x, .slice A2 n2 c2]))) := fun w1 hb => ⟨cell_up hb d2, cell_up hb d3, ha.up hb⟩
  clear hp hr ha ih d2 d3
  have hlen : ([Tr.mk h q, a] : List Tr).length = 2 := rfl
  rw [hlen]
  clear hlen
  go_enter Tryd.func71, Tryd.ntmps71
  go_wp2
  go_loopw [3, 4] (fun n i wr => ((i = .int .i64 1 ∧ n = .int .i64 1) ∨ (i = .int .i64 2 ∧ n = .int .i64 (1 + (na : Int)))) ∧ Hid (Below w.heap.size w wr) ∧ Hid (wr.heap[w.heap.size]? = some (.cells #[.string (St []), .slice (some ⟨b, o, none⟩) 2 c] 43 (0, 0)))) (fun _ i _ => 2 - (intOf i).toNat)
  case atStart => exact ⟨.inl ⟨rfl, rfl⟩, up1 w _, block_new w _⟩
  case round =>
    obtain ⟨hin, HB, G0⟩ := hrel
    have c0 : wr.cell? ⟨w.heap.size, 0, none⟩ = some (.string (St [])) := block_cell G0.out 0
    have c1 : wr.cell? ⟨w.heap.size, 1, none⟩ = some (.slice (some ⟨b, o, none⟩) 2 c) := block_cell G0.out 1
    obtain ⟨d2, d3, HA⟩ := HC.out wr HB.out
    rcases hin with ⟨rfl, rfl⟩ | ⟨rfl, rfl⟩
    · go_wp2_with (go_at_call 71; refine (IH.out _ _ HA.out).mono ?_; rintro e w2 ⟨rfl, hb2⟩)
      go_roundw
      case rel => exact ⟨.inr ⟨rfl, rfl⟩, up_trans HB.out hb2, block_up hb2 G0.out⟩
      case measure => simp [intOf]
    · go_wp2
      go_ret
      exact ⟨rfl, HB.out⟩

set_option maxHeartbeats 4000000 in
set_option maxRecDepth 100000 in
theorem l2Size_three (h : List UInt8) (q : List Tr) (a a2 : Tr) (na nb : Nat) (hna : na ≤ 1000000) (hnb : nb ≤ 1000000) (v : Value) (w : World) (hp : TAt w (fun _ => True) (.mk [] [.mk h q, a, a2]) v)
    (ih : ∀ (v : Value) (w : World), TAt w (fun _ => True) a v → Calls Tryd.prog 71 #[v] w fun e w' => e = .returned (.int .i64 na) ∧ Below w.heap.size w w')
    (ih2 : ∀ (v : Value) (w : World), TAt w (fun _ => True) a2 v → Calls Tryd.prog 71 #[v] w fun e w' => e = .returned (.int .i64 nb) ∧ Below w.heap.size w w') :
    Calls Tryd.prog 71 #[v] w fun e w' => e = .returned (.int .i64 (1 + na + nb : Nat)) ∧ Below w.heap.size w w' := by
  have IH := Lib.hid ih
  have IH2 := Lib.hid ih2
  obtain ⟨A, c, rfl, hr⟩ := hp.parts
  obtain ⟨b, o, A', c', rfl, _, _, _, _, hr⟩ := hr.uncons
  obtain ⟨x, A2, n2, c2, d2, d3, ha, hr⟩ := hr.at2
  obtain ⟨x4, A4, n4, c4, d4, d5, hb, _⟩ := hr.at2
  have HC : Hid (∀ w1, Below w.heap.size w w1 → w1.cell? ⟨b, o + 2, none⟩ = some (.string x) ∧ w1.cell? ⟨b, o + 3, none⟩ = some (.slice A2 n2 c2) ∧ w1.cell? ⟨b, o + 4, none⟩ = some (.string x4) ∧ w1.cell? ⟨b, o + 5, none⟩ = some (.slice A4 n4 c4) ∧ Hid (TAt w1 (fun _ => True) a (.agg #[.string x, .slice A2 n2 c2])) ∧ Hid (TAt w1 (fun _ => True) a2 (.agg #[.string x4, .slice A4 n4 c4]))) := fun w1 hb' => ⟨cell_up hb' d2, cell_up hb' d3, cell_up hb' d4, cell_up hb' d5, ha.up hb', hb.up hb'⟩
  clear hp hr ha hb ih ih2 d2 d3 d4 d5
  have hlen : ([Tr.mk h q, a, a2] : List Tr).length = 3 := rfl
  rw [hlen]
  clear hlen
  go_enter Tryd.func71, Tryd.ntmps71
  go_wp2
  go_loopw [3, 4] (fun n i wr => ((i = .int .i64 1 ∧ n = .int .i64 1) ∨ (i = .int .i64 2 ∧ n = .int .i64 (1 + (na : Int))) ∨ (i = .int .i64 3 ∧ n = .int .i64 (1 + (na : Int) + (nb : Int)))) ∧ Hid (Below w.heap.size w wr) ∧ Hid (wr.heap[w.heap.size]? = some (.cells #[.string (St []), .slice (some ⟨b, o, none⟩) 3 c] 43 (0, 0)))) (fun _ i _ => 3 - (intOf i).toNat)
  case atStart => exact ⟨.inl ⟨rfl, rfl⟩, up1 w _, block_new w _⟩
  case round =>
    obtain ⟨hin, HB, G0⟩ := hrel
    have c0 : wr.cell? ⟨w.heap.size, 0, none⟩ = some (.string (St [])) := block_cell G0.out 0
    have c1 : wr.cell? ⟨w.heap.size, 1, none⟩ = some (.slice (some ⟨b, o, none⟩) 3 c) := block_cell G0.out 1
    obtain ⟨d2, d3, d4, d5, HA, HA2⟩ := HC.out wr HB.out
    rcases hin with ⟨rfl, rfl⟩ | ⟨rfl, rfl⟩ | ⟨rfl, rfl⟩
    · go_wp2_with (go_at_call 71; refine (IH.out _ _ HA.out).mono ?_; rintro e w2 ⟨rfl, hb2⟩)
      go_roundw
      case rel => exact ⟨.inr (.inl ⟨rfl, rfl⟩), up_trans HB.out hb2, block_up hb2 G0.out⟩
      case measure => simp [intOf]
    · go_wp2_with (go_at_call 71; refine (IH2.out _ _ HA2.out).mono ?_; rintro e w2 ⟨rfl, hb2⟩)
      go_roundw
      case rel => exact ⟨.inr (.inr ⟨rfl, rfl⟩), up_trans HB.out hb2, block_up hb2 G0.out⟩
      case measure => simp [intOf]
    · go_wp2
      go_ret
      exact ⟨congrArg (fun z => Ending.returned (.int .i64 z)) (by omega), HB.out⟩

theorem l2Size_any : ∀ (x : V) (v : Value) (w : World), x.nodes ≤ 1000000 → TAt w (fun _ => True) x.toTr v → Calls Tryd.prog 71 #[v] w fun e w' => e = .returned (.int .i64 x.nodes) ∧ Below w.heap.size w w'
  | .u, v, w, _, hp => l2Size_leaf _ v w hp
  | .el s, v, w, _, hp => l2Size_leaf _ v w hp
  | .l a, v, w, hn, hp => by
    simp only [V.nodes] at hn
    exact l2Size_two _ _ a.toTr a.nodes (by omega) v w hp (fun v w hp => l2Size_any a v w (by omega) hp)
  | .r a, v, w, hn, hp => by
    simp only [V.nodes] at hn
    exact l2Size_two _ _ a.toTr a.nodes (by omega) v w hp (fun v w hp => l2Size_any a v w (by omega) hp)
  | .f a, v, w, hn, hp => by
    simp only [V.nodes] at hn
    exact l2Size_two _ _ a.toTr a.nodes (by omega) v w hp (fun v w hp => l2Size_any a v w (by omega) hp)
  | .p a b, v, w, hn, hp => by
    simp only [V.nodes] at hn
    exact l2Size_three _ _ a.toTr b.toTr a.nodes b.nodes (by omega) (by omega) v w hp (fun v w hp => l2Size_any a v w (by omega) hp) (fun v w hp => l2Size_any b v w (by omega) hp)

end Go.Proofs.YtkciljcligohnaaDoor
