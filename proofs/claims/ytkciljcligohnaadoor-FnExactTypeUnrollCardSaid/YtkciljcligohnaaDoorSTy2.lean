/- The reference's types: l1Is, l1Atoms. -/
import Derived.Test.YtkciljcligohnaaDoorSTy
import Derived.Test.YtkciljcligohnaaDoorTyP
namespace Go.Proofs.YtkciljcligohnaaDoor
open Go.RowKit
set_option linter.unusedVariables false
set_option linter.unusedSimpArgs false

theorem TRow.at3 {w : World} {ok : Nat → Prop} {a : Tr} {ts : List Tr} {b o : Nat} (h : TRow w ok (a :: ts) (some ⟨b, o, none⟩)) :
    ∃ A n c, w.cell? ⟨b, o, none⟩ = some (.string (St a.atom)) ∧ w.cell? ⟨b, o + 1, none⟩ = some (.slice A n c) ∧ TAt w ok a (.agg #[.string (St a.atom), .slice A n c]) ∧ TRow w ok ts (some ⟨b, o + 2, none⟩) := by
  obtain ⟨s, ps⟩ := a
  obtain ⟨A, c, h0, h1, hc, hr, ht⟩ := h.next
  exact ⟨A, _, c, h0, h1, ⟨A, c, rfl, hc, hr⟩, ht⟩

set_option maxHeartbeats 2000000 in
set_option maxRecDepth 100000 in
theorem l1Is_atom (s : List UInt8) (hs : s ≠ []) (v : Value) (w : World) {ok : Nat → Prop} (hp : TAt w ok (.mk s []) v) :
    Calls Tryd.prog 76 #[v] w fun e w' => e = .returned (.bool (tyOf (.mk s [])).isSome) ∧ Below w.heap.size w w' := by
  obtain ⟨A, c, rfl, _⟩ := hp.parts
  clear hp
  have k0 := St_ne hs
  by_cases h1 : s = [48]
  · subst h1
    rw [tyOf_zero]
    go_enter Tryd.func76, Tryd.ntmps76
    go_wp2
    go_ret
    exact ⟨rfl, up1 w _⟩
  by_cases h2 : s = [49]
  · subst h2
    rw [tyOf_one]
    go_enter Tryd.func76, Tryd.ntmps76
    go_wp2
    go_ret
    exact ⟨rfl, up1 w _⟩
  have k1 := St_ne h1
  have k2 := St_ne h2
  have HP : Hid (∀ w, Calls Tryd.prog 48 #[.string (St s)] w fun e w' => e = .returned (.bool (paramB s)) ∧ w = w') := fun w => l1Param_any (St s) w
  have HL : Hid (∀ w, Calls Tryd.prog 49 #[.string (St s)] w fun e w' => e = .returned (.bool (loopB s)) ∧ w = w') := fun w => l1Loop_any (St s) w
  have hr : (tyOf (.mk s [])).isSome = (paramB s || loopB s) := by
    cases h3 : paramB s with
    | true => rw [tyOf_name (.inl h3)]; rfl
    | false =>
      cases h4 : loopB s with
      | true => rw [tyOf_name (.inr h4)]; rfl
      | false => rw [tyOf_other h1 h2 h3 h4 _ (by simp)]; rfl
  rw [hr]
  clear hr h1 h2 hs
  generalize paramB s = x at *
  generalize loopB s = y at *
  cases x with
  | true =>
    go_enter Tryd.func76, Tryd.ntmps76
    go_wp2_with (go_at_call 48; refine (HP.out _).mono ?_; rintro e w' ⟨rfl, rfl⟩)
    go_ret
    exact ⟨rfl, up1 w _⟩
  | false =>
    go_enter Tryd.func76, Tryd.ntmps76
    go_wp2_with (first
      | (go_at_call 48; refine (HP.out _).mono ?_; rintro e w' ⟨rfl, rfl⟩)
      | (go_at_call 49; refine (HL.out _).mono ?_; rintro e w' ⟨rfl, rfl⟩))
    go_ret
    exact ⟨rfl, up1 w _⟩

set_option maxHeartbeats 2000000 in
set_option maxRecDepth 100000 in
theorem l1Is_no (ps : List Tr) (h3 : ps.length ≠ 3) (v : Value) (w : World) {ok : Nat → Prop} (hp : TAt w ok (.mk [] ps) v) :
    Calls Tryd.prog 76 #[v] w fun e w' => e = .returned (.bool (tyOf (.mk [] ps)).isSome) ∧ Below w.heap.size w w' := by
  obtain ⟨A, c, rfl, _⟩ := hp.parts
  obtain ⟨n1, n2, n3, n4⟩ := nil_no
  rw [tyOf_other n1 n2 n3 n4 ps h3]
  have k1 : ((ps.length : Int) != 3) = true := by rw [bne_iff_ne]; omega
  clear hp h3 n1 n2 n3 n4
  generalize ps.length = n at *
  go_enter Tryd.func76, Tryd.ntmps76
  go_wp2
  go_ret
  exact ⟨rfl, up1 w _⟩

set_option maxHeartbeats 4000000 in
set_option maxRecDepth 100000 in
theorem l1Is_three (h : List UInt8) (q : List Tr) (a b : Tr) (v : Value) (w : World) (hp : TAt w (fun _ => True) (.mk [] [.mk h q, a, b]) v)
    (iha : ∀ (v : Value) (w : World), TAt w (fun _ => True) a v → Calls Tryd.prog 76 #[v] w fun e w' => e = .returned (.bool (tyOf a).isSome) ∧ Below w.heap.size w w')
    (ihb : ∀ (v : Value) (w : World), TAt w (fun _ => True) b v → Calls Tryd.prog 76 #[v] w fun e w' => e = .returned (.bool (tyOf b).isSome) ∧ Below w.heap.size w w') :
    Calls Tryd.prog 76 #[v] w fun e w' => e = .returned (.bool (tyOf (.mk [] [.mk h q, a, b])).isSome) ∧ Below w.heap.size w w' := by
  obtain ⟨n1, n2, n3, n4⟩ := nil_no
  rw [tyOf_three n1 n2 n3 n4]
  have hh : ∀ w1, Below w.heap.size w w1 → Calls Tryd.prog 55 #[v] w1 fun e w' => e = .returned (.string (St h)) ∧ Below w1.heap.size w1 w' := fun w1 (hb : Below w.heap.size w w1) => l1Head_any _ v w1 (hp.up hb)
  have HH := Lib.hid hh
  have IHA := Lib.hid iha
  have IHB := Lib.hid ihb
  obtain ⟨A, c, rfl, hr⟩ := hp.parts
  obtain ⟨bl, o, A', c', rfl, _, _, _, _, hr⟩ := hr.uncons
  obtain ⟨A2, n2, c2, d2, d3, ha, hr⟩ := hr.at3
  obtain ⟨A4, n4, c4, d4, d5, hb, _⟩ := hr.at3
  have HC : Hid (∀ w1, Below w.heap.size w w1 → w1.cell? ⟨bl, o + 2, none⟩ = some (.string (St a.atom)) ∧ w1.cell? ⟨bl, o + 3, none⟩ = some (.slice A2 n2 c2) ∧ w1.cell? ⟨bl, o + 4, none⟩ = some (.string (St b.atom)) ∧ w1.cell? ⟨bl, o + 5, none⟩ = some (.slice A4 n4 c4) ∧
      Hid (TAt w1 (fun _ => True) a (.agg #[.string (St a.atom), .slice A2 n2 c2])) ∧ Hid (TAt w1 (fun _ => True) b (.agg #[.string (St b.atom), .slice A4 n4 c4]))) := fun w1 hb' => ⟨cell_up hb' d2, cell_up hb' d3, cell_up hb' d4, cell_up hb' d5, ha.up hb', hb.up hb'⟩
  have HLP : Hid (∀ w, Calls Tryd.prog 49 #[.string (St a.atom)] w fun e w' => e = .returned (.bool (loopB a.atom)) ∧ w = w') := fun w => l1Loop_any (St a.atom) w
  clear hp hr ha hb hh iha ihb d2 d3 d4 d5 n1 n3
  have hx : (tyThree h a.atom (tyOf a) (tyOf b)).isSome = (((h == [43]) || (h == [42])) && ((tyOf a).isSome && (tyOf b).isSome) || ((h == [114, 101, 99]) && (loopB a.atom && (tyOf b).isSome))) := by
    unfold tyThree
    by_cases h1 : h = [43]
    · rw [if_pos h1, h1]
      cases tyOf a <;> cases tyOf b <;> rfl
    · rw [if_neg h1, St_ne h1]
      by_cases h2 : h = [42]
      · rw [if_pos h2, h2]
        cases tyOf a <;> cases tyOf b <;> rfl
      · rw [if_neg h2, St_ne h2]
        by_cases h3 : h = [114, 101, 99]
        · rw [if_pos h3, h3]
          cases hl : loopB a.atom with
          | true => rw [if_pos rfl]; cases tyOf b <;> rfl
          | false => rw [if_neg (by simp)]; rfl
        · rw [if_neg h3, St_ne h3]; rfl
  rw [hx]
  clear hx
  generalize (tyOf a).isSome = y at *
  generalize (tyOf b).isSome = z at *
  generalize loopB a.atom = l at *
  generalize a.atom = an at *
  generalize b.atom = bn at *
  by_cases hcase : h = [43] ∨ h = [42]
  · have hv : (((h == [43]) || (h == [42])) && (y && z) || ((h == [114, 101, 99]) && (l && z))) = (y && z) := by
      rcases hcase with rfl | rfl <;> simp
    rw [hv]
    clear hv
    have k : (h == [43]) = true ∨ ((h == [43]) = false ∧ (h == [42]) = true) := by rcases hcase with rfl | rfl <;> simp
    clear hcase
    rcases k with k1 | ⟨k1, k2⟩
    all_goals
      cases y with
      | false =>
        go_enter Tryd.func76, Tryd.ntmps76
        go_wp2_with (first
          | (go_at_call 55; refine (HH.out _ (up1 w _)).mono ?_; rintro e w1 ⟨rfl, hb1⟩; have g0 := block_up hb1 (block_new w _); have c0 := block_cell g0 0; have c1 := block_cell g0 1; simp only [List.getElem?_toArray, List.getElem?_cons_zero, List.getElem?_cons_succ] at c0 c1; obtain ⟨d2, d3, d4, d5, HA, HB⟩ := HC.out w1 (up_trans (up1 w _) hb1); have G0 := Lib.hid g0; have HB1 := Lib.hid (up_trans (up1 w _) hb1); clear hb1 g0)
          | (go_at_call 76; refine (IHA.out _ _ HA.out).mono ?_; rintro e w2 ⟨rfl, hb2⟩))
        go_ret
        exact ⟨rfl, up_trans HB1.out hb2⟩
      | true =>
        go_enter Tryd.func76, Tryd.ntmps76
        go_wp2_with (first
          | (go_at_call 55; refine (HH.out _ (up1 w _)).mono ?_; rintro e w1 ⟨rfl, hb1⟩; have g0 := block_up hb1 (block_new w _); have c0 := block_cell g0 0; have c1 := block_cell g0 1; simp only [List.getElem?_toArray, List.getElem?_cons_zero, List.getElem?_cons_succ] at c0 c1; obtain ⟨d2, d3, d4, d5, HA, HB⟩ := HC.out w1 (up_trans (up1 w _) hb1); have G0 := Lib.hid g0; have HB1 := Lib.hid (up_trans (up1 w _) hb1); clear hb1 g0)
          | (go_at_call 76; ((with_reducible refine (IHA.out _ _ HA.out).mono ?_); rintro e w2 ⟨rfl, hb2⟩; have g0 := block_up hb2 G0.out; have c0' := block_cell g0 0; have c1' := block_cell g0 1; simp only [List.getElem?_toArray, List.getElem?_cons_zero, List.getElem?_cons_succ] at c0' c1'; obtain ⟨_, _, d4', d5', _, HB'⟩ := HC.out w2 (up_trans HB1.out hb2); have HB2 := Lib.hid (up_trans HB1.out hb2); clear hb2 g0))
          | (go_at_call 76; ((with_reducible refine (IHB.out _ _ HB'.out).mono ?_); rintro e w3 ⟨rfl, hb3⟩)))
        go_ret
        exact ⟨rfl, up_trans HB2.out hb3⟩
  · have k1 := St_ne (fun h' => hcase (.inl h'))
    have k2 := St_ne (fun h' => hcase (.inr h'))
    by_cases h3 : h = [114, 101, 99]
    · subst h3
      have hv : (((([114, 101, 99] : List UInt8) == [43]) || (([114, 101, 99] : List UInt8) == [42])) && (y && z) || ((([114, 101, 99] : List UInt8) == [114, 101, 99]) && (l && z))) = (l && z) := by rw [k1, k2]; rfl
      rw [hv]
      clear hv hcase
      cases l with
      | false =>
        go_enter Tryd.func76, Tryd.ntmps76
        go_wp2_with (first
          | (go_at_call 55; refine (HH.out _ (up1 w _)).mono ?_; rintro e w1 ⟨rfl, hb1⟩; have g0 := block_up hb1 (block_new w _); have c0 := block_cell g0 0; have c1 := block_cell g0 1; simp only [List.getElem?_toArray, List.getElem?_cons_zero, List.getElem?_cons_succ] at c0 c1; obtain ⟨d2, d3, d4, d5, HA, HB⟩ := HC.out w1 (up_trans (up1 w _) hb1); have G0 := Lib.hid g0; have HB1 := Lib.hid (up_trans (up1 w _) hb1); clear hb1 g0)
          | (go_at_call 49; refine (HLP.out _).mono ?_; rintro e w2 ⟨rfl, rfl⟩))
        go_ret
        exact ⟨rfl, HB1.out⟩
      | true =>
        go_enter Tryd.func76, Tryd.ntmps76
        go_wp2_with (first
          | (go_at_call 55; refine (HH.out _ (up1 w _)).mono ?_; rintro e w1 ⟨rfl, hb1⟩; have g0 := block_up hb1 (block_new w _); have c0 := block_cell g0 0; have c1 := block_cell g0 1; simp only [List.getElem?_toArray, List.getElem?_cons_zero, List.getElem?_cons_succ] at c0 c1; obtain ⟨d2, d3, d4, d5, HA, HB⟩ := HC.out w1 (up_trans (up1 w _) hb1); have G0 := Lib.hid g0; have HB1 := Lib.hid (up_trans (up1 w _) hb1); clear hb1 g0)
          | (go_at_call 49; refine (HLP.out _).mono ?_; rintro e w2 ⟨rfl, rfl⟩)
          | (go_at_call 76; refine (IHB.out _ _ HB.out).mono ?_; rintro e w3 ⟨rfl, hb3⟩))
        go_ret
        exact ⟨rfl, up_trans HB1.out hb3⟩
    · have k3 := St_ne h3
      have hv : (((h == [43]) || (h == [42])) && (y && z) || ((h == [114, 101, 99]) && (l && z))) = false := by rw [k1, k2, k3]; rfl
      rw [hv]
      clear hv hcase h3
      go_enter Tryd.func76, Tryd.ntmps76
      go_wp2_with (go_at_call 55; refine (HH.out _ (up1 w _)).mono ?_; rintro e w1 ⟨rfl, hb1⟩; have g0 := block_up hb1 (block_new w _); have c0 := block_cell g0 0; have c1 := block_cell g0 1; simp only [List.getElem?_toArray, List.getElem?_cons_zero, List.getElem?_cons_succ] at c0 c1; obtain ⟨d2, d3, d4, d5, HA, HB⟩ := HC.out w1 (up_trans (up1 w _) hb1); have HB1 := Lib.hid (up_trans (up1 w _) hb1); clear hb1 g0)
      all_goals go_ret
      all_goals exact ⟨rfl, HB1.out⟩

theorem l1Is_any : ∀ (t : Tr) (v : Value) (w : World), OkT t → TAt w (fun _ => True) t v → Calls Tryd.prog 76 #[v] w fun e w' => e = .returned (.bool (tyOf t).isSome) ∧ Below w.heap.size w w'
  | .mk s ps, v, w, hok, hp => by
    by_cases hs : s = []
    · subst hs
      match ps, hok, hp with
      | [], _, hp => exact l1Is_no [] (by simp) v w hp
      | [a], _, hp => exact l1Is_no [a] (by simp) v w hp
      | [a, b], _, hp => exact l1Is_no [a, b] (by simp) v w hp
      | [.mk h q, a, b], hok, hp => exact l1Is_three h q a b v w hp (fun v w hp => l1Is_any a v w hok.2.2.1 hp) (fun v w hp => l1Is_any b v w hok.2.2.2.1 hp)
      | a :: b :: c :: d :: r, _, hp => exact l1Is_no (a :: b :: c :: d :: r) (by simp) v w hp
    · have := hok.1 hs
      subst this
      exact l1Is_atom s hs v w hp

end Go.Proofs.YtkciljcligohnaaDoor
