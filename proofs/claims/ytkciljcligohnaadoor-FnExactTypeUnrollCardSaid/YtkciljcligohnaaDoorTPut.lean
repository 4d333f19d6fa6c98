/- TypePut of the reference. -/
import Derived.Test.YtkciljcligohnaaDoorTCan
namespace Go.Proofs.YtkciljcligohnaaDoor
open Go.RowKit
set_option linter.unusedVariables false
set_option linter.unusedSimpArgs false

theorem l1Sub_all (nm : List UInt8) (hnm : paramB nm = true ∨ loopB nm = true) (u n : NT) (hn : n.ok3) (hna : n.atoms ≤ 400) (hu3 : u.ok3) (hua : u.atoms ≤ 400) (v vu : Value) (w : World) (hp : TAt w (fun _ => True) n.toTr v) (hu : TAt w (fun _ => True) u.toTr vu) :
    Calls Tryd.prog 51 #[v, .string (St nm), vu] w fun e w' => (∃ x A m c, e = .returned (.agg #[.string x, .slice A m c]) ∧ TAt w' (fun _ => True) (subN nm u n).toTr (.agg #[.string x, .slice A m c])) ∧ Below w.heap.size w w' :=
  (l1Sub_any nm hnm u n hn hna hu3 hua v vu w (fun _ => True) (fun k => k < w.heap.size) (fun _ h => h) hp (hu.move fun k hk _ => ⟨hk, rfl⟩)).mono fun e w' ⟨⟨x, A, m, c, h1, h2⟩, h3⟩ => ⟨⟨x, A, m, c, h1, h2.weak fun _ _ => trivial⟩, h3⟩
theorem subN_canon (nm : List UInt8) (hnm : paramB nm = true ∨ loopB nm = true) (u n : NT) (hn : n.ok3) (hna : n.atoms ≤ 400) (hu3 : u.ok3) (hua : u.atoms ≤ 400) (hf : fitsN nm u n = true) (v : Value) (w : World) (hp : TAt w (fun _ => True) (subN nm u n).toTr v) :
    Calls Tryd.prog 45 #[v] w fun e w' => e = .returned (.tuple #[.string (St (((n.db []).put nm (u.db [])).told.getD [])), .bool ((n.db []).put nm (u.db [])).told.isSome]) ∧ Below w.heap.size w w' := by
  have hat : (subN nm u n).atoms ≤ 400 := by
    rw [← NT.db_atoms _ [], subN_db nm u n hn]
    rw [fits_put nm u n hn] at hf
    simpa using hf
  have hfl : (frees [u, .name nm]).length ≤ 500 := by
    rw [frees_two, List.length_append]
    have := names_len u
    simp
    omega
  have := l1Canon_any (subN nm u n) (subN_ok3 nm u n hn hu3 hna hfl) (by omega) v w hp
  rw [subN_db nm u n hn, outOf_eq, outT_eq] at this
  exact this

set_option maxHeartbeats 4000000 in
set_option maxRecDepth 100000 in
theorem specTypePut_any (s nm u : ByteArray) (w : World) (hs : s.size ≤ 9223372036854775807) (hu : u.size ≤ 9223372036854775807) :
    Calls Tryd.prog 16 #[.string s, .string nm, .string u] w fun e w' => e = .returned (.tuple #[.string (St ((putOf (rdTy s.data.toList) (rdTy u.data.toList) nm.data.toList).getD [])), .bool (putOf (rdTy s.data.toList) (rdTy u.data.toList) nm.data.toList).isSome]) ∧ Below w.heap.size w w' := by
  have hv := fun w => l1Type_any s w hs
  have hv2 := fun w => l1Type_any u w hu
  have hn := fun v h => rdTy_some (l := s.data.toList) (n := v) h
  have hn2 := fun v h => rdTy_some (l := u.data.toList) (n := v) h
  have HP : Hid (∀ w, Calls Tryd.prog 48 #[.string nm] w fun e w' => e = .returned (.bool (paramB nm.data.toList)) ∧ w = w') := fun w => l1Param_any nm w
  have HL : Hid (∀ w, Calls Tryd.prog 49 #[.string nm] w fun e w' => e = .returned (.bool (loopB nm.data.toList)) ∧ w = w') := fun w => l1Loop_any nm w
  have HFI : Hid (∀ (n m : NT), (paramB nm.data.toList = true ∨ loopB nm.data.toList = true) → n.ok → n.atoms ≤ 400 → m.ok → m.atoms ≤ 400 → ∀ (w : World) (v vu : Value), TAt w (fun _ => True) n.toTr v → TAt w (fun _ => True) m.toTr vu → Calls Tryd.prog 50 #[v, .string nm, vu] w fun e w' => e = .returned (.bool (fitsN nm.data.toList m n)) ∧ Below w.heap.size w w') := fun n m hx h1 h2 h3 h4 w v vu hp hq => l1Fits_any nm.data.toList (name_ne hx) m n (ok_ok3 h1) h2 (ok_ok3 h3) h4 v vu w hp hq
  have HSU : Hid (∀ (n m : NT), (paramB nm.data.toList = true ∨ loopB nm.data.toList = true) → n.ok → n.atoms ≤ 400 → m.ok → m.atoms ≤ 400 → ∀ (w : World) (v vu : Value), TAt w (fun _ => True) n.toTr v → TAt w (fun _ => True) m.toTr vu → Calls Tryd.prog 51 #[v, .string nm, vu] w fun e w' => (∃ x A m' c, e = .returned (.agg #[.string x, .slice A m' c]) ∧ TAt w' (fun _ => True) (subN nm.data.toList m n).toTr (.agg #[.string x, .slice A m' c])) ∧ Below w.heap.size w w') := fun n m hx h1 h2 h3 h4 w v vu hp hq => l1Sub_all nm.data.toList hx m n (ok_ok3 h1) h2 (ok_ok3 h3) h4 v vu w hp hq
  generalize nm.data.toList = x at *
  generalize rdTy s.data.toList = o at *
  generalize rdTy u.data.toList = o2 at *
  clear hs hu
  have HV := Lib.hid hv
  have HV2 := Lib.hid hv2
  clear hv hv2
  cases o with
  | none =>
    have HV2' : Hid (∀ w, Calls Tryd.prog 44 #[.string u] w fun e w' => Below w.heap.size w w' ∧ ∃ x A n c b, e = .returned (.tuple #[.agg #[.string x, .slice A n c], .bool b])) := fun w => (HV2.out w).mono fun e w' ⟨h1, h2⟩ => ⟨h1, by
      cases o2 with
      | none => obtain ⟨x, A, n, c, h⟩ := h2; exact ⟨x, A, n, c, _, h⟩
      | some m => obtain ⟨x, A, n, c, h, _⟩ := h2; exact ⟨x, A, n, c, _, h⟩⟩
    rw [show putOf none o2 x = none by cases o2 <;> rfl]
    clear hn hn2 HP HL HFI HSU HV2
    show Calls _ _ _ _ (fun e w' => e = .returned (.tuple #[.string (St []), .bool false]) ∧ _)
    go_enter Tryd.func16, Tryd.ntmps16
    go_wp2_with (go_at_call 44; first
      | (have HB1' := HB1.out; clear HB1'; (with_reducible refine (HV2'.out _).mono ?_); rintro e w2 ⟨hb2, x2, A2, n2, c2, b2, rfl⟩; have HB2 := Lib.hid (up_trans (up_alloc HB1.out _) hb2); clear hb2)
      | ((with_reducible refine (HV.out _).mono ?_); rintro e w1 ⟨hb1, x1, A1, n1, c1, rfl⟩; have HB1 := Lib.hid hb1; clear hb1))
    go_ret2
    exact ⟨rfl, up_alloc HB2.out _⟩
  | some n =>
    obtain ⟨hok, hat⟩ := hn n rfl
    replace HV : Hid (∀ w, Calls Tryd.prog 44 #[.string s] w fun e w' => Below w.heap.size w w' ∧ ∃ x A n' c, e = .returned (.tuple #[.agg #[.string x, .slice A n' c], .bool true]) ∧ TAt w' (fun k => w.heap.size ≤ k) n.toTr (.agg #[.string x, .slice A n' c])) := HV
    cases o2 with
    | none =>
      clear hn hn2 HP HL HFI HSU hok hat
      show Calls _ _ _ _ (fun e w' => e = .returned (.tuple #[.string (St []), .bool false]) ∧ _)
      go_enter Tryd.func16, Tryd.ntmps16
      go_wp2_with (go_at_call 44; first
        | (have HB1' := HB1.out; clear HB1'; (with_reducible refine (HV2.out _).mono ?_); rintro e w2 ⟨hb2, x2, A2, n2, c2, rfl⟩; have HB2 := Lib.hid (up_trans (up_alloc HB1.out _) hb2); clear hb2)
        | ((with_reducible refine (HV.out _).mono ?_); rintro e w1 ⟨hb1, x1, A1, n1, c1, rfl, _⟩; have HB1 := Lib.hid hb1; clear hb1))
      go_ret2
      exact ⟨rfl, up_alloc HB2.out _⟩
    | some m =>
      obtain ⟨hok2, hat2⟩ := hn2 m rfl
      replace HV2 : Hid (∀ w, Calls Tryd.prog 44 #[.string u] w fun e w' => Below w.heap.size w w' ∧ ∃ x A n' c, e = .returned (.tuple #[.agg #[.string x, .slice A n' c], .bool true]) ∧ TAt w' (fun k => w.heap.size ≤ k) m.toTr (.agg #[.string x, .slice A n' c])) := HV2
      have hpo : putOf (some n) (some m) x = if paramB x = true ∨ loopB x = true then ((n.db []).put x (m.db [])).told else none := rfl
      rw [hpo]
      clear hpo hn hn2
      cases hp : paramB x with
      | true =>
        have hx : paramB x = true ∨ loopB x = true := .inl hp
        rw [if_pos (by simp)]
        cases hf : fitsN x m n with
        | false =>
          have HF : Hid (∀ (w : World) (v vu : Value), TAt w (fun _ => True) n.toTr v → TAt w (fun _ => True) m.toTr vu → Calls Tryd.prog 50 #[v, .string nm, vu] w fun e w' => e = .returned (.bool false) ∧ Below w.heap.size w w') := fun w v vu h1 h2 => by
            have := HFI.out n m hx hok hat hok2 hat2 w v vu h1 h2
            rw [hf] at this
            exact this
          have hbig : ((n.db []).put x (m.db [])).told = none := told_big (by rw [fits_put x m n (ok_ok3 hok)] at hf; simpa using hf)
          rw [hbig]
          rw [hp] at HP
          clear HL
          clear HFI HSU hok hat hok2 hat2 hf hx hbig hp 
          show Calls _ _ _ _ (fun e w' => e = .returned (.tuple #[.string (St []), .bool false]) ∧ _)
          go_enter Tryd.func16, Tryd.ntmps16
          go_wp2_with (first
            | (go_at_call 44; first
              | (have HB1' := HB1.out; clear HB1'; (with_reducible refine (HV2.out _).mono ?_); rintro e w2 ⟨hb2, x2, A2, n2, c2, rfl, hp2⟩; have HB2 := Lib.hid (up_trans (up_alloc HB1.out _) hb2); have X2 := Lib.hid (block_up hb2 (block_new w1 (.cells #[.string x1, .slice A1 n1 c1] 43))); have T1 := Lib.hid ((HP1.out.up (up1 w1 (.cells #[.string x1, .slice A1 n1 c1] 43))).up hb2); have T2 := Lib.hid hp2; have e0 : (w2.alloc (.cells #[.string x2, .slice A2 n2 c2] 43)).cell? ⟨w1.heap.size, 0, none⟩ = some (.string x1) := block_cell (block_alloc X2.out _) 0; have e1 : (w2.alloc (.cells #[.string x2, .slice A2 n2 c2] 43)).cell? ⟨w1.heap.size, 1, none⟩ = some (.slice A1 n1 c1) := block_cell (block_alloc X2.out _) 1; clear hb2 hp2)
              | ((with_reducible refine (HV.out _).mono ?_); rintro e w1 ⟨hb1, x1, A1, n1, c1, rfl, hp1⟩; have HB1 := Lib.hid hb1; have HP1 := Lib.hid (TAt.weak (fun _ _ => trivial) hp1); clear hb1 hp1))
            | (go_at_call 48; (with_reducible refine (HP.out _).mono ?_); rintro e w' ⟨rfl, rfl⟩)
            | (go_at_call 50; (with_reducible refine (HF.out _ _ _ (TAt.up (up1 _ _) T1.out) (TAt.up (up1 _ _) (TAt.weak (fun _ _ => trivial) T2.out))).mono ?_); rintro e w4 ⟨rfl, hb4⟩; have HB4 := Lib.hid (up_trans (up_alloc HB2.out _) hb4); have T14 := Lib.hid (TAt.up hb4 (TAt.up (up1 _ _) T1.out)); have T24 := Lib.hid (TAt.up hb4 (TAt.up (up1 _ _) (TAt.weak (fun _ _ => trivial) T2.out))); have X4 := Lib.hid (block_up hb4 (block_alloc X2.out (.cells #[.string x2, .slice A2 n2 c2] 43))); have Y4 := Lib.hid (block_up hb4 (block_new w2 (.cells #[.string x2, .slice A2 n2 c2] 43))); have f0 := block_cell X4.out 0; have f1 := block_cell X4.out 1; have f2 := block_cell Y4.out 0; have f3 := block_cell Y4.out 1; clear hb4))
          go_ret2
          exact ⟨rfl, HB4.out⟩
        | true =>
          have HF : Hid (∀ (w : World) (v vu : Value), TAt w (fun _ => True) n.toTr v → TAt w (fun _ => True) m.toTr vu → Calls Tryd.prog 50 #[v, .string nm, vu] w fun e w' => e = .returned (.bool true) ∧ Below w.heap.size w w') := fun w v vu h1 h2 => by
            have := HFI.out n m hx hok hat hok2 hat2 w v vu h1 h2
            rw [hf] at this
            exact this
          have HS := Lib.hid (HSU.out n m hx hok hat hok2 hat2)
          have HC : Hid (∀ (w : World) (v : Value), TAt w (fun _ => True) (subN x m n).toTr v → Calls Tryd.prog 45 #[v] w fun e w' => e = .returned (.tuple #[.string (St (((n.db []).put x (m.db [])).told.getD [])), .bool ((n.db []).put x (m.db [])).told.isSome]) ∧ Below w.heap.size w w') := fun w v h => subN_canon x hx m n (ok_ok3 hok) hat (ok_ok3 hok2) hat2 hf v w h
          generalize ((n.db []).put x (m.db [])).told.getD [] = tx at *
          generalize ((n.db []).put x (m.db [])).told.isSome = b at *
          rw [hp] at HP
          clear HL
          clear HFI HSU hok hat hok2 hat2 hf hx hp 
          generalize (subN x m n).toTr = tr at *
          go_enter Tryd.func16, Tryd.ntmps16
          go_wp2_with (first
            | (go_at_call 44; first
              | (have HB1' := HB1.out; clear HB1'; (with_reducible refine (HV2.out _).mono ?_); rintro e w2 ⟨hb2, x2, A2, n2, c2, rfl, hp2⟩; have HB2 := Lib.hid (up_trans (up_alloc HB1.out _) hb2); have X2 := Lib.hid (block_up hb2 (block_new w1 (.cells #[.string x1, .slice A1 n1 c1] 43))); have T1 := Lib.hid ((HP1.out.up (up1 w1 (.cells #[.string x1, .slice A1 n1 c1] 43))).up hb2); have T2 := Lib.hid hp2; have e0 : (w2.alloc (.cells #[.string x2, .slice A2 n2 c2] 43)).cell? ⟨w1.heap.size, 0, none⟩ = some (.string x1) := block_cell (block_alloc X2.out _) 0; have e1 : (w2.alloc (.cells #[.string x2, .slice A2 n2 c2] 43)).cell? ⟨w1.heap.size, 1, none⟩ = some (.slice A1 n1 c1) := block_cell (block_alloc X2.out _) 1; clear hb2 hp2)
              | ((with_reducible refine (HV.out _).mono ?_); rintro e w1 ⟨hb1, x1, A1, n1, c1, rfl, hp1⟩; have HB1 := Lib.hid hb1; have HP1 := Lib.hid (TAt.weak (fun _ _ => trivial) hp1); clear hb1 hp1))
            | (go_at_call 48; (with_reducible refine (HP.out _).mono ?_); rintro e w' ⟨rfl, rfl⟩)
            | (go_at_call 50; (with_reducible refine (HF.out _ _ _ (TAt.up (up1 _ _) T1.out) (TAt.up (up1 _ _) (TAt.weak (fun _ _ => trivial) T2.out))).mono ?_); rintro e w4 ⟨rfl, hb4⟩; have HB4 := Lib.hid (up_trans (up_alloc HB2.out _) hb4); have T14 := Lib.hid (TAt.up hb4 (TAt.up (up1 _ _) T1.out)); have T24 := Lib.hid (TAt.up hb4 (TAt.up (up1 _ _) (TAt.weak (fun _ _ => trivial) T2.out))); have X4 := Lib.hid (block_up hb4 (block_alloc X2.out (.cells #[.string x2, .slice A2 n2 c2] 43))); have Y4 := Lib.hid (block_up hb4 (block_new w2 (.cells #[.string x2, .slice A2 n2 c2] 43))); have f0 := block_cell X4.out 0; have f1 := block_cell X4.out 1; have f2 := block_cell Y4.out 0; have f3 := block_cell Y4.out 1; clear hb4)
            | (go_at_call 51; (with_reducible refine (HS.out _ _ _ T14.out T24.out).mono ?_); rintro e w5 ⟨⟨x5, A5, n5, c5, rfl, ht5⟩, hb5⟩; have HB5 := Lib.hid (up_trans HB4.out hb5); have T5 := Lib.hid ht5; clear ht5 hb5)
            | (go_at_call 45; (with_reducible refine (HC.out _ _ T5.out).mono ?_); rintro e w6 ⟨rfl, hb6⟩; have HB6 := Lib.hid (up_trans HB5.out hb6); clear hb6))
          go_ret2
          exact ⟨rfl, HB6.out⟩
      | false =>
        cases hl : loopB x with
        | true =>
          have hx : paramB x = true ∨ loopB x = true := .inr hl
          rw [if_pos (by simp)]
          cases hf : fitsN x m n with
          | false =>
            have HF : Hid (∀ (w : World) (v vu : Value), TAt w (fun _ => True) n.toTr v → TAt w (fun _ => True) m.toTr vu → Calls Tryd.prog 50 #[v, .string nm, vu] w fun e w' => e = .returned (.bool false) ∧ Below w.heap.size w w') := fun w v vu h1 h2 => by
              have := HFI.out n m hx hok hat hok2 hat2 w v vu h1 h2
              rw [hf] at this
              exact this
            have hbig : ((n.db []).put x (m.db [])).told = none := told_big (by rw [fits_put x m n (ok_ok3 hok)] at hf; simpa using hf)
            rw [hbig]
            rw [hp] at HP
            rw [hl] at HL
            clear HFI HSU hok hat hok2 hat2 hf hx hbig hp hl
            show Calls _ _ _ _ (fun e w' => e = .returned (.tuple #[.string (St []), .bool false]) ∧ _)
            go_enter Tryd.func16, Tryd.ntmps16
            go_wp2_with (first
              | (go_at_call 44; first
                | (have HB1' := HB1.out; clear HB1'; (with_reducible refine (HV2.out _).mono ?_); rintro e w2 ⟨hb2, x2, A2, n2, c2, rfl, hp2⟩; have HB2 := Lib.hid (up_trans (up_alloc HB1.out _) hb2); have X2 := Lib.hid (block_up hb2 (block_new w1 (.cells #[.string x1, .slice A1 n1 c1] 43))); have T1 := Lib.hid ((HP1.out.up (up1 w1 (.cells #[.string x1, .slice A1 n1 c1] 43))).up hb2); have T2 := Lib.hid hp2; have e0 : (w2.alloc (.cells #[.string x2, .slice A2 n2 c2] 43)).cell? ⟨w1.heap.size, 0, none⟩ = some (.string x1) := block_cell (block_alloc X2.out _) 0; have e1 : (w2.alloc (.cells #[.string x2, .slice A2 n2 c2] 43)).cell? ⟨w1.heap.size, 1, none⟩ = some (.slice A1 n1 c1) := block_cell (block_alloc X2.out _) 1; clear hb2 hp2)
                | ((with_reducible refine (HV.out _).mono ?_); rintro e w1 ⟨hb1, x1, A1, n1, c1, rfl, hp1⟩; have HB1 := Lib.hid hb1; have HP1 := Lib.hid (TAt.weak (fun _ _ => trivial) hp1); clear hb1 hp1))
              | (go_at_call 48; (with_reducible refine (HP.out _).mono ?_); rintro e w' ⟨rfl, rfl⟩)
              | (go_at_call 49; (with_reducible refine (HL.out _).mono ?_); rintro e w' ⟨rfl, rfl⟩)
              | (go_at_call 50; (with_reducible refine (HF.out _ _ _ (TAt.up (up1 _ _) T1.out) (TAt.up (up1 _ _) (TAt.weak (fun _ _ => trivial) T2.out))).mono ?_); rintro e w4 ⟨rfl, hb4⟩; have HB4 := Lib.hid (up_trans (up_alloc HB2.out _) hb4); have T14 := Lib.hid (TAt.up hb4 (TAt.up (up1 _ _) T1.out)); have T24 := Lib.hid (TAt.up hb4 (TAt.up (up1 _ _) (TAt.weak (fun _ _ => trivial) T2.out))); have X4 := Lib.hid (block_up hb4 (block_alloc X2.out (.cells #[.string x2, .slice A2 n2 c2] 43))); have Y4 := Lib.hid (block_up hb4 (block_new w2 (.cells #[.string x2, .slice A2 n2 c2] 43))); have f0 := block_cell X4.out 0; have f1 := block_cell X4.out 1; have f2 := block_cell Y4.out 0; have f3 := block_cell Y4.out 1; clear hb4))
            go_ret2
            exact ⟨rfl, HB4.out⟩
          | true =>
            have HF : Hid (∀ (w : World) (v vu : Value), TAt w (fun _ => True) n.toTr v → TAt w (fun _ => True) m.toTr vu → Calls Tryd.prog 50 #[v, .string nm, vu] w fun e w' => e = .returned (.bool true) ∧ Below w.heap.size w w') := fun w v vu h1 h2 => by
              have := HFI.out n m hx hok hat hok2 hat2 w v vu h1 h2
              rw [hf] at this
              exact this
            have HS := Lib.hid (HSU.out n m hx hok hat hok2 hat2)
            have HC : Hid (∀ (w : World) (v : Value), TAt w (fun _ => True) (subN x m n).toTr v → Calls Tryd.prog 45 #[v] w fun e w' => e = .returned (.tuple #[.string (St (((n.db []).put x (m.db [])).told.getD [])), .bool ((n.db []).put x (m.db [])).told.isSome]) ∧ Below w.heap.size w w') := fun w v h => subN_canon x hx m n (ok_ok3 hok) hat (ok_ok3 hok2) hat2 hf v w h
            generalize ((n.db []).put x (m.db [])).told.getD [] = tx at *
            generalize ((n.db []).put x (m.db [])).told.isSome = b at *
            rw [hp] at HP
            rw [hl] at HL
            clear HFI HSU hok hat hok2 hat2 hf hx hp hl
            generalize (subN x m n).toTr = tr at *
            go_enter Tryd.func16, Tryd.ntmps16
            go_wp2_with (first
              | (go_at_call 44; first
                | (have HB1' := HB1.out; clear HB1'; (with_reducible refine (HV2.out _).mono ?_); rintro e w2 ⟨hb2, x2, A2, n2, c2, rfl, hp2⟩; have HB2 := Lib.hid (up_trans (up_alloc HB1.out _) hb2); have X2 := Lib.hid (block_up hb2 (block_new w1 (.cells #[.string x1, .slice A1 n1 c1] 43))); have T1 := Lib.hid ((HP1.out.up (up1 w1 (.cells #[.string x1, .slice A1 n1 c1] 43))).up hb2); have T2 := Lib.hid hp2; have e0 : (w2.alloc (.cells #[.string x2, .slice A2 n2 c2] 43)).cell? ⟨w1.heap.size, 0, none⟩ = some (.string x1) := block_cell (block_alloc X2.out _) 0; have e1 : (w2.alloc (.cells #[.string x2, .slice A2 n2 c2] 43)).cell? ⟨w1.heap.size, 1, none⟩ = some (.slice A1 n1 c1) := block_cell (block_alloc X2.out _) 1; clear hb2 hp2)
                | ((with_reducible refine (HV.out _).mono ?_); rintro e w1 ⟨hb1, x1, A1, n1, c1, rfl, hp1⟩; have HB1 := Lib.hid hb1; have HP1 := Lib.hid (TAt.weak (fun _ _ => trivial) hp1); clear hb1 hp1))
              | (go_at_call 48; (with_reducible refine (HP.out _).mono ?_); rintro e w' ⟨rfl, rfl⟩)
              | (go_at_call 49; (with_reducible refine (HL.out _).mono ?_); rintro e w' ⟨rfl, rfl⟩)
              | (go_at_call 50; (with_reducible refine (HF.out _ _ _ (TAt.up (up1 _ _) T1.out) (TAt.up (up1 _ _) (TAt.weak (fun _ _ => trivial) T2.out))).mono ?_); rintro e w4 ⟨rfl, hb4⟩; have HB4 := Lib.hid (up_trans (up_alloc HB2.out _) hb4); have T14 := Lib.hid (TAt.up hb4 (TAt.up (up1 _ _) T1.out)); have T24 := Lib.hid (TAt.up hb4 (TAt.up (up1 _ _) (TAt.weak (fun _ _ => trivial) T2.out))); have X4 := Lib.hid (block_up hb4 (block_alloc X2.out (.cells #[.string x2, .slice A2 n2 c2] 43))); have Y4 := Lib.hid (block_up hb4 (block_new w2 (.cells #[.string x2, .slice A2 n2 c2] 43))); have f0 := block_cell X4.out 0; have f1 := block_cell X4.out 1; have f2 := block_cell Y4.out 0; have f3 := block_cell Y4.out 1; clear hb4)
              | (go_at_call 51; (with_reducible refine (HS.out _ _ _ T14.out T24.out).mono ?_); rintro e w5 ⟨⟨x5, A5, n5, c5, rfl, ht5⟩, hb5⟩; have HB5 := Lib.hid (up_trans HB4.out hb5); have T5 := Lib.hid ht5; clear ht5 hb5)
              | (go_at_call 45; (with_reducible refine (HC.out _ _ T5.out).mono ?_); rintro e w6 ⟨rfl, hb6⟩; have HB6 := Lib.hid (up_trans HB5.out hb6); clear hb6))
            go_ret2
            exact ⟨rfl, HB6.out⟩
        | false =>
          rw [if_neg (by simp)]
          rw [hp] at HP
          rw [hl] at HL
          clear hp hl HFI HSU hok hat hok2 hat2
          show Calls _ _ _ _ (fun e w' => e = .returned (.tuple #[.string (St []), .bool false]) ∧ _)
          go_enter Tryd.func16, Tryd.ntmps16
          go_wp2_with (first
            | (go_at_call 44; first
              | (have HB1' := HB1.out; clear HB1'; (with_reducible refine (HV2.out _).mono ?_); rintro e w2 ⟨hb2, x2, A2, n2, c2, rfl, hp2⟩; have HB2 := Lib.hid (up_trans (up_alloc HB1.out _) hb2); have X2 := Lib.hid (block_up hb2 (block_new w1 (.cells #[.string x1, .slice A1 n1 c1] 43))); have T1 := Lib.hid ((HP1.out.up (up1 w1 (.cells #[.string x1, .slice A1 n1 c1] 43))).up hb2); have T2 := Lib.hid hp2; have e0 : (w2.alloc (.cells #[.string x2, .slice A2 n2 c2] 43)).cell? ⟨w1.heap.size, 0, none⟩ = some (.string x1) := block_cell (block_alloc X2.out _) 0; have e1 : (w2.alloc (.cells #[.string x2, .slice A2 n2 c2] 43)).cell? ⟨w1.heap.size, 1, none⟩ = some (.slice A1 n1 c1) := block_cell (block_alloc X2.out _) 1; clear hb2 hp2)
              | ((with_reducible refine (HV.out _).mono ?_); rintro e w1 ⟨hb1, x1, A1, n1, c1, rfl, hp1⟩; have HB1 := Lib.hid hb1; have HP1 := Lib.hid (TAt.weak (fun _ _ => trivial) hp1); clear hb1 hp1))
            | (go_at_call 48; (with_reducible refine (HP.out _).mono ?_); rintro e w' ⟨rfl, rfl⟩)
            | (go_at_call 49; (with_reducible refine (HL.out _).mono ?_); rintro e w' ⟨rfl, rfl⟩))
          go_ret2
          exact ⟨rfl, up_alloc HB2.out _⟩

end Go.Proofs.YtkciljcligohnaaDoor
