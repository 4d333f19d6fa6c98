/- readType, TypeValid, TypeSize. -/
import Derived.Test.YtkciljcligohnaaDoorTy3
import Derived.Test.YtkciljcligohnaaDoorSTy3
namespace Go.Proofs.YtkciljcligohnaaDoor
open Go.RowKit
set_option linter.unusedVariables false
set_option linter.unusedSimpArgs false

set_option maxRecDepth 100000 in
theorem readType_any (s : ByteArray) (w : World) (hs : s.size ≤ 9223372036854775807) : Calls Tryd.prog 46 #[.string s] w (TyPost w ((rdTy s.data.toList).map fun n => n.db [])) := by
  have ht := readText_any s w hs
  clear hs
  unfold rdTy
  cases hr : rdText s.data.toList with
  | none =>
    rw [hr] at ht
    replace ht : Calls Tryd.prog 80 #[.string s] w (fun e w' => Below w.heap.size w w' ∧ e = .returned (.pointer none)) := ht
    go_enter Tryd.func46, Tryd.ntmps46
    go_wp2_with (go_at_call 80; refine ht.mono ?_; rintro e w1 ⟨hb1, rfl⟩)
    go_ret
    exact .none_ hb1
  | some t =>
    have hsz := rdText_size hr
    have hok := rdText_ok hr
    rw [hr] at ht
    replace ht : Calls Tryd.prog 80 #[.string s] w (fun e w' => Below w.heap.size w w' ∧ ∃ p, e = .returned (.pointer p) ∧ EAt w' (fun _ => True) t p) := ht
    have hv : ∀ (w : World) (p : Option Addr), EAt w (fun _ => True) t p → Calls Tryd.prog 81 #[.pointer p, .slice none 0 0] w (TyPost w ((tyOf t).map fun n => n.db [])) := fun w p hp => typeOf_any t [] p none 0 w hp (.inl rfl) (by simp; omega)
    have hna := fun n h => tyOf_atoms t n h hok
    clear hr hok
    simp only
    cases hval : tyOf t with
    | none =>
      rw [hval] at hv
      have HV : Hid (∀ (w : World) (p : Option Addr), EAt w (fun _ => True) t p → Calls Tryd.prog 81 #[.pointer p, .slice none 0 0] w (fun e w' => Below w.heap.size w w' ∧ e = .returned (.pointer none))) := hv
      clear hna hsz hv hval
      go_enter Tryd.func46, Tryd.ntmps46
      go_wp2_with (first
        | (go_at_call 80; refine ht.mono ?_; rintro e w1 ⟨hb1, p, rfl, hp⟩; obtain ⟨g, rfl⟩ := hp.some_; have HP := Lib.hid hp; have HB1 := Lib.hid hb1; clear hp hb1)
        | (go_at_call 81; refine (HV.out _ _ HP.out).mono ?_; rintro e w2 ⟨hb2, rfl⟩))
      go_ret
      exact .none_ (up_trans HB1.out hb2)
    | some n =>
      have hn1 := hna n hval
      rw [hval] at hv
      have HV : Hid (∀ (w : World) (p : Option Addr), EAt w (fun _ => True) t p → Calls Tryd.prog 81 #[.pointer p, .slice none 0 0] w (fun e w' => Below w.heap.size w w' ∧ ∃ p, e = .returned (.pointer p) ∧ TyAt w' (n.db []) p)) := hv
      have HN : Hid (∀ (w : World) (p : Option Addr), TyAt w (n.db []) p → Calls Tryd.prog 63 #[.pointer p] w fun e w' => e = .returned (.int .i64 n.atoms) ∧ ∃ m, w' = w.drewN m) := fun w p hp => by
        have := tyAtoms_any (n.db []) w p hp (by rw [NT.db_atoms]; omega)
        rw [NT.db_atoms] at this
        exact this
      clear hna hsz hv hval hn1
      simp only
      by_cases h400 : 400 < n.atoms
      · rw [if_pos h400]
        generalize n.atoms = k at *
        go_enter Tryd.func46, Tryd.ntmps46
        go_wp2_with (first
          | (go_at_call 80; refine ht.mono ?_; rintro e w1 ⟨hb1, p, rfl, hp⟩; obtain ⟨g, rfl⟩ := hp.some_; have HP := Lib.hid hp; have HB1 := Lib.hid hb1; clear hp hb1)
          | (go_at_call 81; refine (HV.out _ _ HP.out).mono ?_; rintro e w2 ⟨hb2, p2, rfl, hp2⟩; obtain ⟨g2, rfl⟩ := hp2.some_; have HP2 := Lib.hid hp2; have HB2 := Lib.hid (up_trans HB1.out hb2); clear hp2 hb2)
          | (go_at_call 63; refine (HN.out _ _ HP2.out).mono ?_; rintro e w' ⟨rfl, m, rfl⟩))
        go_ret
        exact .none_ (up_trans HB2.out (up_drewN _ _))
      · rw [if_neg h400]
        generalize n.atoms = k at *
        go_enter Tryd.func46, Tryd.ntmps46
        go_wp2_with (first
          | (go_at_call 80; refine ht.mono ?_; rintro e w1 ⟨hb1, p, rfl, hp⟩; obtain ⟨g, rfl⟩ := hp.some_; have HP := Lib.hid hp; have HB1 := Lib.hid hb1; clear hp hb1)
          | (go_at_call 81; refine (HV.out _ _ HP.out).mono ?_; rintro e w2 ⟨hb2, p2, rfl, hp2⟩; obtain ⟨g2, rfl⟩ := hp2.some_; have HP2 := Lib.hid hp2; have HB2 := Lib.hid (up_trans HB1.out hb2); clear hp2 hb2)
          | (go_at_call 63; refine (HN.out _ _ HP2.out).mono ?_; rintro e w' ⟨rfl, m, rfl⟩))
        go_ret
        exact .some_ (up_trans HB2.out (up_drewN _ _)) (HP2.out.up (up_drewN _ _))

/-- What readType does, by the named type. -/
def RTPost (w : World) (o : Option NT) (e : Ending) (w' : World) : Prop :=
  Below w.heap.size w w' ∧ match o with
    | some t => ∃ g, e = .returned (.pointer (some ⟨g, 0, none⟩)) ∧ TyAt w' (t.db []) (some ⟨g, 0, none⟩)
    | none => e = .returned (.pointer none)
theorem readType_rt (s : ByteArray) (w : World) (hs : s.size ≤ 9223372036854775807) : Calls Tryd.prog 46 #[.string s] w (RTPost w (rdTy s.data.toList)) := by
  refine (readType_any s w hs).mono fun e w' h => ?_
  generalize rdTy s.data.toList = o at *
  cases o with
  | none => exact h
  | some n =>
    obtain ⟨h1, p, h2, h3⟩ := h
    have h3 : TyAt w' (n.db []) p := h3
    obtain ⟨g, rfl⟩ := h3.some_
    exact ⟨h1, g, h2, h3⟩

theorem TypeValid_any (s : ByteArray) (w : World) (hs : s.size ≤ 9223372036854775807) :
    Calls Tryd.prog 23 #[.string s] w fun e w' => e = .returned (.bool (rdTy s.data.toList).isSome) ∧ Below w.heap.size w w' := by
  have hv := readType_rt s w hs
  clear hs
  generalize rdTy s.data.toList = o at *
  cases o with
  | none =>
    go_enter Tryd.func23, Tryd.ntmps23
    go_wp2_with (go_at_call 46; refine hv.mono ?_; rintro e w1 ⟨hb1, rfl⟩)
    go_ret
    exact ⟨rfl, hb1⟩
  | some v =>
    go_enter Tryd.func23, Tryd.ntmps23
    go_wp2_with (go_at_call 46; refine hv.mono ?_; rintro e w1 ⟨hb1, g, rfl, hp⟩)
    go_ret
    exact ⟨rfl, hb1⟩

theorem TypeSize_any (s : ByteArray) (w : World) (hs : s.size ≤ 9223372036854775807) :
    Calls Tryd.prog 27 #[.string s] w fun e w' => e = .returned (.int .i64 (sizeOfT (rdTy s.data.toList))) ∧ Below w.heap.size w w' := by
  have hv := readType_rt s w hs
  have hn := fun v h => rdTy_some (l := s.data.toList) (n := v) h
  clear hs
  generalize rdTy s.data.toList = o at *
  cases o with
  | none =>
    clear hn
    go_enter Tryd.func27, Tryd.ntmps27
    go_wp2_with (go_at_call 46; refine hv.mono ?_; rintro e w1 ⟨hb1, rfl⟩)
    go_ret
    exact ⟨rfl, hb1⟩
  | some n =>
    have HN : Hid (∀ (w : World) (p : Option Addr), TyAt w (n.db []) p → Calls Tryd.prog 63 #[.pointer p] w fun e w' => e = .returned (.int .i64 n.atoms) ∧ ∃ m, w' = w.drewN m) := fun w p hp => by
      have := tyAtoms_any (n.db []) w p hp (by rw [NT.db_atoms]; have := (hn n rfl).2; omega)
      rw [NT.db_atoms] at this
      exact this
    clear hn
    go_enter Tryd.func27, Tryd.ntmps27
    go_wp2_with (first
      | (go_at_call 46; refine hv.mono ?_; rintro e w1 ⟨hb1, g, rfl, hp⟩; have HP := Lib.hid hp; clear hp)
      | (go_at_call 63; refine (HN.out _ _ HP.out).mono ?_; rintro e w' ⟨rfl, m, rfl⟩))
    go_ret
    exact ⟨rfl, up_trans hb1 (up_drewN _ _)⟩

end Go.Proofs.YtkciljcligohnaaDoor
