/- The program's closedType, valueOf, ValueIs; the reference's ValueIs is in SIs. -/
import Derived.Test.YtpokompplapkhaaGreatDoorIsOf2
import Derived.Test.YtpokompplapkhaaGreatDoorMK
import Derived.Test.YtpokompplapkhaaGreatDoorMI
namespace Go.Proofs.YtpokompplapkhaaGreatDoor
set_option maxHeartbeats 4000000
set_option maxRecDepth 100000
open Go.RowKit
set_option linter.unusedVariables false
set_option linter.unusedSimpArgs false
def clTy (l : List UInt8) : Option NT := match rdTy l with
 | some n => if n.names.any loopB = true then none else some n
 | none => none
def valsOf (l v : List UInt8) (n : Int) : Option (NT × V) := match clTy l, rdVal v with
 | some N, some x => if (decide (0 <= n) && decide (n <= 100) && x.isOf n [] (N.db [])) = true then some (N, x) else none
 | _, _ => none
theorem db_has (s : List UInt8) : ∀ (N : NT) (env : List (List UInt8)), N.ok -> (N.db env).has s -> paramB s = true \/ loopB s = true
 | .zero, _, _, h => by cases h
 | .one, _, _, h => by cases h
 | .name x, env, ho, h => by
  simp only [NT.db] at h
  split at h
  · have h : x = s := h
    subst h; exact ho
  · split at h
    · cases h
    · have h : x = s := h
      subst h; exact ho
 | .sum a b, env, ho, h => h.elim (db_has s a env ho.1) (db_has s b env ho.2)
 | .prod a b, env, ho, h => h.elim (db_has s a env ho.1) (db_has s b env ho.2)
 | .loop x a, env, ho, h => db_has s a (x :: env) ho.2 h
theorem clTy_some {l : List UInt8} {N : NT} (h : clTy l = some N) : rdTy l = some N /\ N.ok /\ N.atoms <= 400 /\ (∀ s, (N.db []).has s -> paramB s = true) /\ N.names.any loopB = false := by
 unfold clTy at h
 cases hr : rdTy l with
 | none => rw [hr] at h; cases h
 | some n =>
  rw [hr] at h
  simp only at h
  split at h
  · cases h
  · rename_i hc
    cases h
    have ho := rdTy_some hr
    refine ⟨rfl, ho.1, ho.2, fun s hs => ?_, by simpa using hc⟩
    rcases db_has s _ [] ho.1 hs with h1 | h1
    · exact h1
    · exact absurd (List.any_eq_true.2 ⟨s, (names_has s _ (ok_ok3 ho.1)).2 hs, h1⟩) hc
theorem valsOf_some {l v : List UInt8} {n : Int} {N : NT} {x : V} (h : valsOf l v n = some (N, x)) : clTy l = some N /\ rdVal v = some x /\ 0 <= n /\ n <= 100 /\ x.isOf n [] (N.db []) = true := by
 unfold valsOf at h
 split at h
 · rename_i N' x' h1 h2
   split at h
   · rename_i hc
     cases h
     simp only [Bool.and_eq_true, decide_eq_true_eq] at hc
     exact ⟨h1, h2, hc.1.1, hc.1.2, hc.2⟩
   · cases h
 · cases h
def CTPost (w : World) (o : Option NT) (e : Ending) (w' : World) : Prop :=
 Below w.heap.size w w' /\ match o with
  | some t => ∃ g, e = .returned (.pointer (some ⟨g, 0, none⟩)) /\ TyAt w' (t.db []) (some ⟨g, 0, none⟩)
  | none => e = .returned (.pointer none)
theorem closedType_any (s : ByteArray) (w : World) (hs : s.size <= 9223372036854775807) : Calls Tryz.prog 94 #[.string s] w (CTPost w (clTy s.data.toList)) := by
 have HV := readType_rt s w hs
 have hn := fun v h => rdTy_some (l := s.data.toList) (n := v) h
 unfold clTy
 clear hs
 generalize rdTy s.data.toList = o at *
 cases o with
 | none =>
  have HV2 : Hid (Calls Tryz.prog 82 #[.string s] w fun e w' => Below w.heap.size w w' /\ e = .returned (.pointer none)) := HV
  show Calls _ _ _ _ (fun e w' => Below w.heap.size w w' /\ e = .returned (.pointer none))
  clear HV hn
  go_enter Tryz.func94, Tryz.ntmps94
  go_wp2_with (go_at_call 82; refine HV2.out.mono ?_; rintro e w1 ⟨hb1, rfl⟩; have HB1 := Lib.hid hb1; clear hb1)
  go_ret
  exact ⟨HB1.out, rfl⟩
 | some N =>
  have HV2 : Hid (Calls Tryz.prog 82 #[.string s] w fun e w' => Below w.heap.size w w' /\ ∃ g, e = .returned (.pointer (some ⟨g, 0, none⟩)) /\ TyAt w' (N.db []) (some ⟨g, 0, none⟩)) := HV
  have HN := Lib.hid fun w p h => isClosed_any N (hn N rfl).1 (by have := (hn N rfl).2; omega) w p h
  have HQ : Hid (∀ w' g, Below w.heap.size w w' -> TyAt w' (N.db []) (some ⟨g, 0, none⟩) -> CTPost w (some N) (.returned (.pointer (some ⟨g, 0, none⟩))) w') := fun w' g hb ht => ⟨hb, g, rfl, ht⟩
  show Calls _ _ _ _ (CTPost w (if N.names.any loopB = true then none else some N))
  clear HV hn
  cases hc : N.names.any loopB with
  | true =>
   rw [hc] at HN
   rw [if_pos rfl]
   show Calls _ _ _ _ (fun e w' => Below w.heap.size w w' /\ e = .returned (.pointer none))
   clear HQ hc
   go_enter Tryz.func94, Tryz.ntmps94
   go_wp2_with (first
    | (go_at_call 82; refine HV2.out.mono ?_; rintro e w1 ⟨hb1, g, rfl, hp⟩; have HP := Lib.hid hp; have HB1 := Lib.hid hb1; clear hb1 hp)
    | (go_at_call 150; refine (HN.out _ _ HP.out).mono ?_; rintro e w2 ⟨rfl, hb2⟩; have HB2 := Lib.hid (up_trans HB1.out hb2); clear hb2))
   go_ret
   exact ⟨HB2.out, rfl⟩
  | false =>
   rw [hc] at HN
   rw [if_neg (by simp)]
   generalize CTPost w (some N) = Q at *
   clear hc
   go_enter Tryz.func94, Tryz.ntmps94
   go_wp2_with (first
    | (go_at_call 82; refine HV2.out.mono ?_; rintro e w1 ⟨hb1, g, rfl, hp⟩; have HP := Lib.hid hp; have HB1 := Lib.hid hb1; clear hb1 hp)
    | (go_at_call 150; refine (HN.out _ _ HP.out).mono ?_; rintro e w2 ⟨rfl, hb2⟩; have HP2 := Lib.hid (HP.out.up hb2); have HB2 := Lib.hid (up_trans HB1.out hb2); clear hb2))
   exact HQ.out _ _ HB2.out HP2.out
def VOPost (w : World) (o : Option (NT × V)) (e : Ending) (w' : World) : Prop :=
 Below w.heap.size w w' /\ match o with
  | some (t, v) => ∃ g q, e = .returned (.tuple #[.pointer (some ⟨g, 0, none⟩), .pointer (some ⟨q, 0, none⟩)]) /\ TyAt w' (t.db []) (some ⟨g, 0, none⟩) /\ VAt w' v (some ⟨q, 0, none⟩)
  | none => ∃ p, e = .returned (.tuple #[.pointer p, .pointer none])
theorem valueOf_any (s v : ByteArray) (n : Int) (w : World) (hs : s.size <= 9223372036854775807) (hv : v.size <= 9223372036854775807) : Calls Tryz.prog 51 #[.string s, .string v, .int .i64 n] w (VOPost w (valsOf s.data.toList v.data.toList n)) := by
 have H1 := closedType_any s w hs
 have H2 := fun w1 => readValue_any v w1 hv
 have hN := fun N h => clTy_some (l := s.data.toList) (N := N) h
 have hx := fun x h => rdVal_ok (l := v.data.toList) (v := x) h
 unfold valsOf
 clear hs hv
 generalize clTy s.data.toList = o at *
 generalize rdVal v.data.toList = o2 at *
 have HNONE : Hid (∀ w' p, Below w.heap.size w w' -> VOPost w none (.returned (.tuple #[.pointer p, .pointer none])) w') := fun w' p hb => ⟨hb, p, rfl⟩
 cases o with
 | none =>
  have H1' : Hid (Calls Tryz.prog 94 #[.string s] w fun e w' => Below w.heap.size w w' /\ e = .returned (.pointer none)) := H1
  have H2' : Hid (∀ w1, Calls Tryz.prog 67 #[.string v] w1 fun e w' => Below w1.heap.size w1 w' /\ ∃ p, e = .returned (.pointer p)) := fun w1 => (H2 w1).mono fun e w' h => by
   obtain ⟨hb, h⟩ := h
   refine ⟨hb, ?_⟩
   cases o2 with
   | none => exact ⟨_, h⟩
   | some x => obtain ⟨p, he, _⟩ := h; exact ⟨_, he⟩
  show Calls _ _ _ _ (VOPost w none)
  generalize VOPost w none = Q at *
  clear H1 H2 hN hx
  go_enter Tryz.func51, Tryz.ntmps51
  go_wp2_with (first
   | (go_at_call 94; refine H1'.out.mono ?_; rintro e w1 ⟨hb1, rfl⟩; have HB1 := Lib.hid hb1; clear hb1)
   | (go_at_call 67; refine (H2'.out _).mono ?_; rintro e w2 ⟨hb2, p2, rfl⟩; have HB2 := Lib.hid (up_trans HB1.out hb2); clear hb2))
  exact HNONE.out _ _ HB2.out
 | some N =>
  have H1' : Hid (Calls Tryz.prog 94 #[.string s] w fun e w' => Below w.heap.size w w' /\ ∃ g, e = .returned (.pointer (some ⟨g, 0, none⟩)) /\ TyAt w' (N.db []) (some ⟨g, 0, none⟩)) := H1
  cases o2 with
  | none =>
   have H2' : Hid (∀ w1, Calls Tryz.prog 67 #[.string v] w1 fun e w' => Below w1.heap.size w1 w' /\ e = .returned (.pointer none)) := H2
   show Calls _ _ _ _ (VOPost w none)
   generalize VOPost w none = Q at *
   clear H1 H2 hN hx
   go_enter Tryz.func51, Tryz.ntmps51
   go_wp2_with (first
    | (go_at_call 94; refine H1'.out.mono ?_; rintro e w1 ⟨hb1, g, rfl, ht⟩; have HB1 := Lib.hid hb1; clear hb1 ht)
    | (go_at_call 67; refine (H2'.out _).mono ?_; rintro e w2 ⟨hb2, rfl⟩; have HB2 := Lib.hid (up_trans HB1.out hb2); clear hb2))
   exact HNONE.out _ _ HB2.out
  | some x =>
   have H2' : Hid (∀ w1, Calls Tryz.prog 67 #[.string v] w1 fun e w' => Below w1.heap.size w1 w' /\ ∃ q, e = .returned (.pointer (some ⟨q, 0, none⟩)) /\ VAt w' x (some ⟨q, 0, none⟩)) := fun w1 => (H2 w1).mono fun e w' h => by
    obtain ⟨hb, p, he, hx⟩ := h
    obtain ⟨g, _, _, _, rfl, _⟩ := hx.vn
    exact ⟨hb, g, he, hx⟩
   have hNo := hN N rfl
   have H3 : Hid (∀ w1 p q, TyAt w1 (N.db []) p -> VAt w1 x q -> Calls Tryz.prog 107 #[.agg #[.pointer p, .pointer none], .pointer q, .int .i64 n] w1 fun e w' => e = .returned (.bool (x.isOf n [] (N.db []))) /\ Below w1.heap.size w1 w') := fun w1 p q ht hv => isOf_any _ x (Nat.le_refl _) (N.db []) [] w1 p none q n ht rfl hv (db_scoped N []) (scoped_bs _ 0 (db_scoped N []) (by rw [NT.db_atoms]; omega)) EnvG.nil (hx x rfl)
   have HSOME : Hid (∀ w' g q, Below w.heap.size w w' -> TyAt w' (N.db []) (some ⟨g, 0, none⟩) -> VAt w' x (some ⟨q, 0, none⟩) -> VOPost w (some (N, x)) (.returned (.tuple #[.pointer (some ⟨g, 0, none⟩), .pointer (some ⟨q, 0, none⟩)])) w') := fun w' g q hb h1 h2 => ⟨hb, g, q, rfl, h1, h2⟩
   show Calls _ _ _ _ (VOPost w (if (decide (0 <= n) && decide (n <= 100) && x.isOf n [] (N.db [])) = true then some (N, x) else none))
   generalize x.isOf n [] (N.db []) = b at *
   clear H1 H2 hN hx hNo
   by_cases h0 : 0 <= n /\ n <= 100
   · have k1 : decide (n < 0) = false := decide_eq_false (by omega)
     have k2 : decide (n > 100) = false := decide_eq_false (by omega)
     have k3 : decide (100 < n) = false := decide_eq_false (by omega)
     rw [decide_eq_true h0.1, decide_eq_true h0.2]
     cases b with
     | true =>
      show Calls _ _ _ _ (VOPost w (some (N, x)))
      generalize VOPost w (some (N, x)) = Q at *
      clear h0
      go_enter Tryz.func51, Tryz.ntmps51
      go_wp2_with (first
       | (go_at_call 94; refine H1'.out.mono ?_; rintro e w1 ⟨hb1, g, rfl, ht⟩; have HB1 := Lib.hid hb1; have HT1 := Lib.hid ht; clear hb1 ht)
       | (go_at_call 67; refine (H2'.out _).mono ?_; rintro e w2 ⟨hb2, q, rfl, hv2⟩; have HT2 := Lib.hid (HT1.out.up hb2); have HV2 := Lib.hid hv2; have HB2 := Lib.hid (up_trans HB1.out hb2); clear hb2 hv2)
       | (go_at_call 107; (with_reducible refine (H3.out _ _ _ HT2.out HV2.out).mono ?_); rintro e w3 ⟨rfl, hb3⟩; have HT3 := Lib.hid (HT2.out.up hb3); have HV3 := Lib.hid (HV2.out.up hb3); have HB3 := Lib.hid (up_trans HB2.out hb3); clear hb3))
      exact HSOME.out _ _ _ HB3.out HT3.out HV3.out
     | false =>
      show Calls _ _ _ _ (VOPost w none)
      generalize VOPost w none = Q at *
      clear h0 HSOME
      go_enter Tryz.func51, Tryz.ntmps51
      go_wp2_with (first
       | (go_at_call 94; refine H1'.out.mono ?_; rintro e w1 ⟨hb1, g, rfl, ht⟩; have HB1 := Lib.hid hb1; have HT1 := Lib.hid ht; clear hb1 ht)
       | (go_at_call 67; refine (H2'.out _).mono ?_; rintro e w2 ⟨hb2, q, rfl, hv2⟩; have HT2 := Lib.hid (HT1.out.up hb2); have HV2 := Lib.hid hv2; have HB2 := Lib.hid (up_trans HB1.out hb2); clear hb2 hv2)
       | (go_at_call 107; (with_reducible refine (H3.out _ _ _ HT2.out HV2.out).mono ?_); rintro e w3 ⟨rfl, hb3⟩; have HB3 := Lib.hid (up_trans HB2.out hb3); clear hb3))
      exact HNONE.out _ _ HB3.out
   · rw [if_neg (by simp; intro h1 h2; omega)]
     by_cases h1 : n < 0
     · have k1 : decide (n < 0) = true := decide_eq_true h1
       generalize VOPost w none = Q at *
       clear h0 h1 HSOME
       go_enter Tryz.func51, Tryz.ntmps51
       go_wp2_with (first
        | (go_at_call 94; refine H1'.out.mono ?_; rintro e w1 ⟨hb1, g, rfl, ht⟩; have HB1 := Lib.hid hb1; clear hb1 ht)
        | (go_at_call 67; refine (H2'.out _).mono ?_; rintro e w2 ⟨hb2, q, rfl, hv2⟩; have HB2 := Lib.hid (up_trans HB1.out hb2); clear hb2 hv2))
       exact HNONE.out _ _ HB2.out
     · have k1 : decide (n < 0) = false := decide_eq_false h1
       have k2 : decide (n > 100) = true := decide_eq_true (by omega)
       have k3 : decide (100 < n) = true := decide_eq_true (by omega)
       generalize VOPost w none = Q at *
       clear h0 h1 HSOME
       go_enter Tryz.func51, Tryz.ntmps51
       go_wp2_with (first
        | (go_at_call 94; refine H1'.out.mono ?_; rintro e w1 ⟨hb1, g, rfl, ht⟩; have HB1 := Lib.hid hb1; clear hb1 ht)
        | (go_at_call 67; refine (H2'.out _).mono ?_; rintro e w2 ⟨hb2, q, rfl, hv2⟩; have HB2 := Lib.hid (up_trans HB1.out hb2); clear hb2 hv2))
       exact HNONE.out _ _ HB2.out
end Go.Proofs.YtpokompplapkhaaGreatDoor

