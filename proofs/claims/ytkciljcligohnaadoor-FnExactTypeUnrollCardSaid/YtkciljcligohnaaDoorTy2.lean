/- typeOf at lists (under way). -/
import Derived.Test.YtkciljcligohnaaDoorTy
import Derived.Deep.RegionHeld3
namespace Go.Proofs.YtkciljcligohnaaDoor
open Go.RowKit
set_option linter.unusedVariables false
set_option linter.unusedSimpArgs false

/-- What an expression that is no atom gives ahead of its list. -/
structure NoAtom (s : List UInt8) : Prop where
  h1 : s ≠ [48]
  h2 : s ≠ [49]
  h3 : paramB s = false
  h4 : loopB s = false

/-- What the calls for the two parts leave. -/
def two_ (f : Ty → Ty → Ty) : Option Ty → Option Ty → Option Ty
  | some a, some b => some (f a b)
  | _, _ => none

theorem ty_ptr {o : Option Ty} {e : Ending} {w' : World} (h : match o with | some t => ∃ p, e = .returned (.pointer p) ∧ TyAt w' t p | none => e = .returned (.pointer none)) : ∃ p, e = .returned (.pointer p) := by
  cases o with
  | none => exact ⟨_, h⟩
  | some t => obtain ⟨p, h, _⟩ := h; exact ⟨p, h⟩

set_option maxHeartbeats 8000000 in
set_option maxRecDepth 100000 in
theorem typeOf_sum (s : List UInt8) (hs : NoAtom s) (q : List Tr) (a b : Tr) (oa ob : Option Ty) (env : List (List UInt8)) (p : Option Addr) (A : Option Addr) (c : Nat) (w : World)
    (hp : EAt w (fun _ => True) (.mk s [.mk [43] q, a, b]) p)
    (iha : ∀ w1 p, Below w.heap.size w w1 → EAt w1 (fun _ => True) a p → Calls Tryd.prog 81 #[.pointer p, .slice A env.length c] w1 (TyPost w1 oa))
    (ihb : ∀ w1 p, Below w.heap.size w w1 → EAt w1 (fun _ => True) b p → Calls Tryd.prog 81 #[.pointer p, .slice A env.length c] w1 (TyPost w1 ob)) :
    Calls Tryd.prog 81 #[.pointer p, .slice A env.length c] w (TyPost w (two_ .sum oa ob)) := by
  have hP := Lib.hid hp
  obtain ⟨g, B, c', rfl, e0, e1, hr⟩ := hp.parts
  obtain ⟨bl, o, p0, rfl, f0, hh0, hr⟩ := hr.uncons
  obtain ⟨gh, _, _, rfl, fh, _, _⟩ := hh0.parts
  obtain ⟨pa, f1, ha, hr⟩ := hr.next
  obtain ⟨pb, f2, hb, _⟩ := hr.next
  have k1 := St_ne hs.h1
  have k2 := St_ne hs.h2
  have HQ : Hid (∀ w, Calls Tryd.prog 52 #[.string (St s)] w fun e w' => e = .returned (.bool false) ∧ Below w.heap.size w w') := fun w => by
    have := isParameter_all s w
    rw [hs.h3] at this
    exact this
  have HL : Hid (∀ w, Calls Tryd.prog 53 #[.string (St s)] w fun e w' => e = .returned (.bool false) ∧ Below w.heap.size w w') := fun w => by
    have := isLoopName_all s w
    rw [hs.h4] at this
    exact this
  have HIS : Hid (∀ w1, Below w.heap.size w w1 → Calls Tryd.prog 102 #[.pointer (some ⟨g, 0, none⟩), .string ⟨#[43]⟩, .int .i64 3] w1 fun e w' => e = .returned (.bool true) ∧ w1 = w') := fun w1 hb => isCall_is s _ _ ⟨#[43]⟩ 3 _ (hp.up hb) (by decide) (by decide) _ rfl
  have HE : Hid (∀ w1, Below w.heap.size w w1 → w1.cell? ⟨g, 0, none⟩ = some (.string (St s)) ∧ w1.cell? ⟨g, 1, none⟩ = some (.slice (some ⟨bl, o, none⟩) 3 c') ∧ w1.cell? ⟨bl, o, none⟩ = some (.pointer (some ⟨gh, 0, none⟩)) ∧ w1.cell? ⟨bl, o + 1, none⟩ = some (.pointer pa) ∧ w1.cell? ⟨bl, o + 2, none⟩ = some (.pointer pb) ∧ w1.cell? ⟨gh, 0, none⟩ = some (.string (St [43]))) := fun w1 hb => ⟨cell_up hb e0, cell_up hb e1, cell_up hb f0, cell_up hb f1, cell_up hb f2, cell_up hb fh⟩
  have HA : Hid (∀ w1, Below w.heap.size w w1 → Calls Tryd.prog 81 #[.pointer pa, .slice A env.length c] w1 (TyPost w1 oa)) := fun w1 hb1 => iha w1 pa hb1 (ha.up hb1)
  have HB : Hid (∀ w1, Below w.heap.size w w1 → Calls Tryd.prog 81 #[.pointer pb, .slice A env.length c] w1 (TyPost w1 ob)) := fun w1 hb1 => ihb w1 pb hb1 (hb.up hb1)
  clear hs hp hr ha hb iha ihb e1 f0 f1 f2 hP hh0 fh
  generalize env.length = n at *
  cases oa with
  | none =>
    go_enter Tryd.func81, Tryd.ntmps81
    go_wp2_with (first
      | (go_at_call 52; refine (HQ.out _).mono ?_; rintro e w1 ⟨rfl, hb1⟩; obtain ⟨e1, _⟩ := HE.out w1 hb1; have HB1 := Lib.hid hb1; clear hb1)
      | (go_at_call 53; refine (HL.out _).mono ?_; rintro e w2 ⟨rfl, hb2⟩; obtain ⟨_, e2, f0, f1, f2, _⟩ := HE.out w2 (up_trans HB1.out hb2); have HB2 := Lib.hid (up_trans HB1.out hb2); clear hb2)
      | (go_at_call 102; refine (HIS.out _ HB2.out).mono ?_; rintro e w' ⟨rfl, rfl⟩))
    go_region_held3 (fun w' => w'.cell? ⟨g, 1, none⟩ = some (.slice (some ⟨bl, o, none⟩) 3 c') ∧ w'.cell? ⟨bl, o + 1, none⟩ = some (.pointer pa) ∧ w'.cell? ⟨bl, o + 2, none⟩ = some (.pointer pb))
      (first | exact ⟨e4, f41, f42⟩ | exact ⟨e3, f31, f32⟩ | exact ⟨e2, f1, f2⟩ | go_keep)
      (first
        | (go_at_call 81; (with_reducible refine (HA.out _ (up_drew HB2.out)).mono ?_); rintro e w3 ⟨hb3, rfl⟩; obtain ⟨_, e3, _, f31, f32, _⟩ := HE.out w3 (up_trans (up_drew HB2.out) hb3); have HB3 := Lib.hid (up_trans (up_drew HB2.out) hb3); clear hb3)
        | (go_at_call 81; (with_reducible refine (HB.out _ HB3.out).mono ?_); rintro e w4 ⟨hb4, hr4⟩; obtain ⟨vb, rfl⟩ := ty_ptr hr4; clear hr4; obtain ⟨_, e4, _, f41, f42, _⟩ := HE.out w4 (up_trans HB3.out hb4); have HB4 := Lib.hid (up_trans HB3.out hb4); clear hb4))
    go_wp2
    go_ret
    exact .none_ HB4.out
  | some ta =>
    cases ob with
    | none =>
      go_enter Tryd.func81, Tryd.ntmps81
      go_wp2_with (first
        | (go_at_call 52; refine (HQ.out _).mono ?_; rintro e w1 ⟨rfl, hb1⟩; obtain ⟨e1, _⟩ := HE.out w1 hb1; have HB1 := Lib.hid hb1; clear hb1)
        | (go_at_call 53; refine (HL.out _).mono ?_; rintro e w2 ⟨rfl, hb2⟩; obtain ⟨_, e2, f0, f1, f2, _⟩ := HE.out w2 (up_trans HB1.out hb2); have HB2 := Lib.hid (up_trans HB1.out hb2); clear hb2)
        | (go_at_call 102; refine (HIS.out _ HB2.out).mono ?_; rintro e w' ⟨rfl, rfl⟩))
      go_region_held3 (fun w' => w'.cell? ⟨g, 1, none⟩ = some (.slice (some ⟨bl, o, none⟩) 3 c') ∧ w'.cell? ⟨bl, o + 1, none⟩ = some (.pointer pa) ∧ w'.cell? ⟨bl, o + 2, none⟩ = some (.pointer pb))
        (first | exact ⟨e4, f41, f42⟩ | exact ⟨e3, f31, f32⟩ | exact ⟨e2, f1, f2⟩ | go_keep)
        (first
          | (go_at_call 81; (with_reducible refine (HA.out _ (up_drew HB2.out)).mono ?_); rintro e w3 ⟨hb3, pa3, rfl, hpa⟩; have HPA := Lib.hid hpa; obtain ⟨ga3, rfl⟩ := TyAt.some_ hpa; clear hpa; obtain ⟨_, e3, _, f31, f32, _⟩ := HE.out w3 (up_trans (up_drew HB2.out) hb3); have HB3 := Lib.hid (up_trans (up_drew HB2.out) hb3); clear hb3)
          | (go_at_call 81; (with_reducible refine (HB.out _ HB3.out).mono ?_); rintro e w4 ⟨hb4, rfl⟩; obtain ⟨_, e4, _, f41, f42, _⟩ := HE.out w4 (up_trans HB3.out hb4); have HB4 := Lib.hid (up_trans HB3.out hb4); clear hb4))
      go_wp2
      go_ret
      exact .none_ HB4.out
    | some tb =>
      go_enter Tryd.func81, Tryd.ntmps81
      go_wp2_with (first
        | (go_at_call 52; refine (HQ.out _).mono ?_; rintro e w1 ⟨rfl, hb1⟩; obtain ⟨e1, _⟩ := HE.out w1 hb1; have HB1 := Lib.hid hb1; clear hb1)
        | (go_at_call 53; refine (HL.out _).mono ?_; rintro e w2 ⟨rfl, hb2⟩; obtain ⟨_, e2, f0, f1, f2, _⟩ := HE.out w2 (up_trans HB1.out hb2); have HB2 := Lib.hid (up_trans HB1.out hb2); clear hb2)
        | (go_at_call 102; refine (HIS.out _ HB2.out).mono ?_; rintro e w' ⟨rfl, rfl⟩))
      go_region_held3 (fun w' => w'.cell? ⟨g, 1, none⟩ = some (.slice (some ⟨bl, o, none⟩) 3 c') ∧ w'.cell? ⟨bl, o + 1, none⟩ = some (.pointer pa) ∧ w'.cell? ⟨bl, o + 2, none⟩ = some (.pointer pb))
        (first | exact ⟨e4, f41, f42⟩ | exact ⟨e3, f31, f32⟩ | exact ⟨e2, f1, f2⟩ | go_keep)
        (first
          | (go_at_call 81; (with_reducible refine (HA.out _ (up_drew HB2.out)).mono ?_); rintro e w3 ⟨hb3, pa3, rfl, hpa⟩; have HPA := Lib.hid hpa; obtain ⟨ga3, rfl⟩ := TyAt.some_ hpa; clear hpa; obtain ⟨_, e3, _, f31, f32, _⟩ := HE.out w3 (up_trans (up_drew HB2.out) hb3); have HB3 := Lib.hid (up_trans (up_drew HB2.out) hb3); clear hb3)
          | (go_at_call 81; (with_reducible refine (HB.out _ HB3.out).mono ?_); rintro e w4 ⟨hb4, pb4, rfl, hpb⟩; have HPB := Lib.hid hpb; have HPA4 := Lib.hid (HPA.out.up hb4); obtain ⟨gb4, rfl⟩ := TyAt.some_ hpb; clear hpb; obtain ⟨_, e4, f40, f41, f42, fh4⟩ := HE.out w4 (up_trans HB3.out hb4); have HB4 := Lib.hid (up_trans HB3.out hb4); clear hb4))
      go_wp2
      go_ret
      exact .some_ (up_alloc HB4.out _) ⟨_, _, TyN_new w4 _ _ _ _ _, HPA4.out.up (up1 _ _), HPB.out.up (up1 _ _)⟩

set_option maxHeartbeats 8000000 in
set_option maxRecDepth 100000 in
theorem typeOf_prod (s : List UInt8) (hs : NoAtom s) (q : List Tr) (a b : Tr) (oa ob : Option Ty) (env : List (List UInt8)) (p : Option Addr) (A : Option Addr) (c : Nat) (w : World)
    (hp : EAt w (fun _ => True) (.mk s [.mk [42] q, a, b]) p)
    (iha : ∀ w1 p, Below w.heap.size w w1 → EAt w1 (fun _ => True) a p → Calls Tryd.prog 81 #[.pointer p, .slice A env.length c] w1 (TyPost w1 oa))
    (ihb : ∀ w1 p, Below w.heap.size w w1 → EAt w1 (fun _ => True) b p → Calls Tryd.prog 81 #[.pointer p, .slice A env.length c] w1 (TyPost w1 ob)) :
    Calls Tryd.prog 81 #[.pointer p, .slice A env.length c] w (TyPost w (two_ .prod oa ob)) := by
  have hP := Lib.hid hp
  obtain ⟨g, B, c', rfl, e0, e1, hr⟩ := hp.parts
  obtain ⟨bl, o, p0, rfl, f0, hh0, hr⟩ := hr.uncons
  obtain ⟨gh, _, _, rfl, fh, _, _⟩ := hh0.parts
  obtain ⟨pa, f1, ha, hr⟩ := hr.next
  obtain ⟨pb, f2, hb, _⟩ := hr.next
  have k1 := St_ne hs.h1
  have k2 := St_ne hs.h2
  have HQ : Hid (∀ w, Calls Tryd.prog 52 #[.string (St s)] w fun e w' => e = .returned (.bool false) ∧ Below w.heap.size w w') := fun w => by
    have := isParameter_all s w
    rw [hs.h3] at this
    exact this
  have HL : Hid (∀ w, Calls Tryd.prog 53 #[.string (St s)] w fun e w' => e = .returned (.bool false) ∧ Below w.heap.size w w') := fun w => by
    have := isLoopName_all s w
    rw [hs.h4] at this
    exact this
  have HIS0 : Hid (∀ w1, Below w.heap.size w w1 → Calls Tryd.prog 102 #[.pointer (some ⟨g, 0, none⟩), .string ⟨#[43]⟩, .int .i64 3] w1 fun e w' => e = .returned (.bool false) ∧ w1 = w') := fun w1 hb => isCall_is s _ _ ⟨#[43]⟩ 3 _ (hp.up hb) (by decide) (by decide) _ rfl
  have HIS : Hid (∀ w1, Below w.heap.size w w1 → Calls Tryd.prog 102 #[.pointer (some ⟨g, 0, none⟩), .string ⟨#[42]⟩, .int .i64 3] w1 fun e w' => e = .returned (.bool true) ∧ w1 = w') := fun w1 hb => isCall_is s _ _ ⟨#[42]⟩ 3 _ (hp.up hb) (by decide) (by decide) _ rfl
  have HE : Hid (∀ w1, Below w.heap.size w w1 → w1.cell? ⟨g, 0, none⟩ = some (.string (St s)) ∧ w1.cell? ⟨g, 1, none⟩ = some (.slice (some ⟨bl, o, none⟩) 3 c') ∧ w1.cell? ⟨bl, o, none⟩ = some (.pointer (some ⟨gh, 0, none⟩)) ∧ w1.cell? ⟨bl, o + 1, none⟩ = some (.pointer pa) ∧ w1.cell? ⟨bl, o + 2, none⟩ = some (.pointer pb) ∧ w1.cell? ⟨gh, 0, none⟩ = some (.string (St [42]))) := fun w1 hb => ⟨cell_up hb e0, cell_up hb e1, cell_up hb f0, cell_up hb f1, cell_up hb f2, cell_up hb fh⟩
  have HA : Hid (∀ w1, Below w.heap.size w w1 → Calls Tryd.prog 81 #[.pointer pa, .slice A env.length c] w1 (TyPost w1 oa)) := fun w1 hb1 => iha w1 pa hb1 (ha.up hb1)
  have HB : Hid (∀ w1, Below w.heap.size w w1 → Calls Tryd.prog 81 #[.pointer pb, .slice A env.length c] w1 (TyPost w1 ob)) := fun w1 hb1 => ihb w1 pb hb1 (hb.up hb1)
  clear hs hp hr ha hb iha ihb e1 f0 f1 f2 hP hh0 fh
  generalize env.length = n at *
  cases oa with
  | none =>
    go_enter Tryd.func81, Tryd.ntmps81
    go_wp2_with (first
      | (go_at_call 52; refine (HQ.out _).mono ?_; rintro e w1 ⟨rfl, hb1⟩; obtain ⟨e1, _⟩ := HE.out w1 hb1; have HB1 := Lib.hid hb1; clear hb1)
      | (go_at_call 53; refine (HL.out _).mono ?_; rintro e w2 ⟨rfl, hb2⟩; obtain ⟨_, e2, f0, f1, f2, _⟩ := HE.out w2 (up_trans HB1.out hb2); have HB2 := Lib.hid (up_trans HB1.out hb2); clear hb2)
      | (go_at_call 102; first | ((with_reducible refine (HIS0.out _ HB2.out).mono ?_); rintro e w' ⟨rfl, rfl⟩) | ((with_reducible refine (HIS.out _ HB2.out).mono ?_); rintro e w' ⟨rfl, rfl⟩)))
    go_region_held3 (fun w' => w'.cell? ⟨g, 1, none⟩ = some (.slice (some ⟨bl, o, none⟩) 3 c') ∧ w'.cell? ⟨bl, o + 1, none⟩ = some (.pointer pa) ∧ w'.cell? ⟨bl, o + 2, none⟩ = some (.pointer pb))
      (first | exact ⟨e4, f41, f42⟩ | exact ⟨e3, f31, f32⟩ | exact ⟨e2, f1, f2⟩ | go_keep)
      (first
        | (go_at_call 81; (with_reducible refine (HA.out _ (up_drew HB2.out)).mono ?_); rintro e w3 ⟨hb3, rfl⟩; obtain ⟨_, e3, _, f31, f32, _⟩ := HE.out w3 (up_trans (up_drew HB2.out) hb3); have HB3 := Lib.hid (up_trans (up_drew HB2.out) hb3); clear hb3)
        | (go_at_call 81; (with_reducible refine (HB.out _ HB3.out).mono ?_); rintro e w4 ⟨hb4, hr4⟩; obtain ⟨vb, rfl⟩ := ty_ptr hr4; clear hr4; obtain ⟨_, e4, _, f41, f42, _⟩ := HE.out w4 (up_trans HB3.out hb4); have HB4 := Lib.hid (up_trans HB3.out hb4); clear hb4))
    go_wp2
    go_ret
    exact .none_ HB4.out
  | some ta =>
    cases ob with
    | none =>
      go_enter Tryd.func81, Tryd.ntmps81
      go_wp2_with (first
        | (go_at_call 52; refine (HQ.out _).mono ?_; rintro e w1 ⟨rfl, hb1⟩; obtain ⟨e1, _⟩ := HE.out w1 hb1; have HB1 := Lib.hid hb1; clear hb1)
        | (go_at_call 53; refine (HL.out _).mono ?_; rintro e w2 ⟨rfl, hb2⟩; obtain ⟨_, e2, f0, f1, f2, _⟩ := HE.out w2 (up_trans HB1.out hb2); have HB2 := Lib.hid (up_trans HB1.out hb2); clear hb2)
        | (go_at_call 102; first | ((with_reducible refine (HIS0.out _ HB2.out).mono ?_); rintro e w' ⟨rfl, rfl⟩) | ((with_reducible refine (HIS.out _ HB2.out).mono ?_); rintro e w' ⟨rfl, rfl⟩)))
      go_region_held3 (fun w' => w'.cell? ⟨g, 1, none⟩ = some (.slice (some ⟨bl, o, none⟩) 3 c') ∧ w'.cell? ⟨bl, o + 1, none⟩ = some (.pointer pa) ∧ w'.cell? ⟨bl, o + 2, none⟩ = some (.pointer pb))
        (first | exact ⟨e4, f41, f42⟩ | exact ⟨e3, f31, f32⟩ | exact ⟨e2, f1, f2⟩ | go_keep)
        (first
          | (go_at_call 81; (with_reducible refine (HA.out _ (up_drew HB2.out)).mono ?_); rintro e w3 ⟨hb3, pa3, rfl, hpa⟩; have HPA := Lib.hid hpa; obtain ⟨ga3, rfl⟩ := TyAt.some_ hpa; clear hpa; obtain ⟨_, e3, _, f31, f32, _⟩ := HE.out w3 (up_trans (up_drew HB2.out) hb3); have HB3 := Lib.hid (up_trans (up_drew HB2.out) hb3); clear hb3)
          | (go_at_call 81; (with_reducible refine (HB.out _ HB3.out).mono ?_); rintro e w4 ⟨hb4, rfl⟩; obtain ⟨_, e4, _, f41, f42, _⟩ := HE.out w4 (up_trans HB3.out hb4); have HB4 := Lib.hid (up_trans HB3.out hb4); clear hb4))
      go_wp2
      go_ret
      exact .none_ HB4.out
    | some tb =>
      go_enter Tryd.func81, Tryd.ntmps81
      go_wp2_with (first
        | (go_at_call 52; refine (HQ.out _).mono ?_; rintro e w1 ⟨rfl, hb1⟩; obtain ⟨e1, _⟩ := HE.out w1 hb1; have HB1 := Lib.hid hb1; clear hb1)
        | (go_at_call 53; refine (HL.out _).mono ?_; rintro e w2 ⟨rfl, hb2⟩; obtain ⟨_, e2, f0, f1, f2, _⟩ := HE.out w2 (up_trans HB1.out hb2); have HB2 := Lib.hid (up_trans HB1.out hb2); clear hb2)
        | (go_at_call 102; first | ((with_reducible refine (HIS0.out _ HB2.out).mono ?_); rintro e w' ⟨rfl, rfl⟩) | ((with_reducible refine (HIS.out _ HB2.out).mono ?_); rintro e w' ⟨rfl, rfl⟩)))
      go_region_held3 (fun w' => w'.cell? ⟨g, 1, none⟩ = some (.slice (some ⟨bl, o, none⟩) 3 c') ∧ w'.cell? ⟨bl, o + 1, none⟩ = some (.pointer pa) ∧ w'.cell? ⟨bl, o + 2, none⟩ = some (.pointer pb))
        (first | exact ⟨e4, f41, f42⟩ | exact ⟨e3, f31, f32⟩ | exact ⟨e2, f1, f2⟩ | go_keep)
        (first
          | (go_at_call 81; (with_reducible refine (HA.out _ (up_drew HB2.out)).mono ?_); rintro e w3 ⟨hb3, pa3, rfl, hpa⟩; have HPA := Lib.hid hpa; obtain ⟨ga3, rfl⟩ := TyAt.some_ hpa; clear hpa; obtain ⟨_, e3, _, f31, f32, _⟩ := HE.out w3 (up_trans (up_drew HB2.out) hb3); have HB3 := Lib.hid (up_trans (up_drew HB2.out) hb3); clear hb3)
          | (go_at_call 81; (with_reducible refine (HB.out _ HB3.out).mono ?_); rintro e w4 ⟨hb4, pb4, rfl, hpb⟩; have HPB := Lib.hid hpb; have HPA4 := Lib.hid (HPA.out.up hb4); obtain ⟨gb4, rfl⟩ := TyAt.some_ hpb; clear hpb; obtain ⟨_, e4, f40, f41, f42, fh4⟩ := HE.out w4 (up_trans HB3.out hb4); have HB4 := Lib.hid (up_trans HB3.out hb4); clear hb4))
      go_wp2
      go_ret
      exact .some_ (up_alloc HB4.out _) ⟨_, _, TyN_new w4 _ _ _ _ _, HPA4.out.up (up1 _ _), HPB.out.up (up1 _ _)⟩

end Go.Proofs.YtkciljcligohnaaDoor
