/- typeOf at the rest, whole; readType, TypeValid, TypeSize. -/
import Derived.Test.YtkciljcligohnaaDoorTy2
import Derived.Test.YtkciljcligohnaaDoorRow
namespace Go.Proofs.YtkciljcligohnaaDoor
open Go.RowKit
set_option linter.unusedVariables false
set_option linter.unusedSimpArgs false

set_option maxHeartbeats 4000000 in
set_option maxRecDepth 100000 in
theorem typeOf_else (s : List UInt8) (hs : NoAtom s) (ps : List Tr) (k1 : callB ps [43] 3 = false) (k2 : callB ps [42] 3 = false) (k3 : callB ps [114, 101, 99] 3 = false) (w : World) (p A : Option Addr) (n c : Nat) (hp : EAt w (fun _ => True) (.mk s ps) p) :
    Calls Tryd.prog 81 #[.pointer p, .slice A n c] w (TyPost w none) := by
  obtain ⟨g, B, c', rfl, e0, _, _⟩ := hp.parts
  have q1 := St_ne hs.h1
  have q2 := St_ne hs.h2
  have HQ : Hid (∀ w, Calls Tryd.prog 52 #[.string (St s)] w fun e w' => e = .returned (.bool false) ∧ Below w.heap.size w w') := fun w => by
    have := isParameter_all s w
    rw [hs.h3] at this
    exact this
  have HL : Hid (∀ w, Calls Tryd.prog 53 #[.string (St s)] w fun e w' => e = .returned (.bool false) ∧ Below w.heap.size w w') := fun w => by
    have := isLoopName_all s w
    rw [hs.h4] at this
    exact this
  have HI1 : Hid (∀ w1, Below w.heap.size w w1 → Calls Tryd.prog 102 #[.pointer (some ⟨g, 0, none⟩), .string ⟨#[43]⟩, .int .i64 3] w1 fun e w' => e = .returned (.bool false) ∧ w1 = w') := fun w1 hb => isCall_is s _ _ ⟨#[43]⟩ 3 _ (hp.up hb) (by decide) (by decide) _ k1
  have HI2 : Hid (∀ w1, Below w.heap.size w w1 → Calls Tryd.prog 102 #[.pointer (some ⟨g, 0, none⟩), .string ⟨#[42]⟩, .int .i64 3] w1 fun e w' => e = .returned (.bool false) ∧ w1 = w') := fun w1 hb => isCall_is s _ _ ⟨#[42]⟩ 3 _ (hp.up hb) (by decide) (by decide) _ k2
  have HI3 : Hid (∀ w1, Below w.heap.size w w1 → Calls Tryd.prog 102 #[.pointer (some ⟨g, 0, none⟩), .string ⟨#[114, 101, 99]⟩, .int .i64 3] w1 fun e w' => e = .returned (.bool false) ∧ w1 = w') := fun w1 hb => isCall_is s _ _ ⟨#[114, 101, 99]⟩ 3 _ (hp.up hb) (by decide) (by decide) _ k3
  have HE : Hid (∀ w1, Below w.heap.size w w1 → w1.cell? ⟨g, 0, none⟩ = some (.string (St s))) := fun w1 hb => cell_up hb e0
  clear hs hp k1 k2 k3
  go_enter Tryd.func81, Tryd.ntmps81
  go_wp2_with (first
    | (go_at_call 52; refine (HQ.out _).mono ?_; rintro e w1 ⟨rfl, hb1⟩; have e1 := HE.out w1 hb1; have HB1 := Lib.hid hb1; clear hb1)
    | (go_at_call 53; refine (HL.out _).mono ?_; rintro e w2 ⟨rfl, hb2⟩; have e2 := HE.out w2 (up_trans HB1.out hb2); have HB2 := Lib.hid (up_trans HB1.out hb2); clear hb2)
    | (go_at_call 102; first | ((with_reducible refine (HI1.out _ HB2.out).mono ?_); rintro e w' ⟨rfl, rfl⟩) | ((with_reducible refine (HI2.out _ HB2.out).mono ?_); rintro e w' ⟨rfl, rfl⟩) | ((with_reducible refine (HI3.out _ HB2.out).mono ?_); rintro e w' ⟨rfl, rfl⟩)))
  go_ret
  exact .none_ HB2.out

set_option maxHeartbeats 4000000 in
set_option maxRecDepth 100000 in
theorem typeOf_notloop (s : List UInt8) (hs : NoAtom s) (q : List Tr) (a b : Tr) (hl : loopB a.atom = false) (w : World) (p A : Option Addr) (n c : Nat) (hp : EAt w (fun _ => True) (.mk s [.mk [114, 101, 99] q, a, b]) p) :
    Calls Tryd.prog 81 #[.pointer p, .slice A n c] w (TyPost w none) := by
  obtain ⟨x, q1⟩ := a
  have hl : loopB x = false := hl
  obtain ⟨g, B, c', rfl, e0, e1, hr⟩ := hp.parts
  obtain ⟨bl, o, p0, rfl, f0, _, hr⟩ := hr.uncons
  obtain ⟨pa, f1, ha, hr⟩ := hr.next
  obtain ⟨ga, _, _, rfl, fa, _, _⟩ := ha.parts
  have q1 := St_ne hs.h1
  have q2 := St_ne hs.h2
  have HQ : Hid (∀ w, Calls Tryd.prog 52 #[.string (St s)] w fun e w' => e = .returned (.bool false) ∧ Below w.heap.size w w') := fun w => by
    have := isParameter_all s w
    rw [hs.h3] at this
    exact this
  have HL : Hid (∀ w, Calls Tryd.prog 53 #[.string (St s)] w fun e w' => e = .returned (.bool false) ∧ Below w.heap.size w w') := fun w => by
    have := isLoopName_all s w
    rw [hs.h4] at this
    exact this
  have HL2 : Hid (∀ w, Calls Tryd.prog 53 #[.string (St x)] w fun e w' => e = .returned (.bool false) ∧ Below w.heap.size w w') := fun w => by
    have := isLoopName_all x w
    rw [hl] at this
    exact this
  have HI1 : Hid (∀ w1, Below w.heap.size w w1 → Calls Tryd.prog 102 #[.pointer (some ⟨g, 0, none⟩), .string ⟨#[43]⟩, .int .i64 3] w1 fun e w' => e = .returned (.bool false) ∧ w1 = w') := fun w1 hb => isCall_is s _ _ ⟨#[43]⟩ 3 _ (hp.up hb) (by decide) (by decide) _ rfl
  have HI2 : Hid (∀ w1, Below w.heap.size w w1 → Calls Tryd.prog 102 #[.pointer (some ⟨g, 0, none⟩), .string ⟨#[42]⟩, .int .i64 3] w1 fun e w' => e = .returned (.bool false) ∧ w1 = w') := fun w1 hb => isCall_is s _ _ ⟨#[42]⟩ 3 _ (hp.up hb) (by decide) (by decide) _ rfl
  have HI3 : Hid (∀ w1, Below w.heap.size w w1 → Calls Tryd.prog 102 #[.pointer (some ⟨g, 0, none⟩), .string ⟨#[114, 101, 99]⟩, .int .i64 3] w1 fun e w' => e = .returned (.bool true) ∧ w1 = w') := fun w1 hb => isCall_is s _ _ ⟨#[114, 101, 99]⟩ 3 _ (hp.up hb) (by decide) (by decide) _ rfl
  have HE : Hid (∀ w1, Below w.heap.size w w1 → w1.cell? ⟨g, 0, none⟩ = some (.string (St s)) ∧ w1.cell? ⟨g, 1, none⟩ = some (.slice (some ⟨bl, o, none⟩) 3 c') ∧ w1.cell? ⟨bl, o + 1, none⟩ = some (.pointer (some ⟨ga, 0, none⟩)) ∧ w1.cell? ⟨ga, 0, none⟩ = some (.string (St x))) := fun w1 hb => ⟨cell_up hb e0, cell_up hb e1, cell_up hb f1, cell_up hb fa⟩
  clear hs hp hr ha hl e1 f0 f1 fa
  go_enter Tryd.func81, Tryd.ntmps81
  go_wp2_with (first
    | (go_at_call 52; refine (HQ.out _).mono ?_; rintro e w1 ⟨rfl, hb1⟩; obtain ⟨e1, _⟩ := HE.out w1 hb1; have HB1 := Lib.hid hb1; clear hb1)
    | (go_at_call 53; first
        | ((with_reducible refine (HL2.out _).mono ?_); rintro e w3 ⟨rfl, hb3⟩; have HB3 := Lib.hid (up_trans HB2.out hb3); clear hb3)
        | ((with_reducible refine (HL.out _).mono ?_); rintro e w2 ⟨rfl, hb2⟩; obtain ⟨e2, d1, d2, d3⟩ := HE.out w2 (up_trans HB1.out hb2); have HB2 := Lib.hid (up_trans HB1.out hb2); clear hb2))
    | (go_at_call 102; first | ((with_reducible refine (HI1.out _ HB2.out).mono ?_); rintro e w' ⟨rfl, rfl⟩) | ((with_reducible refine (HI2.out _ HB2.out).mono ?_); rintro e w' ⟨rfl, rfl⟩) | ((with_reducible refine (HI3.out _ HB2.out).mono ?_); rintro e w' ⟨rfl, rfl⟩)))
  go_ret
  exact .none_ HB3.out

set_option maxHeartbeats 8000000 in
set_option maxRecDepth 100000 in
theorem typeOf_rec (s : List UInt8) (hs : NoAtom s) (q : List Tr) (a b : Tr) (oa : Option Ty) (hl : loopB a.atom = true) (env : List (List UInt8)) (hn : env.length ≤ 100000) (p : Option Addr) (A : Option Addr) (c : Nat) (w : World)
    (hp : EAt w (fun _ => True) (.mk s [.mk [114, 101, 99] q, a, b]) p) (hA : SCells w A env.reverse)
    (ih : ∀ w1 p A c, Below w.heap.size w w1 → EAt w1 (fun _ => True) b p → SCells w1 A (a.atom :: env).reverse → Calls Tryd.prog 81 #[.pointer p, .slice A (env.length + 1) c] w1 (TyPost w1 oa)) :
    Calls Tryd.prog 81 #[.pointer p, .slice A env.length c] w (TyPost w (oa.map .loop)) := by
  obtain ⟨x, q1⟩ := a
  have hl : loopB x = true := hl
  have ih : ∀ w1 p A c, Below w.heap.size w w1 → EAt w1 (fun _ => True) b p → SCells w1 A (x :: env).reverse → Calls Tryd.prog 81 #[.pointer p, .slice A (env.length + 1) c] w1 (TyPost w1 oa) := ih
  obtain ⟨i0, hi0, hz0, hz1, hz2⟩ := info_parts Tryd.infoStr
  obtain ⟨g, B, c', rfl, e0, e1, hr⟩ := hp.parts
  obtain ⟨bl, o, p0, rfl, f0, _, hr⟩ := hr.uncons
  obtain ⟨pa, f1, ha, hr⟩ := hr.next
  obtain ⟨pb, f2, hb, _⟩ := hr.next
  obtain ⟨ga, _, _, rfl, fa, _, _⟩ := ha.parts
  have q1 := St_ne hs.h1
  have q2 := St_ne hs.h2
  have HQ : Hid (∀ w, Calls Tryd.prog 52 #[.string (St s)] w fun e w' => e = .returned (.bool false) ∧ Below w.heap.size w w') := fun w => by
    have := isParameter_all s w
    rw [hs.h3] at this
    exact this
  have HL : Hid (∀ w, Calls Tryd.prog 53 #[.string (St s)] w fun e w' => e = .returned (.bool false) ∧ Below w.heap.size w w') := fun w => by
    have := isLoopName_all s w
    rw [hs.h4] at this
    exact this
  have HL2 : Hid (∀ w, Calls Tryd.prog 53 #[.string (St x)] w fun e w' => e = .returned (.bool true) ∧ Below w.heap.size w w') := fun w => by
    have := isLoopName_all x w
    rw [hl] at this
    exact this
  have HI1 : Hid (∀ w1, Below w.heap.size w w1 → Calls Tryd.prog 102 #[.pointer (some ⟨g, 0, none⟩), .string ⟨#[43]⟩, .int .i64 3] w1 fun e w' => e = .returned (.bool false) ∧ w1 = w') := fun w1 hb => isCall_is s _ _ ⟨#[43]⟩ 3 _ (hp.up hb) (by decide) (by decide) _ rfl
  have HI2 : Hid (∀ w1, Below w.heap.size w w1 → Calls Tryd.prog 102 #[.pointer (some ⟨g, 0, none⟩), .string ⟨#[42]⟩, .int .i64 3] w1 fun e w' => e = .returned (.bool false) ∧ w1 = w') := fun w1 hb => isCall_is s _ _ ⟨#[42]⟩ 3 _ (hp.up hb) (by decide) (by decide) _ rfl
  have HI3 : Hid (∀ w1, Below w.heap.size w w1 → Calls Tryd.prog 102 #[.pointer (some ⟨g, 0, none⟩), .string ⟨#[114, 101, 99]⟩, .int .i64 3] w1 fun e w' => e = .returned (.bool true) ∧ w1 = w') := fun w1 hb => isCall_is s _ _ ⟨#[114, 101, 99]⟩ 3 _ (hp.up hb) (by decide) (by decide) _ rfl
  have HE : Hid (∀ w1, Below w.heap.size w w1 → w1.cell? ⟨g, 0, none⟩ = some (.string (St s)) ∧ w1.cell? ⟨g, 1, none⟩ = some (.slice (some ⟨bl, o, none⟩) 3 c') ∧ w1.cell? ⟨bl, o + 1, none⟩ = some (.pointer (some ⟨ga, 0, none⟩)) ∧ w1.cell? ⟨bl, o + 2, none⟩ = some (.pointer pb) ∧ w1.cell? ⟨ga, 0, none⟩ = some (.string (St x))) := fun w1 hb => ⟨cell_up hb e0, cell_up hb e1, cell_up hb f1, cell_up hb f2, cell_up hb fa⟩
  have HR : Hid (∀ w1, Below w.heap.size w w1 → RCells w1 A (strs env.reverse)) := fun w1 hb => (hA.up hb).row
  have HC : Hid (∀ w1 g' c, Below w.heap.size w w1 → w1.ownsRow w.heap.size 9 1 (.slice (some ⟨g', 0, none⟩) (env.length + 1) c) (env.length + 1) (strs (x :: env).reverse) → Calls Tryd.prog 81 #[.pointer pb, .slice (some ⟨g', 0, none⟩) (env.length + 1) c] w1 (TyPost w1 oa)) := fun w1 g' c hb' ho => by
    have hlen : (x :: env).reverse.length = env.length + 1 := by simp
    have ho' : SOwn w1 w.heap.size (x :: env).reverse g' c := by unfold SOwn; rw [hlen]; exact ho
    exact ih w1 pb _ c hb' (hb.up hb') ho'.reads
  have HLEN : Hid ((strs env.reverse).length = env.length) := by show _ = _; simp [strs]
  have HREV : Hid (strs env.reverse ++ [.string (St x)] = strs (x :: env).reverse) := by
    show _ = _
    simp [strs]
  have HONE : Hid (∀ u ∈ strs env.reverse, u.oneCell' = true) := strs_one _ []
  have hlt0 : Hid (Below w.heap.size w w) := Below.refl _ _
  have HNE : Hid (env.length ≤ 100000) := hn
  clear hs hp hr ha hb hl e1 f0 f1 f2 fa ih hA hn
  generalize strs env.reverse = es at *
  generalize strs (x :: env).reverse = es2 at *
  generalize env.length = n at *
  cases oa with
  | none =>
    go_enter Tryd.func81, Tryd.ntmps81
    go_wp2_with (first
      | (go_at_call 52; refine (HQ.out _).mono ?_; rintro e w1 ⟨rfl, hb1⟩; obtain ⟨e1, _⟩ := HE.out w1 hb1; have HB1 := Lib.hid hb1; clear hb1)
      | (go_at_call 53; first
          | ((with_reducible refine (HL2.out _).mono ?_); rintro e w3 ⟨rfl, hb3⟩; obtain ⟨_, d1, d2, d4, d3⟩ := HE.out w3 (up_trans HB2.out hb3); have HB3 := Lib.hid (up_trans HB2.out hb3); clear hb3)
          | ((with_reducible refine (HL.out _).mono ?_); rintro e w2 ⟨rfl, hb2⟩; obtain ⟨e2, f1, f2, f4, f3⟩ := HE.out w2 (up_trans HB1.out hb2); have HB2 := Lib.hid (up_trans HB1.out hb2); clear hb2))
      | (go_at_call 102; first | ((with_reducible refine (HI1.out _ HB2.out).mono ?_); rintro e w' ⟨rfl, rfl⟩) | ((with_reducible refine (HI2.out _ HB2.out).mono ?_); rintro e w' ⟨rfl, rfl⟩) | ((with_reducible refine (HI3.out _ HB2.out).mono ?_); rintro e w' ⟨rfl, rfl⟩)))
    go_region_held3 (fun w' => w'.cell? ⟨g, 1, none⟩ = some (.slice (some ⟨bl, o, none⟩) 3 c') ∧ w'.cell? ⟨bl, o + 1, none⟩ = some (.pointer (some ⟨ga, 0, none⟩)) ∧ w'.cell? ⟨bl, o + 2, none⟩ = some (.pointer pb) ∧ w'.cell? ⟨ga, 0, none⟩ = some (.string (St x)))
      (first | exact ⟨d61, d62, d64, d63⟩ | exact ⟨d51, d52, d54, d53⟩ | exact ⟨d41, d42, d44, d43⟩ | go_keep)
      (first
        | (go_at_call 81; (with_reducible refine (HC.out _ _ _ HB5.out HO5.out).mono ?_); rintro e w6 ⟨hb6, rfl⟩; obtain ⟨_, d61, d62, d64, d63⟩ := HE.out w6 (up_trans HB5.out hb6); have HB6 := Lib.hid (up_trans HB5.out hb6); clear hb6)
        | ((refine step_append_row _ rfl _ _ 33 rfl w.heap.size 9 i0 (.string ⟨#[]⟩) 16 Tryd.underlying33 hi0 hz0 hz1 hz2 rfl _ 0 0 [] rfl (own_heap (W := w3.alloc (.cells #[] 9)) rfl (own_nil w3 _ HB3.out.size 9)) A n c es rfl HLEN.out (HR.out _ (by repeat (first | exact HB3.out | refine up_drew ?_ | refine up_alloc ?_ _))) HONE.out (by have := HNE.out; omega) (by decide) (Below.size (by repeat (first | exact HB3.out | refine up_drew ?_ | refine up_alloc ?_ _))) n (by omega) es (by simp) ?_); intro g2 c2 w4 hown hgrow hbel hat; have HB4 : Hid (Below w.heap.size w w4) := Below.trans (by repeat (first | exact HB3.out | refine up_drew ?_ | refine up_alloc ?_ _)) hbel; have HO4 := Lib.hid hown; obtain ⟨_, d41, d42, d44, d43⟩ := HE.out w4 HB4.out; clear hown hgrow hbel hat)
        | ((refine step_append_row _ rfl _ _ 33 rfl w.heap.size 9 i0 (.string ⟨#[]⟩) 16 Tryd.underlying33 hi0 hz0 hz1 hz2 rfl _ n c2 es rfl (own_heap (W := w4.alloc (.cells #[.string (St x)] 9)) rfl (World.ownsRow.alloc HO4.out _)) (some ⟨_, 0, none⟩) 1 1 [.string (St x)] rfl rfl (row_one (block_cell (block_new w4 _) 0)) (by simp [Value.oneCell']) (by have := HNE.out; omega) (by decide) (Below.size (by repeat (first | exact HB4.out | refine up_drew ?_ | refine up_alloc ?_ _))) (n + 1) rfl es2 HREV.out ?_); intro g3 c3 w5 hown hgrow hbel hat; have HB5 : Hid (Below w.heap.size w w5) := Below.trans (by repeat (first | exact HB4.out | refine up_drew ?_ | refine up_alloc ?_ _)) hbel; have HO5 := Lib.hid hown; obtain ⟨_, d51, d52, d54, d53⟩ := HE.out w5 HB5.out; clear hown hgrow hbel hat)
        | ((refine step_append_row _ rfl _ _ 33 rfl w.heap.size 9 i0 (.string ⟨#[]⟩) 16 Tryd.underlying33 hi0 hz0 hz1 hz2 rfl _ n c2 es rfl (own_heap (W := w4) rfl HO4.out) (some ⟨_, 0, none⟩) 1 1 [.string (St x)] rfl rfl (row_one kc) (by simp [Value.oneCell']) (by have := HNE.out; omega) (by decide) (Below.size (by repeat (first | exact HB4.out | refine up_drew ?_ | refine up_alloc ?_ _))) (n + 1) rfl es2 HREV.out ?_); intro g3 c3 w5 hown hgrow hbel hat; have HB5 : Hid (Below w.heap.size w w5) := Below.trans (by repeat (first | exact HB4.out | refine up_drew ?_ | refine up_alloc ?_ _)) hbel; have HO5 := Lib.hid hown; obtain ⟨_, d51, d52, d54, d53⟩ := HE.out w5 HB5.out; clear hown hgrow hbel hat)
        | ((refine step_append_row _ rfl _ _ 33 rfl w.heap.size 9 i0 (.string ⟨#[]⟩) 16 Tryd.underlying33 hi0 hz0 hz1 hz2 rfl _ 0 0 [] rfl (own_heap (W := (w3.alloc (.cells #[] 9)).alloc (.cells #[.string (St x)] 9)) rfl (World.ownsRow.alloc (own_nil w3 _ HB3.out.size 9) _)) A n c es rfl HLEN.out (HR.out _ (by repeat (first | exact HB3.out | refine up_drew ?_ | refine up_alloc ?_ _))) HONE.out (by have := HNE.out; omega) (by decide) (Below.size (by repeat (first | exact HB3.out | refine up_drew ?_ | refine up_alloc ?_ _))) n (by omega) es (by simp) ?_); intro g2 c2 w4 hown hgrow hbel hat; have HB4 : Hid (Below w.heap.size w w4) := Below.trans (by repeat (first | exact HB3.out | refine up_drew ?_ | refine up_alloc ?_ _)) hbel; have HO4 := Lib.hid hown; obtain ⟨_, d41, d42, d44, d43⟩ := HE.out w4 HB4.out; have kc : w4.cell? ⟨w3.heap.size + 1, 0, none⟩ = some (.string (St x)) := block_cell (cs := #[.string (St x)]) (t := 9) (fr := (0, 0)) ((hgrow.block (w3.heap.size + 1) (by simp <;> omega) (by simp <;> omega)).trans (new2 w3 (.cells #[] 9) (.cells #[.string (St x)] 9))) 0; clear hown hgrow hbel hat)
        | ((refine step_append_row _ rfl _ _ 33 rfl w.heap.size 9 i0 (.string ⟨#[]⟩) 16 Tryd.underlying33 hi0 hz0 hz1 hz2 rfl _ 0 0 [] rfl (own_heap (W := (w3.alloc (.cells #[.string (St x)] 9)).alloc (.cells #[] 9)) rfl (own_nilH (w3.alloc (.cells #[.string (St x)] 9)) _ (Nat.le_trans HB3.out.size (by simp)) 9 (w3.heap.size + 1) (by simp))) A n c es rfl HLEN.out (HR.out _ (by repeat (first | exact HB3.out | refine up_drew ?_ | refine up_alloc ?_ _))) HONE.out (by have := HNE.out; omega) (by decide) (Below.size (by repeat (first | exact HB3.out | refine up_drew ?_ | refine up_alloc ?_ _))) n (by omega) es (by simp) ?_); intro g2 c2 w4 hown hgrow hbel hat; have HB4 : Hid (Below w.heap.size w w4) := Below.trans (by repeat (first | exact HB3.out | refine up_drew ?_ | refine up_alloc ?_ _)) hbel; have HO4 := Lib.hid hown; obtain ⟨_, d41, d42, d44, d43⟩ := HE.out w4 HB4.out; have kc : w4.cell? ⟨w3.heap.size, 0, none⟩ = some (.string (St x)) := block_cell (cs := #[.string (St x)]) (t := 9) (fr := (0, 0)) ((hgrow.block w3.heap.size (by simp <;> omega) (by simp <;> omega)).trans (old2 w3 (.cells #[.string (St x)] 9) (.cells #[] 9))) 0; clear hown hgrow hbel hat))
    all_goals go_wp2
    all_goals go_ret
    all_goals exact .none_ HB6.out
  | some ta =>
    go_enter Tryd.func81, Tryd.ntmps81
    go_wp2_with (first
      | (go_at_call 52; refine (HQ.out _).mono ?_; rintro e w1 ⟨rfl, hb1⟩; obtain ⟨e1, _⟩ := HE.out w1 hb1; have HB1 := Lib.hid hb1; clear hb1)
      | (go_at_call 53; first
          | ((with_reducible refine (HL2.out _).mono ?_); rintro e w3 ⟨rfl, hb3⟩; obtain ⟨_, d1, d2, d4, d3⟩ := HE.out w3 (up_trans HB2.out hb3); have HB3 := Lib.hid (up_trans HB2.out hb3); clear hb3)
          | ((with_reducible refine (HL.out _).mono ?_); rintro e w2 ⟨rfl, hb2⟩; obtain ⟨e2, f1, f2, f4, f3⟩ := HE.out w2 (up_trans HB1.out hb2); have HB2 := Lib.hid (up_trans HB1.out hb2); clear hb2))
      | (go_at_call 102; first | ((with_reducible refine (HI1.out _ HB2.out).mono ?_); rintro e w' ⟨rfl, rfl⟩) | ((with_reducible refine (HI2.out _ HB2.out).mono ?_); rintro e w' ⟨rfl, rfl⟩) | ((with_reducible refine (HI3.out _ HB2.out).mono ?_); rintro e w' ⟨rfl, rfl⟩)))
    go_region_held3 (fun w' => w'.cell? ⟨g, 1, none⟩ = some (.slice (some ⟨bl, o, none⟩) 3 c') ∧ w'.cell? ⟨bl, o + 1, none⟩ = some (.pointer (some ⟨ga, 0, none⟩)) ∧ w'.cell? ⟨bl, o + 2, none⟩ = some (.pointer pb) ∧ w'.cell? ⟨ga, 0, none⟩ = some (.string (St x)))
      (first | exact ⟨d61, d62, d64, d63⟩ | exact ⟨d51, d52, d54, d53⟩ | exact ⟨d41, d42, d44, d43⟩ | go_keep)
      (first
        | (go_at_call 81; (with_reducible refine (HC.out _ _ _ HB5.out HO5.out).mono ?_); rintro e w6 ⟨hb6, pa6, rfl, hpa⟩; have HPA := Lib.hid hpa; obtain ⟨ga6, rfl⟩ := TyAt.some_ hpa; clear hpa; obtain ⟨_, d61, d62, d64, d63⟩ := HE.out w6 (up_trans HB5.out hb6); have HB6 := Lib.hid (up_trans HB5.out hb6); clear hb6)
        | ((refine step_append_row _ rfl _ _ 33 rfl w.heap.size 9 i0 (.string ⟨#[]⟩) 16 Tryd.underlying33 hi0 hz0 hz1 hz2 rfl _ 0 0 [] rfl (own_heap (W := w3.alloc (.cells #[] 9)) rfl (own_nil w3 _ HB3.out.size 9)) A n c es rfl HLEN.out (HR.out _ (by repeat (first | exact HB3.out | refine up_drew ?_ | refine up_alloc ?_ _))) HONE.out (by have := HNE.out; omega) (by decide) (Below.size (by repeat (first | exact HB3.out | refine up_drew ?_ | refine up_alloc ?_ _))) n (by omega) es (by simp) ?_); intro g2 c2 w4 hown hgrow hbel hat; have HB4 : Hid (Below w.heap.size w w4) := Below.trans (by repeat (first | exact HB3.out | refine up_drew ?_ | refine up_alloc ?_ _)) hbel; have HO4 := Lib.hid hown; obtain ⟨_, d41, d42, d44, d43⟩ := HE.out w4 HB4.out; clear hown hgrow hbel hat)
        | ((refine step_append_row _ rfl _ _ 33 rfl w.heap.size 9 i0 (.string ⟨#[]⟩) 16 Tryd.underlying33 hi0 hz0 hz1 hz2 rfl _ n c2 es rfl (own_heap (W := w4.alloc (.cells #[.string (St x)] 9)) rfl (World.ownsRow.alloc HO4.out _)) (some ⟨_, 0, none⟩) 1 1 [.string (St x)] rfl rfl (row_one (block_cell (block_new w4 _) 0)) (by simp [Value.oneCell']) (by have := HNE.out; omega) (by decide) (Below.size (by repeat (first | exact HB4.out | refine up_drew ?_ | refine up_alloc ?_ _))) (n + 1) rfl es2 HREV.out ?_); intro g3 c3 w5 hown hgrow hbel hat; have HB5 : Hid (Below w.heap.size w w5) := Below.trans (by repeat (first | exact HB4.out | refine up_drew ?_ | refine up_alloc ?_ _)) hbel; have HO5 := Lib.hid hown; obtain ⟨_, d51, d52, d54, d53⟩ := HE.out w5 HB5.out; clear hown hgrow hbel hat)
        | ((refine step_append_row _ rfl _ _ 33 rfl w.heap.size 9 i0 (.string ⟨#[]⟩) 16 Tryd.underlying33 hi0 hz0 hz1 hz2 rfl _ n c2 es rfl (own_heap (W := w4) rfl HO4.out) (some ⟨_, 0, none⟩) 1 1 [.string (St x)] rfl rfl (row_one kc) (by simp [Value.oneCell']) (by have := HNE.out; omega) (by decide) (Below.size (by repeat (first | exact HB4.out | refine up_drew ?_ | refine up_alloc ?_ _))) (n + 1) rfl es2 HREV.out ?_); intro g3 c3 w5 hown hgrow hbel hat; have HB5 : Hid (Below w.heap.size w w5) := Below.trans (by repeat (first | exact HB4.out | refine up_drew ?_ | refine up_alloc ?_ _)) hbel; have HO5 := Lib.hid hown; obtain ⟨_, d51, d52, d54, d53⟩ := HE.out w5 HB5.out; clear hown hgrow hbel hat)
        | ((refine step_append_row _ rfl _ _ 33 rfl w.heap.size 9 i0 (.string ⟨#[]⟩) 16 Tryd.underlying33 hi0 hz0 hz1 hz2 rfl _ 0 0 [] rfl (own_heap (W := (w3.alloc (.cells #[] 9)).alloc (.cells #[.string (St x)] 9)) rfl (World.ownsRow.alloc (own_nil w3 _ HB3.out.size 9) _)) A n c es rfl HLEN.out (HR.out _ (by repeat (first | exact HB3.out | refine up_drew ?_ | refine up_alloc ?_ _))) HONE.out (by have := HNE.out; omega) (by decide) (Below.size (by repeat (first | exact HB3.out | refine up_drew ?_ | refine up_alloc ?_ _))) n (by omega) es (by simp) ?_); intro g2 c2 w4 hown hgrow hbel hat; have HB4 : Hid (Below w.heap.size w w4) := Below.trans (by repeat (first | exact HB3.out | refine up_drew ?_ | refine up_alloc ?_ _)) hbel; have HO4 := Lib.hid hown; obtain ⟨_, d41, d42, d44, d43⟩ := HE.out w4 HB4.out; have kc : w4.cell? ⟨w3.heap.size + 1, 0, none⟩ = some (.string (St x)) := block_cell (cs := #[.string (St x)]) (t := 9) (fr := (0, 0)) ((hgrow.block (w3.heap.size + 1) (by simp <;> omega) (by simp <;> omega)).trans (new2 w3 (.cells #[] 9) (.cells #[.string (St x)] 9))) 0; clear hown hgrow hbel hat)
        | ((refine step_append_row _ rfl _ _ 33 rfl w.heap.size 9 i0 (.string ⟨#[]⟩) 16 Tryd.underlying33 hi0 hz0 hz1 hz2 rfl _ 0 0 [] rfl (own_heap (W := (w3.alloc (.cells #[.string (St x)] 9)).alloc (.cells #[] 9)) rfl (own_nilH (w3.alloc (.cells #[.string (St x)] 9)) _ (Nat.le_trans HB3.out.size (by simp)) 9 (w3.heap.size + 1) (by simp))) A n c es rfl HLEN.out (HR.out _ (by repeat (first | exact HB3.out | refine up_drew ?_ | refine up_alloc ?_ _))) HONE.out (by have := HNE.out; omega) (by decide) (Below.size (by repeat (first | exact HB3.out | refine up_drew ?_ | refine up_alloc ?_ _))) n (by omega) es (by simp) ?_); intro g2 c2 w4 hown hgrow hbel hat; have HB4 : Hid (Below w.heap.size w w4) := Below.trans (by repeat (first | exact HB3.out | refine up_drew ?_ | refine up_alloc ?_ _)) hbel; have HO4 := Lib.hid hown; obtain ⟨_, d41, d42, d44, d43⟩ := HE.out w4 HB4.out; have kc : w4.cell? ⟨w3.heap.size, 0, none⟩ = some (.string (St x)) := block_cell (cs := #[.string (St x)]) (t := 9) (fr := (0, 0)) ((hgrow.block w3.heap.size (by simp <;> omega) (by simp <;> omega)).trans (old2 w3 (.cells #[.string (St x)] 9) (.cells #[] 9))) 0; clear hown hgrow hbel hat))
    all_goals go_wp2
    all_goals go_ret
    all_goals exact .some_ (up_alloc HB6.out _) ⟨_, TyN_new w6 _ _ _ _ _, HPA.out.up (up1 _ _)⟩


/-- Every expression. -/
theorem typeOf_any : ∀ (t : Tr), TO t
  | .mk s ps => by
    by_cases h1 : s = [48]
    · exact typeOf_digit s (.inl h1) ps
    by_cases h2 : s = [49]
    · exact typeOf_digit s (.inr h2) ps
    cases h3 : paramB s with
    | true => exact typeOf_param s h3 ps
    | false =>
      cases h4 : loopB s with
      | true => exact typeOf_loopName s h4 h3 ps
      | false =>
        have hs : NoAtom s := ⟨h1, h2, h3, h4⟩
        match ps with
        | [] => exact fun env p A c w hp hA hn => by rw [tyOf_other h1 h2 h3 h4 _ (by simp)]; exact typeOf_else s hs _ rfl rfl rfl w p A _ c hp
        | [a] => exact fun env p A c w hp hA hn => by rw [tyOf_other h1 h2 h3 h4 _ (by simp)]; exact typeOf_else s hs _ rfl rfl rfl w p A _ c hp
        | [a, b] => exact fun env p A c w hp hA hn => by rw [tyOf_other h1 h2 h3 h4 _ (by simp)]; exact typeOf_else s hs _ rfl rfl rfl w p A _ c hp
        | a :: b :: c :: d :: r =>
          exact fun env p A c w hp hA hn => by
            rw [tyOf_other h1 h2 h3 h4 _ (by simp)]
            exact typeOf_else s hs _ (by simp [callB]) (by simp [callB]) (by simp [callB]) w p A _ _ hp
        | [.mk h q, a, b] =>
          intro env p A c w hp hA hn
          have hsz : env.length + (a.size + b.size + 2) ≤ 100000 := by simp only [Tr.size, Tr.sizes] at hn; omega
          rw [tyOf_three h1 h2 h3 h4]
          unfold tyThree
          by_cases k1 : h = [43]
          · subst k1
            rw [if_pos rfl]
            have ih1 := typeOf_any a
            have ih2 := typeOf_any b
            have := typeOf_sum s hs q a b ((tyOf a).map fun n => n.db env) ((tyOf b).map fun n => n.db env) env p A c w hp
              (fun w1 p hb hp => ih1 env p A c w1 hp (hA.up hb) (by omega)) (fun w1 p hb hp => ih2 env p A c w1 hp (hA.up hb) (by omega))
            rw [show (tyTwo .sum (tyOf a) (tyOf b)).map (fun n => n.db env) = two_ .sum ((tyOf a).map fun n => n.db env) ((tyOf b).map fun n => n.db env) from by
              cases tyOf a <;> cases tyOf b <;> rfl]
            exact this
          by_cases k2 : h = [42]
          · subst k2
            rw [if_neg (by decide), if_pos rfl]
            have ih1 := typeOf_any a
            have ih2 := typeOf_any b
            have := typeOf_prod s hs q a b ((tyOf a).map fun n => n.db env) ((tyOf b).map fun n => n.db env) env p A c w hp
              (fun w1 p hb hp => ih1 env p A c w1 hp (hA.up hb) (by omega)) (fun w1 p hb hp => ih2 env p A c w1 hp (hA.up hb) (by omega))
            rw [show (tyTwo .prod (tyOf a) (tyOf b)).map (fun n => n.db env) = two_ .prod ((tyOf a).map fun n => n.db env) ((tyOf b).map fun n => n.db env) from by
              cases tyOf a <;> cases tyOf b <;> rfl]
            exact this
          by_cases k3 : h = [114, 101, 99]
          · subst k3
            rw [if_neg (by decide), if_neg (by decide), if_pos rfl]
            cases hl : loopB a.atom with
            | false =>
              rw [if_neg (by simp)]
              exact typeOf_notloop s hs q a b hl w p A _ c hp
            | true =>
              rw [if_pos rfl]
              have ih2 := typeOf_any b
              have := typeOf_rec s hs q a b ((tyOf b).map fun n => n.db (a.atom :: env)) hl env (by omega) p A c w hp hA
                (fun w1 p A c hb hp hA => ih2 (a.atom :: env) p A c w1 hp hA (by simp only [List.length_cons]; omega))
              rw [show ((tyOf b).map (NT.loop a.atom)).map (fun n => n.db env) = ((tyOf b).map fun n => n.db (a.atom :: env)).map .loop from by
                cases tyOf b <;> rfl]
              exact this
          · rw [if_neg k1, if_neg k2, if_neg k3]
            exact typeOf_else s hs _ (by simp only [callB, headAtom, St_ne k1, Bool.and_false]) (by simp only [callB, headAtom, St_ne k2, Bool.and_false]) (by simp only [callB, headAtom, St_ne k3, Bool.and_false]) w p A _ c hp

end Go.Proofs.YtkciljcligohnaaDoor
