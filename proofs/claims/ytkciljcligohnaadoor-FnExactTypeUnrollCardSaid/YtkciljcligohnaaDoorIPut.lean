/- The program's put and opened. -/
import Derived.Test.YtkciljcligohnaaDoorCanP
import Derived.Test.YtkciljcligohnaaDoorTy4
namespace Go.Proofs.YtkciljcligohnaaDoor
open Go.RowKit
set_option linter.unusedVariables false
set_option linter.unusedSimpArgs false

set_option maxHeartbeats 4000000 in
set_option maxRecDepth 100000 in
theorem put_digit (nm : List UInt8) (q : Option Addr) (w : World) (g : Nat) (z : Int) (hz : z = 48 ∨ z = 49) (e0 : w.cell? ⟨g, 0, none⟩ = some (.int .u8 z)) :
    Calls Tryd.prog 54 #[.pointer (some ⟨g, 0, none⟩), .string (St nm), .pointer q] w fun e w' => e = .returned (.pointer (some ⟨g, 0, none⟩)) ∧ Below w.heap.size w w' := by
  rcases hz with rfl | rfl
  · go_enter Tryd.func54, Tryd.ntmps54
    go_wp2
    go_ret
    exact ⟨rfl, Below.refl _ _⟩
  · go_enter Tryd.func54, Tryd.ntmps54
    go_wp2
    go_ret
    exact ⟨rfl, Below.refl _ _⟩

set_option maxHeartbeats 4000000 in
set_option maxRecDepth 100000 in
theorem put_hit (nm : List UInt8) (q : Option Addr) (w : World) (g : Nat) (e0 : w.cell? ⟨g, 0, none⟩ = some (.int .u8 110)) (s : List UInt8) (e1 : w.cell? ⟨g, 1, none⟩ = some (.string (St s))) (k : (s == nm) = true) :
    Calls Tryd.prog 54 #[.pointer (some ⟨g, 0, none⟩), .string (St nm), .pointer q] w fun e w' => e = .returned (.pointer q) ∧ Below w.heap.size w w' := by
  go_enter Tryd.func54, Tryd.ntmps54
  go_wp2
  go_ret
  exact ⟨rfl, Below.refl _ _⟩

set_option maxHeartbeats 4000000 in
set_option maxRecDepth 100000 in
theorem put_miss (nm : List UInt8) (q : Option Addr) (w : World) (g : Nat) (e0 : w.cell? ⟨g, 0, none⟩ = some (.int .u8 110)) (s : List UInt8) (e1 : w.cell? ⟨g, 1, none⟩ = some (.string (St s))) (k : (s == nm) = false) :
    Calls Tryd.prog 54 #[.pointer (some ⟨g, 0, none⟩), .string (St nm), .pointer q] w fun e w' => e = .returned (.pointer (some ⟨g, 0, none⟩)) ∧ Below w.heap.size w w' := by
  go_enter Tryd.func54, Tryd.ntmps54
  go_wp2
  go_ret
  exact ⟨rfl, Below.refl _ _⟩

set_option maxHeartbeats 4000000 in
set_option maxRecDepth 100000 in
theorem put_bound (nm : List UInt8) (q : Option Addr) (w : World) (g : Nat) (e0 : w.cell? ⟨g, 0, none⟩ = some (.int .u8 98)) :
    Calls Tryd.prog 54 #[.pointer (some ⟨g, 0, none⟩), .string (St nm), .pointer q] w fun e w' => e = .returned (.pointer (some ⟨g, 0, none⟩)) ∧ Below w.heap.size w w' := by
  go_enter Tryd.func54, Tryd.ntmps54
  go_wp2
  go_ret
  exact ⟨rfl, Below.refl _ _⟩

set_option maxHeartbeats 8000000 in
set_option maxRecDepth 100000 in
theorem put_two (sg : Int) (hsg : sg = 43 ∨ sg = 42) (nm : List UInt8) (q : Option Addr) (a' b' : Ty) (w : World) (g ga gb : Nat) (hb : w.heap[g]? = some (.cells #[.int .u8 sg, .string (St []), .int .i64 0, .pointer (some ⟨ga, 0, none⟩), .pointer (some ⟨gb, 0, none⟩)] 56 (0, 0)))
    (iha : ∀ w1 : World, Below w.heap.size w w1 → Calls Tryd.prog 54 #[.pointer (some ⟨ga, 0, none⟩), .string (St nm), .pointer q] w1 fun e w' => ∃ p', e = .returned (.pointer p') ∧ TyAt w' a' p' ∧ Below w1.heap.size w1 w')
    (ihb : ∀ w1 : World, Below w.heap.size w w1 → Calls Tryd.prog 54 #[.pointer (some ⟨gb, 0, none⟩), .string (St nm), .pointer q] w1 fun e w' => ∃ p', e = .returned (.pointer p') ∧ TyAt w' b' p' ∧ Below w1.heap.size w1 w') :
    Calls Tryd.prog 54 #[.pointer (some ⟨g, 0, none⟩), .string (St nm), .pointer q] w fun e w' => ∃ p' pa' pb', e = .returned (.pointer p') ∧ TyN w' p' sg [] 0 pa' pb' ∧ TyAt w' a' pa' ∧ TyAt w' b' pb' ∧ Below w.heap.size w w' := by
  have IHA := Lib.hid iha
  have IHB := Lib.hid ihb
  clear iha ihb
  rcases hsg with rfl | rfl
  · have e0 : w.cell? ⟨g, 0, none⟩ = some (.int .u8 43) := block_cell hb 0
    have e3 : w.cell? ⟨g, 3, none⟩ = some (.pointer (some ⟨ga, 0, none⟩)) := block_cell hb 3
    have e4 : w.cell? ⟨g, 4, none⟩ = some (.pointer (some ⟨gb, 0, none⟩)) := block_cell hb 4
    clear hb
    go_enter Tryd.func54, Tryd.ntmps54
    go_wp2
    go_region_held3 (fun w' => w'.cell? ⟨g, 0, none⟩ = some (.int .u8 43) ∧ w'.cell? ⟨g, 3, none⟩ = some (.pointer (some ⟨ga, 0, none⟩)) ∧ w'.cell? ⟨g, 4, none⟩ = some (.pointer (some ⟨gb, 0, none⟩)))
      (first | exact ⟨t0, t3, t4⟩ | exact ⟨s0, s3, s4⟩ | exact ⟨e0, e3, e4⟩ | go_keep)
      ((go_at_call 54; first
        | ((with_reducible refine (IHB.out _ HB2.out).mono ?_); rintro e w3 ⟨pb', rfl, hpb, hb3⟩; have HPB := Lib.hid hpb; have HPA3 := Lib.hid (TyAt.up hb3 HPA.out); have HB3 := Lib.hid (up_trans HB2.out hb3); have t0 := cell_up HB3.out e0; have t3 := cell_up HB3.out e3; have t4 := cell_up HB3.out e4; clear hpb hb3)
        | ((with_reducible refine (IHA.out _ (up_drew (Below.refl _ _))).mono ?_); rintro e w2 ⟨pa', rfl, hpa, hb2⟩; have HPA := Lib.hid hpa; have HB2 : Hid (Below w.heap.size w w2) := up_trans (up_drew (Below.refl _ _)) hb2; have s0 := cell_up HB2.out e0; have s3 := cell_up HB2.out e3; have s4 := cell_up HB2.out e4; clear hpa hb2)))
    all_goals go_wp2
    all_goals go_ret
    all_goals exact ⟨_, pa', pb', rfl, TyN_new w3 43 [] 0 pa' pb', HPA3.out.up (up1 _ _), HPB.out.up (up1 _ _), up_alloc HB3.out _⟩
  · have e0 : w.cell? ⟨g, 0, none⟩ = some (.int .u8 42) := block_cell hb 0
    have e3 : w.cell? ⟨g, 3, none⟩ = some (.pointer (some ⟨ga, 0, none⟩)) := block_cell hb 3
    have e4 : w.cell? ⟨g, 4, none⟩ = some (.pointer (some ⟨gb, 0, none⟩)) := block_cell hb 4
    clear hb
    go_enter Tryd.func54, Tryd.ntmps54
    go_wp2
    go_region_held3 (fun w' => w'.cell? ⟨g, 0, none⟩ = some (.int .u8 42) ∧ w'.cell? ⟨g, 3, none⟩ = some (.pointer (some ⟨ga, 0, none⟩)) ∧ w'.cell? ⟨g, 4, none⟩ = some (.pointer (some ⟨gb, 0, none⟩)))
      (first | exact ⟨t0, t3, t4⟩ | exact ⟨s0, s3, s4⟩ | exact ⟨e0, e3, e4⟩ | go_keep)
      ((go_at_call 54; first
        | ((with_reducible refine (IHB.out _ HB2.out).mono ?_); rintro e w3 ⟨pb', rfl, hpb, hb3⟩; have HPB := Lib.hid hpb; have HPA3 := Lib.hid (TyAt.up hb3 HPA.out); have HB3 := Lib.hid (up_trans HB2.out hb3); have t0 := cell_up HB3.out e0; have t3 := cell_up HB3.out e3; have t4 := cell_up HB3.out e4; clear hpb hb3)
        | ((with_reducible refine (IHA.out _ (up_drew (Below.refl _ _))).mono ?_); rintro e w2 ⟨pa', rfl, hpa, hb2⟩; have HPA := Lib.hid hpa; have HB2 : Hid (Below w.heap.size w w2) := up_trans (up_drew (Below.refl _ _)) hb2; have s0 := cell_up HB2.out e0; have s3 := cell_up HB2.out e3; have s4 := cell_up HB2.out e4; clear hpa hb2)))
    all_goals go_wp2
    all_goals go_ret
    all_goals exact ⟨_, pa', pb', rfl, TyN_new w3 42 [] 0 pa' pb', HPA3.out.up (up1 _ _), HPB.out.up (up1 _ _), up_alloc HB3.out _⟩

set_option maxHeartbeats 8000000 in
set_option maxRecDepth 100000 in
theorem put_rec (nm : List UInt8) (q : Option Addr) (a' : Ty) (w : World) (g ga : Nat) (hb : w.heap[g]? = some (.cells #[.int .u8 114, .string (St []), .int .i64 0, .pointer (some ⟨ga, 0, none⟩), .pointer none] 56 (0, 0)))
    (iha : ∀ w1 : World, Below w.heap.size w w1 → Calls Tryd.prog 54 #[.pointer (some ⟨ga, 0, none⟩), .string (St nm), .pointer q] w1 fun e w' => ∃ p', e = .returned (.pointer p') ∧ TyAt w' a' p' ∧ Below w1.heap.size w1 w') :
    Calls Tryd.prog 54 #[.pointer (some ⟨g, 0, none⟩), .string (St nm), .pointer q] w fun e w' => ∃ p', e = .returned (.pointer p') ∧ TyAt w' (.loop a') p' ∧ Below w.heap.size w w' := by
  have IHA := Lib.hid iha
  have e0 : w.cell? ⟨g, 0, none⟩ = some (.int .u8 114) := block_cell hb 0
  have e3 : w.cell? ⟨g, 3, none⟩ = some (.pointer (some ⟨ga, 0, none⟩)) := block_cell hb 3
  clear iha hb
  go_enter Tryd.func54, Tryd.ntmps54
  go_wp2_with (go_at_call 54; (with_reducible refine (IHA.out _ (Below.refl _ _)).mono ?_); rintro e w2 ⟨pa', rfl, hpa, hb2⟩; have HPA := Lib.hid hpa; have HB2 := Lib.hid hb2; clear hpa hb2)
  go_ret
  exact ⟨_, rfl, ⟨pa', TyN_new w2 114 [] 0 pa' none, HPA.out.up (up1 _ _)⟩, up_alloc HB2.out _⟩

/-- put, whole. -/
theorem put_any (nm : List UInt8) (u : Ty) : ∀ (t : Ty) (w : World) (p q : Option Addr), TyAt w t p → TyAt w u q →
    Calls Tryd.prog 54 #[.pointer p, .string (St nm), .pointer q] w fun e w' => ∃ p', e = .returned (.pointer p') ∧ TyAt w' (t.put nm u) p' ∧ Below w.heap.size w w'
  | .zero, w, p, q, hp, hq => by
    have hp0 := hp
    obtain ⟨g, rfl, hb⟩ := hp
    exact (put_digit nm q w g 48 (.inl rfl) (block_cell hb 0)).mono fun e w' ⟨h1, h2⟩ => ⟨_, h1, hp0.up h2, h2⟩
  | .one, w, p, q, hp, hq => by
    have hp0 := hp
    obtain ⟨g, rfl, hb⟩ := hp
    exact (put_digit nm q w g 49 (.inr rfl) (block_cell hb 0)).mono fun e w' ⟨h1, h2⟩ => ⟨_, h1, hp0.up h2, h2⟩
  | .bound k, w, p, q, hp, hq => by
    have hp0 := hp
    obtain ⟨g, rfl, hb⟩ := hp
    exact (put_bound nm q w g (block_cell hb 0)).mono fun e w' ⟨h1, h2⟩ => ⟨_, h1, hp0.up h2, h2⟩
  | .name s, w, p, q, hp, hq => by
    have hp0 := hp
    obtain ⟨g, rfl, hb⟩ := hp
    by_cases hs : s = nm
    · subst hs
      exact (put_hit s q w g (block_cell hb 0) s (block_cell hb 1) (by simp)).mono fun e w' ⟨h1, h2⟩ => ⟨_, h1, by simp only [Ty.put]; exact hq.up h2, h2⟩
    · exact (put_miss nm q w g (block_cell hb 0) s (block_cell hb 1) (by simpa using hs)).mono fun e w' ⟨h1, h2⟩ => ⟨_, h1, by simp only [Ty.put]; rw [if_neg hs]; exact hp0.up h2, h2⟩
  | .sum a b, w, p, q, hp, hq => by
    obtain ⟨pa, pb, ⟨g, rfl, hb⟩, ha, hb'⟩ := hp
    obtain ⟨ga, rfl⟩ := ha.some_
    obtain ⟨gb, rfl⟩ := hb'.some_
    exact (put_two 43 (.inl rfl) nm q (a.put nm u) (b.put nm u) w g ga gb hb (fun w1 h => put_any nm u a w1 _ q (ha.up h) (hq.up h)) (fun w1 h => put_any nm u b w1 _ q (hb'.up h) (hq.up h))).mono fun e w' ⟨p', pa', pb', h1, h2, h3, h4, h5⟩ => ⟨p', h1, ⟨pa', pb', h2, h3, h4⟩, h5⟩
  | .prod a b, w, p, q, hp, hq => by
    obtain ⟨pa, pb, ⟨g, rfl, hb⟩, ha, hb'⟩ := hp
    obtain ⟨ga, rfl⟩ := ha.some_
    obtain ⟨gb, rfl⟩ := hb'.some_
    exact (put_two 42 (.inr rfl) nm q (a.put nm u) (b.put nm u) w g ga gb hb (fun w1 h => put_any nm u a w1 _ q (ha.up h) (hq.up h)) (fun w1 h => put_any nm u b w1 _ q (hb'.up h) (hq.up h))).mono fun e w' ⟨p', pa', pb', h1, h2, h3, h4, h5⟩ => ⟨p', h1, ⟨pa', pb', h2, h3, h4⟩, h5⟩
  | .loop a, w, p, q, hp, hq => by
    obtain ⟨pa, ⟨g, rfl, hb⟩, ha⟩ := hp
    obtain ⟨ga, rfl⟩ := ha.some_
    exact put_rec nm q (a.put nm u) w g ga hb (fun w1 h => put_any nm u a w1 _ q (ha.up h) (hq.up h))

set_option maxHeartbeats 4000000 in
set_option maxRecDepth 100000 in
theorem opened_digit (up : Int) (q : Option Addr) (w : World) (g : Nat) (z : Int) (hz : z = 48 ∨ z = 49) (e0 : w.cell? ⟨g, 0, none⟩ = some (.int .u8 z)) :
    Calls Tryd.prog 87 #[.pointer (some ⟨g, 0, none⟩), .pointer q, .int .i64 up] w fun e w' => e = .returned (.pointer (some ⟨g, 0, none⟩)) ∧ Below w.heap.size w w' := by
  rcases hz with rfl | rfl
  · go_enter Tryd.func87, Tryd.ntmps87
    go_wp2
    go_ret
    exact ⟨rfl, Below.refl _ _⟩
  · go_enter Tryd.func87, Tryd.ntmps87
    go_wp2
    go_ret
    exact ⟨rfl, Below.refl _ _⟩

set_option maxHeartbeats 4000000 in
set_option maxRecDepth 100000 in
theorem opened_name (up : Int) (q : Option Addr) (w : World) (g : Nat) (e0 : w.cell? ⟨g, 0, none⟩ = some (.int .u8 110)) :
    Calls Tryd.prog 87 #[.pointer (some ⟨g, 0, none⟩), .pointer q, .int .i64 up] w fun e w' => e = .returned (.pointer (some ⟨g, 0, none⟩)) ∧ Below w.heap.size w w' := by
  go_enter Tryd.func87, Tryd.ntmps87
  go_wp2
  go_ret
  exact ⟨rfl, Below.refl _ _⟩

set_option maxHeartbeats 4000000 in
set_option maxRecDepth 100000 in
theorem opened_hit (up : Int) (q : Option Addr) (w : World) (g : Nat) (e0 : w.cell? ⟨g, 0, none⟩ = some (.int .u8 98)) (k : Int) (e2 : w.cell? ⟨g, 2, none⟩ = some (.int .i64 k)) (hk : (k == up) = true) :
    Calls Tryd.prog 87 #[.pointer (some ⟨g, 0, none⟩), .pointer q, .int .i64 up] w fun e w' => e = .returned (.pointer q) ∧ Below w.heap.size w w' := by
  go_enter Tryd.func87, Tryd.ntmps87
  go_wp2
  go_ret
  exact ⟨rfl, Below.refl _ _⟩

set_option maxHeartbeats 4000000 in
set_option maxRecDepth 100000 in
theorem opened_miss (up : Int) (q : Option Addr) (w : World) (g : Nat) (e0 : w.cell? ⟨g, 0, none⟩ = some (.int .u8 98)) (k : Int) (e2 : w.cell? ⟨g, 2, none⟩ = some (.int .i64 k)) (hk : (k == up) = false) :
    Calls Tryd.prog 87 #[.pointer (some ⟨g, 0, none⟩), .pointer q, .int .i64 up] w fun e w' => e = .returned (.pointer (some ⟨g, 0, none⟩)) ∧ Below w.heap.size w w' := by
  go_enter Tryd.func87, Tryd.ntmps87
  go_wp2
  go_ret
  exact ⟨rfl, Below.refl _ _⟩

set_option maxHeartbeats 8000000 in
set_option maxRecDepth 100000 in
theorem opened_two (sg : Int) (hsg : sg = 43 ∨ sg = 42) (up : Int) (q : Option Addr) (a' b' : Ty) (w : World) (g ga gb : Nat) (hb : w.heap[g]? = some (.cells #[.int .u8 sg, .string (St []), .int .i64 0, .pointer (some ⟨ga, 0, none⟩), .pointer (some ⟨gb, 0, none⟩)] 56 (0, 0)))
    (iha : ∀ w1 : World, Below w.heap.size w w1 → Calls Tryd.prog 87 #[.pointer (some ⟨ga, 0, none⟩), .pointer q, .int .i64 up] w1 fun e w' => ∃ p', e = .returned (.pointer p') ∧ TyAt w' a' p' ∧ Below w1.heap.size w1 w')
    (ihb : ∀ w1 : World, Below w.heap.size w w1 → Calls Tryd.prog 87 #[.pointer (some ⟨gb, 0, none⟩), .pointer q, .int .i64 up] w1 fun e w' => ∃ p', e = .returned (.pointer p') ∧ TyAt w' b' p' ∧ Below w1.heap.size w1 w') :
    Calls Tryd.prog 87 #[.pointer (some ⟨g, 0, none⟩), .pointer q, .int .i64 up] w fun e w' => ∃ p' pa' pb', e = .returned (.pointer p') ∧ TyN w' p' sg [] 0 pa' pb' ∧ TyAt w' a' pa' ∧ TyAt w' b' pb' ∧ Below w.heap.size w w' := by
  have IHA := Lib.hid iha
  have IHB := Lib.hid ihb
  clear iha ihb
  rcases hsg with rfl | rfl
  · have e0 : w.cell? ⟨g, 0, none⟩ = some (.int .u8 43) := block_cell hb 0
    have e3 : w.cell? ⟨g, 3, none⟩ = some (.pointer (some ⟨ga, 0, none⟩)) := block_cell hb 3
    have e4 : w.cell? ⟨g, 4, none⟩ = some (.pointer (some ⟨gb, 0, none⟩)) := block_cell hb 4
    clear hb
    go_enter Tryd.func87, Tryd.ntmps87
    go_wp2
    go_region_held3 (fun w' => w'.cell? ⟨g, 0, none⟩ = some (.int .u8 43) ∧ w'.cell? ⟨g, 3, none⟩ = some (.pointer (some ⟨ga, 0, none⟩)) ∧ w'.cell? ⟨g, 4, none⟩ = some (.pointer (some ⟨gb, 0, none⟩)))
      (first | exact ⟨t0, t3, t4⟩ | exact ⟨s0, s3, s4⟩ | exact ⟨e0, e3, e4⟩ | go_keep)
      ((go_at_call 87; first
        | ((with_reducible refine (IHB.out _ HB2.out).mono ?_); rintro e w3 ⟨pb', rfl, hpb, hb3⟩; have HPB := Lib.hid hpb; have HPA3 := Lib.hid (TyAt.up hb3 HPA.out); have HB3 := Lib.hid (up_trans HB2.out hb3); have t0 := cell_up HB3.out e0; have t3 := cell_up HB3.out e3; have t4 := cell_up HB3.out e4; clear hpb hb3)
        | ((with_reducible refine (IHA.out _ (up_drew (Below.refl _ _))).mono ?_); rintro e w2 ⟨pa', rfl, hpa, hb2⟩; have HPA := Lib.hid hpa; have HB2 : Hid (Below w.heap.size w w2) := up_trans (up_drew (Below.refl _ _)) hb2; have s0 := cell_up HB2.out e0; have s3 := cell_up HB2.out e3; have s4 := cell_up HB2.out e4; clear hpa hb2)))
    all_goals go_wp2
    all_goals go_ret
    all_goals exact ⟨_, pa', pb', rfl, TyN_new w3 43 [] 0 pa' pb', HPA3.out.up (up1 _ _), HPB.out.up (up1 _ _), up_alloc HB3.out _⟩
  · have e0 : w.cell? ⟨g, 0, none⟩ = some (.int .u8 42) := block_cell hb 0
    have e3 : w.cell? ⟨g, 3, none⟩ = some (.pointer (some ⟨ga, 0, none⟩)) := block_cell hb 3
    have e4 : w.cell? ⟨g, 4, none⟩ = some (.pointer (some ⟨gb, 0, none⟩)) := block_cell hb 4
    clear hb
    go_enter Tryd.func87, Tryd.ntmps87
    go_wp2
    go_region_held3 (fun w' => w'.cell? ⟨g, 0, none⟩ = some (.int .u8 42) ∧ w'.cell? ⟨g, 3, none⟩ = some (.pointer (some ⟨ga, 0, none⟩)) ∧ w'.cell? ⟨g, 4, none⟩ = some (.pointer (some ⟨gb, 0, none⟩)))
      (first | exact ⟨t0, t3, t4⟩ | exact ⟨s0, s3, s4⟩ | exact ⟨e0, e3, e4⟩ | go_keep)
      ((go_at_call 87; first
        | ((with_reducible refine (IHB.out _ HB2.out).mono ?_); rintro e w3 ⟨pb', rfl, hpb, hb3⟩; have HPB := Lib.hid hpb; have HPA3 := Lib.hid (TyAt.up hb3 HPA.out); have HB3 := Lib.hid (up_trans HB2.out hb3); have t0 := cell_up HB3.out e0; have t3 := cell_up HB3.out e3; have t4 := cell_up HB3.out e4; clear hpb hb3)
        | ((with_reducible refine (IHA.out _ (up_drew (Below.refl _ _))).mono ?_); rintro e w2 ⟨pa', rfl, hpa, hb2⟩; have HPA := Lib.hid hpa; have HB2 : Hid (Below w.heap.size w w2) := up_trans (up_drew (Below.refl _ _)) hb2; have s0 := cell_up HB2.out e0; have s3 := cell_up HB2.out e3; have s4 := cell_up HB2.out e4; clear hpa hb2)))
    all_goals go_wp2
    all_goals go_ret
    all_goals exact ⟨_, pa', pb', rfl, TyN_new w3 42 [] 0 pa' pb', HPA3.out.up (up1 _ _), HPB.out.up (up1 _ _), up_alloc HB3.out _⟩

set_option maxHeartbeats 8000000 in
set_option maxRecDepth 100000 in
theorem opened_rec (up : Int) (hup : 0 ≤ up ∧ up ≤ 100000) (q : Option Addr) (a' : Ty) (w : World) (g ga : Nat) (hb : w.heap[g]? = some (.cells #[.int .u8 114, .string (St []), .int .i64 0, .pointer (some ⟨ga, 0, none⟩), .pointer none] 56 (0, 0)))
    (iha : ∀ w1 : World, Below w.heap.size w w1 → Calls Tryd.prog 87 #[.pointer (some ⟨ga, 0, none⟩), .pointer q, .int .i64 (up + 1)] w1 fun e w' => ∃ p', e = .returned (.pointer p') ∧ TyAt w' a' p' ∧ Below w1.heap.size w1 w') :
    Calls Tryd.prog 87 #[.pointer (some ⟨g, 0, none⟩), .pointer q, .int .i64 up] w fun e w' => ∃ p', e = .returned (.pointer p') ∧ TyAt w' (.loop a') p' ∧ Below w.heap.size w w' := by
  have IHA := Lib.hid iha
  have e0 : w.cell? ⟨g, 0, none⟩ = some (.int .u8 114) := block_cell hb 0
  have e3 : w.cell? ⟨g, 3, none⟩ = some (.pointer (some ⟨ga, 0, none⟩)) := block_cell hb 3
  have hw : IntKind.i64.wrap (up + 1) = up + 1 := by rw [IntKind.wrap_i64]; omega
  clear iha hb hup
  go_enter Tryd.func87, Tryd.ntmps87
  go_wp2_with (go_at_call 87; (with_reducible refine (IHA.out _ (Below.refl _ _)).mono ?_); rintro e w2 ⟨pa', rfl, hpa, hb2⟩; have HPA := Lib.hid hpa; have HB2 := Lib.hid hb2; clear hpa hb2)
  go_ret
  exact ⟨_, rfl, ⟨pa', TyN_new w2 114 [] 0 pa' none, HPA.out.up (up1 _ _)⟩, up_alloc HB2.out _⟩

/-- opened, whole. -/
theorem opened_any (u : Ty) : ∀ (t : Ty) (w : World) (p q : Option Addr) (up : Nat), TyAt w t p → TyAt w u q → up + t.atoms ≤ 100000 →
    Calls Tryd.prog 87 #[.pointer p, .pointer q, .int .i64 up] w fun e w' => ∃ p', e = .returned (.pointer p') ∧ TyAt w' (t.opened u up) p' ∧ Below w.heap.size w w'
  | .zero, w, p, q, up, hp, hq, hn => by
    have hp0 := hp
    obtain ⟨g, rfl, hb⟩ := hp
    exact (opened_digit up q w g 48 (.inl rfl) (block_cell hb 0)).mono fun e w' ⟨h1, h2⟩ => ⟨_, h1, hp0.up h2, h2⟩
  | .one, w, p, q, up, hp, hq, hn => by
    have hp0 := hp
    obtain ⟨g, rfl, hb⟩ := hp
    exact (opened_digit up q w g 49 (.inr rfl) (block_cell hb 0)).mono fun e w' ⟨h1, h2⟩ => ⟨_, h1, hp0.up h2, h2⟩
  | .name s, w, p, q, up, hp, hq, hn => by
    have hp0 := hp
    obtain ⟨g, rfl, hb⟩ := hp
    exact (opened_name up q w g (block_cell hb 0)).mono fun e w' ⟨h1, h2⟩ => ⟨_, h1, hp0.up h2, h2⟩
  | .bound k, w, p, q, up, hp, hq, hn => by
    have hp0 := hp
    obtain ⟨g, rfl, hb⟩ := hp
    by_cases hs : k = up
    · subst hs
      exact (opened_hit k q w g (block_cell hb 0) k (block_cell hb 2) (by simp)).mono fun e w' ⟨h1, h2⟩ => ⟨_, h1, by simp only [Ty.opened]; exact hq.up h2, h2⟩
    · exact (opened_miss up q w g (block_cell hb 0) k (block_cell hb 2) (by simp; omega)).mono fun e w' ⟨h1, h2⟩ => ⟨_, h1, by simp only [Ty.opened]; rw [if_neg hs]; exact hp0.up h2, h2⟩
  | .sum a b, w, p, q, up, hp, hq, hn => by
    simp only [Ty.atoms] at hn
    obtain ⟨pa, pb, ⟨g, rfl, hb⟩, ha, hb'⟩ := hp
    obtain ⟨ga, rfl⟩ := ha.some_
    obtain ⟨gb, rfl⟩ := hb'.some_
    exact (opened_two 43 (.inl rfl) up q (a.opened u up) (b.opened u up) w g ga gb hb (fun w1 h => opened_any u a w1 _ q up (ha.up h) (hq.up h) (by omega)) (fun w1 h => opened_any u b w1 _ q up (hb'.up h) (hq.up h) (by omega))).mono fun e w' ⟨p', pa', pb', h1, h2, h3, h4, h5⟩ => ⟨p', h1, ⟨pa', pb', h2, h3, h4⟩, h5⟩
  | .prod a b, w, p, q, up, hp, hq, hn => by
    simp only [Ty.atoms] at hn
    obtain ⟨pa, pb, ⟨g, rfl, hb⟩, ha, hb'⟩ := hp
    obtain ⟨ga, rfl⟩ := ha.some_
    obtain ⟨gb, rfl⟩ := hb'.some_
    exact (opened_two 42 (.inr rfl) up q (a.opened u up) (b.opened u up) w g ga gb hb (fun w1 h => opened_any u a w1 _ q up (ha.up h) (hq.up h) (by omega)) (fun w1 h => opened_any u b w1 _ q up (hb'.up h) (hq.up h) (by omega))).mono fun e w' ⟨p', pa', pb', h1, h2, h3, h4, h5⟩ => ⟨p', h1, ⟨pa', pb', h2, h3, h4⟩, h5⟩
  | .loop a, w, p, q, up, hp, hq, hn => by
    simp only [Ty.atoms] at hn
    obtain ⟨pa, ⟨g, rfl, hb⟩, ha⟩ := hp
    obtain ⟨ga, rfl⟩ := ha.some_
    exact opened_rec up (by omega) q (a.opened u (up + 1)) w g ga hb (fun w1 h => opened_any u a w1 _ q (up + 1) (ha.up h) (hq.up h) (by omega))

theorem unrolled_any (a : Ty) (w : World) (p : Option Addr) (hp : TyAt w (.loop a) p) (hn : a.atoms ≤ 90000) :
    Calls Tryd.prog 57 #[.pointer p] w fun e w' => ∃ p', e = .returned (.pointer p') ∧ TyAt w' (a.opened (.loop a) 0) p' ∧ Below w.heap.size w w' := by
  have hp0 := hp
  obtain ⟨pa, ⟨g, rfl, hb⟩, ha⟩ := hp
  have e3 : w.cell? ⟨g, 3, none⟩ = some (.pointer pa) := block_cell hb 3
  have HO : Hid (Calls Tryd.prog 87 #[.pointer pa, .pointer (some ⟨g, 0, none⟩), .int .i64 0] w fun e w' => ∃ p', e = .returned (.pointer p') ∧ TyAt w' (a.opened (.loop a) 0) p' ∧ Below w.heap.size w w') := opened_any (.loop a) a w pa _ 0 ha hp0 (by omega)
  clear hp0 hb ha hn
  go_enter Tryd.func57, Tryd.ntmps57
  go_wp2_with (go_at_call 87; (with_reducible refine HO.out.mono ?_); rintro e w2 ⟨p', rfl, hp', hb2⟩; have HP := Lib.hid hp'; have HB := Lib.hid hb2; clear hp' hb2)
  go_ret
  exact ⟨_, rfl, HP.out, HB.out⟩

end Go.Proofs.YtkciljcligohnaaDoor
