/- The program's derivative: of, derived. -/
import Derived.Test.YtpokompplapkhaaGreatDoorDif
namespace Go.Proofs.YtpokompplapkhaaGreatDoor
open Go.RowKit
set_option linter.unusedVariables false
set_option linter.unusedSimpArgs false

set_option maxHeartbeats 4000000 in
theorem of_great (nm : List UInt8) (B bx f : Nat) (p : Option Addr) (w : World) (h : DX w B bx f true) :
    Calls Tryz.prog 154 #[.pointer (some ⟨bx, 0, none⟩), .pointer p, .string (St nm)] w (XP w B bx f .zero true) := by
  have e1 : w.cell? ⟨bx, 1, none⟩ = some (.bool true) := block_cell h.h 1
  have lt0 := lt_of_block h.h
  have HX := Lib.hid h
  clear h
  go_enter Tryz.func154, Tryz.ntmps154
  go_wp2
  go_ret
  exact ⟨_, rfl, TyN_new _ 48 [] 0 none none, HX.out.up (up1 _ _), below_grow (up1 _ _)⟩

set_option maxHeartbeats 4000000 in
set_option maxRecDepth 100000 in
theorem of_zero (nm : List UInt8) (B bx f : Nat) (g : Nat) (w : World) (h : DX w B bx f false) (e0 : w.cell? ⟨g, 0, none⟩ = some (.int .u8 48)) :
    Calls Tryz.prog 154 #[.pointer (some ⟨bx, 0, none⟩), .pointer (some ⟨g, 0, none⟩), .string (St nm)] w (XP w B bx f .zero false) := by
  have e1 : w.cell? ⟨bx, 1, none⟩ = some (.bool false) := block_cell h.h 1
  have lt0 := lt_of_block h.h
  have HX := Lib.hid h
  clear h
  go_enter Tryz.func154, Tryz.ntmps154
  go_wp2
  go_ret
  exact ⟨_, rfl, TyN_new _ 48 [] 0 none none, HX.out.up (up1 _ _), below_grow (up1 _ _)⟩

set_option maxHeartbeats 4000000 in
set_option maxRecDepth 100000 in
theorem of_one (nm : List UInt8) (B bx f : Nat) (g : Nat) (w : World) (h : DX w B bx f false) (e0 : w.cell? ⟨g, 0, none⟩ = some (.int .u8 49)) :
    Calls Tryz.prog 154 #[.pointer (some ⟨bx, 0, none⟩), .pointer (some ⟨g, 0, none⟩), .string (St nm)] w (XP w B bx f .zero false) := by
  have e1 : w.cell? ⟨bx, 1, none⟩ = some (.bool false) := block_cell h.h 1
  have lt0 := lt_of_block h.h
  have HX := Lib.hid h
  clear h
  go_enter Tryz.func154, Tryz.ntmps154
  go_wp2
  go_ret
  exact ⟨_, rfl, TyN_new _ 48 [] 0 none none, HX.out.up (up1 _ _), below_grow (up1 _ _)⟩

set_option maxHeartbeats 4000000 in
set_option maxRecDepth 100000 in
theorem of_bound (nm : List UInt8) (B bx f : Nat) (g : Nat) (w : World) (h : DX w B bx f false) (e0 : w.cell? ⟨g, 0, none⟩ = some (.int .u8 98)) :
    Calls Tryz.prog 154 #[.pointer (some ⟨bx, 0, none⟩), .pointer (some ⟨g, 0, none⟩), .string (St nm)] w (XP w B bx f .zero false) := by
  have e1 : w.cell? ⟨bx, 1, none⟩ = some (.bool false) := block_cell h.h 1
  have lt0 := lt_of_block h.h
  have HX := Lib.hid h
  clear h
  go_enter Tryz.func154, Tryz.ntmps154
  go_wp2
  go_ret
  exact ⟨_, rfl, TyN_new _ 48 [] 0 none none, HX.out.up (up1 _ _), below_grow (up1 _ _)⟩

set_option maxHeartbeats 4000000 in
set_option maxRecDepth 100000 in
theorem of_hit (nm : List UInt8) (B bx f : Nat) (g : Nat) (w : World) (h : DX w B bx f false) (e0 : w.cell? ⟨g, 0, none⟩ = some (.int .u8 110)) (s : List UInt8) (e2 : w.cell? ⟨g, 1, none⟩ = some (.string (St s))) (k : (s == nm) = true) :
    Calls Tryz.prog 154 #[.pointer (some ⟨bx, 0, none⟩), .pointer (some ⟨g, 0, none⟩), .string (St nm)] w (XP w B bx f .one false) := by
  have e1 : w.cell? ⟨bx, 1, none⟩ = some (.bool false) := block_cell h.h 1
  have lt0 := lt_of_block h.h
  have HX := Lib.hid h
  clear h
  go_enter Tryz.func154, Tryz.ntmps154
  go_wp2
  go_ret
  exact ⟨_, rfl, TyN_new _ 49 [] 0 none none, HX.out.up (up1 _ _), below_grow (up1 _ _)⟩

set_option maxHeartbeats 4000000 in
set_option maxRecDepth 100000 in
theorem of_miss (nm : List UInt8) (B bx f : Nat) (g : Nat) (w : World) (h : DX w B bx f false) (e0 : w.cell? ⟨g, 0, none⟩ = some (.int .u8 110)) (s : List UInt8) (e2 : w.cell? ⟨g, 1, none⟩ = some (.string (St s))) (k : (s == nm) = false) :
    Calls Tryz.prog 154 #[.pointer (some ⟨bx, 0, none⟩), .pointer (some ⟨g, 0, none⟩), .string (St nm)] w (XP w B bx f .zero false) := by
  have e1 : w.cell? ⟨bx, 1, none⟩ = some (.bool false) := block_cell h.h 1
  have lt0 := lt_of_block h.h
  have HX := Lib.hid h
  clear h
  go_enter Tryz.func154, Tryz.ntmps154
  go_wp2
  go_ret
  exact ⟨_, rfl, TyN_new _ 48 [] 0 none none, HX.out.up (up1 _ _), below_grow (up1 _ _)⟩

set_option maxHeartbeats 8000000 in
set_option maxRecDepth 100000 in
theorem of_sum (nm : List UInt8) (a b : Ty) (B bx f : Nat) (w : World) (g ga gb : Nat) (h : DX w B bx f false) (hb : w.heap[g]? = some (.cells #[.int .u8 43, .string (St []), .int .i64 0, .pointer (some ⟨ga, 0, none⟩), .pointer (some ⟨gb, 0, none⟩)] 124 (0, 0)))
    (ta : TyAt w a (some ⟨ga, 0, none⟩)) (tb : TyAt w b (some ⟨gb, 0, none⟩)) (hat : a.atoms + b.atoms ≤ 1000)
    (iha : ∀ w1, w.grownBy w1 (some bx) → DX w1 B bx f false → Calls Tryz.prog 154 #[.pointer (some ⟨bx, 0, none⟩), .pointer (some ⟨ga, 0, none⟩), .string (St nm)] w1 fun e w' => ∃ r g1 f1, OfR a nm false f r g1 f1 ∧ XP w1 B bx f1 r g1 e w')
    (ihb : ∀ w1 g1 f1, w.grownBy w1 (some bx) → DX w1 B bx f1 g1 → (∃ r, OfR a nm false f r g1 f1) → Calls Tryz.prog 154 #[.pointer (some ⟨bx, 0, none⟩), .pointer (some ⟨gb, 0, none⟩), .string (St nm)] w1 fun e w' => ∃ r g2 f2, OfR b nm g1 f1 r g2 f2 ∧ XP w1 B bx f2 r g2 e w') :
    Calls Tryz.prog 154 #[.pointer (some ⟨bx, 0, none⟩), .pointer (some ⟨g, 0, none⟩), .string (St nm)] w fun e w' => ∃ ra g1 f1 rb g2 f2, OfR a nm false f ra g1 f1 ∧ OfR b nm g1 f1 rb g2 f2 ∧ XP w B bx f2 (chkR g2 (.sum ra rb)) (chkG g2 (.sum ra rb)) e w' := by
  have hne : g ≠ bx := by
    rintro rfl
    rw [h.h] at hb
    simp at hb
  have HC : Hid (∀ w1, w.grownBy w1 (some bx) → w1.cell? ⟨g, 0, none⟩ = some (.int .u8 43) ∧ w1.cell? ⟨g, 3, none⟩ = some (.pointer (some ⟨ga, 0, none⟩)) ∧ w1.cell? ⟨g, 4, none⟩ = some (.pointer (some ⟨gb, 0, none⟩))) := fun w1 hg => by
    have hb1 := (hg.block g (lt_of_block hb) (by simpa using hne)).trans hb
    exact ⟨block_cell hb1 0, block_cell hb1 3, block_cell hb1 4⟩
  have e1 : w.cell? ⟨bx, 1, none⟩ = some (.bool false) := block_cell h.h 1
  have lt0 := lt_of_block h.h
  have s0 := HC.out w (World.grownBy.refl _ _)
  have e0 := s0.1
  have HTA : Hid (∀ w1, w.grownBy w1 (some bx) → TyAt w1 a (some ⟨ga, 0, none⟩) ∧ TyAt w1 b (some ⟨gb, 0, none⟩)) := fun w1 hg => ⟨ta.keep (h.keeps hg), tb.keep (h.keeps hg)⟩
  have HK : Hid (∀ (w1 : World) (f2 : Nat) (g2 : Bool) (t : Ty) p, DX w1 B bx f2 g2 → TyAt w1 t p → t.atoms ≤ 10000 → Calls Tryz.prog 169 #[.pointer (some ⟨bx, 0, none⟩), .pointer p] w1 (XP w1 B bx f2 (chkR g2 t) (chkG g2 t))) := fun w1 f2 g2 t p h1 h2 h3 => checked_any B bx f2 g2 t p w1 h1 h2 (by omega)
  have HAT : Hid (a.atoms + b.atoms ≤ 1000) := hat
  have HX := Lib.hid h
  have IHA := Lib.hid iha
  have IHB := Lib.hid ihb
  clear h hb ta tb iha ihb hat
  go_enter Tryz.func154, Tryz.ntmps154
  go_wp2
  go_region_held3 (fun w' => w'.cell? ⟨g, 0, none⟩ = some (.int .u8 43) ∧ w'.cell? ⟨g, 3, none⟩ = some (.pointer (some ⟨ga, 0, none⟩)) ∧ w'.cell? ⟨g, 4, none⟩ = some (.pointer (some ⟨gb, 0, none⟩)))
    (first | exact s9 | exact s4 | exact s3 | exact s2 | exact s0 | go_keep)
    (first
      | (go_at_call 154; first
        | ((with_reducible refine (IHB.out _ _ _ HG2.out HX2.out ⟨_, HRA.out⟩).mono ?_); rintro e w3 ⟨rb, g2, f2, hrb, p3, rfl, hp3, hx3, hg3⟩; have HRB := Lib.hid hrb; have HP3 := Lib.hid hp3; have HX3 := Lib.hid hx3; have HG3 : Hid (w.grownBy w3 (some bx)) := grow_grow HG2.out hg3 (.inl rfl); have HP23 := Lib.hid (TyAt.keep (HX2.out.keeps hg3) HP2.out); have s3 := HC.out w3 HG3.out; clear hrb hp3 hx3 hg3)
        | ((refine (IHA.out _ (by first | exact World.grownBy.refl _ _ | exact below_grow (up_drew (Below.refl _ _))) (by first | exact HX.out | exact HX.out.up (up_drew (Below.refl _ _)))).mono ?_); rintro e w2 ⟨ra, g1, f1, hra, p2, rfl, hp2, hx2, hg2⟩; have HRA := Lib.hid hra; have HP2 := Lib.hid hp2; have HX2 := Lib.hid hx2; have HG2 : Hid (w.grownBy w2 (some bx)) := (by first | exact hg2 | exact up_grow (up_drew (Below.refl _ _)) hg2); have s2 := HC.out w2 HG2.out; clear hra hp2 hx2 hg2))
      | (go_at_call 196; (refine (both_any 43 _ _ _).mono ?_); rintro e w4 ⟨rfl, hn4, hb4⟩; have hb4' : Below w3.heap.size w3 w4 := (by first | exact hb4 | exact un_drew hb4); have HX4 := Lib.hid (HX3.out.up hb4'); have HG4 := Lib.hid (grow_up2 HG3.out hb4'); have HP4 : Hid (TyAt w4 (.sum ra rb) _) := ⟨_, _, hn4, HP23.out.up hb4', HP3.out.up hb4'⟩; have s4 := HC.out w4 HG4.out; clear hn4 hb4 hb4')
      | (go_at_call 169; (refine (HK.out _ _ _ (.sum ra rb) _ HX4.out HP4.out (by have := HRA.out.1; have := HRB.out.1; simp only [Ty.atoms]; omega)).mono ?_); rintro e w9 ⟨p9, rfl, hp9, hx9, hg9⟩; have HP9 := Lib.hid hp9; have HX9 := Lib.hid hx9; have HG9 : Hid (w.grownBy w9 (some bx)) := grow_grow HG4.out hg9 (.inl rfl); have s9 := HC.out w9 HG9.out; clear hp9 hx9 hg9))
  all_goals go_wp2
  all_goals go_ret
  all_goals exact ⟨ra, g1, f1, rb, g2, f2, HRA.out, HRB.out, _, rfl, HP9.out, HX9.out, HG9.out⟩

set_option maxHeartbeats 8000000 in
set_option maxRecDepth 100000 in
theorem of_prod (nm : List UInt8) (a b : Ty) (B bx f : Nat) (w : World) (g ga gb : Nat) (h : DX w B bx f false) (hb : w.heap[g]? = some (.cells #[.int .u8 42, .string (St []), .int .i64 0, .pointer (some ⟨ga, 0, none⟩), .pointer (some ⟨gb, 0, none⟩)] 124 (0, 0)))
    (ta : TyAt w a (some ⟨ga, 0, none⟩)) (tb : TyAt w b (some ⟨gb, 0, none⟩)) (hat : a.atoms + b.atoms ≤ 1000)
    (iha : ∀ w1, w.grownBy w1 (some bx) → DX w1 B bx f false → Calls Tryz.prog 154 #[.pointer (some ⟨bx, 0, none⟩), .pointer (some ⟨ga, 0, none⟩), .string (St nm)] w1 fun e w' => ∃ r g1 f1, OfR a nm false f r g1 f1 ∧ XP w1 B bx f1 r g1 e w')
    (ihb : ∀ w1 g1 f1, w.grownBy w1 (some bx) → DX w1 B bx f1 g1 → (∃ r, OfR a nm false f r g1 f1) → Calls Tryz.prog 154 #[.pointer (some ⟨bx, 0, none⟩), .pointer (some ⟨gb, 0, none⟩), .string (St nm)] w1 fun e w' => ∃ r g2 f2, OfR b nm g1 f1 r g2 f2 ∧ XP w1 B bx f2 r g2 e w') :
    Calls Tryz.prog 154 #[.pointer (some ⟨bx, 0, none⟩), .pointer (some ⟨g, 0, none⟩), .string (St nm)] w fun e w' => ∃ ra g1 f1 rb g2 f2, OfR a nm false f ra g1 f1 ∧ OfR b nm g1 f1 rb g2 f2 ∧ XP w B bx f2 (chkR g2 (.sum (.prod ra b) (.prod a rb))) (chkG g2 (.sum (.prod ra b) (.prod a rb))) e w' := by
  have hne : g ≠ bx := by
    rintro rfl
    rw [h.h] at hb
    simp at hb
  have HC : Hid (∀ w1, w.grownBy w1 (some bx) → w1.cell? ⟨g, 0, none⟩ = some (.int .u8 42) ∧ w1.cell? ⟨g, 3, none⟩ = some (.pointer (some ⟨ga, 0, none⟩)) ∧ w1.cell? ⟨g, 4, none⟩ = some (.pointer (some ⟨gb, 0, none⟩))) := fun w1 hg => by
    have hb1 := (hg.block g (lt_of_block hb) (by simpa using hne)).trans hb
    exact ⟨block_cell hb1 0, block_cell hb1 3, block_cell hb1 4⟩
  have e1 : w.cell? ⟨bx, 1, none⟩ = some (.bool false) := block_cell h.h 1
  have lt0 := lt_of_block h.h
  have s0 := HC.out w (World.grownBy.refl _ _)
  have e0 := s0.1
  have HTA : Hid (∀ w1, w.grownBy w1 (some bx) → TyAt w1 a (some ⟨ga, 0, none⟩) ∧ TyAt w1 b (some ⟨gb, 0, none⟩)) := fun w1 hg => ⟨ta.keep (h.keeps hg), tb.keep (h.keeps hg)⟩
  have HK : Hid (∀ (w1 : World) (f2 : Nat) (g2 : Bool) (t : Ty) p, DX w1 B bx f2 g2 → TyAt w1 t p → t.atoms ≤ 10000 → Calls Tryz.prog 169 #[.pointer (some ⟨bx, 0, none⟩), .pointer p] w1 (XP w1 B bx f2 (chkR g2 t) (chkG g2 t))) := fun w1 f2 g2 t p h1 h2 h3 => checked_any B bx f2 g2 t p w1 h1 h2 (by omega)
  have HAT : Hid (a.atoms + b.atoms ≤ 1000) := hat
  have HX := Lib.hid h
  have IHA := Lib.hid iha
  have IHB := Lib.hid ihb
  clear h hb ta tb iha ihb hat
  go_enter Tryz.func154, Tryz.ntmps154
  go_wp2
  go_region_held3 (fun w' => w'.cell? ⟨g, 0, none⟩ = some (.int .u8 42) ∧ w'.cell? ⟨g, 3, none⟩ = some (.pointer (some ⟨ga, 0, none⟩)) ∧ w'.cell? ⟨g, 4, none⟩ = some (.pointer (some ⟨gb, 0, none⟩)))
    (first | exact s9 | exact s7 | exact s6 | exact s3 | exact s4 | exact s2 | exact s0 | go_keep)
    (first
      | (go_at_call 154; first
        | ((with_reducible refine (IHB.out _ _ _ HG4.out HX4.out ⟨_, HRA.out⟩).mono ?_); rintro e w3 ⟨rb, g2, f2, hrb, p3, rfl, hp3, hx3, hg3⟩; have HRB := Lib.hid hrb; have HP3 := Lib.hid hp3; have HX3 := Lib.hid hx3; have HG3 : Hid (w.grownBy w3 (some bx)) := grow_grow HG4.out hg3 (.inl rfl); have HP43 := Lib.hid (TyAt.keep (HX4.out.keeps hg3) HP4.out); have s3 := HC.out w3 HG3.out; clear hrb hp3 hx3 hg3)
        | ((refine (IHA.out _ (by first | exact World.grownBy.refl _ _ | exact below_grow (up_drew (Below.refl _ _))) (by first | exact HX.out | exact HX.out.up (up_drew (Below.refl _ _)))).mono ?_); rintro e w2 ⟨ra, g1, f1, hra, p2, rfl, hp2, hx2, hg2⟩; have HRA := Lib.hid hra; have HP2 := Lib.hid hp2; have HX2 := Lib.hid hx2; have HG2 : Hid (w.grownBy w2 (some bx)) := (by first | exact hg2 | exact up_grow (up_drew (Below.refl _ _)) hg2); have s2 := HC.out w2 HG2.out; clear hra hp2 hx2 hg2))
      | (go_at_call 196; first
        | (have HP6' := HP6.out; clear HP6'; (refine (both_any 43 _ _ _).mono ?_); rintro e w7 ⟨rfl, hn7, hb7⟩; have hb7' : Below w6.heap.size w6 w7 := (by first | exact hb7 | exact un_drew hb7); have HX7 := Lib.hid (HX6.out.up hb7'); have HG7 := Lib.hid (grow_up2 HG6.out hb7'); have HP7 : Hid (TyAt w7 (.sum (.prod ra b) (.prod a rb)) _) := ⟨_, _, hn7, HP46.out.up hb7', HP6.out.up hb7'⟩; have s7 := HC.out w7 HG7.out; clear hn7 hb7 hb7')
        | (have HP3' := HP3.out; clear HP3'; (refine (both_any 42 _ _ _).mono ?_); rintro e w6 ⟨rfl, hn6, hb6⟩; have hb6' : Below w3.heap.size w3 w6 := (by first | exact hb6 | exact un_drew hb6); have HX6 := Lib.hid (HX3.out.up hb6'); have HG6 := Lib.hid (grow_up2 HG3.out hb6'); have HP6 : Hid (TyAt w6 (.prod a rb) _) := ⟨_, _, hn6, (HTA.out _ HG6.out).1, HP3.out.up hb6'⟩; have HP46 := Lib.hid (HP43.out.up hb6'); have s6 := HC.out w6 HG6.out; clear hn6 hb6 hb6')
        | ((refine (both_any 42 _ _ _).mono ?_); rintro e w4 ⟨rfl, hn4, hb4⟩; have hb4' : Below w2.heap.size w2 w4 := (by first | exact hb4 | exact un_drew hb4); have HX4 := Lib.hid (HX2.out.up hb4'); have HG4 := Lib.hid (grow_up2 HG2.out hb4'); have HP4 : Hid (TyAt w4 (.prod ra b) _) := ⟨_, _, hn4, HP2.out.up hb4', (HTA.out _ HG4.out).2⟩; have s4 := HC.out w4 HG4.out; clear hn4 hb4 hb4'))
      | (go_at_call 169; (refine (HK.out _ _ _ (.sum (.prod ra b) (.prod a rb)) _ HX7.out HP7.out (by have := HRA.out.1; have := HRB.out.1; have := HAT.out; simp only [Ty.atoms]; omega)).mono ?_); rintro e w9 ⟨p9, rfl, hp9, hx9, hg9⟩; have HP9 := Lib.hid hp9; have HX9 := Lib.hid hx9; have HG9 : Hid (w.grownBy w9 (some bx)) := grow_grow HG7.out hg9 (.inl rfl); have s9 := HC.out w9 HG9.out; clear hp9 hx9 hg9))
  all_goals go_wp2
  all_goals go_ret
  all_goals exact ⟨ra, g1, f1, rb, g2, f2, HRA.out, HRB.out, _, rfl, HP9.out, HX9.out, HG9.out⟩


end Go.Proofs.YtpokompplapkhaaGreatDoor
