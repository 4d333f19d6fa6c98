/- alike, and TypeAlike. TypeAlike of both. Lists of texts in the laws: sameTexts, hasText. -/
import Derived.Test.YtkciljcligohnaaDoorMK
import Derived.Test.YtkciljcligohnaaDoorMF
import Derived.Test.YtkciljcligohnaaDoorMC
namespace Go.Proofs.YtkciljcligohnaaDoor
open Go.RowKit
set_option linter.unusedVariables false
set_option linter.unusedSimpArgs false

theorem quiet2 {P : Program} {f : FuncId} {args : Array Value} {w : World} {v : Value} (k n : Nat)
    (h : Calls P f args (w.drewN (k + n)) fun e w' => e = .returned v ∧ ∃ m, w' = (w.drewN (k + n)).drewN m) : Calls P f args (w.drewN (k + n)) fun e w' => e = .returned v ∧ ∃ m, w' = w.drewN (k + m) :=
  h.mono fun _ _ ⟨he, m, hm⟩ => ⟨he, n + m, by rw [hm, World.drewN_drewN, Nat.add_assoc]⟩
/-- The five cells of a type's node. -/
theorem TyN.cells {w : World} {g : Nat} {sg up : Int} {nm : List UInt8} {pa pb : Option Addr} (h : TyN w (some ⟨g, 0, none⟩) sg nm up pa pb) :
    w.cell? ⟨g, 0, none⟩ = some (.int .u8 sg) ∧ w.cell? ⟨g, 1, none⟩ = some (.string (St nm)) ∧ w.cell? ⟨g, 2, none⟩ = some (.int .i64 up) ∧ w.cell? ⟨g, 3, none⟩ = some (.pointer pa) ∧ w.cell? ⟨g, 4, none⟩ = some (.pointer pb) := by
  obtain ⟨g', he, hb⟩ := h
  cases he
  exact ⟨block_cell hb 0, block_cell hb 1, block_cell hb 2, block_cell hb 3, block_cell hb 4⟩
/-- What a node shows ahead of its parts. -/
def Ty.face : Ty → Int × List UInt8 × Int
  | .zero => (48, [], 0)
  | .one => (49, [], 0)
  | .name s => (110, s, 0)
  | .bound k => (98, [], k)
  | .sum _ _ => (43, [], 0)
  | .prod _ _ => (42, [], 0)
  | .loop _ => (114, [], 0)
theorem TyAt.face {w : World} : ∀ {t : Ty} {p : Option Addr}, TyAt w t p → ∃ g pa pb, p = some ⟨g, 0, none⟩ ∧ TyN w (some ⟨g, 0, none⟩) t.face.1 t.face.2.1 t.face.2.2 pa pb
  | .zero, _, h => by obtain ⟨g, rfl, hb⟩ := h; exact ⟨g, _, _, rfl, g, rfl, hb⟩
  | .one, _, h => by obtain ⟨g, rfl, hb⟩ := h; exact ⟨g, _, _, rfl, g, rfl, hb⟩
  | .name s, _, h => by obtain ⟨g, rfl, hb⟩ := h; exact ⟨g, _, _, rfl, g, rfl, hb⟩
  | .bound k, _, h => by obtain ⟨g, rfl, hb⟩ := h; exact ⟨g, _, _, rfl, g, rfl, hb⟩
  | .sum _ _, _, h => by obtain ⟨pa, pb, ⟨g, rfl, hb⟩, _⟩ := h; exact ⟨g, _, _, rfl, g, rfl, hb⟩
  | .prod _ _, _, h => by obtain ⟨pa, pb, ⟨g, rfl, hb⟩, _⟩ := h; exact ⟨g, _, _, rfl, g, rfl, hb⟩
  | .loop _, _, h => by obtain ⟨pa, ⟨g, rfl, hb⟩, _⟩ := h; exact ⟨g, _, _, rfl, g, rfl, hb⟩

set_option maxHeartbeats 4000000 in
set_option maxRecDepth 100000 in
theorem alike_sign (w : World) (g h : Nat) (sg sh ug uh : Int) (ng nh : List UInt8) (ga gb ha hb : Option Addr) (kg : TyN w (some ⟨g, 0, none⟩) sg ng ug ga gb) (kh : TyN w (some ⟨h, 0, none⟩) sh nh uh ha hb) (q : sg ≠ sh) :
    Calls Tryd.prog 61 #[.pointer (some ⟨g, 0, none⟩), .pointer (some ⟨h, 0, none⟩)] w fun e w' => e = .returned (.bool false) ∧ ∃ m, w' = w.drewN m := by
  obtain ⟨c0, c1, c2, c3, c4⟩ := kg.cells
  obtain ⟨d0, d1, d2, d3, d4⟩ := kh.cells
  clear kg kh
  have q0 : (sg != sh) = true := bne_iff_ne.2 q
  clear q
  go_enter Tryd.func61, Tryd.ntmps61
  go_wp2
  go_quiet (fail)
  go_wp2
  go_ret
  exact ⟨rfl, _, by first | rfl | exact World.drewN_drewN _ _ _⟩

set_option maxHeartbeats 4000000 in
set_option maxRecDepth 100000 in
theorem alike_name (w : World) (g h : Nat) (sg sh ug uh : Int) (ng nh : List UInt8) (ga gb ha hb : Option Addr) (kg : TyN w (some ⟨g, 0, none⟩) sg ng ug ga gb) (kh : TyN w (some ⟨h, 0, none⟩) sh nh uh ha hb) (q : sg = sh) (r : ng ≠ nh) :
    Calls Tryd.prog 61 #[.pointer (some ⟨g, 0, none⟩), .pointer (some ⟨h, 0, none⟩)] w fun e w' => e = .returned (.bool false) ∧ ∃ m, w' = w.drewN m := by
  obtain ⟨c0, c1, c2, c3, c4⟩ := kg.cells
  obtain ⟨d0, d1, d2, d3, d4⟩ := kh.cells
  clear kg kh
  subst q
  have r0 : (ng != nh) = true := bne_iff_ne.2 r
  have r1 : (ng == nh) = false := St_ne r
  clear r
  go_enter Tryd.func61, Tryd.ntmps61
  go_wp2
  go_quiet (fail)
  go_wp2
  go_ret
  exact ⟨rfl, _, by first | rfl | exact World.drewN_drewN _ _ _⟩

set_option maxHeartbeats 4000000 in
set_option maxRecDepth 100000 in
theorem alike_up (w : World) (g h : Nat) (sg sh ug uh : Int) (ng nh : List UInt8) (ga gb ha hb : Option Addr) (kg : TyN w (some ⟨g, 0, none⟩) sg ng ug ga gb) (kh : TyN w (some ⟨h, 0, none⟩) sh nh uh ha hb) (q : sg = sh) (r : ng = nh) (s : ug ≠ uh) :
    Calls Tryd.prog 61 #[.pointer (some ⟨g, 0, none⟩), .pointer (some ⟨h, 0, none⟩)] w fun e w' => e = .returned (.bool false) ∧ ∃ m, w' = w.drewN m := by
  obtain ⟨c0, c1, c2, c3, c4⟩ := kg.cells
  obtain ⟨d0, d1, d2, d3, d4⟩ := kh.cells
  clear kg kh
  subst q
  subst r
  have s0 : (ug != uh) = true := bne_iff_ne.2 s
  clear s
  go_enter Tryd.func61, Tryd.ntmps61
  go_wp2
  go_quiet (fail)
  go_wp2
  go_ret
  exact ⟨rfl, _, by first | rfl | exact World.drewN_drewN _ _ _⟩

set_option maxHeartbeats 4000000 in
set_option maxRecDepth 100000 in
theorem alike_leaf (w : World) (g h : Nat) (sg sh ug uh : Int) (ng nh : List UInt8) (ga gb ha hb : Option Addr) (kg : TyN w (some ⟨g, 0, none⟩) sg ng ug ga gb) (kh : TyN w (some ⟨h, 0, none⟩) sh nh uh ha hb) (q : sg = sh) (r : ng = nh) (s : ug = uh) (ea : ga = none) (eb : gb = none) :
    Calls Tryd.prog 61 #[.pointer (some ⟨g, 0, none⟩), .pointer (some ⟨h, 0, none⟩)] w fun e w' => e = .returned (.bool true) ∧ ∃ m, w' = w.drewN m := by
  obtain ⟨c0, c1, c2, c3, c4⟩ := kg.cells
  obtain ⟨d0, d1, d2, d3, d4⟩ := kh.cells
  clear kg kh
  subst q
  subst r
  subst s
  subst ea
  subst eb
  go_enter Tryd.func61, Tryd.ntmps61
  go_wp2
  go_quiet (fail)
  go_wp2
  go_quiet (fail)
  go_wp2
  go_ret
  exact ⟨rfl, _, by first | rfl | exact World.drewN_drewN _ _ _⟩

set_option maxHeartbeats 4000000 in
set_option maxRecDepth 100000 in
theorem alike_rec (w : World) (g h : Nat) (sg sh ug uh : Int) (ng nh : List UInt8) (ga gb ha hb : Option Addr) (kg : TyN w (some ⟨g, 0, none⟩) sg ng ug ga gb) (kh : TyN w (some ⟨h, 0, none⟩) sh nh uh ha hb) (q : sg = sh) (r : ng = nh) (s : ug = uh) (xa ya : Nat) (ea : ga = some ⟨xa, 0, none⟩) (ea2 : ha = some ⟨ya, 0, none⟩) (eb : gb = none) (b : Bool) (ih : ∀ k n, Calls Tryd.prog 61 #[.pointer (some ⟨xa, 0, none⟩), .pointer (some ⟨ya, 0, none⟩)] (w.drewN (k + n)) fun e w' => e = .returned (.bool b) ∧ ∃ m, w' = w.drewN (k + m)) :
    Calls Tryd.prog 61 #[.pointer (some ⟨g, 0, none⟩), .pointer (some ⟨h, 0, none⟩)] w fun e w' => e = .returned (.bool b) ∧ ∃ m, w' = w.drewN m := by
  obtain ⟨c0, c1, c2, c3, c4⟩ := kg.cells
  obtain ⟨d0, d1, d2, d3, d4⟩ := kh.cells
  clear kg kh
  subst q
  subst r
  subst s
  subst ea
  subst ea2
  subst eb
  have H := Lib.hid ih
  clear ih
  cases b with
  | false =>
    go_enter Tryd.func61, Tryd.ntmps61
    go_wp2
    go_quiet (fail)
    go_wp2
    go_quiet ((go_at_call 61; with_reducible exact H.out _ _))
    go_wp2
    go_ret
    exact ⟨rfl, _, by first | rfl | exact World.drewN_drewN _ _ _⟩
  | true =>
    go_enter Tryd.func61, Tryd.ntmps61
    go_wp2
    go_quiet (fail)
    go_wp2
    go_quiet ((go_at_call 61; with_reducible exact H.out _ _))
    go_wp2
    go_ret
    exact ⟨rfl, _, by first | rfl | exact World.drewN_drewN _ _ _⟩

set_option maxHeartbeats 4000000 in
set_option maxRecDepth 100000 in
theorem alike_two (w : World) (g h : Nat) (sg sh ug uh : Int) (ng nh : List UInt8) (ga gb ha hb : Option Addr) (kg : TyN w (some ⟨g, 0, none⟩) sg ng ug ga gb) (kh : TyN w (some ⟨h, 0, none⟩) sh nh uh ha hb) (q : sg = sh) (r : ng = nh) (s : ug = uh) (xa ya xb yb : Nat) (ea : ga = some ⟨xa, 0, none⟩) (ea2 : ha = some ⟨ya, 0, none⟩) (eb : gb = some ⟨xb, 0, none⟩) (eb2 : hb = some ⟨yb, 0, none⟩) (b b2 : Bool) (ih : ∀ k n, Calls Tryd.prog 61 #[.pointer (some ⟨xa, 0, none⟩), .pointer (some ⟨ya, 0, none⟩)] (w.drewN (k + n)) fun e w' => e = .returned (.bool b) ∧ ∃ m, w' = w.drewN (k + m)) (ih2 : b = true → ∀ k n, Calls Tryd.prog 61 #[.pointer (some ⟨xb, 0, none⟩), .pointer (some ⟨yb, 0, none⟩)] (w.drewN (k + n)) fun e w' => e = .returned (.bool b2) ∧ ∃ m, w' = w.drewN (k + m)) :
    Calls Tryd.prog 61 #[.pointer (some ⟨g, 0, none⟩), .pointer (some ⟨h, 0, none⟩)] w fun e w' => e = .returned (.bool (b && b2)) ∧ ∃ m, w' = w.drewN m := by
  obtain ⟨c0, c1, c2, c3, c4⟩ := kg.cells
  obtain ⟨d0, d1, d2, d3, d4⟩ := kh.cells
  clear kg kh
  subst q
  subst r
  subst s
  subst ea
  subst ea2
  subst eb
  subst eb2
  have H := Lib.hid ih
  clear ih
  cases b with
  | false =>
    clear ih2
    go_enter Tryd.func61, Tryd.ntmps61
    go_wp2
    go_quiet (fail)
    go_wp2
    go_quiet ((go_at_call 61; with_reducible exact H.out _ _))
    go_wp2
    go_ret
    exact ⟨rfl, _, by first | rfl | exact World.drewN_drewN _ _ _⟩
  | true =>
    have H2 := Lib.hid (ih2 rfl)
    clear ih2
    cases b2 with
    | false =>
      go_enter Tryd.func61, Tryd.ntmps61
      go_wp2
      go_quiet (fail)
      go_wp2
      go_quiet ((go_at_call 61; first | (with_reducible exact H.out _ _) | (with_reducible exact H2.out _ _)))
      go_wp2
      go_ret
      exact ⟨rfl, _, by first | rfl | exact World.drewN_drewN _ _ _⟩
    | true =>
      go_enter Tryd.func61, Tryd.ntmps61
      go_wp2
      go_quiet (fail)
      go_wp2
      go_quiet ((go_at_call 61; first | (with_reducible exact H.out _ _) | (with_reducible exact H2.out _ _)))
      go_wp2
      go_ret
      exact ⟨rfl, _, by first | rfl | exact World.drewN_drewN _ _ _⟩

/-- alike, whole. -/
theorem alike_any : ∀ (t u : Ty) (w : World) (p q : Option Addr), TyAt w t p → TyAt w u q →
    Calls Tryd.prog 61 #[.pointer p, .pointer q] w fun e w' => e = .returned (.bool (decide (t = u))) ∧ ∃ m, w' = w.drewN m := by
  intro t
  induction t with
  | sum a b iha ihb =>
    intro u w p q hp hq
    obtain ⟨pa, pb, hn, ha, hb⟩ := hp
    obtain ⟨g, rfl⟩ := hn.some_
    obtain ⟨h, qa, qb, rfl, hm⟩ := hq.face
    obtain ⟨xa, rfl⟩ := ha.some_
    obtain ⟨xb, rfl⟩ := hb.some_
    by_cases hf : (43 : Int) = u.face.1
    · cases u with
      | sum c d =>
        obtain ⟨qa', qb', hm', hc, hd⟩ := hq
        obtain ⟨ya, rfl⟩ := hc.some_
        obtain ⟨yb, rfl⟩ := hd.some_
        have := alike_two w g h 43 43 0 0 [] [] _ _ _ _ hn hm' rfl rfl rfl xa ya xb yb rfl rfl rfl rfl (decide (a = c)) (decide (b = d)) (fun k n => quiet2 k n (iha c (w.drewN (k + n)) _ _ (ha.up (up_drewN w _)) (hc.up (up_drewN w _)))) (fun _ k n => quiet2 k n (ihb d (w.drewN (k + n)) _ _ (hb.up (up_drewN w _)) (hd.up (up_drewN w _))))
        refine this.mono fun e w' ⟨h1, h2⟩ => ⟨by rw [h1]; simp, h2⟩
      | _ => simp [Ty.face] at hf
    · have := alike_sign w g h 43 _ 0 _ [] _ _ _ _ _ hn hm hf
      refine this.mono fun e w' ⟨h1, h2⟩ => ⟨by rw [h1]; rw [decide_eq_false (by rintro rfl; exact hf rfl)], h2⟩
  | prod a b iha ihb =>
    intro u w p q hp hq
    obtain ⟨pa, pb, hn, ha, hb⟩ := hp
    obtain ⟨g, rfl⟩ := hn.some_
    obtain ⟨h, qa, qb, rfl, hm⟩ := hq.face
    obtain ⟨xa, rfl⟩ := ha.some_
    obtain ⟨xb, rfl⟩ := hb.some_
    by_cases hf : (42 : Int) = u.face.1
    · cases u with
      | prod c d =>
        obtain ⟨qa', qb', hm', hc, hd⟩ := hq
        obtain ⟨ya, rfl⟩ := hc.some_
        obtain ⟨yb, rfl⟩ := hd.some_
        have := alike_two w g h 42 42 0 0 [] [] _ _ _ _ hn hm' rfl rfl rfl xa ya xb yb rfl rfl rfl rfl (decide (a = c)) (decide (b = d)) (fun k n => quiet2 k n (iha c (w.drewN (k + n)) _ _ (ha.up (up_drewN w _)) (hc.up (up_drewN w _)))) (fun _ k n => quiet2 k n (ihb d (w.drewN (k + n)) _ _ (hb.up (up_drewN w _)) (hd.up (up_drewN w _))))
        refine this.mono fun e w' ⟨h1, h2⟩ => ⟨by rw [h1]; simp, h2⟩
      | _ => simp [Ty.face] at hf
    · have := alike_sign w g h 42 _ 0 _ [] _ _ _ _ _ hn hm hf
      refine this.mono fun e w' ⟨h1, h2⟩ => ⟨by rw [h1]; rw [decide_eq_false (by rintro rfl; exact hf rfl)], h2⟩
  | loop a iha =>
    intro u w p q hp hq
    obtain ⟨pa, hn, ha⟩ := hp
    obtain ⟨g, rfl⟩ := hn.some_
    obtain ⟨h, qa, qb, rfl, hm⟩ := hq.face
    obtain ⟨xa, rfl⟩ := ha.some_
    by_cases hf : (114 : Int) = u.face.1
    · cases u with
      | loop c =>
        obtain ⟨qa', hm', hc⟩ := hq
        obtain ⟨ya, rfl⟩ := hc.some_
        have := alike_rec w g h 114 114 0 0 [] [] _ _ _ _ hn hm' rfl rfl rfl xa ya rfl rfl rfl (decide (a = c)) (fun k n => quiet2 k n (iha c (w.drewN (k + n)) _ _ (ha.up (up_drewN w _)) (hc.up (up_drewN w _))))
        refine this.mono fun e w' ⟨h1, h2⟩ => ⟨by rw [h1]; simp, h2⟩
      | _ => simp [Ty.face] at hf
    · have := alike_sign w g h 114 _ 0 _ [] _ _ _ _ _ hn hm hf
      refine this.mono fun e w' ⟨h1, h2⟩ => ⟨by rw [h1]; rw [decide_eq_false (by rintro rfl; exact hf rfl)], h2⟩
  | zero =>
    intro u w p q hp hq
    have hn : TyN w p 48 [] 0 none none := hp
    obtain ⟨g, rfl⟩ := hn.some_
    obtain ⟨h, qa, qb, rfl, hm⟩ := hq.face
    by_cases hf : (48 : Int) = u.face.1
    · cases u with
      | zero => exact (alike_leaf w g h 48 48 0 0 [] [] _ _ _ _ hn hq rfl rfl rfl rfl rfl).mono fun e w' ⟨h1, h2⟩ => ⟨by rw [h1]; simp, h2⟩
      | _ => simp [Ty.face] at hf
    · have := alike_sign w g h 48 _ 0 _ [] _ _ _ _ _ hn hm hf
      refine this.mono fun e w' ⟨h1, h2⟩ => ⟨by rw [h1]; rw [decide_eq_false (by rintro rfl; exact hf rfl)], h2⟩
  | one =>
    intro u w p q hp hq
    have hn : TyN w p 49 [] 0 none none := hp
    obtain ⟨g, rfl⟩ := hn.some_
    obtain ⟨h, qa, qb, rfl, hm⟩ := hq.face
    by_cases hf : (49 : Int) = u.face.1
    · cases u with
      | one => exact (alike_leaf w g h 49 49 0 0 [] [] _ _ _ _ hn hq rfl rfl rfl rfl rfl).mono fun e w' ⟨h1, h2⟩ => ⟨by rw [h1]; simp, h2⟩
      | _ => simp [Ty.face] at hf
    · have := alike_sign w g h 49 _ 0 _ [] _ _ _ _ _ hn hm hf
      refine this.mono fun e w' ⟨h1, h2⟩ => ⟨by rw [h1]; rw [decide_eq_false (by rintro rfl; exact hf rfl)], h2⟩
  | name s =>
    intro u w p q hp hq
    have hn : TyN w p 110 s 0 none none := hp
    obtain ⟨g, rfl⟩ := hn.some_
    obtain ⟨h, qa, qb, rfl, hm⟩ := hq.face
    by_cases hf : (110 : Int) = u.face.1
    · cases u with
      | name x =>
        by_cases hx : s = x
        · exact (alike_leaf w g h 110 110 0 0 s x _ _ _ _ hn hq rfl hx rfl rfl rfl).mono fun e w' ⟨h1, h2⟩ => ⟨by rw [h1, hx]; simp, h2⟩
        · exact (alike_name w g h 110 110 0 0 s x _ _ _ _ hn hq rfl hx).mono fun e w' ⟨h1, h2⟩ => ⟨by rw [h1]; simp [hx], h2⟩
      | _ => simp [Ty.face] at hf
    · have := alike_sign w g h 110 _ 0 _ s _ _ _ _ _ hn hm hf
      refine this.mono fun e w' ⟨h1, h2⟩ => ⟨by rw [h1]; rw [decide_eq_false (by rintro rfl; exact hf rfl)], h2⟩
  | bound k =>
    intro u w p q hp hq
    have hn : TyN w p 98 [] k none none := hp
    obtain ⟨g, rfl⟩ := hn.some_
    obtain ⟨h, qa, qb, rfl, hm⟩ := hq.face
    by_cases hf : (98 : Int) = u.face.1
    · cases u with
      | bound j =>
        by_cases hx : k = j
        · exact (alike_leaf w g h 98 98 k j [] [] _ _ _ _ hn hq rfl rfl (by rw [hx]) rfl rfl).mono fun e w' ⟨h1, h2⟩ => ⟨by rw [h1, hx]; simp, h2⟩
        · exact (alike_up w g h 98 98 k j [] [] _ _ _ _ hn hq rfl rfl (by omega)).mono fun e w' ⟨h1, h2⟩ => ⟨by rw [h1]; simp [hx], h2⟩
      | _ => simp [Ty.face] at hf
    · have := alike_sign w g h 98 _ k _ [] _ _ _ _ _ hn hm hf
      refine this.mono fun e w' ⟨h1, h2⟩ => ⟨by rw [h1]; rw [decide_eq_false (by rintro rfl; exact hf rfl)], h2⟩

def alikeOf (o u : Option NT) : Bool := match o, u with
  | some n, some m => decide (n.db [] = m.db [])
  | _, _ => false


end Go.Proofs.YtkciljcligohnaaDoor

namespace Go.Proofs.YtkciljcligohnaaDoor
open Go.RowKit
set_option linter.unusedVariables false
set_option linter.unusedSimpArgs false

set_option maxHeartbeats 4000000 in
set_option maxRecDepth 100000 in
theorem TypeAlike_any (s u : ByteArray) (w : World) (hs : s.size ≤ 9223372036854775807) (hu : u.size ≤ 9223372036854775807) :
    Calls Tryd.prog 21 #[.string s, .string u] w fun e w' => e = .returned (.bool (alikeOf (rdTy s.data.toList) (rdTy u.data.toList))) ∧ Below w.heap.size w w' := by
  have hv := fun w => readType_rt s w hs
  have hv2 := fun w => readType_rt u w hu
  generalize rdTy s.data.toList = o at *
  generalize rdTy u.data.toList = o2 at *
  clear hs hu
  have HV := Lib.hid hv
  have HV2 := Lib.hid hv2
  clear hv hv2
  cases o with
  | none =>
    have HV2' : Hid (∀ w, Calls Tryd.prog 46 #[.string u] w fun e w' => Below w.heap.size w w' ∧ ∃ p, e = .returned (.pointer p)) := fun w => (HV2.out w).mono fun e w' ⟨h1, h2⟩ => ⟨h1, by
      cases o2 with
      | none => exact ⟨none, h2⟩
      | some m => obtain ⟨g, h, _⟩ := h2; exact ⟨_, h⟩⟩
    rw [show alikeOf none o2 = false by cases o2 <;> rfl]
    clear HV2
    go_enter Tryd.func21, Tryd.ntmps21
    go_wp2_with (go_at_call 46; first
      | (have HB1' := HB1.out; clear HB1'; (with_reducible refine (HV2'.out _).mono ?_); rintro e w2 ⟨hb2, p, rfl⟩; have HB2 := Lib.hid (up_trans HB1.out hb2); clear hb2)
      | ((with_reducible refine (HV.out _).mono ?_); rintro e w1 ⟨hb1, rfl⟩; have HB1 := Lib.hid hb1; clear hb1))
    go_ret
    exact ⟨rfl, HB2.out⟩
  | some n =>
    cases o2 with
    | none =>
      show Calls _ _ _ _ (fun e w' => e = .returned (.bool false) ∧ _)
      go_enter Tryd.func21, Tryd.ntmps21
      go_wp2_with (go_at_call 46; first
        | (have HB1' := HB1.out; clear HB1'; (with_reducible refine (HV2.out _).mono ?_); rintro e w2 ⟨hb2, rfl⟩; have HB2 := Lib.hid (up_trans HB1.out hb2); clear hb2)
        | ((with_reducible refine (HV.out _).mono ?_); rintro e w1 ⟨hb1, g, rfl, _⟩; have HB1 := Lib.hid hb1; clear hb1))
      go_ret
      exact ⟨rfl, HB2.out⟩
    | some m =>
      have HA : Hid (∀ (w : World) (p q : Option Addr), TyAt w (n.db []) p → TyAt w (m.db []) q → Calls Tryd.prog 61 #[.pointer p, .pointer q] w fun e w' => e = .returned (.bool (decide (n.db [] = m.db []))) ∧ Below w.heap.size w w') := fun w p q hp hq => (alike_any (n.db []) (m.db []) w p q hp hq).mono fun e w' ⟨h1, k, h2⟩ => ⟨h1, by rw [h2]; exact up_drewN _ _⟩
      replace HV : Hid (∀ w, Calls Tryd.prog 46 #[.string s] w fun e w' => Below w.heap.size w w' ∧ ∃ g, e = .returned (.pointer (some ⟨g, 0, none⟩)) ∧ TyAt w' (n.db []) (some ⟨g, 0, none⟩)) := HV
      replace HV2 : Hid (∀ w, Calls Tryd.prog 46 #[.string u] w fun e w' => Below w.heap.size w w' ∧ ∃ g, e = .returned (.pointer (some ⟨g, 0, none⟩)) ∧ TyAt w' (m.db []) (some ⟨g, 0, none⟩)) := HV2
      show Calls _ _ _ _ (fun e w' => e = .returned (.bool (decide (n.db [] = m.db []))) ∧ _)
      generalize decide (n.db [] = m.db []) = b at *
      generalize n.db [] = tn at *
      generalize m.db [] = tm at *
      go_enter Tryd.func21, Tryd.ntmps21
      go_wp2_with (first
        | (go_at_call 46; first
          | (have HB1' := HB1.out; clear HB1'; (with_reducible refine (HV2.out _).mono ?_); rintro e w2 ⟨hb2, g2, rfl, hp2⟩; have HB2 := Lib.hid (up_trans HB1.out hb2); have HP2 := Lib.hid hp2; have HP12 := Lib.hid (HP1.out.up hb2); clear hb2 hp2)
          | ((with_reducible refine (HV.out _).mono ?_); rintro e w1 ⟨hb1, g, rfl, hp1⟩; have HB1 := Lib.hid hb1; have HP1 := Lib.hid hp1; clear hb1 hp1))
        | (go_at_call 61; (with_reducible refine (HA.out _ _ _ HP12.out HP2.out).mono ?_); rintro e w3 ⟨rfl, hb3⟩; have HB3 := Lib.hid (up_trans HB2.out hb3); clear hb3))
      go_ret
      exact ⟨rfl, HB3.out⟩

/-- What the reference's TypeAlike tells: canonical texts are equal. -/
def sAlikeOf (o u : Option NT) : Bool := (canonOf o).isSome && (canonOf u).isSome && ((canonOf o).getD [] == (canonOf u).getD [])
set_option maxHeartbeats 4000000 in
set_option maxRecDepth 100000 in
theorem specTypeAlike_any (s u : ByteArray) (w : World) (hs : s.size ≤ 9223372036854775807) (hu : u.size ≤ 9223372036854775807) :
    Calls Tryd.prog 22 #[.string s, .string u] w fun e w' => e = .returned (.bool (sAlikeOf (rdTy s.data.toList) (rdTy u.data.toList))) ∧ Below w.heap.size w w' := by
  have H1 := Lib.hid fun w => specTypeCanon_any s w hs
  have H2 := Lib.hid fun w => specTypeCanon_any u w hu
  unfold sAlikeOf
  clear hs hu
  generalize (canonOf (rdTy s.data.toList)).getD [] = x at *
  generalize (canonOf (rdTy s.data.toList)).isSome = p at *
  generalize (canonOf (rdTy u.data.toList)).getD [] = y at *
  generalize (canonOf (rdTy u.data.toList)).isSome = q at *
  cases p <;> cases q
  all_goals go_enter Tryd.func22, Tryd.ntmps22
  all_goals go_wp2_with (go_at_call 14; first
    | (have HB1' := HB1.out; clear HB1'; (with_reducible refine (H2.out _).mono ?_); rintro e w2 ⟨rfl, hb2⟩; have HB2 := Lib.hid (up_trans HB1.out hb2); clear hb2)
    | ((with_reducible refine (H1.out _).mono ?_); rintro e w1 ⟨rfl, hb1⟩; have HB1 := Lib.hid hb1; clear hb1))
  all_goals go_ret
  all_goals exact ⟨by first | rfl | simp, HB2.out⟩

end Go.Proofs.YtkciljcligohnaaDoor

namespace Go.Proofs.YtkciljcligohnaaDoor
open Go.RowKit
set_option linter.unusedVariables false
set_option linter.unusedSimpArgs false

set_option maxHeartbeats 4000000 in
set_option maxRecDepth 100000 in
theorem hasText_any (ls : List (List UInt8)) (A : Option Addr) (c : Nat) (s : List UInt8) (w : World) (hn : ls.length ≤ 1000000) (hx : SCells w A ls) :
    Calls Tryd.prog 31 #[.slice A ls.length c, .string (St s)] w fun e w' => e = .returned (.bool (decide (s ∈ ls))) ∧ Below w.heap.size w w' := by
  generalize hb : decide (s ∈ ls) = b
  have HX := Lib.hid hx
  have HBB : Hid (∀ k, k ≤ ls.length → (∀ x ∈ ls.take k, x ≠ s) → (∀ x, ls[k]? = some x → x = s → b = true) ∧ (∀ x, ls[k]? = some x → x ≠ s → ∀ y ∈ ls.take (k + 1), y ≠ s) ∧ (ls.length ≤ k → b = false)) := fun k hk ht => by
    refine ⟨fun x h1 h2 => ?_, fun x h1 h2 y hy => ?_, fun h => ?_⟩
    · rw [← hb]
      exact decide_eq_true (h2 ▸ List.mem_of_getElem? h1)
    · rw [List.take_add_one, h1] at hy
      simp at hy
      rcases hy with hy | rfl
      · exact ht y hy
      · exact h2
    · rw [← hb]
      rw [List.take_of_length_le h] at ht
      exact decide_eq_false (fun hm => ht s hm rfl)
  clear hx hb
  generalize hN : ls.length = n at *
  have HN := Lib.hid hN
  clear hN
  go_enter Tryd.func31, Tryd.ntmps31
  go_wp2
  go_loopg [5] n (fun m v5 wr => ∃ k : Nat, v5 = .int .i64 k ∧ Hid (m + k = n ∧ ∀ x ∈ ls.take k, x ≠ s) ∧ Hid (Below w.heap.size w wr))
  case atStart => exact ⟨0, rfl, ⟨rfl, by simp⟩, Below.refl _ _⟩
  case round =>
    obtain ⟨k, rfl, HK, HB⟩ := hrel
    obtain ⟨hk, htk⟩ := HK.out
    cases gk with
    | zero =>
      have h1 : decide (k < n) = false := decide_eq_false (by omega)
      have hbt := (HBB.out k (by omega) htk).2.2 (by omega)
      subst hbt
      clear hk htk HK
      go_wp2
      go_ret
      exact ⟨rfl, HB.out⟩
    | succ m =>
      have h1 : decide (k < n) = true := decide_eq_true (by omega)
      have hkn : k < n := by omega
      have hxs : k < ls.length := by rw [HN.out]; exact hkn
      obtain ⟨x, hx⟩ : ∃ x, ls[k]? = some x := ⟨_, List.getElem?_eq_getElem hxs⟩
      have hcx := HX.out.up HB.out
      rcases hcx with hcx | ⟨gx, ox, rfl, hcx⟩
      · rw [hcx] at hx; cases hx
      have d1 := hcx k x hx
      clear hcx
      by_cases hxe : x = s
      case pos =>
        have hxy2 : (x == s) = true := by rw [hxe]; simp
        have hb := (HBB.out k (by omega) htk).1 x hx hxe
        subst hb
        clear hk htk HK hxs hx
        go_wp2
        go_ret
        exact ⟨rfl, HB.out⟩
      case neg =>
        have hxy2 : (x == s) = false := St_ne hxe
        have HK2 : Hid (m + ((k + 1 : Nat)) = n ∧ ∀ y ∈ ls.take (k + 1), y ≠ s) := ⟨by omega, (HBB.out k (by omega) htk).2.1 x hx hxe⟩
        clear hk htk HK hxs hx
        go_wp2
        go_roundg m
        case measure => omega
        case rel => exact ⟨k + 1, rfl, HK2, HB.out⟩
set_option maxHeartbeats 4000000 in
set_option maxRecDepth 100000 in
theorem sameTexts_any (xs ys : List (List UInt8)) (A B : Option Addr) (c d : Nat) (w : World) (hn : xs.length ≤ 1000000) (hx : SCells w A xs) (hy : SCells w B ys) :
    Calls Tryd.prog 30 #[.slice A xs.length c, .slice B ys.length d] w fun e w' => e = .returned (.bool (decide (xs = ys))) ∧ Below w.heap.size w w' := by
  cases hl : ((xs.length : Int) != (ys.length : Int)) with
  | true =>
    have hne : xs ≠ ys := fun h => by simp [h] at hl
    rw [decide_eq_false hne]
    clear hne hx hy
    generalize xs.length = n at *
    generalize ys.length = m at *
    go_enter Tryd.func30, Tryd.ntmps30
    go_wp2
    go_ret
    exact ⟨rfl, Below.refl _ _⟩
  | false =>
    have hlen : xs.length = ys.length := by have := hl; simp at this; omega
    generalize hb : decide (xs = ys) = b
    have HX := Lib.hid hx
    have HY := Lib.hid hy
    have HBB : Hid (∀ k, k ≤ xs.length → (xs.take k = ys.take k) → (∀ x y, xs[k]? = some x → ys[k]? = some y → x ≠ y → b = false) ∧ (xs.length ≤ k → b = true)) := fun k hk ht => by
      constructor
      · intro x y h1 h2 h3
        rw [← hb]
        apply decide_eq_false
        intro h
        rw [h, h2] at h1
        exact h3 (Option.some.inj h1).symm
      · intro h
        rw [← hb]
        apply decide_eq_true
        rw [List.take_of_length_le h, List.take_of_length_le (by omega)] at ht
        exact ht
    have HL := Lib.hid hlen
    rw [← hlen] at hl ⊢
    clear hx hy hb hlen
    generalize hN : xs.length = n at *
    have HN := Lib.hid hN
    clear hN
    go_enter Tryd.func30, Tryd.ntmps30
    go_wp2
    go_loopg [5] n (fun m v5 wr => ∃ k : Nat, v5 = .int .i64 k ∧ Hid (m + k = n ∧ xs.take k = ys.take k) ∧ Hid (Below w.heap.size w wr))
    case atStart => exact ⟨0, rfl, ⟨rfl, rfl⟩, Below.refl _ _⟩
    case round =>
      obtain ⟨k, rfl, HK, HB⟩ := hrel
      obtain ⟨hk, htk⟩ := HK.out
      cases gk with
      | zero =>
        have h1 : decide (k < n) = false := decide_eq_false (by omega)
        have hbt := (HBB.out k (by omega) htk).2 (by omega)
        subst hbt
        clear hk htk HK
        go_wp2
        go_ret
        exact ⟨rfl, HB.out⟩
      | succ m =>
        have h1 : decide (k < n) = true := decide_eq_true (by omega)
        have hkn : k < n := by omega
        have hxs : k < xs.length := by rw [HN.out]; exact hkn
        have hys : k < ys.length := by have := HL.out; omega
        obtain ⟨x, hx⟩ : ∃ x, xs[k]? = some x := ⟨_, List.getElem?_eq_getElem hxs⟩
        obtain ⟨y, hy⟩ : ∃ y, ys[k]? = some y := ⟨_, List.getElem?_eq_getElem hys⟩
        have hcx := HX.out.up HB.out
        have hcy := HY.out.up HB.out
        rcases hcx with hcx | ⟨gx, ox, rfl, hcx⟩
        · rw [hcx] at hx; cases hx
        rcases hcy with hcy | ⟨gy, oy, rfl, hcy⟩
        · rw [hcy] at hy; cases hy
        have d1 := hcx k x hx
        have d2 := hcy k y hy
        clear hcx hcy
        by_cases hxe : x = y
        case neg =>
          have hxy : (x != y) = true := St_bne hxe
          have hxy2 : (x == y) = false := St_ne hxe
          have hb := (HBB.out k (by omega) htk).1 x y hx hy hxe
          subst hb
          clear hk htk HK hxs hys hx hy
          go_wp2
          go_region
          go_wp2
          go_ret
          exact ⟨rfl, up_drew HB.out⟩
        case pos =>
          have hxy : (x != y) = false := by rw [hxe]; exact St_bne_self y
          have hxy2 : (x == y) = true := by rw [hxe]; simp
          have ht2 : xs.take (k + 1) = ys.take (k + 1) := by
            rw [List.take_add_one, List.take_add_one, htk, hx, hy, hxe]
          have HK2 : Hid (m + ((k + 1 : Nat)) = n ∧ xs.take (k + 1) = ys.take (k + 1)) := ⟨by omega, ht2⟩
          clear hk htk HK hxs hys hx hy ht2
          go_wp2
          go_region
          go_wp2
          go_roundg m
          case measure => omega
          case rel => exact ⟨k + 1, rfl, HK2, up_drew HB.out⟩
theorem sameTexts_same (xs : List (List UInt8)) (A B : Option Addr) (c d : Nat) (w : World) (hn : xs.length ≤ 1000000) (hx : SCells w A xs) (hy : SCells w B xs) :
    Calls Tryd.prog 30 #[.slice A xs.length c, .slice B xs.length d] w fun e w' => e = .returned (.bool true) ∧ Below w.heap.size w w' := by
  have := sameTexts_any xs xs A B c d w hn hx hy
  rw [decide_eq_true rfl] at this
  exact this

end Go.Proofs.YtkciljcligohnaaDoor
