/- The program's differ: its small functions. -/
import Derived.Test.YtpokompplapkhaaGreatDoorDifP
import Derived.Test.YtpokompplapkhaaGreatDoorMI
namespace Go.Proofs.YtpokompplapkhaaGreatDoor
open Go.RowKit
set_option linter.unusedVariables false
set_option linter.unusedSimpArgs false

/-- The differ in memory, and strconv's table. -/
structure DX (w : World) (B bx f : Nat) (g : Bool) : Prop where
  h : w.heap[bx]? = some (.cells #[.int .i64 f, .bool g] 184 (0, 0))
  tab : TabB B w
  le : B ≤ bx
theorem DX.grown {w w1 : World} {B bx f f1 : Nat} {g g1 : Bool} (h : DX w B bx f g) (hg : w.grownBy w1 (some bx)) (h1 : w1.heap[bx]? = some (.cells #[.int .i64 f1, .bool g1] 184 (0, 0))) : DX w1 B bx f1 g1 where
  h := h1
  tab := h.tab.below ((Below.refl B w).grown hg (by have := lt_of_block h.h; have := h.le; omega) (fun k hk => by cases hk; exact h.le))
  le := h.le
theorem DX.up {w w1 : World} {B bx f : Nat} {g : Bool} (h : DX w B bx f g) (hb : Below w.heap.size w w1) : DX w1 B bx f g :=
  h.grown (below_grow hb) (block_up hb h.h)
theorem DX.keeps {w w1 : World} {B bx f : Nat} {g : Bool} (h : DX w B bx f g) (hg : w.grownBy w1 (some bx)) : Keeps 124 w w1 := fun j cs fr hj => by
  rw [hg.block j (lt_of_block hj) (by
    simp
    rintro rfl
    rw [h.h] at hj
    simp at hj), hj]
theorem DX.set {w : World} {B bx f : Nat} {g : Bool} (h : DX w B bx f g) (i : Nat) (v : Value) {f1 : Nat} {g1 : Bool} (e : (#[.int .i64 f, .bool g] : Array Value).setIfInBounds i v = #[.int .i64 f1, .bool g1]) :
    DX (w.setCell ⟨bx, i, none⟩ v) B bx f1 g1 ∧ w.grownBy (w.setCell ⟨bx, i, none⟩ v) (some bx) := by
  have hg : w.grownBy (w.setCell ⟨bx, i, none⟩ v) (some bx) := ⟨rfl, rfl, rfl, by simp [World.setCell], fun j hj hne => Below.heap_setCell w ⟨bx, i, none⟩ _ j (by simpa using hne)⟩
  refine ⟨h.grown hg ?_, hg⟩
  rw [block_set h.h i v, e]

theorem set_size (w : World) (a : Addr) (v : Value) : (w.setCell a v).heap.size = w.heap.size := by simp [World.setCell]
theorem TyN_new' (w : World) (sg : Int) (nm : List UInt8) (up : Int) (pa pb : Option Addr) (k : Nat) (hk : k = w.heap.size) : TyN (w.alloc (.cells #[.int .u8 sg, .string (St nm), .int .i64 up, .pointer pa, .pointer pb] 124)) (some ⟨k, 0, none⟩) sg nm up pa pb := by
  rw [hk]
  exact TyN_new w sg nm up pa pb

/-- A type behind the differ's work. -/
def XP (w : World) (B bx f : Nat) (r : Ty) (g : Bool) (e : Ending) (w' : World) : Prop := ∃ p', e = .returned (.pointer p') ∧ TyAt w' r p' ∧ DX w' B bx f g ∧ w.grownBy w' (some bx)

theorem fnm_cat (k : Nat) : (⟨#[35]⟩ : ByteArray) ++ St (decL k) = St (fnm k) := by
  apply ByteArray.ext
  simp [ByteArray.data_append, fnm]

set_option maxHeartbeats 4000000 in
theorem dname_any (B bx f : Nat) (g : Bool) (w : World) (hf : f ≤ 10000000) (h : DX w B bx f g) :
    Calls Tryz.prog 168 #[.pointer (some ⟨bx, 0, none⟩)] w fun e w' => e = .returned (.string (St (fnm (f + 1)))) ∧ DX w' B bx (f + 1) g ∧ w.grownBy w' (some bx) := by
  have h1 := h.set 0 (.int .i64 ((f : Int) + 1)) (f1 := f + 1) (g1 := g) (by simp)
  have HI : Hid (∀ w1, DX w1 B bx (f + 1) g → Calls Tryz.prog 89 #[.int .i64 ((f : Int) + 1)] w1 fun e w' => ∃ b : ByteArray, b = St (decL (f + 1)) ∧ b.size ≤ 9 ∧ e = .returned (.string b) ∧ Below w1.heap.size w1 w') := fun w1 hw =>
    (itoa_any (f + 1) B (by omega) w1 hw.tab).mono fun e w' ⟨h1, h2⟩ => ⟨_, rfl, decL_len 8 (f + 1) (by omega), h1, h2⟩
  have e0 : w.cell? ⟨bx, 0, none⟩ = some (.int .i64 f) := block_cell h.h 0
  have fr0 := block_free h.h 0
  have lt0 := lt_of_block h.h
  have hw : IntKind.i64.wrap ((f : Int) + 1) = (f : Int) + 1 := by rw [IntKind.wrap_i64]; omega
  have hfi : (f : Int) ≤ 10000000 := by omega
  have n0 : (w.setCell ⟨bx, 0, none⟩ (.int .i64 ((f : Int) + 1))).cell? ⟨bx, 0, none⟩ = some (.int .i64 ((f : Int) + 1)) := block_cell h1.1.h 0
  have H1 := Lib.hid h1
  clear h h1 hf
  go_enter Tryz.func168, Tryz.ntmps168
  go_wp2_with (go_at_call 89; (with_reducible refine (HI.out _ H1.out.1).mono ?_); rintro e w2 ⟨b, hb, hbs, rfl, hb2⟩; have HBE := Lib.hid hb; have HB2 := Lib.hid hb2; clear hb hb2)
  go_ret
  refine ⟨?_, H1.out.1.up HB2.out, grow_up2 H1.out.2 HB2.out⟩
  rw [HBE.out, fnm_cat]
  rfl

set_option maxHeartbeats 4000000 in
theorem both_any (sg : Int) (pa pb : Option Addr) (w : World) :
    Calls Tryz.prog 196 #[.int .u8 sg, .pointer pa, .pointer pb] w fun e w' => e = .returned (.pointer (some ⟨w.heap.size, 0, none⟩)) ∧ TyN w' (some ⟨w.heap.size, 0, none⟩) sg [] 0 pa pb ∧ Below w.heap.size w w' := by
  go_enter Tryz.func196, Tryz.ntmps196
  go_wp2
  go_ret
  exact ⟨rfl, TyN_new w sg [] 0 pa pb, up1 w _⟩

set_option maxHeartbeats 4000000 in
set_option maxRecDepth 100000 in
theorem checked_any (B bx f : Nat) (g : Bool) (t : Ty) (p : Option Addr) (w : World) (h : DX w B bx f g) (hp : TyAt w t p) (ht : t.atoms ≤ 1000000000) :
    Calls Tryz.prog 169 #[.pointer (some ⟨bx, 0, none⟩), .pointer p] w (XP w B bx f (chkR g t) (chkG g t)) := by
  have e1 : w.cell? ⟨bx, 1, none⟩ = some (.bool g) := block_cell h.h 1
  have fr1 := block_free h.h 1
  have lt0 := lt_of_block h.h
  cases g with
  | true =>
    have hs := h.set 1 (.bool true) (f1 := f) (g1 := true) (by simp)
    have HS := Lib.hid hs
    rw [show chkR true t = .zero from rfl, show chkG true t = true from rfl]
    clear h hp ht hs
    go_enter Tryz.func169, Tryz.ntmps169
    go_wp2
    go_ret
    exact ⟨_, rfl, (show TyAt _ .zero _ from TyN_new' _ 48 [] 0 none none _ (set_size _ _ _).symm), HS.out.1.up (up1 _ _), grow_up2 HS.out.2 (up1 _ _)⟩
  | false =>
    have HA : Hid (Calls Tryz.prog 143 #[.pointer p] w fun e w' => e = .returned (.int .i64 t.atoms) ∧ Below w.heap.size w w') := (tyAtoms_any t w p hp ht).mono fun e w' ⟨h1, m, h2⟩ => ⟨h1, by rw [h2]; exact up_drewN _ _⟩
    by_cases hb : 400 < t.atoms
    · have h1 : decide ((400 : Int) < t.atoms) = true := decide_eq_true (by omega)
      have h2 : decide ((t.atoms : Int) > 400) = true := decide_eq_true (by omega)
      have h3 : decide (400 < t.atoms) = true := decide_eq_true hb
      rw [show chkR false t = .zero by unfold chkR; rw [h3]; rfl, show chkG false t = true by unfold chkG; rw [h3]; rfl]
      have HX := Lib.hid h
      clear h hp ht hb
      generalize t.atoms = a at *
      go_enter Tryz.func169, Tryz.ntmps169
      go_wp2_with (go_at_call 143; (with_reducible refine HA.out.mono ?_); rintro e w1 ⟨rfl, hb1⟩; have HB1 := Lib.hid hb1; have HX1 := Lib.hid (HX.out.up hb1); have f1 := block_free HX1.out.h 1; have l1 := lt_of_block HX1.out.h; have c1 : w1.cell? ⟨bx, 1, none⟩ = some (.bool false) := block_cell HX1.out.h 1; clear hb1)
      go_ret
      have hs := HX1.out.set 1 (.bool true) (f1 := f) (g1 := true) (by simp)
      exact ⟨_, rfl, (show TyAt _ .zero _ from TyN_new' _ 48 [] 0 none none _ (set_size _ _ _).symm), hs.1.up (up1 _ _), grow_up2 (up_grow HB1.out hs.2) (up1 _ _)⟩
    · have h1 : decide ((400 : Int) < t.atoms) = false := decide_eq_false (by omega)
      have h2 : decide ((t.atoms : Int) > 400) = false := decide_eq_false (by omega)
      have h3 : decide (400 < t.atoms) = false := decide_eq_false hb
      rw [show chkR false t = t by unfold chkR; rw [h3]; rfl, show chkG false t = false by unfold chkG; rw [h3]; rfl]
      have HX := Lib.hid h
      have HP := Lib.hid hp
      clear h hp ht hb
      generalize t.atoms = a at *
      go_enter Tryz.func169, Tryz.ntmps169
      go_wp2_with (go_at_call 143; (with_reducible refine HA.out.mono ?_); rintro e w1 ⟨rfl, hb1⟩; have HB1 := Lib.hid hb1; clear hb1)
      go_ret
      exact ⟨_, rfl, HP.out.up HB1.out, HX.out.up HB1.out, below_grow HB1.out⟩

end Go.Proofs.YtpokompplapkhaaGreatDoor
