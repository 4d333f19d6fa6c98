/- What stays while a walk goes on; with and pair. -/
import Derived.Test.YtpokompplapkhaaGreatDoorIsOf
namespace Go.Proofs.YtpokompplapkhaaGreatDoor
open Go.RowKit
set_option linter.unusedVariables false
set_option linter.unusedSimpArgs false

/-- Types, frames, values and closures stay. -/
structure Kp (w w' : World) : Prop where
  ty : Keeps 124 w w'
  fr : Keeps 155 w w'
  fs : Keeps 190 w w'
  vl : Keeps 88 w w'
  cl : Keeps 71 w w'
theorem Kp.up {w w' : World} (h : Below w.heap.size w w') : Kp w w' := ⟨.up h, .up h, .up h, .up h, .up h⟩
theorem Kp.trans {w w1 w2 : World} (h : Kp w w1) (k : Kp w1 w2) : Kp w w2 := ⟨h.ty.trans k.ty, h.fr.trans k.fr, h.fs.trans k.fs, h.vl.trans k.vl, h.cl.trans k.cl⟩
theorem Kp.refl (w : World) : Kp w w := .up (Below.refl _ _)
theorem FAt.kp {w w1 : World} (hb : Kp w w1) : ∀ {env : List (Ty × Nat)} {p : Option Addr}, FAt w env p → FAt w1 env p
  | [], _, h => h
  | _ :: _, _, ⟨g, q, pr, h1, h2, h3, h4, h5⟩ => ⟨g, q, pr, h1, hb.fs _ _ _ h2, hb.fr _ _ _ h3, h4.keep hb.ty, FAt.kp hb h5⟩
set_option maxHeartbeats 1000000 in
theorem with_any (sg : Int) (q : Option Addr) (w : World) : Calls Tryz.prog 114 #[.int .u8 sg, .pointer q] w fun e w' => ∃ g, e = .returned (.pointer (some ⟨g, 0, none⟩)) ∧ w'.heap[g]? = some (.cells #[.int .u8 sg, .string (St []), .pointer q, .pointer none] 88 (0, 0)) ∧ Below w.heap.size w w' := by
  go_enter Tryz.func114, Tryz.ntmps114
  go_wp2
  go_ret
  exact ⟨_, rfl, block_new w _, up1 w _⟩
set_option maxHeartbeats 1000000 in
theorem mkpair_any (p q : Option Addr) (w : World) : Calls Tryz.prog 116 #[.pointer p, .pointer q] w fun e w' => ∃ g, e = .returned (.pointer (some ⟨g, 0, none⟩)) ∧ w'.heap[g]? = some (.cells #[.int .u8 112, .string (St []), .pointer p, .pointer q] 88 (0, 0)) ∧ Below w.heap.size w w' := by
  go_enter Tryz.func116, Tryz.ntmps116
  go_wp2
  go_ret
  exact ⟨_, rfl, block_new w _, up1 w _⟩

end Go.Proofs.YtpokompplapkhaaGreatDoor
