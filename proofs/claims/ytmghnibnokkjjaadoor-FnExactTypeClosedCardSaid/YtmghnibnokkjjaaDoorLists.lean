/- Lists of strings that the laws compare and mark. -/
import Derived.Test.YtmghnibnokkjjaaDoorMark
namespace Go.Proofs.YtmghnibnokkjjaaDoor
open Go.RowKit
set_option linter.unusedVariables false
set_option linter.unusedSimpArgs false

theorem SOwn.kept {w w1 : World} {B : Nat} {ls : List (List UInt8)} {g c g' : Nat} (h : SOwn w B ls g c) (hg : w.grownBy w1 (some g')) (hne : g ≠ g') : SOwn w1 B ls g c :=
  World.ownsRow.kept h hg (.inr (by simpa [Value.ownBlock] using hne))

theorem SOwn.new0 (w : World) (o : Obj) (B : Nat) (h : B ≤ w.heap.size) : SOwn ((w.alloc o).alloc (.cells #[] 9)) B [] (w.heap.size + 1) 0 := by
  have e : (w.alloc o).heap.size = w.heap.size + 1 := by simp
  have := SOwn.new (w.alloc o) B (by omega) [] (by simp)
  rw [e] at this
  exact this

theorem eqStringS_same (xs : List (List UInt8)) (A B : Option Addr) (c d : Nat) (w : World) (hn : xs.length ≤ 1000000) (hx : SCells w A xs) (hy : SCells w B xs) :
    Calls Tryd.prog 28 #[.slice A xs.length c, .slice B xs.length d] w fun e w' => e = .returned (.bool true) ∧ Below w.heap.size w w' := by
  have := eqStringS_any xs xs A B c d w hn hx hy
  rw [decide_eq_true rfl] at this
  exact this

theorem markStringS_none (A : Option Addr) (c : Nat) (k : Int) (w : World) :
    Calls Tryd.prog 29 #[.slice A 0 c, .int .i64 k] w fun e w' => e = .returned (.int .i64 k) ∧ w' = w := by
  go_enter Tryd.func29, Tryd.ntmps29
  go_wp2
  go_loopw [1, 5] (fun v1 v5 wr => v1 = .int .i64 k ∧ v5 = .int .i64 0 ∧ wr = w) (fun _ _ _ => 0)
  case atStart => exact ⟨rfl, rfl, rfl⟩
  case round =>
    obtain ⟨rfl, rfl, rfl⟩ := hrel
    go_wp2
    go_ret
    exact ⟨rfl, rfl⟩

end Go.Proofs.YtmghnibnokkjjaaDoor
