/- Draws of types with parameters. -/
import Derived.Test.YtofbhdgccijbgaaGreatDoorDraw6
namespace Go.Proofs.YtofbhdgccijbgaaGreatDoor
open Go.RowKit
set_option linter.unusedVariables false
set_option linter.unusedSimpArgs false

def pnames : List (List UInt8) := [[120], [120], [121], [120], [116], [122]]
set_option maxHeartbeats 2000000 in
set_option maxRecDepth 100000 in
theorem l91Name_any (r : Nat) (B : Option Addr) (n c K : Nat) (w : World) (h : RB w r B n c K) (hk : K ≤ 1000000000000) :
    Calls Tryz.prog 84 #[.pointer (some ⟨r, 0, none⟩)] w (DPost w r B n c (K + 1) 1000) := by
  have HP : Hid (∀ cs, cs = (strs pnames).toArray → Calls Tryz.prog 132 #[.pointer (some ⟨r, 0, none⟩), .slice (some ⟨w.heap.size, 0, none⟩) 6 6] (w.alloc (.cells cs 9)) fun e w' => ∃ s ∈ pnames, e = .returned (.string (St s)) ∧ RB w' r B n c (K + 1) ∧ (w.alloc (.cells cs 9)).grownBy w' (some r)) := fun cs hcs => of_any r B n c K _ 6 pnames _ (h.up (up1 w _)) hk (far_new w r h.lt pnames cs hcs _) (by simp [pnames]) (by decide)
  have HK : Hid (∀ s ∈ pnames, s.length ≤ 1000) := by show ∀ s ∈ pnames, s.length ≤ 1000; decide
  clear h hk
  go_enter Tryz.func84, Tryz.ntmps84
  go_wp2_with (go_at_call 132; refine (HP.out _ rfl).mono ?_; rintro e w1 ⟨s, hs, rfl, hr, hg⟩; have HR := Lib.hid hr; have HG := Lib.hid hg; have HS := Lib.hid hs; clear hr hg hs)
  go_ret
  exact ⟨St s, HK.out s HS.out, rfl, HR.out, up_grow (up1 w _) HG.out⟩

/-- What DrawDerivOf gives. -/
def TextNPost (w : World) (e : Ending) (w' : World) : Prop := ∃ s nm : ByteArray, s.size ≤ 100000 ∧ nm.size ≤ 1000 ∧ e = .returned (.tuple #[.string s, .string nm]) ∧ Below w.heap.size w w'

end Go.Proofs.YtofbhdgccijbgaaGreatDoor
