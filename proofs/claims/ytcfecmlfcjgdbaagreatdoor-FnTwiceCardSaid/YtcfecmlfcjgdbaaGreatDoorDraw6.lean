/- DrawTypeUnroll. -/
import Derived.Test.YtcfecmlfcjgdbaaGreatDoorMJ
namespace Go.Proofs.YtcfecmlfcjgdbaaGreatDoor
open Go.RowKit
set_option linter.unusedVariables false
set_option linter.unusedSimpArgs false

set_option maxHeartbeats 2000000 in
theorem DrawTypeUnroll_any (a : Option Addr) (n c : Nat) (w : World) (h : CodeRow w a n c) : Calls Tryz.prog 23 #[.slice a n c] w (TextPost w) := by
  have HO := Lib.hid (l6Open_any a n c w h.1 h.2)
  have HT : Hid (∀ (w : World) (r : Nat) (B : Option Addr) (n c : Nat), RB w r B n c 1 → Calls Tryz.prog 39 #[.pointer (some ⟨r, 0, none⟩)] w (DPost w r B n c (1 + 10000) 100000)) := fun w r B n c h => l91Type_any r B n c 1 w h (by omega)
  have HKN : Hid (∀ (w : World) (r : Nat) (B : Option Addr) (n c : Nat), RB w r B n c 1 → Calls Tryz.prog 52 #[.pointer (some ⟨r, 0, none⟩)] w (DPost w r B n c (1 + 1) 1000)) := fun w r B n c h => l91Known_any r B n c 1 w h (by omega)
  have HPK : Hid (∀ (w : World) (r : Nat) (B : Option Addr) (n c : Nat), RB w r B n c 0 → Calls Tryz.prog 51 #[.pointer (some ⟨r, 0, none⟩), .int .i64 2] w fun e w' => ∃ x : Int, 0 ≤ x ∧ x < 2 ∧ e = .returned (.int .i64 x) ∧ RB w' r B n c 1 ∧ w.grownBy w' (some r)) := fun w r B n c h => pick_rb r B n c 0 2 w h (by omega) (by omega) (by omega)
  clear h
  go_enter Tryz.func23, Tryz.ntmps23
  go_wp2_with (first
    | (go_at_call 34; refine HO.out.mono ?_; rintro e w1 ⟨r, B', n', c', rfl, hr, hb, hlt⟩; have HR := Lib.hid hr; have HB := Lib.hid hb; have HL := Lib.hid hlt; clear hr hb hlt)
    | (go_at_call 51; (with_reducible refine (HPK.out _ _ _ _ _ HR.out).mono ?_); rintro e w2 ⟨x, hx0, hx1, rfl, hr, hg⟩; have HB2 := Lib.hid (up_grown HB.out hg HL.out); have HR2 := Lib.hid hr; clear hr hg)
    | (go_at_call 52; (with_reducible refine (HKN.out _ _ _ _ _ HR2.out).mono ?_); rintro e w3 ⟨s, hs, rfl, _, hg⟩; have HS := Lib.hid (show s.size ≤ 100000 by omega); have HB3 := Lib.hid (up_grown HB2.out hg HL.out); clear hs hg)
    | (go_at_call 39; (with_reducible refine (HT.out _ _ _ _ _ HR2.out).mono ?_); rintro e w3 ⟨s, hs, rfl, _, hg⟩; have HS := Lib.hid hs; have HB3 := Lib.hid (up_grown HB2.out hg HL.out); clear hs hg))
  all_goals go_ret
  all_goals exact ⟨s, HS.out, rfl, HB3.out⟩

end Go.Proofs.YtcfecmlfcjgdbaaGreatDoor
