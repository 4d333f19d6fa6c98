/- Draws of types with parameters. -/
import Derived.Test.YtpokompplapkhaaGreatDoorDraw6
namespace Go.Proofs.YtpokompplapkhaaGreatDoor
open Go.RowKit
set_option linter.unusedVariables false
set_option linter.unusedSimpArgs false

def pnames : List (List UInt8) := [[120], [120], [121], [120], [116], [122]]
set_option maxHeartbeats 2000000 in
set_option maxRecDepth 100000 in
theorem l91Name_any (r : Nat) (B : Option Addr) (n c K : Nat) (w : World) (h : RB w r B n c K) (hk : K ≤ 1000000000000) :
    Calls Tryz.prog 86 #[.pointer (some ⟨r, 0, none⟩)] w (DPost w r B n c (K + 1) 1000) := by
  have HP : Hid (∀ cs, cs = (strs pnames).toArray → Calls Tryz.prog 137 #[.pointer (some ⟨r, 0, none⟩), .slice (some ⟨w.heap.size, 0, none⟩) 6 6] (w.alloc (.cells cs 9)) fun e w' => ∃ s ∈ pnames, e = .returned (.string (St s)) ∧ RB w' r B n c (K + 1) ∧ (w.alloc (.cells cs 9)).grownBy w' (some r)) := fun cs hcs => of_any r B n c K _ 6 pnames _ (h.up (up1 w _)) hk (far_new w r h.lt pnames cs hcs _) (by simp [pnames]) (by decide)
  have HK : Hid (∀ s ∈ pnames, s.length ≤ 1000) := by show ∀ s ∈ pnames, s.length ≤ 1000; decide
  clear h hk
  go_enter Tryz.func86, Tryz.ntmps86
  go_wp2_with (go_at_call 137; refine (HP.out _ rfl).mono ?_; rintro e w1 ⟨s, hs, rfl, hr, hg⟩; have HR := Lib.hid hr; have HG := Lib.hid hg; have HS := Lib.hid hs; clear hr hg hs)
  go_ret
  exact ⟨St s, HK.out s HS.out, rfl, HR.out, up_grow (up1 w _) HG.out⟩

/-- What DrawDerivOf gives. -/
def TextNPost (w : World) (e : Ending) (w' : World) : Prop := ∃ s nm : ByteArray, s.size ≤ 100000 ∧ nm.size ≤ 1000 ∧ e = .returned (.tuple #[.string s, .string nm]) ∧ Below w.heap.size w w'
set_option maxHeartbeats 2000000 in
theorem DrawDerivOf_any (a : Option Addr) (n c : Nat) (w : World) (h : CodeRow w a n c) : Calls Tryz.prog 92 #[.slice a n c] w (TextNPost w) := by
  have HO := Lib.hid (l6Open_any a n c w h.1 h.2)
  have HT : Hid (∀ (w : World) (r : Nat) (B : Option Addr) (n c : Nat), RB w r B n c 0 → Calls Tryz.prog 134 #[.pointer (some ⟨r, 0, none⟩)] w (DPost w r B n c (0 + 10000) 100000)) := fun w r B n c h => l91Type_any r B n c 0 w h (by omega)
  have HN : Hid (∀ (w : World) (r : Nat) (B : Option Addr) (n c : Nat), RB w r B n c (0 + 10000) → Calls Tryz.prog 86 #[.pointer (some ⟨r, 0, none⟩)] w (DPost w r B n c (0 + 10000 + 1) 1000)) := fun w r B n c h => l91Name_any r B n c _ w h (by omega)
  clear h
  go_enter Tryz.func92, Tryz.ntmps92
  go_wp2_with (first
    | (go_at_call 76; refine HO.out.mono ?_; rintro e w1 ⟨r, B', n', c', rfl, hr, hb, hlt⟩; have HR := Lib.hid hr; have HB := Lib.hid hb; have HL := Lib.hid hlt; clear hr hb hlt)
    | (go_at_call 134; (with_reducible refine (HT.out _ _ _ _ _ HR.out).mono ?_); rintro e w2 ⟨s, hs, rfl, hr, hg⟩; have HS := Lib.hid hs; have HR2 := Lib.hid hr; have HB2 := Lib.hid (up_grown HB.out hg HL.out); clear hs hr hg)
    | (go_at_call 86; (with_reducible refine (HN.out _ _ _ _ _ HR2.out).mono ?_); rintro e w3 ⟨s2, hs2, rfl, _, hg⟩; have HS2 := Lib.hid hs2; have HB3 := Lib.hid (up_grown HB2.out hg HL.out); clear hs2 hg))
  refine bodyPost_ret (v := .tuple #[.string s, .string s2]) (by simp [results, Tryz.results92, go_sem]) rfl ?_
  exact ⟨s, s2, HS.out, HS2.out, rfl, HB3.out⟩
set_option maxHeartbeats 2000000 in
theorem DrawDerivNone_any (a : Option Addr) (n c : Nat) (w : World) (h : CodeRow w a n c) : Calls Tryz.prog 40 #[.slice a n c] w (TextNPost w) := by
  have HD := Lib.hid (DrawDerivOf_any a n c w h)
  clear h
  go_enter Tryz.func40, Tryz.ntmps40
  go_wp2_with (go_at_call 92; (with_reducible refine HD.out.mono ?_); rintro e w1 ⟨s, nm, hs, hnm, rfl, hb⟩; have HS := Lib.hid hs; have HN := Lib.hid hnm; have HB1 := Lib.hid hb; clear hs hnm hb)
  go_ret2
  exact ⟨s, nm, HS.out, HN.out, rfl, HB1.out⟩

end Go.Proofs.YtpokompplapkhaaGreatDoor
