/- Draws of types with values. -/
import Derived.Test.YtpokompplapkhaaGreatDoorVDraw
import Derived.Test.YtpokompplapkhaaGreatDoorDraw7
namespace Go.Proofs.YtpokompplapkhaaGreatDoor
open Go.RowKit
set_option linter.unusedVariables false
set_option linter.unusedSimpArgs false

set_option maxHeartbeats 2000000 in
theorem l91Given_any (r : Nat) (B : Option Addr) (n c K : Nat) (w : World) (h : RB w r B n c K) (hk : K + 20000 + 5000000000 ≤ 1000000000000) :
    Calls Tryz.prog 85 #[.pointer (some ⟨r, 0, none⟩)] w fun e w' => ∃ s v : ByteArray, s.size ≤ 100000 ∧ v.size ≤ 100000000000 ∧ e = .returned (.tuple #[.string s, .string v]) ∧ RB w' r B n c (K + 20000 + 5000000000) ∧ w.grownBy w' (some r) := by
  have HT : Hid (Calls Tryz.prog 77 #[.pointer (some ⟨r, 0, none⟩)] w (DPost w r B n c (K + 20000) 100000)) := l91Closed_any r B n c K w h (by omega)
  have HV : Hid (∀ (s : ByteArray) (w1 : World), s.size ≤ 100000 → RB w1 r B n c (K + 20000) → Calls Tryz.prog 78 #[.pointer (some ⟨r, 0, none⟩), .string s] w1 (DPost w1 r B n c (K + 20000 + 5000000000) 100000000000)) := fun s w1 hs h => l91Value_any s (by omega) r B n c _ w1 h (by omega)
  clear h
  go_enter Tryz.func85, Tryz.ntmps85
  go_wp2_with (first
    | (go_at_call 77; (with_reducible refine HT.out.mono ?_); rintro e w2 ⟨s, hs, rfl, hr, hg⟩; have HS := Lib.hid hs; have HR2 := Lib.hid hr; have HG2 := Lib.hid hg; clear hs hr hg)
    | (go_at_call 78; (with_reducible refine (HV.out _ _ HS.out HR2.out).mono ?_); rintro e w3 ⟨s2, hs2, rfl, hr, hg⟩; have HS2 := Lib.hid hs2; have HR3 := Lib.hid hr; have HG3 := Lib.hid (grow_grow HG2.out hg (.inl rfl)); clear hs2 hr hg))
  go_ret2
  exact ⟨s, s2, HS.out, HS2.out, rfl, HR3.out, HG3.out⟩
/-- What DrawValueOf gives. -/
def VOfPost (w : World) (e : Ending) (w' : World) : Prop := ∃ s v nm : ByteArray, s.size ≤ 100000 ∧ v.size ≤ 100000000000 ∧ nm.size ≤ 1000 ∧ e = .returned (.tuple #[.string s, .string v, .string nm]) ∧ Below w.heap.size w w'
/-- What DrawValueMap gives. -/
def VMapPost (w : World) (e : Ending) (w' : World) : Prop := ∃ (s v nm : ByteArray) (a b : Int), s.size ≤ 100000 ∧ v.size ≤ 100000000000 ∧ nm.size ≤ 1000 ∧ e = .returned (.tuple #[.string s, .string v, .string nm, .int .i64 a, .int .i64 b]) ∧ Below w.heap.size w w'
set_option maxHeartbeats 4000000 in
theorem DrawValueMap_any (a : Option Addr) (n c : Nat) (w : World) (h : CodeRow w a n c) : Calls Tryz.prog 37 #[.slice a n c] w (VMapPost w) := by
  have HO := Lib.hid (l6Open_any a n c w h.1 h.2)
  have HT : Hid (∀ (w : World) (r : Nat) (B : Option Addr) (n c : Nat), RB w r B n c 0 → Calls Tryz.prog 85 #[.pointer (some ⟨r, 0, none⟩)] w fun e w' => ∃ s v : ByteArray, s.size ≤ 100000 ∧ v.size ≤ 100000000000 ∧ e = .returned (.tuple #[.string s, .string v]) ∧ RB w' r B n c (0 + 20000 + 5000000000) ∧ w.grownBy w' (some r)) := fun w r B n c h => l91Given_any r B n c 0 w h (by omega)
  have HN : Hid (∀ (w : World) (r : Nat) (B : Option Addr) (n c : Nat), RB w r B n c (0 + 20000 + 5000000000) → Calls Tryz.prog 86 #[.pointer (some ⟨r, 0, none⟩)] w (DPost w r B n c (0 + 20000 + 5000000000 + 1) 1000)) := fun w r B n c h => l91Name_any r B n c _ w h (by omega)
  have HPK : Hid (∀ w1 r B n c K' (m : Int), RB w1 r B n c K' → K' ≤ 1000000000000 → 1 ≤ m → m ≤ 1000000 → Calls Tryz.prog 79 #[.pointer (some ⟨r, 0, none⟩), .int .i64 m] w1 fun e w' => ∃ x : Int, 0 ≤ x ∧ x < m ∧ e = .returned (.int .i64 x) ∧ RB w' r B n c (K' + 1) ∧ w1.grownBy w' (some r)) := fun w1 r B n c K' m h hk h1 h2 => pick_rb r B n c K' m w1 h hk h1 h2
  have HQ : Hid (∀ (s v nm : ByteArray) (a b : Int) w', s.size ≤ 100000 → v.size ≤ 100000000000 → nm.size ≤ 1000 → Below w.heap.size w w' → VMapPost w (.returned (.tuple #[.string s, .string v, .string nm, .int .i64 a, .int .i64 b])) w') := fun s v nm a b w' h1 h2 h3 h4 => ⟨s, v, nm, a, b, h1, h2, h3, rfl, h4⟩
  generalize VMapPost w = Q at *
  clear h
  go_enter Tryz.func37, Tryz.ntmps37
  go_wp2_with (first
    | (go_at_call 76; refine HO.out.mono ?_; rintro e w1 ⟨r, B', n', c', rfl, hr, hb, hlt⟩; have HR := Lib.hid hr; have HB := Lib.hid hb; have HL := Lib.hid hlt; clear hr hb hlt)
    | (go_at_call 85; (with_reducible refine (HT.out _ _ _ _ _ HR.out).mono ?_); rintro e w2 ⟨s, v, hs, hv, rfl, hr, hg⟩; have HS := Lib.hid hs; have HV := Lib.hid hv; have HR2 := Lib.hid hr; have HB2 := Lib.hid (up_grown HB.out hg HL.out); clear hs hv hr hg)
    | (go_at_call 86; (with_reducible refine (HN.out _ _ _ _ _ HR2.out).mono ?_); rintro e w3 ⟨s2, hs2, rfl, hr, hg⟩; have HS2 := Lib.hid hs2; have HR3 := Lib.hid hr; have HB3 := Lib.hid (up_grown HB2.out hg HL.out); clear hs2 hr hg)
    | (go_at_call 79; first
      | (have HR5' := HR5.out; clear HR5'; (with_reducible refine (HPK.out _ _ _ _ _ _ _ HR5.out (by omega) (by decide) (by decide)).mono ?_); rintro e w6 ⟨x6, hx60, hx61, rfl, _, hg⟩; have HB6 := Lib.hid (up_grown HB5.out hg HL.out); clear hg)
      | (have HR4' := HR4.out; clear HR4'; (with_reducible refine (HPK.out _ _ _ _ _ _ _ HR4.out (by omega) (by decide) (by decide)).mono ?_); rintro e w5 ⟨x5, hx50, hx51, rfl, hr, hg⟩; have HR5 := Lib.hid hr; have HB5 := Lib.hid (up_grown HB4.out hg HL.out); clear hg hr)
      | ((with_reducible refine (HPK.out _ _ _ _ _ _ _ HR3.out (by omega) (by decide) (by decide)).mono ?_); rintro e w4 ⟨x4, hx40, hx41, rfl, hr, hg⟩; have HR4 := Lib.hid hr; have HB4 := Lib.hid (up_grown HB3.out hg HL.out); clear hg hr)))
  refine bodyPost_ret (v := .tuple #[.string s, .string v, .string s2, .int .i64 (x4 - x5 / 19), .int .i64 x6]) (by simp [results, Tryz.results37, go_sem]) rfl ?_
  exact HQ.out _ _ _ _ _ _ HS.out HV.out HS2.out HB6.out

end Go.Proofs.YtpokompplapkhaaGreatDoor
