/- The draw of DerivTwice. -/
import Derived.Test.YtcfecmlfcjgdbaaGreatDoorDraw7
namespace Go.Proofs.YtcfecmlfcjgdbaaGreatDoor
open Go.RowKit
set_option linter.unusedVariables false
set_option linter.unusedSimpArgs false

/-- What DrawDerivTwice gives. -/
def TextNNPost (w : World) (e : Ending) (w' : World) : Prop := ∃ s a b : ByteArray, s.size ≤ 100000 ∧ a.size ≤ 1000 ∧ b.size ≤ 1000 ∧ e = .returned (.tuple #[.string s, .string a, .string b]) ∧ Below w.heap.size w w'
set_option maxHeartbeats 2000000 in
theorem DrawDerivTwice_any (a : Option Addr) (n c : Nat) (w : World) (h : CodeRow w a n c) : Calls Tryz.prog 11 #[.slice a n c] w (TextNNPost w) := by
  have HO := Lib.hid (l6Open_any a n c w h.1 h.2)
  have HT : Hid (∀ (w : World) (r : Nat) (B : Option Addr) (n c : Nat), RB w r B n c 0 → Calls Tryz.prog 35 #[.pointer (some ⟨r, 0, none⟩), .slice (some ⟨w.heap.size, 0, none⟩) 0 0, .int .i64 2] (w.alloc (.cells #[] 9)) fun e w' => ∃ s : ByteArray, s.size ≤ 100000 ∧ e = .returned (.string s) ∧ RB w' r B n c 10000 ∧ w.grownBy w' (some r)) := fun w r B n c h => by
    refine (l91Shape_any 2 (by omega) r B n c 0 _ 0 [] _ (h.up (up1 w _)) (by simp only [SK]; omega) (.inl rfl) (by simp) (by decide)).mono ?_
    rintro e w' ⟨s, h1, h2, h3, h4⟩
    exact ⟨s, Nat.le_trans h1 (by decide), h2, h3.mono (by simp only [SK]; omega), up_grow (up1 w _) h4⟩
  have HN : Hid (∀ (w : World) (r : Nat) (B : Option Addr) (n c K : Nat), RB w r B n c K → K ≤ 20000 → Calls Tryz.prog 36 #[.pointer (some ⟨r, 0, none⟩)] w (DPost w r B n c (K + 1) 1000)) := fun w r B n c K h hk => l91Name_any r B n c _ w h (by omega)
  clear h
  go_enter Tryz.func11, Tryz.ntmps11
  go_wp2_with (first
    | (go_at_call 34; refine HO.out.mono ?_; rintro e w1 ⟨r, B', n', c', rfl, hr, hb, hlt⟩; have HR := Lib.hid hr; have HB := Lib.hid hb; have HL := Lib.hid hlt; clear hr hb hlt)
    | (go_at_call 35; (with_reducible refine (HT.out _ _ _ _ _ HR.out).mono ?_); rintro e w2 ⟨s, hs, rfl, hr, hg⟩; have HS := Lib.hid hs; have HR2 := Lib.hid hr; have HB2 := Lib.hid (up_grown HB.out hg HL.out); clear hs hr hg)
    | (go_at_call 36; first
      | (have HR3' := HR3.out; clear HR3'; (with_reducible refine (HN.out _ _ _ _ _ _ HR3.out (by omega)).mono ?_); rintro e w4 ⟨s3, hs3, rfl, _, hg⟩; have HS3 := Lib.hid hs3; have HB4 := Lib.hid (up_grown HB3.out hg HL.out); clear hs3 hg)
      | ((with_reducible refine (HN.out _ _ _ _ _ _ HR2.out (by omega)).mono ?_); rintro e w3 ⟨s2, hs2, rfl, hr, hg⟩; have HS2 := Lib.hid hs2; have HR3 := Lib.hid hr; have HB3 := Lib.hid (up_grown HB2.out hg HL.out); clear hs2 hg hr)))
  refine bodyPost_ret (v := .tuple #[.string s, .string s2, .string s3]) (by simp [results, Tryz.results11, go_sem]) rfl ?_
  exact ⟨s, s2, s3, HS.out, HS2.out, HS3.out, rfl, HB4.out⟩

end Go.Proofs.YtcfecmlfcjgdbaaGreatDoor
