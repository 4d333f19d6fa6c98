/- The draw of TypeEmpty; two texts put together. -/
import Derived.Test.YtmghnibnokkjjaaDoorCode
import Derived.Test.YtmghnibnokkjjaaDoorTxt
namespace Go.Proofs.YtmghnibnokkjjaaDoor
open Go.RowKit
set_option linter.unusedVariables false
set_option linter.unusedSimpArgs false

theorem rdTy_tree {l : List UInt8} {n : NT} (h : rdTy l = some n) : ∃ t, l = t.txt ∧ t.wf ∧ tyOf t = some n := by
  unfold rdTy at h
  split at h
  · cases h
  · rename_i t ht
    obtain ⟨h1, hw, _, _⟩ := rdText_inv ht
    split at h
    · cases h
    · rename_i m hm
      split at h
      · cases h
      · cases h
        exact ⟨t, h1, hw, hm⟩
theorem rdTy_bin (b : Bool) (ta tb : Tr) (n m : NT) (wa : ta.wf) (wb : tb.wf) (ha : tyOf ta = some n) (hb : tyOf tb = some m) :
    rdTy ([40, if b then 43 else 42, 32] ++ ta.txt ++ [32] ++ tb.txt ++ [41]) = none ∨ rdTy ([40, if b then 43 else 42, 32] ++ ta.txt ++ [32] ++ tb.txt ++ [41]) = some (if b then .sum n m else .prod n m) := by
  cases b
  · have hT : (Tr.mk [] [.mk [42] [], ta, tb]).wf := .inr ⟨rfl, by simp, .inl ⟨by simp, by decide, rfl⟩, wa, wb, trivial⟩
    have htx : [40, 42, 32] ++ ta.txt ++ [32] ++ tb.txt ++ [41] = (Tr.mk [] [.mk [42] [], ta, tb]).txt := by simp [Tr.txt, Tr.txts]
    have hty : tyOf (Tr.mk [] [.mk [42] [], ta, tb]) = some (.prod n m) := by
      obtain ⟨h1, h2, h3, h4⟩ := nil_no
      rw [tyOf_three h1 h2 h3 h4, ha, hb]
      rfl
    show rdTy ([40, 42, 32] ++ ta.txt ++ [32] ++ tb.txt ++ [41]) = none ∨ rdTy ([40, 42, 32] ++ ta.txt ++ [32] ++ tb.txt ++ [41]) = some (.prod n m)
    rw [htx]
    unfold rdTy
    rw [rdText_txt hT]
    split
    · exact .inl rfl
    · rename_i u hu
      split at hu
      · cases hu
        rw [hty]
        simp only
        split
        · exact .inl rfl
        · exact .inr rfl
      · cases hu
  · have hT : (Tr.mk [] [.mk [43] [], ta, tb]).wf := .inr ⟨rfl, by simp, .inl ⟨by simp, by decide, rfl⟩, wa, wb, trivial⟩
    have htx : [40, 43, 32] ++ ta.txt ++ [32] ++ tb.txt ++ [41] = (Tr.mk [] [.mk [43] [], ta, tb]).txt := by simp [Tr.txt, Tr.txts]
    have hty : tyOf (Tr.mk [] [.mk [43] [], ta, tb]) = some (.sum n m) := by
      obtain ⟨h1, h2, h3, h4⟩ := nil_no
      rw [tyOf_three h1 h2 h3 h4, ha, hb]
      rfl
    show rdTy ([40, 43, 32] ++ ta.txt ++ [32] ++ tb.txt ++ [41]) = none ∨ rdTy ([40, 43, 32] ++ ta.txt ++ [32] ++ tb.txt ++ [41]) = some (.sum n m)
    rw [htx]
    unfold rdTy
    rw [rdText_txt hT]
    split
    · exact .inl rfl
    · rename_i u hu
      split at hu
      · cases hu
        rw [hty]
        simp only
        split
        · exact .inl rfl
        · exact .inr rfl
      · cases hu

set_option maxHeartbeats 2000000 in
theorem DrawTypeEmpty_any (a : Option Addr) (n c : Nat) (w : World) (h : CodeRow w a n c) : Calls Tryd.prog 33 #[.slice a n c] w (TextPost w) := by
  have HO := Lib.hid (l6Open_any a n c w h.1 h.2)
  have HT : Hid (∀ (w : World) (r : Nat) (B : Option Addr) (n c : Nat), RB w r B n c 1 → Calls Tryd.prog 51 #[.pointer (some ⟨r, 0, none⟩)] w (DPost w r B n c (1 + 10000) 100000)) := fun w r B n c h => l91Type_any r B n c 1 w h (by omega)
  have HPK : Hid (∀ (w : World) (r : Nat) (B : Option Addr) (n c : Nat), RB w r B n c 0 → Calls Tryd.prog 63 #[.pointer (some ⟨r, 0, none⟩), .int .i64 4] w fun e w' => ∃ x : Int, 0 ≤ x ∧ x < 4 ∧ e = .returned (.int .i64 x) ∧ RB w' r B n c 1 ∧ w.grownBy w' (some r)) := fun w r B n c h => pick_rb r B n c 0 4 w h (by omega) (by decide) (by decide)
  have HOF : Hid (∀ (w : World) (r : Nat) (B : Option Addr) (n c : Nat), RB w r B n c 1 → Calls Tryd.prog 64 #[.pointer (some ⟨r, 0, none⟩), .slice (some ⟨w.heap.size, 0, none⟩) 4 4] (w.alloc (.cells #[.string ⟨#[40, 114, 101, 99, 32, 116, 32, 116, 41]⟩, .string ⟨#[40, 114, 101, 99, 32, 116, 32, 40, 42, 32, 120, 32, 116, 41, 41]⟩, .string ⟨#[40, 43, 32, 48, 32, 40, 42, 32, 48, 32, 120, 41, 41]⟩, .string ⟨#[40, 114, 101, 99, 32, 116, 32, 40, 43, 32, 116, 32, 40, 42, 32, 116, 32, 49, 41, 41, 41]⟩] 9)) fun e w' => ∃ s : ByteArray, s.size ≤ 1000 ∧ e = .returned (.string s) ∧ w.grownBy w' (some r)) := fun w r B n c h =>
    (of_list r B n c 1 [[40, 114, 101, 99, 32, 116, 32, 116, 41], [40, 114, 101, 99, 32, 116, 32, 40, 42, 32, 120, 32, 116, 41, 41], [40, 43, 32, 48, 32, 40, 42, 32, 48, 32, 120, 41, 41], [40, 114, 101, 99, 32, 116, 32, 40, 43, 32, 116, 32, 40, 42, 32, 116, 32, 49, 41, 41, 41]] _ rfl (by simp) (by decide) (by decide) w h (by omega)).mono fun e w' ⟨s, _, h1, h2, h3, h4⟩ => ⟨St s, h1, h2, h4⟩
  clear h
  go_enter Tryd.func33, Tryd.ntmps33
  go_wp2_with (first
    | (go_at_call 52; refine HO.out.mono ?_; rintro e w1 ⟨r, B', n', c', rfl, hr, hb, hlt⟩; have HR := Lib.hid hr; have HB := Lib.hid hb; have HL := Lib.hid hlt; clear hr hb hlt)
    | (go_at_call 63; (with_reducible refine (HPK.out _ _ _ _ _ HR.out).mono ?_); rintro e w2 ⟨x, hx0, hx1, rfl, hr, hg⟩; have HB2 := Lib.hid (up_grown HB.out hg HL.out); have HR2 := Lib.hid hr; clear hr hg)
    | (go_at_call 64; (with_reducible refine (HOF.out _ _ _ _ _ HR2.out).mono ?_); rintro e w3 ⟨s, hs, rfl, hg⟩; have HS := Lib.hid (show s.size ≤ 100000 by omega); have HB3 := Lib.hid (up_grown HB2.out hg HL.out); clear hs hg)
    | (go_at_call 51; (with_reducible refine (HT.out _ _ _ _ _ HR2.out).mono ?_); rintro e w3 ⟨s, hs, rfl, _, hg⟩; have HS := Lib.hid hs; have HB3 := Lib.hid (up_grown HB2.out hg HL.out); clear hs hg))
  all_goals go_ret
  all_goals exact ⟨s, HS.out, rfl, HB3.out⟩

end Go.Proofs.YtmghnibnokkjjaaDoor
