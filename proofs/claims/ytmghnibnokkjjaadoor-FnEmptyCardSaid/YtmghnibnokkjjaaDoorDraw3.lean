/- Drawing: l91Shape at all depths, l91Type. -/
import Derived.Test.YtmghnibnokkjjaaDoorDraw2
namespace Go.Proofs.YtmghnibnokkjjaaDoor
open Go.RowKit
set_option linter.unusedVariables false
set_option linter.unusedSimpArgs false

theorem zsz (a : Array UInt8) : (ByteArray.mk a).size = a.size := rfl

set_option maxHeartbeats 4000000 in
set_option maxRecDepth 100000 in
theorem l91Shape_succ (d : Nat) (hd : d ≤ 100) (hss : SS d ≤ 1000000) (ih : Sh d) : Sh (d + 1) := by
  intro r B n c K A c2 ls w h hK hA hls hn
  have HR := Lib.hid h
  have HG : Hid (w.grownBy w (some r)) := World.grownBy.refl _ _
  have HPK : Hid (∀ (w : World) (K : Nat) (m : Int), RB w r B n c K → K ≤ 1000000000000 → 1 ≤ m → m ≤ 1000000 → Calls Tryd.prog 63 #[.pointer (some ⟨r, 0, none⟩), .int .i64 m] w fun e w' => ∃ x : Int, 0 ≤ x ∧ x < m ∧ e = .returned (.int .i64 x) ∧ RB w' r B n c (K + 1) ∧ w.grownBy w' (some r)) := fun w K m h hk h1 h2 => pick_rb r B n c K m w h hk h1 h2
  have HOF : Hid (∀ (w : World) (K : Nat), RB w r B n c K → K ≤ 1000000000000 → Calls Tryd.prog 64 #[.pointer (some ⟨r, 0, none⟩), .slice (some ⟨w.heap.size, 0, none⟩) 6 6] (w.alloc (.cells #[.string ⟨#[120]⟩, .string ⟨#[49]⟩, .string ⟨#[120]⟩, .string ⟨#[121]⟩, .string ⟨#[48]⟩, .string ⟨#[49]⟩] 9)) fun e w' => ∃ s ∈ ([[120], [49], [120], [121], [48], [49]] : List (List UInt8)), s.length ≤ 1000 ∧ e = .returned (.string (St s)) ∧ RB w' r B n c (K + 1) ∧ w.grownBy w' (some r)) := fun w K h hk => of_list r B n c K [[120], [49], [120], [121], [48], [49]] _ rfl (by simp) (by decide) (by decide) w h hk
  have HOT : Hid (∀ (w : World) (K : Nat), RB w r B n c K → K ≤ 1000000000000 → Calls Tryd.prog 64 #[.pointer (some ⟨r, 0, none⟩), .slice (some ⟨w.heap.size, 0, none⟩) 3 3] (w.alloc (.cells #[.string ⟨#[116]⟩, .string ⟨#[116, 49]⟩, .string ⟨#[116, 48]⟩] 9)) fun e w' => ∃ s : ByteArray, s.size ≤ 1000 ∧ e = .returned (.string s) ∧ RB w' r B n c (K + 1) ∧ w.grownBy w' (some r)) := fun w K h hk => (of_list r B n c K [[116], [116, 49], [116, 48]] _ rfl (by simp) (by decide) (by decide) w h hk).mono fun e w' ⟨s, _, h1, h2, h3, h4⟩ => ⟨St s, h1, h2, h3, h4⟩
  have HSH : Hid (∀ (w : World) (K : Nat) (A : Option Addr) (c2 : Nat) (ls : List (List UInt8)), RB w r B n c K → K + SK d ≤ 1000000000000 → SFar w A r ls → (∀ l ∈ ls, l.length ≤ 1000) → ls.length + d ≤ 1000 → Calls Tryd.prog 80 #[.pointer (some ⟨r, 0, none⟩), .slice A ls.length c2, .int .i64 d] w (DPost w r B n c (K + SK d) (SS d))) := fun w K A c2 ls h1 h2 h3 h4 h5 => ih r B n c K A c2 ls w h1 h2 h3 h4 h5
  have HSA : Hid (∀ (w1 : World) (K : Nat), w.grownBy w1 (some r) → RB w1 r B n c K → K + SK d ≤ 1000000000000 → Calls Tryd.prog 80 #[.pointer (some ⟨r, 0, none⟩), .slice A ls.length c2, .int .i64 d] w1 (DPost w1 r B n c (K + SK d) (SS d))) := fun w1 K hg h1 h2 => ih r B n c K A c2 ls w1 h1 h2 (hA.grown hg (.inl rfl)) hls (by omega)
  have HWI : Hid (∀ (w1 : World) (s : ByteArray), w.grownBy w1 (some r) → r < w1.heap.size → s.size ≤ 1000 → Calls Tryd.prog 84 #[.slice A ls.length c2, .string s] w1 fun e w2 => ∃ g cc, e = .returned (.slice (some ⟨g, 0, none⟩) (ls.length + 1) cc) ∧ Below w1.heap.size w1 w2 ∧ (∀ (w3 : World) (K : Nat), w3 = w2 → RB w3 r B n c K → K + SK d ≤ 1000000000000 → Calls Tryd.prog 80 #[.pointer (some ⟨r, 0, none⟩), .slice (some ⟨g, 0, none⟩) (ls.length + 1) cc, .int .i64 d] w3 (DPost w3 r B n c (K + SK d) (SS d)))) := fun w1 s hg hr hs => by
    refine (l1With_any ls A c2 s.data.toList w1 (by omega) (hA.grown hg (.inl rfl)).cells).mono ?_
    rintro e w2 ⟨hb, g, cc, he, ho⟩
    refine ⟨g, cc, by rw [he]; simp, hb, ?_⟩
    rintro w3 K rfl h1 h2
    have hlen : (ls ++ [s.data.toList]).length = ls.length + 1 := by simp
    have hgl := ho.lt
    have hfar : SFar w3 (some ⟨g, 0, none⟩) r (ls ++ [s.data.toList]) := by
      rcases ho.reads with hr0 | ⟨g', o', he', hcell⟩
      · simp at hr0
      · cases he'
        exact .inr ⟨g, 0, rfl, by omega, hgl.2, hcell⟩
    have := ih r B n c K (some ⟨g, 0, none⟩) cc (ls ++ [s.data.toList]) w3 h1 h2 hfar (by intro l hl; simp at hl; rcases hl with hl | rfl; exact hls l hl; rw [size_list]; exact hs) (by rw [hlen]; omega)
    rw [hlen] at this
    exact this
  have hd1 : decide ((d : Int) + 1 ≤ 0) = false := decide_eq_false (by omega)
  have hdd : (d : Int) ≤ 100 := by omega
  rw [show SK (d + 1) = 2 * SK d + 10 from rfl, show SS (d + 1) = 2 * SS d + 2000 from rfl]
  have hK2 : K + (2 * SK d + 10) ≤ 1000000000000 := hK
  rw [show (((d + 1 : Nat) : Int)) = (d : Int) + 1 by simp]
  clear ih hK
  generalize SK d = sk at *
  generalize SS d = ss at *
  by_cases hl0 : ls = []
  · have hpos2 : decide (0 < ls.length) = false := decide_eq_false (by rw [hl0]; simp)
    clear h hA hls hn hl0 HSH
    generalize ls.length = m at *
    go_enter Tryd.func80, Tryd.ntmps80
    go_wp2_with (first
      | (go_at_call 64; first
        | ((with_reducible refine (HOF.out _ _ HR.out (by omega)).mono ?_); rintro e w1 ⟨s, _, hs, rfl, hr, hg⟩; have HS := Lib.hid hs; have HG := Lib.hid (grow_grow HG.out hg (.inl rfl)); have HR := Lib.hid hr; clear hr hg hs)
        | ((with_reducible refine (HOT.out _ _ HR.out (by omega)).mono ?_); rintro e w1 ⟨st, hst, rfl, hr, hg⟩; have HST := Lib.hid hst; have HG := Lib.hid (grow_grow HG.out hg (.inl rfl)); have HR := Lib.hid hr; clear hr hg))
      | (go_at_call 84; (with_reducible refine (HWI.out _ st HG.out HR.out.lt HST.out).mono ?_); rintro e w1 ⟨gw, cw, rfl, hb, hsh⟩; have HSW := Lib.hid hsh; have HG := Lib.hid (grow_up HG.out hb); have HR := Lib.hid (HR.out.up hb); clear hb hsh)
      | (go_at_call 80; first
        | ((with_reducible refine (HSW.out _ _ rfl HR.out (by omega)).mono ?_); rintro e w1 ⟨s3, hs3, rfl, hr, hg⟩; have HS3 := Lib.hid hs3; have HG := Lib.hid (grow_grow HG.out hg (.inl rfl)); have HR := Lib.hid hr; clear hr hg)
        | (have hh1 := HS1.out; clear hh1; (with_reducible refine (HSA.out _ _ HG.out HR.out (by omega)).mono ?_); rintro e w1 ⟨s2, hs2, rfl, hr, hg⟩; have HS2 := Lib.hid hs2; have HG := Lib.hid (grow_grow HG.out hg (.inl rfl)); have HR := Lib.hid hr; clear hr hg)
        | ((with_reducible refine (HSA.out _ _ HG.out HR.out (by omega)).mono ?_); rintro e w1 ⟨s1, hs1, rfl, hr, hg⟩; have HS1 := Lib.hid hs1; have HG := Lib.hid (grow_grow HG.out hg (.inl rfl)); have HR := Lib.hid hr; clear hr hg))
      | (go_at_call 63; first
        | ((with_reducible refine (HPK.out _ _ _ HR.out (by omega) (by decide) (by decide)).mono ?_); rintro e w1 ⟨x, hx0, hx1, rfl, hr, hg⟩; have HG := Lib.hid (grow_grow HG.out hg (.inl rfl)); have HR := Lib.hid hr; clear hr hg)))
    all_goals go_ret
    all_goals first
      | exact ⟨St s, Nat.le_trans HS.out (by omega), rfl, HR.out.mono (by omega), HG.out⟩
      | exact ⟨_, by simp only [ByteArray.size_append, zsz, List.size_toArray, List.length_cons, List.length_nil]; have h1 := HS1.out; have h2 := HS2.out; omega, rfl, HR.out.mono (by omega), HG.out⟩
      | exact ⟨_, by simp only [ByteArray.size_append, zsz, List.size_toArray, List.length_cons, List.length_nil]; have h1 := HS3.out; have h2 := HST.out; omega, rfl, HR.out.mono (by omega), HG.out⟩
  · have hpos : 0 < ls.length := List.length_pos_iff.2 hl0
    have hpos2 : decide (0 < ls.length) = true := decide_eq_true hpos
    have hn2 : ls.length ≤ 1000 := by omega
    rcases hA with hA | ⟨g, o, rfl, hne, hlt, hA⟩
    · exact absurd hA hl0
    have HC : Hid (∀ (w' : World) (x : Int), w.grownBy w' (some r) → 0 ≤ x → x < (ls.length : Int) → ∃ (i : Nat) (s : List UInt8), x = (i : Int) ∧ i < ls.length ∧ s.length ≤ 1000 ∧ w'.cell? ⟨g, o + i, none⟩ = some (.string (St s))) := fun w' x hg h0 h1 => by
      have hi : x.toNat < ls.length := by omega
      refine ⟨x.toNat, ls[x.toNat], by omega, hi, hls _ (List.getElem_mem _), ?_⟩
      exact (hg.cell_far ⟨g, o + x.toNat, none⟩ hlt (by simp; exact hne)).trans (hA x.toNat _ (List.getElem?_eq_getElem hi))
    clear h hA hls hn hne hlt hl0 HSH
    generalize ls.length = m at *
    go_enter Tryd.func80, Tryd.ntmps80
    go_wp2_with (first
      | (go_at_call 64; first
        | ((with_reducible refine (HOF.out _ _ HR.out (by omega)).mono ?_); rintro e w1 ⟨s, _, hs, rfl, hr, hg⟩; have HS := Lib.hid hs; have HG := Lib.hid (grow_grow HG.out hg (.inl rfl)); have HR := Lib.hid hr; clear hr hg hs)
        | ((with_reducible refine (HOT.out _ _ HR.out (by omega)).mono ?_); rintro e w1 ⟨st, hst, rfl, hr, hg⟩; have HST := Lib.hid hst; have HG := Lib.hid (grow_grow HG.out hg (.inl rfl)); have HR := Lib.hid hr; clear hr hg))
      | (go_at_call 84; (with_reducible refine (HWI.out _ st HG.out HR.out.lt HST.out).mono ?_); rintro e w1 ⟨gw, cw, rfl, hb, hsh⟩; have HSW := Lib.hid hsh; have HG := Lib.hid (grow_up HG.out hb); have HR := Lib.hid (HR.out.up hb); clear hb hsh)
      | (go_at_call 80; first
        | ((with_reducible refine (HSW.out _ _ rfl HR.out (by omega)).mono ?_); rintro e w1 ⟨s3, hs3, rfl, hr, hg⟩; have HS3 := Lib.hid hs3; have HG := Lib.hid (grow_grow HG.out hg (.inl rfl)); have HR := Lib.hid hr; clear hr hg)
        | (have hh1 := HS1.out; clear hh1; (with_reducible refine (HSA.out _ _ HG.out HR.out (by omega)).mono ?_); rintro e w1 ⟨s2, hs2, rfl, hr, hg⟩; have HS2 := Lib.hid hs2; have HG := Lib.hid (grow_grow HG.out hg (.inl rfl)); have HR := Lib.hid hr; clear hr hg)
        | ((with_reducible refine (HSA.out _ _ HG.out HR.out (by omega)).mono ?_); rintro e w1 ⟨s1, hs1, rfl, hr, hg⟩; have HS1 := Lib.hid hs1; have HG := Lib.hid (grow_grow HG.out hg (.inl rfl)); have HR := Lib.hid hr; clear hr hg))
      | (go_at_call 63; first
        | ((with_reducible refine (HPK.out _ _ (m : Int) HR.out (by omega) (by omega) (by omega)).mono ?_); rintro e w1 ⟨x, hx0, hx1, rfl, hr, hg⟩; have HG := Lib.hid (grow_grow HG.out hg (.inl rfl)); have HR := Lib.hid hr; obtain ⟨i, s, rfl, hi, hs, hcell⟩ := HC.out w1 x HG.out hx0 hx1; have HS := Lib.hid hs; clear hr hg hs)
        | ((with_reducible refine (HPK.out _ _ _ HR.out (by omega) (by decide) (by decide)).mono ?_); rintro e w1 ⟨x, hx0, hx1, rfl, hr, hg⟩; have HG := Lib.hid (grow_grow HG.out hg (.inl rfl)); have HR := Lib.hid hr; clear hr hg)))
    all_goals go_ret
    all_goals first
      | exact ⟨St s, Nat.le_trans HS.out (by omega), rfl, HR.out.mono (by omega), HG.out⟩
      | exact ⟨_, by simp only [ByteArray.size_append, zsz, List.size_toArray, List.length_cons, List.length_nil]; have h1 := HS1.out; have h2 := HS2.out; omega, rfl, HR.out.mono (by omega), HG.out⟩
      | exact ⟨_, by simp only [ByteArray.size_append, zsz, List.size_toArray, List.length_cons, List.length_nil]; have h1 := HS3.out; have h2 := HST.out; omega, rfl, HR.out.mono (by omega), HG.out⟩

theorem l91Shape_any : ∀ d, d ≤ 5 → Sh d
  | 0, _ => l91Shape_zero
  | 1, _ => l91Shape_succ 0 (by omega) (by decide) l91Shape_zero
  | 2, _ => l91Shape_succ 1 (by omega) (by decide) (l91Shape_any 1 (by omega))
  | 3, _ => l91Shape_succ 2 (by omega) (by decide) (l91Shape_any 2 (by omega))
  | 4, _ => l91Shape_succ 3 (by omega) (by decide) (l91Shape_any 3 (by omega))
  | 5, _ => l91Shape_succ 4 (by omega) (by decide) (l91Shape_any 4 (by omega))

set_option maxHeartbeats 8000000 in
set_option maxRecDepth 100000 in
theorem l91Type_any (r : Nat) (B : Option Addr) (n c K : Nat) (w : World) (h : RB w r B n c K) (hk : K + 10000 ≤ 1000000000000) :
    Calls Tryd.prog 51 #[.pointer (some ⟨r, 0, none⟩)] w (DPost w r B n c (K + 10000) 100000) := by
  have HR := Lib.hid h
  have HG : Hid (w.grownBy w (some r)) := World.grownBy.refl _ _
  have HPK : Hid (∀ (w : World) (K : Nat) (m : Int), RB w r B n c K → K ≤ 1000000000000 → 1 ≤ m → m ≤ 1000000 → Calls Tryd.prog 63 #[.pointer (some ⟨r, 0, none⟩), .int .i64 m] w fun e w' => ∃ x : Int, 0 ≤ x ∧ x < m ∧ e = .returned (.int .i64 x) ∧ RB w' r B n c (K + 1) ∧ w.grownBy w' (some r)) := fun w K m h hk h1 h2 => pick_rb r B n c K m w h hk h1 h2
  have HKN : Hid (∀ (w : World) (K : Nat), RB w r B n c K → K ≤ 1000000000000 → Calls Tryd.prog 79 #[.pointer (some ⟨r, 0, none⟩)] w (DPost w r B n c (K + 1) 1000)) := fun w K h hk => l91Known_any r B n c K w h hk
  have HOF : Hid (∀ (w : World) (K : Nat), RB w r B n c K → K ≤ 1000000000000 → Calls Tryd.prog 64 #[.pointer (some ⟨r, 0, none⟩), .slice (some ⟨w.heap.size, 0, none⟩) 9 9] (w.alloc (.cells #[.string ⟨#[]⟩, .string ⟨#[97]⟩, .string ⟨#[40, 43, 32, 49, 41]⟩, .string ⟨#[40, 114, 101, 99, 32, 120, 32, 49, 41]⟩, .string ⟨#[40, 114, 101, 99, 32, 116, 41]⟩, .string ⟨#[40, 43, 32, 32, 49, 32, 49, 41]⟩, .string ⟨#[40, 42, 32, 49, 32, 49, 32, 49, 41]⟩, .string ⟨#[116, 49, 48, 48]⟩, .string ⟨#[120, 32, 49]⟩] 9)) fun e w' => ∃ s : ByteArray, s.size ≤ 1000 ∧ e = .returned (.string s) ∧ RB w' r B n c (K + 1) ∧ w.grownBy w' (some r)) := fun w K h hk => (of_list r B n c K [[], [97], [40, 43, 32, 49, 41], [40, 114, 101, 99, 32, 120, 32, 49, 41], [40, 114, 101, 99, 32, 116, 41], [40, 43, 32, 32, 49, 32, 49, 41], [40, 42, 32, 49, 32, 49, 32, 49, 41], [116, 49, 48, 48], [120, 32, 49]] _ rfl (by simp) (by decide) (by decide) w h hk).mono fun e w' ⟨s, _, h1, h2, h3, h4⟩ => ⟨St s, h1, h2, h3, h4⟩
  have HS2 : Hid (∀ (w : World) (K : Nat), RB w r B n c K → K + 9000 ≤ 1000000000000 → Calls Tryd.prog 80 #[.pointer (some ⟨r, 0, none⟩), .slice (some ⟨w.heap.size, 0, none⟩) 2 2, .int .i64 2] (w.alloc (.cells #[.string ⟨#[116]⟩, .string ⟨#[116, 49]⟩] 9)) fun e w' => ∃ s : ByteArray, s.size ≤ 100000 ∧ e = .returned (.string s) ∧ RB w' r B n c (K + 9000) ∧ w.grownBy w' (some r)) := fun w K h hk => by
    refine (l91Shape_any 2 (by omega) r B n c K _ 2 [[116], [116, 49]] _ (h.up (up1 w _)) (by simp only [SK]; omega) (far_new w r h.lt [[116], [116, 49]] _ rfl _) (by decide) (by decide)).mono ?_
    rintro e w' ⟨s, h1, h2, h3, h4⟩
    exact ⟨s, Nat.le_trans h1 (by decide), h2, h3.mono (by simp only [SK]; omega), up_grow (up1 w _) h4⟩
  have HS3 : Hid (∀ (w : World) (K : Nat), RB w r B n c K → K + 9000 ≤ 1000000000000 → Calls Tryd.prog 80 #[.pointer (some ⟨r, 0, none⟩), .slice (some ⟨w.heap.size, 0, none⟩) 0 0, .int .i64 3] (w.alloc (.cells #[] 9)) fun e w' => ∃ s : ByteArray, s.size ≤ 100000 ∧ e = .returned (.string s) ∧ RB w' r B n c (K + 9000) ∧ w.grownBy w' (some r)) := fun w K h hk => by
    refine (l91Shape_any 3 (by omega) r B n c K _ 0 [] _ (h.up (up1 w _)) (by simp only [SK]; omega) (.inl rfl) (by simp) (by decide)).mono ?_
    rintro e w' ⟨s, h1, h2, h3, h4⟩
    exact ⟨s, Nat.le_trans h1 (by decide), h2, h3.mono (by simp only [SK]; omega), up_grow (up1 w _) h4⟩
  clear h
  go_enter Tryd.func51, Tryd.ntmps51
  go_wp2_with (first
    | (go_at_call 63; (with_reducible refine (HPK.out _ _ _ HR.out (by omega) (by decide) (by decide)).mono ?_); rintro e w1 ⟨x, hx0, hx1, rfl, hr, hg⟩; have HG := Lib.hid (grow_grow HG.out hg (.inl rfl)); have HR := Lib.hid hr; clear hr hg)
    | (go_at_call 79; (with_reducible refine (HKN.out _ _ HR.out (by omega)).mono ?_); rintro e w1 ⟨s, hs, rfl, hr, hg⟩; have HS := Lib.hid (show s.size ≤ 100000 by omega); have HG := Lib.hid (grow_grow HG.out hg (.inl rfl)); have HR := Lib.hid hr; clear hr hg)
    | (go_at_call 64; (with_reducible refine (HOF.out _ _ HR.out (by omega)).mono ?_); rintro e w1 ⟨s, hs, rfl, hr, hg⟩; have HS := Lib.hid (show s.size ≤ 100000 by omega); have HG := Lib.hid (grow_grow HG.out hg (.inl rfl)); have HR := Lib.hid hr; clear hr hg)
    | (go_at_call 80; first
      | ((with_reducible refine (HS2.out _ _ HR.out (by omega)).mono ?_); rintro e w1 ⟨s, hs, rfl, hr, hg⟩; have HS := Lib.hid hs; have HG := Lib.hid (grow_grow HG.out hg (.inl rfl)); have HR := Lib.hid hr; clear hr hg)
      | ((with_reducible refine (HS3.out _ _ HR.out (by omega)).mono ?_); rintro e w1 ⟨s, hs, rfl, hr, hg⟩; have HS := Lib.hid hs; have HG := Lib.hid (grow_grow HG.out hg (.inl rfl)); have HR := Lib.hid hr; clear hr hg)))
  all_goals go_ret
  all_goals exact ⟨s, HS.out, rfl, HR.out.mono (by omega), HG.out⟩

end Go.Proofs.YtmghnibnokkjjaaDoor
