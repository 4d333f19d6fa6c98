/- Drawings of types, tightly bounded. -/
import Derived.Test.YtkciljcligohnaaDoorMJ
namespace Go.Proofs.YtkciljcligohnaaDoor
open Go.RowKit
set_option linter.unusedVariables false
set_option linter.unusedSimpArgs false

theorem of_listM (M : Nat) (r : Nat) (B : Option Addr) (n c K : Nat) (ls : List (List UInt8)) (cs : Array Value) (hcs : cs = (strs ls).toArray) (hl : ls ≠ []) (hl2 : ls.length ≤ 1000) (hsm : ∀ l ∈ ls, l.length ≤ M) (w : World) (h : RB w r B n c K) (hk : K ≤ 1000000000000) :
    Calls Tryd.prog 67 #[.pointer (some ⟨r, 0, none⟩), .slice (some ⟨w.heap.size, 0, none⟩) ls.length ls.length] (w.alloc (.cells cs 9)) fun e w' => ∃ s ∈ ls, s.length ≤ M ∧ e = .returned (.string (St s)) ∧ RB w' r B n c (K + 1) ∧ w.grownBy w' (some r) := by
  refine (of_any r B n c K _ ls.length ls _ (h.up (up1 w _)) hk (far_new w r h.lt ls cs hcs _) hl (by omega)).mono ?_
  rintro e w' ⟨s, hs, he, hr, hg⟩
  exact ⟨s, hs, hsm s hs, he, hr, up_grow (up1 w _) hg⟩

set_option maxHeartbeats 2000000 in
set_option maxRecDepth 100000 in
theorem l91KnownT_any (r : Nat) (B : Option Addr) (n c K : Nat) (w : World) (h : RB w r B n c K) (hk : K ≤ 1000000000000) :
    Calls Tryd.prog 88 #[.pointer (some ⟨r, 0, none⟩)] w (DPost w r B n c (K + 1) 50) := by
  have HP : Hid (∀ cs, cs = (strs knowns).toArray → Calls Tryd.prog 67 #[.pointer (some ⟨r, 0, none⟩), .slice (some ⟨w.heap.size, 0, none⟩) 7 7] (w.alloc (.cells cs 9)) fun e w' => ∃ s ∈ knowns, e = .returned (.string (St s)) ∧ RB w' r B n c (K + 1) ∧ (w.alloc (.cells cs 9)).grownBy w' (some r)) := fun cs hcs => of_any r B n c K _ 7 knowns _ (h.up (up1 w _)) hk (far_new w r h.lt knowns cs hcs _) (by simp [knowns]) (by decide)
  have HK : Hid (∀ s ∈ knowns, s.length ≤ 50) := by show ∀ s ∈ knowns, s.length ≤ 50; decide
  clear h hk
  go_enter Tryd.func88, Tryd.ntmps88
  go_wp2_with (go_at_call 67; refine (HP.out _ rfl).mono ?_; rintro e w1 ⟨s, hs, rfl, hr, hg⟩; have HR := Lib.hid hr; have HG := Lib.hid hg; have HS := Lib.hid hs; clear hr hg hs)
  go_ret
  exact ⟨St s, HK.out s HS.out, rfl, HR.out, up_grow (up1 w _) HG.out⟩

def ST : Nat → Nat
  | 0 => 3
  | d + 1 => 2 * ST d + 16
def ShT (d : Nat) : Prop := ∀ (r : Nat) (B : Option Addr) (n c K : Nat) (A : Option Addr) (c2 : Nat) (ls : List (List UInt8)) (w : World), RB w r B n c K → K + SK d ≤ 1000000000000 → SFar w A r ls → (∀ l ∈ ls, l.length ≤ 3) → ls.length + d ≤ 1000 →
  Calls Tryd.prog 89 #[.pointer (some ⟨r, 0, none⟩), .slice A ls.length c2, .int .i64 d] w (DPost w r B n c (K + SK d) (ST d))

set_option maxHeartbeats 4000000 in
set_option maxRecDepth 100000 in
theorem l91ShapeT_zero : ShT 0 := by
  intro r B n c K A c2 ls w h hK hA hls hn
  have HR := Lib.hid h
  have HG : Hid (w.grownBy w (some r)) := World.grownBy.refl _ _
  have HPK : Hid (∀ (w : World) (K : Nat) (m : Int), RB w r B n c K → K ≤ 1000000000000 → 1 ≤ m → m ≤ 1000000 → Calls Tryd.prog 60 #[.pointer (some ⟨r, 0, none⟩), .int .i64 m] w fun e w' => ∃ x : Int, 0 ≤ x ∧ x < m ∧ e = .returned (.int .i64 x) ∧ RB w' r B n c (K + 1) ∧ w.grownBy w' (some r)) := fun w K m h hk h1 h2 => pick_rb r B n c K m w h hk h1 h2
  have HOF : Hid (∀ (w : World) (K : Nat), RB w r B n c K → K ≤ 1000000000000 → Calls Tryd.prog 67 #[.pointer (some ⟨r, 0, none⟩), .slice (some ⟨w.heap.size, 0, none⟩) 6 6] (w.alloc (.cells #[.string ⟨#[120]⟩, .string ⟨#[49]⟩, .string ⟨#[120]⟩, .string ⟨#[121]⟩, .string ⟨#[48]⟩, .string ⟨#[49]⟩] 9)) fun e w' => ∃ s ∈ ([[120], [49], [120], [121], [48], [49]] : List (List UInt8)), s.length ≤ 3 ∧ e = .returned (.string (St s)) ∧ RB w' r B n c (K + 1) ∧ w.grownBy w' (some r)) := fun w K h hk => of_listM 3 r B n c K [[120], [49], [120], [121], [48], [49]] _ rfl (by simp) (by decide) (by decide) w h hk
  have hK2 : K + 10 ≤ 1000000000000 := hK
  by_cases hl0 : ls = []
  · subst hl0
    show Calls Tryd.prog 89 #[.pointer (some ⟨r, 0, none⟩), .slice A 0 c2, .int .i64 0] w (DPost w r B n c (K + 10) 3)
    clear h hA hls hn hK
    go_enter Tryd.func89, Tryd.ntmps89
    go_wp2_with (go_at_call 67; refine (HOF.out _ _ HR.out (by omega)).mono ?_; rintro e w1 ⟨s, _, hs, rfl, hr, hg⟩; have HG := Lib.hid (grow_grow HG.out hg (.inl rfl)); have HR := Lib.hid hr; clear hr hg)
    go_ret
    exact ⟨St s, hs, rfl, HR.out.mono (by omega), HG.out⟩
  · have hpos : 0 < ls.length := List.length_pos_iff.2 hl0
    have hpos2 : decide (0 < ls.length) = true := decide_eq_true hpos
    have hn2 : ls.length ≤ 1000 := by omega
    rcases hA with hA | ⟨g, o, rfl, hne, hlt, hA⟩
    · exact absurd hA hl0
    have HC : Hid (∀ (w' : World) (x : Int), w.grownBy w' (some r) → 0 ≤ x → x < (ls.length : Int) → ∃ (i : Nat) (s : List UInt8), x = (i : Int) ∧ i < ls.length ∧ s.length ≤ 3 ∧ w'.cell? ⟨g, o + i, none⟩ = some (.string (St s))) := fun w' x hg h0 h1 => by
      have hi : x.toNat < ls.length := by omega
      refine ⟨x.toNat, ls[x.toNat], by omega, hi, hls _ (List.getElem_mem _), ?_⟩
      exact (hg.cell_far ⟨g, o + x.toNat, none⟩ hlt (by simp; exact hne)).trans (hA x.toNat _ (List.getElem?_eq_getElem hi))
    show Calls Tryd.prog 89 #[.pointer (some ⟨r, 0, none⟩), .slice (some ⟨g, o, none⟩) ls.length c2, .int .i64 0] w (DPost w r B n c (K + 10) 3)
    clear h hA hls hn hK hne hlt hl0
    generalize ls.length = m at *
    go_enter Tryd.func89, Tryd.ntmps89
    go_wp2_with (first
      | (go_at_call 67; refine (HOF.out _ _ HR.out (by omega)).mono ?_; rintro e w1 ⟨s, _, hs, rfl, hr, hg⟩; have HG := Lib.hid (grow_grow HG.out hg (.inl rfl)); have HR := Lib.hid hr; clear hr hg)
      | (go_at_call 60; first
        | ((with_reducible refine (HPK.out _ _ (m : Int) HR.out (by omega) (by omega) (by omega)).mono ?_); rintro e w1 ⟨x, hx0, hx1, rfl, hr, hg⟩; have HG := Lib.hid (grow_grow HG.out hg (.inl rfl)); have HR := Lib.hid hr; obtain ⟨i, s, rfl, hi, hs, hcell⟩ := HC.out w1 x HG.out hx0 hx1; clear hr hg)
        | ((with_reducible refine (HPK.out _ _ _ HR.out (by omega) (by decide) (by decide)).mono ?_); rintro e w1 ⟨x, hx0, hx1, rfl, hr, hg⟩; have HG := Lib.hid (grow_grow HG.out hg (.inl rfl)); have HR := Lib.hid hr; clear hr hg)))
    all_goals go_ret
    all_goals exact ⟨St s, hs, rfl, HR.out.mono (by omega), HG.out⟩

set_option maxHeartbeats 4000000 in
set_option maxRecDepth 100000 in
theorem l91ShapeT_succ (d : Nat) (hd : d ≤ 100) (hss : ST d ≤ 1000000) (ih : ShT d) : ShT (d + 1) := by
  intro r B n c K A c2 ls w h hK hA hls hn
  have HR := Lib.hid h
  have HG : Hid (w.grownBy w (some r)) := World.grownBy.refl _ _
  have HPK : Hid (∀ (w : World) (K : Nat) (m : Int), RB w r B n c K → K ≤ 1000000000000 → 1 ≤ m → m ≤ 1000000 → Calls Tryd.prog 60 #[.pointer (some ⟨r, 0, none⟩), .int .i64 m] w fun e w' => ∃ x : Int, 0 ≤ x ∧ x < m ∧ e = .returned (.int .i64 x) ∧ RB w' r B n c (K + 1) ∧ w.grownBy w' (some r)) := fun w K m h hk h1 h2 => pick_rb r B n c K m w h hk h1 h2
  have HOF : Hid (∀ (w : World) (K : Nat), RB w r B n c K → K ≤ 1000000000000 → Calls Tryd.prog 67 #[.pointer (some ⟨r, 0, none⟩), .slice (some ⟨w.heap.size, 0, none⟩) 6 6] (w.alloc (.cells #[.string ⟨#[120]⟩, .string ⟨#[49]⟩, .string ⟨#[120]⟩, .string ⟨#[121]⟩, .string ⟨#[48]⟩, .string ⟨#[49]⟩] 9)) fun e w' => ∃ s ∈ ([[120], [49], [120], [121], [48], [49]] : List (List UInt8)), s.length ≤ 3 ∧ e = .returned (.string (St s)) ∧ RB w' r B n c (K + 1) ∧ w.grownBy w' (some r)) := fun w K h hk => of_listM 3 r B n c K [[120], [49], [120], [121], [48], [49]] _ rfl (by simp) (by decide) (by decide) w h hk
  have HOT : Hid (∀ (w : World) (K : Nat), RB w r B n c K → K ≤ 1000000000000 → Calls Tryd.prog 67 #[.pointer (some ⟨r, 0, none⟩), .slice (some ⟨w.heap.size, 0, none⟩) 3 3] (w.alloc (.cells #[.string ⟨#[116]⟩, .string ⟨#[116, 49]⟩, .string ⟨#[116, 48]⟩] 9)) fun e w' => ∃ s : ByteArray, s.size ≤ 3 ∧ e = .returned (.string s) ∧ RB w' r B n c (K + 1) ∧ w.grownBy w' (some r)) := fun w K h hk => (of_listM 3 r B n c K [[116], [116, 49], [116, 48]] _ rfl (by simp) (by decide) (by decide) w h hk).mono fun e w' ⟨s, _, h1, h2, h3, h4⟩ => ⟨St s, h1, h2, h3, h4⟩
  have HSH : Hid (∀ (w : World) (K : Nat) (A : Option Addr) (c2 : Nat) (ls : List (List UInt8)), RB w r B n c K → K + SK d ≤ 1000000000000 → SFar w A r ls → (∀ l ∈ ls, l.length ≤ 3) → ls.length + d ≤ 1000 → Calls Tryd.prog 89 #[.pointer (some ⟨r, 0, none⟩), .slice A ls.length c2, .int .i64 d] w (DPost w r B n c (K + SK d) (ST d))) := fun w K A c2 ls h1 h2 h3 h4 h5 => ih r B n c K A c2 ls w h1 h2 h3 h4 h5
  have HSA : Hid (∀ (w1 : World) (K : Nat), w.grownBy w1 (some r) → RB w1 r B n c K → K + SK d ≤ 1000000000000 → Calls Tryd.prog 89 #[.pointer (some ⟨r, 0, none⟩), .slice A ls.length c2, .int .i64 d] w1 (DPost w1 r B n c (K + SK d) (ST d))) := fun w1 K hg h1 h2 => ih r B n c K A c2 ls w1 h1 h2 (hA.grown hg (.inl rfl)) hls (by omega)
  have HWI : Hid (∀ (w1 : World) (s : ByteArray), w.grownBy w1 (some r) → r < w1.heap.size → s.size ≤ 3 → Calls Tryd.prog 94 #[.slice A ls.length c2, .string s] w1 fun e w2 => ∃ g cc, e = .returned (.slice (some ⟨g, 0, none⟩) (ls.length + 1) cc) ∧ Below w1.heap.size w1 w2 ∧ (∀ (w3 : World) (K : Nat), w3 = w2 → RB w3 r B n c K → K + SK d ≤ 1000000000000 → Calls Tryd.prog 89 #[.pointer (some ⟨r, 0, none⟩), .slice (some ⟨g, 0, none⟩) (ls.length + 1) cc, .int .i64 d] w3 (DPost w3 r B n c (K + SK d) (ST d)))) := fun w1 s hg hr hs => by
    refine (l1With_any ls A c2 s.data.toList w1 (by omega) (hA.grown hg (.inl rfl)).cells).mono ?_
    rintro e w2 ⟨hb, g, cc, he, ho⟩
    refine ⟨g, cc, by rw [he]; simp, hb, ?_⟩
    rintro w3 K rfl h1 h2
    have hlen : (ls ++ [s.data.toList]).length = ls.length + 1 := by simp
    have hgl := ho.lt
    have hfar : SFar w3 (some ⟨g, 0, none⟩) r (ls ++ [s.data.toList]) := by
      rcases ho.reads with hr0 | ⟨g', o', he', hcell⟩
      · simp at hr0
      · cases he'
        exact .inr ⟨g, 0, rfl, by omega, hgl.2, hcell⟩
    have := ih r B n c K (some ⟨g, 0, none⟩) cc (ls ++ [s.data.toList]) w3 h1 h2 hfar (by intro l hl; simp at hl; rcases hl with hl | rfl; exact hls l hl; rw [size_list]; exact hs) (by rw [hlen]; omega)
    rw [hlen] at this
    exact this
  have hd1 : decide ((d : Int) + 1 ≤ 0) = false := decide_eq_false (by omega)
  have hdd : (d : Int) ≤ 100 := by omega
  rw [show SK (d + 1) = 2 * SK d + 10 from rfl, show ST (d + 1) = 2 * ST d + 16 from rfl]
  have hK2 : K + (2 * SK d + 10) ≤ 1000000000000 := hK
  rw [show (((d + 1 : Nat) : Int)) = (d : Int) + 1 by simp]
  clear ih hK
  generalize SK d = sk at *
  generalize ST d = ss at *
  by_cases hl0 : ls = []
  · have hpos2 : decide (0 < ls.length) = false := decide_eq_false (by rw [hl0]; simp)
    clear h hA hls hn hl0 HSH
    generalize ls.length = m at *
    go_enter Tryd.func89, Tryd.ntmps89
    go_wp2_with (first
      | (go_at_call 67; first
        | ((with_reducible refine (HOF.out _ _ HR.out (by omega)).mono ?_); rintro e w1 ⟨s, _, hs, rfl, hr, hg⟩; have HS := Lib.hid hs; have HG := Lib.hid (grow_grow HG.out hg (.inl rfl)); have HR := Lib.hid hr; clear hr hg hs)
        | ((with_reducible refine (HOT.out _ _ HR.out (by omega)).mono ?_); rintro e w1 ⟨st, hst, rfl, hr, hg⟩; have HST := Lib.hid hst; have HG := Lib.hid (grow_grow HG.out hg (.inl rfl)); have HR := Lib.hid hr; clear hr hg))
      | (go_at_call 94; (with_reducible refine (HWI.out _ st HG.out HR.out.lt HST.out).mono ?_); rintro e w1 ⟨gw, cw, rfl, hb, hsh⟩; have HSW := Lib.hid hsh; have HG := Lib.hid (grow_up HG.out hb); have HR := Lib.hid (HR.out.up hb); clear hb hsh)
      | (go_at_call 89; first
        | ((with_reducible refine (HSW.out _ _ rfl HR.out (by omega)).mono ?_); rintro e w1 ⟨s3, hs3, rfl, hr, hg⟩; have HS3 := Lib.hid hs3; have HG := Lib.hid (grow_grow HG.out hg (.inl rfl)); have HR := Lib.hid hr; clear hr hg)
        | (have hh1 := HS1.out; clear hh1; (with_reducible refine (HSA.out _ _ HG.out HR.out (by omega)).mono ?_); rintro e w1 ⟨s2, hs2, rfl, hr, hg⟩; have HS2 := Lib.hid hs2; have HG := Lib.hid (grow_grow HG.out hg (.inl rfl)); have HR := Lib.hid hr; clear hr hg)
        | ((with_reducible refine (HSA.out _ _ HG.out HR.out (by omega)).mono ?_); rintro e w1 ⟨s1, hs1, rfl, hr, hg⟩; have HS1 := Lib.hid hs1; have HG := Lib.hid (grow_grow HG.out hg (.inl rfl)); have HR := Lib.hid hr; clear hr hg))
      | (go_at_call 60; first
        | ((with_reducible refine (HPK.out _ _ _ HR.out (by omega) (by decide) (by decide)).mono ?_); rintro e w1 ⟨x, hx0, hx1, rfl, hr, hg⟩; have HG := Lib.hid (grow_grow HG.out hg (.inl rfl)); have HR := Lib.hid hr; clear hr hg)))
    all_goals go_ret
    all_goals first
      | exact ⟨St s, Nat.le_trans HS.out (by omega), rfl, HR.out.mono (by omega), HG.out⟩
      | exact ⟨_, by simp only [ByteArray.size_append, zsz, List.size_toArray, List.length_cons, List.length_nil]; have h1 := HS1.out; have h2 := HS2.out; omega, rfl, HR.out.mono (by omega), HG.out⟩
      | exact ⟨_, by simp only [ByteArray.size_append, zsz, List.size_toArray, List.length_cons, List.length_nil]; have h1 := HS3.out; have h2 := HST.out; omega, rfl, HR.out.mono (by omega), HG.out⟩
  · have hpos : 0 < ls.length := List.length_pos_iff.2 hl0
    have hpos2 : decide (0 < ls.length) = true := decide_eq_true hpos
    have hn2 : ls.length ≤ 1000 := by omega
    rcases hA with hA | ⟨g, o, rfl, hne, hlt, hA⟩
    · exact absurd hA hl0
    have HC : Hid (∀ (w' : World) (x : Int), w.grownBy w' (some r) → 0 ≤ x → x < (ls.length : Int) → ∃ (i : Nat) (s : List UInt8), x = (i : Int) ∧ i < ls.length ∧ s.length ≤ 3 ∧ w'.cell? ⟨g, o + i, none⟩ = some (.string (St s))) := fun w' x hg h0 h1 => by
      have hi : x.toNat < ls.length := by omega
      refine ⟨x.toNat, ls[x.toNat], by omega, hi, hls _ (List.getElem_mem _), ?_⟩
      exact (hg.cell_far ⟨g, o + x.toNat, none⟩ hlt (by simp; exact hne)).trans (hA x.toNat _ (List.getElem?_eq_getElem hi))
    clear h hA hls hn hne hlt hl0 HSH
    generalize ls.length = m at *
    go_enter Tryd.func89, Tryd.ntmps89
    go_wp2_with (first
      | (go_at_call 67; first
        | ((with_reducible refine (HOF.out _ _ HR.out (by omega)).mono ?_); rintro e w1 ⟨s, _, hs, rfl, hr, hg⟩; have HS := Lib.hid hs; have HG := Lib.hid (grow_grow HG.out hg (.inl rfl)); have HR := Lib.hid hr; clear hr hg hs)
        | ((with_reducible refine (HOT.out _ _ HR.out (by omega)).mono ?_); rintro e w1 ⟨st, hst, rfl, hr, hg⟩; have HST := Lib.hid hst; have HG := Lib.hid (grow_grow HG.out hg (.inl rfl)); have HR := Lib.hid hr; clear hr hg))
      | (go_at_call 94; (with_reducible refine (HWI.out _ st HG.out HR.out.lt HST.out).mono ?_); rintro e w1 ⟨gw, cw, rfl, hb, hsh⟩; have HSW := Lib.hid hsh; have HG := Lib.hid (grow_up HG.out hb); have HR := Lib.hid (HR.out.up hb); clear hb hsh)
      | (go_at_call 89; first
        | ((with_reducible refine (HSW.out _ _ rfl HR.out (by omega)).mono ?_); rintro e w1 ⟨s3, hs3, rfl, hr, hg⟩; have HS3 := Lib.hid hs3; have HG := Lib.hid (grow_grow HG.out hg (.inl rfl)); have HR := Lib.hid hr; clear hr hg)
        | (have hh1 := HS1.out; clear hh1; (with_reducible refine (HSA.out _ _ HG.out HR.out (by omega)).mono ?_); rintro e w1 ⟨s2, hs2, rfl, hr, hg⟩; have HS2 := Lib.hid hs2; have HG := Lib.hid (grow_grow HG.out hg (.inl rfl)); have HR := Lib.hid hr; clear hr hg)
        | ((with_reducible refine (HSA.out _ _ HG.out HR.out (by omega)).mono ?_); rintro e w1 ⟨s1, hs1, rfl, hr, hg⟩; have HS1 := Lib.hid hs1; have HG := Lib.hid (grow_grow HG.out hg (.inl rfl)); have HR := Lib.hid hr; clear hr hg))
      | (go_at_call 60; first
        | ((with_reducible refine (HPK.out _ _ (m : Int) HR.out (by omega) (by omega) (by omega)).mono ?_); rintro e w1 ⟨x, hx0, hx1, rfl, hr, hg⟩; have HG := Lib.hid (grow_grow HG.out hg (.inl rfl)); have HR := Lib.hid hr; obtain ⟨i, s, rfl, hi, hs, hcell⟩ := HC.out w1 x HG.out hx0 hx1; have HS := Lib.hid hs; clear hr hg hs)
        | ((with_reducible refine (HPK.out _ _ _ HR.out (by omega) (by decide) (by decide)).mono ?_); rintro e w1 ⟨x, hx0, hx1, rfl, hr, hg⟩; have HG := Lib.hid (grow_grow HG.out hg (.inl rfl)); have HR := Lib.hid hr; clear hr hg)))
    all_goals go_ret
    all_goals first
      | exact ⟨St s, Nat.le_trans HS.out (by omega), rfl, HR.out.mono (by omega), HG.out⟩
      | exact ⟨_, by simp only [ByteArray.size_append, zsz, List.size_toArray, List.length_cons, List.length_nil]; have h1 := HS1.out; have h2 := HS2.out; omega, rfl, HR.out.mono (by omega), HG.out⟩
      | exact ⟨_, by simp only [ByteArray.size_append, zsz, List.size_toArray, List.length_cons, List.length_nil]; have h1 := HS3.out; have h2 := HST.out; omega, rfl, HR.out.mono (by omega), HG.out⟩

theorem l91ShapeT_any : ∀ d, d ≤ 5 → ShT d
  | 0, _ => l91ShapeT_zero
  | 1, _ => l91ShapeT_succ 0 (by omega) (by decide) l91ShapeT_zero
  | 2, _ => l91ShapeT_succ 1 (by omega) (by decide) (l91ShapeT_any 1 (by omega))
  | 3, _ => l91ShapeT_succ 2 (by omega) (by decide) (l91ShapeT_any 2 (by omega))
  | 4, _ => l91ShapeT_succ 3 (by omega) (by decide) (l91ShapeT_any 3 (by omega))
  | 5, _ => l91ShapeT_succ 4 (by omega) (by decide) (l91ShapeT_any 4 (by omega))

set_option maxHeartbeats 8000000 in
set_option maxRecDepth 100000 in
theorem l91TypeT_any (r : Nat) (B : Option Addr) (n c K : Nat) (w : World) (h : RB w r B n c K) (hk : K + 10000 ≤ 1000000000000) :
    Calls Tryd.prog 59 #[.pointer (some ⟨r, 0, none⟩)] w (DPost w r B n c (K + 10000) 200) := by
  have HR := Lib.hid h
  have HG : Hid (w.grownBy w (some r)) := World.grownBy.refl _ _
  have HPK : Hid (∀ (w : World) (K : Nat) (m : Int), RB w r B n c K → K ≤ 1000000000000 → 1 ≤ m → m ≤ 1000000 → Calls Tryd.prog 60 #[.pointer (some ⟨r, 0, none⟩), .int .i64 m] w fun e w' => ∃ x : Int, 0 ≤ x ∧ x < m ∧ e = .returned (.int .i64 x) ∧ RB w' r B n c (K + 1) ∧ w.grownBy w' (some r)) := fun w K m h hk h1 h2 => pick_rb r B n c K m w h hk h1 h2
  have HKN : Hid (∀ (w : World) (K : Nat), RB w r B n c K → K ≤ 1000000000000 → Calls Tryd.prog 88 #[.pointer (some ⟨r, 0, none⟩)] w (DPost w r B n c (K + 1) 50)) := fun w K h hk => l91KnownT_any r B n c K w h hk
  have HOF : Hid (∀ (w : World) (K : Nat), RB w r B n c K → K ≤ 1000000000000 → Calls Tryd.prog 67 #[.pointer (some ⟨r, 0, none⟩), .slice (some ⟨w.heap.size, 0, none⟩) 9 9] (w.alloc (.cells #[.string ⟨#[]⟩, .string ⟨#[97]⟩, .string ⟨#[40, 43, 32, 49, 41]⟩, .string ⟨#[40, 114, 101, 99, 32, 120, 32, 49, 41]⟩, .string ⟨#[40, 114, 101, 99, 32, 116, 41]⟩, .string ⟨#[40, 43, 32, 32, 49, 32, 49, 41]⟩, .string ⟨#[40, 42, 32, 49, 32, 49, 32, 49, 41]⟩, .string ⟨#[116, 49, 48, 48]⟩, .string ⟨#[120, 32, 49]⟩] 9)) fun e w' => ∃ s : ByteArray, s.size ≤ 50 ∧ e = .returned (.string s) ∧ RB w' r B n c (K + 1) ∧ w.grownBy w' (some r)) := fun w K h hk => (of_listM 50 r B n c K [[], [97], [40, 43, 32, 49, 41], [40, 114, 101, 99, 32, 120, 32, 49, 41], [40, 114, 101, 99, 32, 116, 41], [40, 43, 32, 32, 49, 32, 49, 41], [40, 42, 32, 49, 32, 49, 32, 49, 41], [116, 49, 48, 48], [120, 32, 49]] _ rfl (by simp) (by decide) (by decide) w h hk).mono fun e w' ⟨s, _, h1, h2, h3, h4⟩ => ⟨St s, h1, h2, h3, h4⟩
  have HS2 : Hid (∀ (w : World) (K : Nat), RB w r B n c K → K + 9000 ≤ 1000000000000 → Calls Tryd.prog 89 #[.pointer (some ⟨r, 0, none⟩), .slice (some ⟨w.heap.size, 0, none⟩) 2 2, .int .i64 2] (w.alloc (.cells #[.string ⟨#[116]⟩, .string ⟨#[116, 49]⟩] 9)) fun e w' => ∃ s : ByteArray, s.size ≤ 200 ∧ e = .returned (.string s) ∧ RB w' r B n c (K + 9000) ∧ w.grownBy w' (some r)) := fun w K h hk => by
    refine (l91ShapeT_any 2 (by omega) r B n c K _ 2 [[116], [116, 49]] _ (h.up (up1 w _)) (by simp only [SK]; omega) (far_new w r h.lt [[116], [116, 49]] _ rfl _) (by decide) (by decide)).mono ?_
    rintro e w' ⟨s, h1, h2, h3, h4⟩
    exact ⟨s, Nat.le_trans h1 (by decide), h2, h3.mono (by simp only [SK]; omega), up_grow (up1 w _) h4⟩
  have HS3 : Hid (∀ (w : World) (K : Nat), RB w r B n c K → K + 9000 ≤ 1000000000000 → Calls Tryd.prog 89 #[.pointer (some ⟨r, 0, none⟩), .slice (some ⟨w.heap.size, 0, none⟩) 0 0, .int .i64 3] (w.alloc (.cells #[] 9)) fun e w' => ∃ s : ByteArray, s.size ≤ 200 ∧ e = .returned (.string s) ∧ RB w' r B n c (K + 9000) ∧ w.grownBy w' (some r)) := fun w K h hk => by
    refine (l91ShapeT_any 3 (by omega) r B n c K _ 0 [] _ (h.up (up1 w _)) (by simp only [SK]; omega) (.inl rfl) (by simp) (by decide)).mono ?_
    rintro e w' ⟨s, h1, h2, h3, h4⟩
    exact ⟨s, Nat.le_trans h1 (by decide), h2, h3.mono (by simp only [SK]; omega), up_grow (up1 w _) h4⟩
  clear h
  go_enter Tryd.func59, Tryd.ntmps59
  go_wp2_with (first
    | (go_at_call 60; (with_reducible refine (HPK.out _ _ _ HR.out (by omega) (by decide) (by decide)).mono ?_); rintro e w1 ⟨x, hx0, hx1, rfl, hr, hg⟩; have HG := Lib.hid (grow_grow HG.out hg (.inl rfl)); have HR := Lib.hid hr; clear hr hg)
    | (go_at_call 88; (with_reducible refine (HKN.out _ _ HR.out (by omega)).mono ?_); rintro e w1 ⟨s, hs, rfl, hr, hg⟩; have HS := Lib.hid (show s.size ≤ 200 by omega); have HG := Lib.hid (grow_grow HG.out hg (.inl rfl)); have HR := Lib.hid hr; clear hr hg)
    | (go_at_call 67; (with_reducible refine (HOF.out _ _ HR.out (by omega)).mono ?_); rintro e w1 ⟨s, hs, rfl, hr, hg⟩; have HS := Lib.hid (show s.size ≤ 200 by omega); have HG := Lib.hid (grow_grow HG.out hg (.inl rfl)); have HR := Lib.hid hr; clear hr hg)
    | (go_at_call 89; first
      | ((with_reducible refine (HS2.out _ _ HR.out (by omega)).mono ?_); rintro e w1 ⟨s, hs, rfl, hr, hg⟩; have HS := Lib.hid hs; have HG := Lib.hid (grow_grow HG.out hg (.inl rfl)); have HR := Lib.hid hr; clear hr hg)
      | ((with_reducible refine (HS3.out _ _ HR.out (by omega)).mono ?_); rintro e w1 ⟨s, hs, rfl, hr, hg⟩; have HS := Lib.hid hs; have HG := Lib.hid (grow_grow HG.out hg (.inl rfl)); have HR := Lib.hid hr; clear hr hg)))
  all_goals go_ret
  all_goals exact ⟨s, HS.out, rfl, HR.out.mono (by omega), HG.out⟩

end Go.Proofs.YtkciljcligohnaaDoor
