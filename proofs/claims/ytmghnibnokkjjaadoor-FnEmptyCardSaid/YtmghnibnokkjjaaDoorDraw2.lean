/- Drawing: of, l6Open, l91Known, l91Shape, l91Type. -/
import Derived.Test.YtmghnibnokkjjaaDoorDraw
import Derived.Test.YtmghnibnokkjjaaDoorSFree
namespace Go.Proofs.YtmghnibnokkjjaaDoor
open Go.RowKit
set_option linter.unusedVariables false
set_option linter.unusedSimpArgs false

/-- A reader that has picked at most K times. -/
def RB (w : World) (r : Nat) (B : Option Addr) (n c K : Nat) : Prop := ∃ k, k ≤ K ∧ RdAt w r B n c k
theorem RB.mono {w : World} {r : Nat} {B : Option Addr} {n c K K' : Nat} (h : RB w r B n c K) (hk : K ≤ K') : RB w r B n c K' := by
  obtain ⟨k, h1, h2⟩ := h
  exact ⟨k, Nat.le_trans h1 hk, h2⟩
theorem RB.up {w w1 : World} {r : Nat} {B : Option Addr} {n c K : Nat} (h : RB w r B n c K) (hb : Below w.heap.size w w1) : RB w1 r B n c K := by
  obtain ⟨k, h1, h2⟩ := h
  exact ⟨k, h1, h2.up hb⟩
theorem RB.lt {w : World} {r : Nat} {B : Option Addr} {n c K : Nat} (h : RB w r B n c K) : r < w.heap.size := by
  obtain ⟨k, h1, h2⟩ := h
  exact lt_of_block h2.1

theorem pick_rb (r : Nat) (B : Option Addr) (n c K : Nat) (m : Int) (w : World) (h : RB w r B n c K) (hk : K ≤ 1000000000000) (hm : 1 ≤ m) (hm2 : m ≤ 1000000) :
    Calls Tryd.prog 63 #[.pointer (some ⟨r, 0, none⟩), .int .i64 m] w fun e w' => ∃ x : Int, 0 ≤ x ∧ x < m ∧ e = .returned (.int .i64 x) ∧ RB w' r B n c (K + 1) ∧ w.grownBy w' (some r) := by
  obtain ⟨k, h1, h2⟩ := h
  refine (pick_any r B n c k m w h2 (by omega) hm hm2).mono ?_
  rintro e w' ⟨x, hx1, hx2, he, hr, hg⟩
  exact ⟨x, hx1, hx2, he, ⟨k + 1, by omega, hr⟩, hg⟩

set_option maxHeartbeats 2000000 in
theorem of_any (r : Nat) (B : Option Addr) (n c K : Nat) (A : Option Addr) (c2 : Nat) (ls : List (List UInt8)) (w : World) (h : RB w r B n c K) (hk : K ≤ 1000000000000) (hA : SFar w A r ls) (hl : ls ≠ []) (hl2 : ls.length ≤ 1000000) :
    Calls Tryd.prog 64 #[.pointer (some ⟨r, 0, none⟩), .slice A ls.length c2] w fun e w' => ∃ s ∈ ls, e = .returned (.string (St s)) ∧ RB w' r B n c (K + 1) ∧ w.grownBy w' (some r) := by
  have hpos : 0 < ls.length := List.length_pos_iff.2 hl
  have HP := Lib.hid (pick_rb r B n c K (ls.length : Int) w h hk (by omega) (by omega))
  rcases hA with hA | ⟨g, o, rfl, hne, hlt, hA⟩
  · exact absurd hA hl
  have HC : Hid (∀ (w' : World) (x : Int), w.grownBy w' (some r) → 0 ≤ x → x < (ls.length : Int) → ∃ (i : Nat) (s : List UInt8), x = (i : Int) ∧ i < ls.length ∧ s ∈ ls ∧ w'.cell? ⟨g, o + i, none⟩ = some (.string (St s))) := fun w' x hg h0 h1 => by
    have hi : x.toNat < ls.length := by omega
    refine ⟨x.toNat, ls[x.toNat], by omega, hi, List.getElem_mem _, ?_⟩
    exact (hg.cell_far ⟨g, o + x.toNat, none⟩ hlt (by simp; exact hne)).trans (hA x.toNat _ (List.getElem?_eq_getElem hi))
  clear h hk hl hl2 hne hlt hA
  generalize hL : ls.length = m at *
  go_enter Tryd.func64, Tryd.ntmps64
  go_wp2_with (go_at_call 63; refine HP.out.mono ?_; rintro e w1 ⟨x, hx0, hx1, rfl, hr, hg⟩; obtain ⟨i, s, rfl, hi, hs, hcell⟩ := HC.out w1 x hg hx0 hx1; have HR := Lib.hid hr; have HG := Lib.hid hg; have HS := Lib.hid hs; clear hr hg hs)
  go_ret
  exact ⟨s, HS.out, rfl, HR.out, HG.out⟩

set_option maxHeartbeats 2000000 in
theorem l6Open_any (B : Option Addr) (n c : Nat) (w : World) (hc : n ≤ c) (hB : n = 0 ∨ ∃ g o, B = some ⟨g, o, none⟩ ∧ g < w.heap.size ∧ ∀ i, i < n → ∃ b : Nat, b < 256 ∧ w.cell? ⟨g, o + i, none⟩ = some (.int .u8 b)) :
    Calls Tryd.prog 52 #[.slice B n c] w fun e w' => ∃ r B' n' c', e = .returned (.pointer (some ⟨r, 0, none⟩)) ∧ RB w' r B' n' c' 0 ∧ Below w.heap.size w w' ∧ w.heap.size ≤ r := by
  have HN : Hid (∀ (m c' : Nat), m ≤ n → m ≤ 2000 → RB (w.alloc (.cells #[.slice B m c', .int .i64 0] 76)) w.heap.size B m c' 0) := fun m c' hm hm2 => by
    refine ⟨0, Nat.le_refl _, block_new w _, ?_, hm2⟩
    rcases hB with hB | ⟨g, o, rfl, hlt, hB⟩
    · exact .inl (by omega)
    · refine .inr ⟨g, o, rfl, by omega, by simp; omega, fun i hi => ?_⟩
      obtain ⟨b, hb, hcell⟩ := hB i (by omega)
      exact ⟨b, hb, cell_up (up1 w _) hcell⟩
  by_cases hn : 2000 < n
  · have q1 : decide (2000 < n) = true := decide_eq_true hn
    have hB' : ∃ g o, B = some ⟨g, o, none⟩ := by
      rcases hB with hB | ⟨g, o, rfl, _⟩
      · omega
      · exact ⟨g, o, rfl⟩
    obtain ⟨g, o, rfl⟩ := hB'
    have hc2 : 2000 ≤ c := by omega
    clear hB
    go_enter Tryd.func52, Tryd.ntmps52
    go_wp2
    go_ret
    exact ⟨_, _, _, _, rfl, HN.out 2000 _ (by omega) (by omega), up1 w _, Nat.le_refl _⟩
  · have q1 : decide (2000 < n) = false := decide_eq_false hn
    clear hB
    go_enter Tryd.func52, Tryd.ntmps52
    go_wp2
    go_ret
    exact ⟨_, _, _, _, rfl, HN.out n _ (by omega) (by omega), up1 w _, Nat.le_refl _⟩

/-- Names in a block that was just made. -/
theorem far_new (w : World) (r : Nat) (hr : r < w.heap.size) (ls : List (List UInt8)) (cs : Array Value) (hcs : cs = (strs ls).toArray) (t : TypeId) : SFar (w.alloc (.cells cs t)) (some ⟨w.heap.size, 0, none⟩) r ls := by
  subst hcs
  refine .inr ⟨w.heap.size, 0, rfl, by omega, by simp, fun i l hl => ?_⟩
  rw [Nat.zero_add, block_cell (block_new w _) i]
  simp [strs, hl]

/-- What a draw of a text does. -/
def DPost (w : World) (r : Nat) (B : Option Addr) (n c K S : Nat) (e : Ending) (w' : World) : Prop :=
  ∃ s : ByteArray, s.size ≤ S ∧ e = .returned (.string s) ∧ RB w' r B n c K ∧ w.grownBy w' (some r)

def knowns : List (List UInt8) := [
  [40, 114, 101, 99, 32, 116, 32, 40, 43, 32, 49, 32, 40, 42, 32, 120, 32, 116, 41, 41, 41],
  [40, 114, 101, 99, 32, 116, 32, 40, 43, 32, 120, 32, 40, 42, 32, 116, 32, 116, 41, 41, 41],
  [40, 114, 101, 99, 32, 116, 32, 40, 43, 32, 49, 32, 40, 42, 32, 116, 32, 40, 42, 32, 120, 32, 116, 41, 41, 41, 41],
  [40, 114, 101, 99, 32, 116, 32, 40, 43, 32, 49, 32, 116, 41, 41],
  [40, 114, 101, 99, 32, 116, 32, 40, 42, 32, 120, 32, 40, 114, 101, 99, 32, 116, 49, 32, 40, 43, 32, 49, 32, 40, 42, 32, 116, 32, 116, 49, 41, 41, 41, 41, 41],
  [40, 114, 101, 99, 32, 116, 48, 32, 40, 43, 32, 40, 42, 32, 120, 32, 121, 41, 32, 40, 43, 32, 116, 48, 32, 40, 42, 32, 116, 48, 32, 116, 48, 41, 41, 41, 41],
  [40, 114, 101, 99, 32, 116, 32, 40, 43, 32, 121, 32, 40, 42, 32, 116, 32, 40, 42, 32, 116, 32, 116, 41, 41, 41, 41]]

set_option maxHeartbeats 2000000 in
set_option maxRecDepth 100000 in
theorem l91Known_any (r : Nat) (B : Option Addr) (n c K : Nat) (w : World) (h : RB w r B n c K) (hk : K ≤ 1000000000000) :
    Calls Tryd.prog 79 #[.pointer (some ⟨r, 0, none⟩)] w (DPost w r B n c (K + 1) 1000) := by
  have HP : Hid (∀ cs, cs = (strs knowns).toArray → Calls Tryd.prog 64 #[.pointer (some ⟨r, 0, none⟩), .slice (some ⟨w.heap.size, 0, none⟩) 7 7] (w.alloc (.cells cs 9)) fun e w' => ∃ s ∈ knowns, e = .returned (.string (St s)) ∧ RB w' r B n c (K + 1) ∧ (w.alloc (.cells cs 9)).grownBy w' (some r)) := fun cs hcs => of_any r B n c K _ 7 knowns _ (h.up (up1 w _)) hk (far_new w r h.lt knowns cs hcs _) (by simp [knowns]) (by decide)
  have HK : Hid (∀ s ∈ knowns, s.length ≤ 1000) := by show ∀ s ∈ knowns, s.length ≤ 1000; decide
  clear h hk
  go_enter Tryd.func79, Tryd.ntmps79
  go_wp2_with (go_at_call 64; refine (HP.out _ rfl).mono ?_; rintro e w1 ⟨s, hs, rfl, hr, hg⟩; have HR := Lib.hid hr; have HG := Lib.hid hg; have HS := Lib.hid hs; clear hr hg hs)
  go_ret
  exact ⟨St s, HK.out s HS.out, rfl, HR.out, up_grow (up1 w _) HG.out⟩

/-- How many picks, how long a text. -/
def SK : Nat → Nat
  | 0 => 10
  | d + 1 => 2 * SK d + 10
def SS : Nat → Nat
  | 0 => 1000
  | d + 1 => 2 * SS d + 2000
def Sh (d : Nat) : Prop := ∀ (r : Nat) (B : Option Addr) (n c K : Nat) (A : Option Addr) (c2 : Nat) (ls : List (List UInt8)) (w : World), RB w r B n c K → K + SK d ≤ 1000000000000 → SFar w A r ls → (∀ l ∈ ls, l.length ≤ 1000) → ls.length + d ≤ 1000 →
  Calls Tryd.prog 80 #[.pointer (some ⟨r, 0, none⟩), .slice A ls.length c2, .int .i64 d] w (DPost w r B n c (K + SK d) (SS d))

theorem of_list (r : Nat) (B : Option Addr) (n c K : Nat) (ls : List (List UInt8)) (cs : Array Value) (hcs : cs = (strs ls).toArray) (hl : ls ≠ []) (hl2 : ls.length ≤ 1000) (hsm : ∀ l ∈ ls, l.length ≤ 1000) (w : World) (h : RB w r B n c K) (hk : K ≤ 1000000000000) :
    Calls Tryd.prog 64 #[.pointer (some ⟨r, 0, none⟩), .slice (some ⟨w.heap.size, 0, none⟩) ls.length ls.length] (w.alloc (.cells cs 9)) fun e w' => ∃ s ∈ ls, s.length ≤ 1000 ∧ e = .returned (.string (St s)) ∧ RB w' r B n c (K + 1) ∧ w.grownBy w' (some r) := by
  refine (of_any r B n c K _ ls.length ls _ (h.up (up1 w _)) hk (far_new w r h.lt ls cs hcs _) hl (by omega)).mono ?_
  rintro e w' ⟨s, hs, he, hr, hg⟩
  exact ⟨s, hs, hsm s hs, he, hr, up_grow (up1 w _) hg⟩

set_option maxHeartbeats 4000000 in
set_option maxRecDepth 100000 in
theorem l91Shape_zero : Sh 0 := by
  intro r B n c K A c2 ls w h hK hA hls hn
  have HR := Lib.hid h
  have HG : Hid (w.grownBy w (some r)) := World.grownBy.refl _ _
  have HPK : Hid (∀ (w : World) (K : Nat) (m : Int), RB w r B n c K → K ≤ 1000000000000 → 1 ≤ m → m ≤ 1000000 → Calls Tryd.prog 63 #[.pointer (some ⟨r, 0, none⟩), .int .i64 m] w fun e w' => ∃ x : Int, 0 ≤ x ∧ x < m ∧ e = .returned (.int .i64 x) ∧ RB w' r B n c (K + 1) ∧ w.grownBy w' (some r)) := fun w K m h hk h1 h2 => pick_rb r B n c K m w h hk h1 h2
  have HOF : Hid (∀ (w : World) (K : Nat), RB w r B n c K → K ≤ 1000000000000 → Calls Tryd.prog 64 #[.pointer (some ⟨r, 0, none⟩), .slice (some ⟨w.heap.size, 0, none⟩) 6 6] (w.alloc (.cells #[.string ⟨#[120]⟩, .string ⟨#[49]⟩, .string ⟨#[120]⟩, .string ⟨#[121]⟩, .string ⟨#[48]⟩, .string ⟨#[49]⟩] 9)) fun e w' => ∃ s ∈ ([[120], [49], [120], [121], [48], [49]] : List (List UInt8)), s.length ≤ 1000 ∧ e = .returned (.string (St s)) ∧ RB w' r B n c (K + 1) ∧ w.grownBy w' (some r)) := fun w K h hk => of_list r B n c K [[120], [49], [120], [121], [48], [49]] _ rfl (by simp) (by decide) (by decide) w h hk
  have hK2 : K + 10 ≤ 1000000000000 := hK
  by_cases hl0 : ls = []
  · subst hl0
    show Calls Tryd.prog 80 #[.pointer (some ⟨r, 0, none⟩), .slice A 0 c2, .int .i64 0] w (DPost w r B n c (K + 10) 1000)
    clear h hA hls hn hK
    go_enter Tryd.func80, Tryd.ntmps80
    go_wp2_with (go_at_call 64; refine (HOF.out _ _ HR.out (by omega)).mono ?_; rintro e w1 ⟨s, _, hs, rfl, hr, hg⟩; have HG := Lib.hid (grow_grow HG.out hg (.inl rfl)); have HR := Lib.hid hr; clear hr hg)
    go_ret
    exact ⟨St s, hs, rfl, HR.out.mono (by omega), HG.out⟩
  · have hpos : 0 < ls.length := List.length_pos_iff.2 hl0
    have hpos2 : decide (0 < ls.length) = true := decide_eq_true hpos
    have hn2 : ls.length ≤ 1000 := by omega
    rcases hA with hA | ⟨g, o, rfl, hne, hlt, hA⟩
    · exact absurd hA hl0
    have HC : Hid (∀ (w' : World) (x : Int), w.grownBy w' (some r) → 0 ≤ x → x < (ls.length : Int) → ∃ (i : Nat) (s : List UInt8), x = (i : Int) ∧ i < ls.length ∧ s.length ≤ 1000 ∧ w'.cell? ⟨g, o + i, none⟩ = some (.string (St s))) := fun w' x hg h0 h1 => by
      have hi : x.toNat < ls.length := by omega
      refine ⟨x.toNat, ls[x.toNat], by omega, hi, hls _ (List.getElem_mem _), ?_⟩
      exact (hg.cell_far ⟨g, o + x.toNat, none⟩ hlt (by simp; exact hne)).trans (hA x.toNat _ (List.getElem?_eq_getElem hi))
    show Calls Tryd.prog 80 #[.pointer (some ⟨r, 0, none⟩), .slice (some ⟨g, o, none⟩) ls.length c2, .int .i64 0] w (DPost w r B n c (K + 10) 1000)
    clear h hA hls hn hK hne hlt hl0
    generalize ls.length = m at *
    go_enter Tryd.func80, Tryd.ntmps80
    go_wp2_with (first
      | (go_at_call 64; refine (HOF.out _ _ HR.out (by omega)).mono ?_; rintro e w1 ⟨s, _, hs, rfl, hr, hg⟩; have HG := Lib.hid (grow_grow HG.out hg (.inl rfl)); have HR := Lib.hid hr; clear hr hg)
      | (go_at_call 63; first
        | ((with_reducible refine (HPK.out _ _ (m : Int) HR.out (by omega) (by omega) (by omega)).mono ?_); rintro e w1 ⟨x, hx0, hx1, rfl, hr, hg⟩; have HG := Lib.hid (grow_grow HG.out hg (.inl rfl)); have HR := Lib.hid hr; obtain ⟨i, s, rfl, hi, hs, hcell⟩ := HC.out w1 x HG.out hx0 hx1; clear hr hg)
        | ((with_reducible refine (HPK.out _ _ _ HR.out (by omega) (by decide) (by decide)).mono ?_); rintro e w1 ⟨x, hx0, hx1, rfl, hr, hg⟩; have HG := Lib.hid (grow_grow HG.out hg (.inl rfl)); have HR := Lib.hid hr; clear hr hg)))
    all_goals go_ret
    all_goals exact ⟨St s, hs, rfl, HR.out.mono (by omega), HG.out⟩

end Go.Proofs.YtmghnibnokkjjaaDoor
