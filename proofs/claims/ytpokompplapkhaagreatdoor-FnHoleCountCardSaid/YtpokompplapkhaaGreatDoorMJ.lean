/- The reader of a code: l6Open, pick, of. Drawing: of, l6Open, l91Known, l91Shape, l91Type. Drawing: l91Shape at all depths, l91Type. A code, a slice of bytes that the caller hands in; the draw of a type's text. The draw of TypeEmpty; two texts put together. More drawings of types. -/
import Derived.Test.YtpokompplapkhaaGreatDoorME
import Derived.Test.YtpokompplapkhaaGreatDoorMF
import Derived.ProofKit
import Derived.OpenShut
import Derived.LaidMore
import Derived.Lay
import Derived.ChangeSlices
import Derived.Test.YtpokompplapkhaaGreatDoorMD
namespace Go.Proofs.YtpokompplapkhaaGreatDoor
set_option maxHeartbeats 8000000
set_option maxRecDepth 100000
open Go.RowKit
set_option linter.unusedVariables false
set_option linter.unusedSimpArgs false
def BRow (w : World) (r : Nat) (B : Option Addr) (n : Nat) : Prop :=
 n = 0 \/ ∃ g o, B = some ⟨g, o, none⟩ /\ g ≠ r /\ g < w.heap.size /\ ∀ i, i < n -> ∃ b : Nat, b < 256 /\ w.cell? ⟨g, o + i, none⟩ = some (.int .u8 b)
def RdAt (w : World) (r : Nat) (B : Option Addr) (n c : Nat) (p : Nat) : Prop :=
 w.heap[r]? = some (.cells #[.slice B n c, .int .i64 p] 158 (0, 0)) /\ BRow w r B n /\ n <= 2000
theorem BRow.grown {w w1 : World} {r : Nat} {B : Option Addr} {n : Nat} (h : BRow w r B n) (hg : w.grownBy w1 (some r)) : BRow w1 r B n := by
 rcases h with h | ⟨g, o, rfl, hne, hlt, h⟩
 · exact .inl h
 · refine .inr ⟨g, o, rfl, hne, Nat.lt_of_lt_of_le hlt hg.size, fun i hi => ?_⟩
   obtain ⟨b, hb, hc⟩ := h i hi
   exact ⟨b, hb, (hg.cell_far ⟨g, o + i, none⟩ hlt (by simp; exact hne)).trans hc⟩
theorem RdAt.step {w : World} {r : Nat} {B : Option Addr} {n c k : Nat} (h : RdAt w r B n c k) :
 RdAt (w.setCell ⟨r, 1, none⟩ (.int .i64 ((k : Int) + 1))) r B n c (k + 1) /\ w.grownBy (w.setCell ⟨r, 1, none⟩ (.int .i64 ((k : Int) + 1))) (some r) := by
 obtain ⟨hb, hB, hn⟩ := h
 have hg : w.grownBy (w.setCell ⟨r, 1, none⟩ (.int .i64 ((k : Int) + 1))) (some r) := ⟨rfl, rfl, rfl, by simp [World.setCell], fun j _ hne => Below.heap_setCell _ _ _ _ (fun e => hne (by rw [e]))⟩
 refine ⟨⟨?_, hB.grown hg, hn⟩, hg⟩
 have hlt := lt_of_block hb
 have h' : w.heap[r] = .cells #[.slice B n c, .int .i64 k] 158 (0, 0) := by simpa [Array.getElem?_eq_getElem hlt] using hb
 show (w.heap.modify r _)[r]? = _
 rw [Array.getElem?_eq_getElem (by simpa using hlt), Array.getElem_modify_self, h']
 rfl
theorem wraps_i64 (n : Int) (h₀ : 0 <= n) (h₁ : n < 2 ^ 63) : IntKind.i64.wrap n = n := by rw [IntKind.wrap_i64]; omega
theorem xor_pos (x : Nat) (hx : x < 2 ^ 62) : 0 <= bits .xor .i64 (x : Int) ((x : Int) / 64) := by
 have h1 : (x : Int) / 64 = ((x / 64 : Nat) : Int) := by omega
 have ha' : x % 2 ^ IntKind.i64.bits = x := Nat.mod_eq_of_lt (Nat.lt_trans hx (by decide))
 have hb' : (x / 64) % 2 ^ IntKind.i64.bits = x / 64 := Nat.mod_eq_of_lt (Nat.lt_of_le_of_lt (Nat.div_le_self _ _) (Nat.lt_trans hx (by decide)))
 have h2 : x ^^^ (x / 64) < 2 ^ 63 := Nat.xor_lt_two_pow (by omega) (by omega)
 rw [h1]
 simp only [bits, BitVec.ofInt_natCast, BitVec.toNat_xor, BitVec.toNat_ofNat, ha', hb']
 rw [wraps_i64 _ (by omega) (by exact_mod_cast h2)]
 omega
theorem RdAt.up {w w1 : World} {r : Nat} {B : Option Addr} {n c k : Nat} (h : RdAt w r B n c k) (hb : Below w.heap.size w w1) : RdAt w1 r B n c k :=
 ⟨block_up hb h.1, h.2.1.grown ⟨hb.os, hb.tape, hb.output, hb.size, fun j hj _ => hb.block j hj⟩, h.2.2⟩
theorem grow_up {w w1 w2 : World} {g : Nat} (h : w.grownBy w1 (some g)) (hb : Below w1.heap.size w1 w2) : w.grownBy w2 (some g) :=
 ⟨hb.os.trans h.os, hb.tape.trans h.tape, hb.output.trans h.output, Nat.le_trans h.size hb.size, fun j hj hne => by rw [hb.block j (Nat.lt_of_lt_of_le hj h.size), h.block j hj hne]⟩
theorem pick_any (r : Nat) (B : Option Addr) (n c k : Nat) (m : Int) (w : World) (h : RdAt w r B n c k) (hk : k <= 1000000000000) (hm : 1 <= m) (hm2 : m <= 1000000) :
 Calls Tryz.prog 79 #[.pointer (some ⟨r, 0, none⟩), .int .i64 m] w fun e w' => ∃ x : Int, 0 <= x /\ x < m /\ e = .returned (.int .i64 x) /\ RdAt w' r B n c (k + 1) /\ w.grownBy w' (some r) := by
 obtain ⟨hb, hB, hn⟩ := h
 have d0 : w.cell? ⟨r, 0, none⟩ = some (.slice B n c) := block_cell hb 0
 have d1 : w.cell? ⟨r, 1, none⟩ = some (.int .i64 k) := block_cell hb 1
 have d2 := block_free hb 1
 have l0 := lt_of_block hb
 have hm3 : decide (m < 1) = false := decide_eq_false (by omega)
 have hk1 : (k : Int) <= 1000000000000 := by omega
 have hm4 : (m == 0) = false := by simp; omega
 have hm5 : ¬ m = 0 := by omega
 have HW : Hid (RdAt (w.setCell ⟨r, 1, none⟩ (.int .i64 ((k : Int) + 1))) r B n c (k + 1) /\ w.grownBy (w.setCell ⟨r, 1, none⟩ (.int .i64 ((k : Int) + 1))) (some r)) := RdAt.step ⟨hb, hB, hn⟩
 have HM : Hid (0 < m) := by show 0 < m; omega
 have HX : Hid (∀ x : Int, 0 <= x -> 0 <= x % m /\ x % m < m) := fun x hx => ⟨Int.emod_nonneg _ (by omega), Int.emod_lt_of_pos _ (by omega)⟩
 have HY : Hid (∀ x : Int, 0 <= x -> 0 <= x.tmod m /\ x.tmod m < m) := fun x hx => ⟨Int.tmod_nonneg _ hx, Int.tmod_lt_of_pos _ (by omega)⟩
 by_cases hn0 : n = 0
 · subst hn0
   clear hb hB hn hk hm hm2
   go_enter Tryz.func79, Tryz.ntmps79
   go_wp2
   go_ret
   exact ⟨0, by omega, HM.out, rfl, HW.out⟩
 · have hn1 : ((n : Int) == 0) = false := by simp; omega
   by_cases hkn : k < n
   · have q1 : decide (k < n) = true := decide_eq_true hkn
     rcases hB with hB | ⟨g, o, rfl, hne, hlt, hB⟩
     · omega
     obtain ⟨b, hb0, hc⟩ := hB k hkn
     have hb1 : (b : Int) <= 255 := by omega
     clear hb hn hk hm hm2 hB hb0
     go_enter Tryz.func79, Tryz.ntmps79
     go_wp2
     go_ret
     exact ⟨_, (HX.out (b : Int) (by omega)).1, (HX.out (b : Int) (by omega)).2, rfl, HW.out⟩
   · have q1 : decide (k < n) = false := decide_eq_false hkn
     rcases hB with hB | ⟨g, o, rfl, hne, hlt, hB⟩
     · omega
     obtain ⟨i1, hi1⟩ : ∃ i1, k % n = i1 := ⟨_, rfl⟩
     obtain ⟨i2, hi2⟩ : ∃ i2, (k * 7 + 3) % n = i2 := ⟨_, rfl⟩
     obtain ⟨q, hq⟩ : ∃ q, k / n = q := ⟨_, rfl⟩
     have ht1 : Int.tmod (k : Int) (n : Int) = (i1 : Int) := by rw [<- hi1]; exact (Int.ofNat_tmod k n).symm
     have ht2 : Int.tmod ((k : Int) * 7 + 3) (n : Int) = (i2 : Int) := by rw [<- hi2]; exact (Int.ofNat_tmod (k * 7 + 3) n).symm
     have ht3 : Int.tdiv (k : Int) (n : Int) = (q : Int) := by rw [<- hq]; exact (Int.ofNat_tdiv k n).symm
     have r1 : i1 < n := by rw [<- hi1]; exact Nat.mod_lt _ (by omega)
     have r2 : i2 < n := by rw [<- hi2]; exact Nat.mod_lt _ (by omega)
     have r3 : (q : Int) <= 1000000000000 := by
      have : q <= k := by rw [<- hq]; exact Nat.div_le_self _ _
      omega
     obtain ⟨b1, hb1, c1⟩ := hB i1 r1
     obtain ⟨b2, hb2, c2⟩ := hB i2 r2
     have hb1' : (b1 : Int) <= 255 := by omega
     have hb2' : (b2 : Int) <= 255 := by omega
     have hX := xor_pos (b1 * 131 + b2 * 1117 + k * 29 + q * 53) (by omega)
     rw [show ((b1 * 131 + b2 * 1117 + k * 29 + q * 53 : Nat) : Int) = (b1 : Int) * 131 + (b2 : Int) * 1117 + (k : Int) * 29 + (q : Int) * 53 by simp] at hX
     have HXX := Lib.hid hX
     clear hX hb hn hk hm hm2 hB hi1 hi2 hq hb1 hb2
     go_enter Tryz.func79, Tryz.ntmps79
     go_wp2
     go_quiet (fail)
     go_wp2
     go_ret
     exact ⟨_, (HY.out _ HXX.out).1, (HY.out _ HXX.out).2, rfl, HW.out.1.up (up_drewN _ _), grow_up HW.out.2 (up_drewN _ _)⟩
end Go.Proofs.YtpokompplapkhaaGreatDoor
namespace Go.Proofs.YtpokompplapkhaaGreatDoor
set_option maxHeartbeats 8000000
set_option maxRecDepth 100000
open Go.RowKit
set_option linter.unusedVariables false
set_option linter.unusedSimpArgs false
def RB (w : World) (r : Nat) (B : Option Addr) (n c K : Nat) : Prop := ∃ k, k <= K /\ RdAt w r B n c k
theorem RB.mono {w : World} {r : Nat} {B : Option Addr} {n c K K' : Nat} (h : RB w r B n c K) (hk : K <= K') : RB w r B n c K' := by
 obtain ⟨k, h1, h2⟩ := h
 exact ⟨k, Nat.le_trans h1 hk, h2⟩
theorem RB.up {w w1 : World} {r : Nat} {B : Option Addr} {n c K : Nat} (h : RB w r B n c K) (hb : Below w.heap.size w w1) : RB w1 r B n c K := by
 obtain ⟨k, h1, h2⟩ := h
 exact ⟨k, h1, h2.up hb⟩
theorem RB.lt {w : World} {r : Nat} {B : Option Addr} {n c K : Nat} (h : RB w r B n c K) : r < w.heap.size := by
 obtain ⟨k, h1, h2⟩ := h
 exact lt_of_block h2.1
theorem pick_rb (r : Nat) (B : Option Addr) (n c K : Nat) (m : Int) (w : World) (h : RB w r B n c K) (hk : K <= 1000000000000) (hm : 1 <= m) (hm2 : m <= 1000000) :
 Calls Tryz.prog 79 #[.pointer (some ⟨r, 0, none⟩), .int .i64 m] w fun e w' => ∃ x : Int, 0 <= x /\ x < m /\ e = .returned (.int .i64 x) /\ RB w' r B n c (K + 1) /\ w.grownBy w' (some r) := by
 obtain ⟨k, h1, h2⟩ := h
 refine (pick_any r B n c k m w h2 (by omega) hm hm2).mono ?_
 rintro e w' ⟨x, hx1, hx2, he, hr, hg⟩
 exact ⟨x, hx1, hx2, he, ⟨k + 1, by omega, hr⟩, hg⟩
theorem of_any (r : Nat) (B : Option Addr) (n c K : Nat) (A : Option Addr) (c2 : Nat) (ls : List (List UInt8)) (w : World) (h : RB w r B n c K) (hk : K <= 1000000000000) (hA : SFar w A r ls) (hl : ls ≠ []) (hl2 : ls.length <= 1000000) :
 Calls Tryz.prog 137 #[.pointer (some ⟨r, 0, none⟩), .slice A ls.length c2] w fun e w' => ∃ s ∈ ls, e = .returned (.string (St s)) /\ RB w' r B n c (K + 1) /\ w.grownBy w' (some r) := by
 have hpos : 0 < ls.length := List.length_pos_iff.2 hl
 have HP := Lib.hid (pick_rb r B n c K (ls.length : Int) w h hk (by omega) (by omega))
 rcases hA with hA | ⟨g, o, rfl, hne, hlt, hA⟩
 · exact absurd hA hl
 have HC : Hid (∀ (w' : World) (x : Int), w.grownBy w' (some r) -> 0 <= x -> x < (ls.length : Int) -> ∃ (i : Nat) (s : List UInt8), x = (i : Int) /\ i < ls.length /\ s ∈ ls /\ w'.cell? ⟨g, o + i, none⟩ = some (.string (St s))) := fun w' x hg h0 h1 => by
  have hi : x.toNat < ls.length := by omega
  refine ⟨x.toNat, ls[x.toNat], by omega, hi, List.getElem_mem _, ?_⟩
  exact (hg.cell_far ⟨g, o + x.toNat, none⟩ hlt (by simp; exact hne)).trans (hA x.toNat _ (List.getElem?_eq_getElem hi))
 clear h hk hl hl2 hne hlt hA
 generalize hL : ls.length = m at *
 go_enter Tryz.func137, Tryz.ntmps137
 go_wp2_with (go_at_call 79; refine HP.out.mono ?_; rintro e w1 ⟨x, hx0, hx1, rfl, hr, hg⟩; obtain ⟨i, s, rfl, hi, hs, hcell⟩ := HC.out w1 x hg hx0 hx1; have HR := Lib.hid hr; have HG := Lib.hid hg; have HS := Lib.hid hs; clear hr hg hs)
 go_ret
 exact ⟨s, HS.out, rfl, HR.out, HG.out⟩
theorem l6Open_any (B : Option Addr) (n c : Nat) (w : World) (hc : n <= c) (hB : n = 0 \/ ∃ g o, B = some ⟨g, o, none⟩ /\ g < w.heap.size /\ ∀ i, i < n -> ∃ b : Nat, b < 256 /\ w.cell? ⟨g, o + i, none⟩ = some (.int .u8 b)) :
 Calls Tryz.prog 76 #[.slice B n c] w fun e w' => ∃ r B' n' c', e = .returned (.pointer (some ⟨r, 0, none⟩)) /\ RB w' r B' n' c' 0 /\ Below w.heap.size w w' /\ w.heap.size <= r := by
 have HN : Hid (∀ (m c' : Nat), m <= n -> m <= 2000 -> RB (w.alloc (.cells #[.slice B m c', .int .i64 0] 158)) w.heap.size B m c' 0) := fun m c' hm hm2 => by
  refine ⟨0, Nat.le_refl _, block_new w _, ?_, hm2⟩
  rcases hB with hB | ⟨g, o, rfl, hlt, hB⟩
  · exact .inl (by omega)
  · refine .inr ⟨g, o, rfl, by omega, by simp; omega, fun i hi => ?_⟩
    obtain ⟨b, hb, hcell⟩ := hB i (by omega)
    exact ⟨b, hb, cell_up (up1 w _) hcell⟩
 by_cases hn : 2000 < n
 · have q1 : decide (2000 < n) = true := decide_eq_true hn
   have hB' : ∃ g o, B = some ⟨g, o, none⟩ := by
    rcases hB with hB | ⟨g, o, rfl, _⟩
    · omega
    · exact ⟨g, o, rfl⟩
   obtain ⟨g, o, rfl⟩ := hB'
   have hc2 : 2000 <= c := by omega
   clear hB
   go_enter Tryz.func76, Tryz.ntmps76
   go_wp2
   go_ret
   exact ⟨_, _, _, _, rfl, HN.out 2000 _ (by omega) (by omega), up1 w _, Nat.le_refl _⟩
 · have q1 : decide (2000 < n) = false := decide_eq_false hn
   clear hB
   go_enter Tryz.func76, Tryz.ntmps76
   go_wp2
   go_ret
   exact ⟨_, _, _, _, rfl, HN.out n _ (by omega) (by omega), up1 w _, Nat.le_refl _⟩
theorem far_new (w : World) (r : Nat) (hr : r < w.heap.size) (ls : List (List UInt8)) (cs : Array Value) (hcs : cs = (strs ls).toArray) (t : TypeId) : SFar (w.alloc (.cells cs t)) (some ⟨w.heap.size, 0, none⟩) r ls := by
 subst hcs
 refine .inr ⟨w.heap.size, 0, rfl, by omega, by simp, fun i l hl => ?_⟩
 rw [Nat.zero_add, block_cell (block_new w _) i]
 simp [strs, hl]
def DPost (w : World) (r : Nat) (B : Option Addr) (n c K S : Nat) (e : Ending) (w' : World) : Prop :=
 ∃ s : ByteArray, s.size <= S /\ e = .returned (.string s) /\ RB w' r B n c K /\ w.grownBy w' (some r)
def knowns : List (List UInt8) := [
 [40, 114, 101, 99, 32, 116, 32, 40, 43, 32, 49, 32, 40, 42, 32, 120, 32, 116, 41, 41, 41],
 [40, 114, 101, 99, 32, 116, 32, 40, 43, 32, 120, 32, 40, 42, 32, 116, 32, 116, 41, 41, 41],
 [40, 114, 101, 99, 32, 116, 32, 40, 43, 32, 49, 32, 40, 42, 32, 116, 32, 40, 42, 32, 120, 32, 116, 41, 41, 41, 41],
 [40, 114, 101, 99, 32, 116, 32, 40, 43, 32, 49, 32, 116, 41, 41],
 [40, 114, 101, 99, 32, 116, 32, 40, 42, 32, 120, 32, 40, 114, 101, 99, 32, 116, 49, 32, 40, 43, 32, 49, 32, 40, 42, 32, 116, 32, 116, 49, 41, 41, 41, 41, 41],
 [40, 114, 101, 99, 32, 116, 48, 32, 40, 43, 32, 40, 42, 32, 120, 32, 121, 41, 32, 40, 43, 32, 116, 48, 32, 40, 42, 32, 116, 48, 32, 116, 48, 41, 41, 41, 41],
 [40, 114, 101, 99, 32, 116, 32, 40, 43, 32, 121, 32, 40, 42, 32, 116, 32, 40, 42, 32, 116, 32, 116, 41, 41, 41, 41]]
theorem l91Known_any (r : Nat) (B : Option Addr) (n c K : Nat) (w : World) (h : RB w r B n c K) (hk : K <= 1000000000000) :
 Calls Tryz.prog 136 #[.pointer (some ⟨r, 0, none⟩)] w (DPost w r B n c (K + 1) 1000) := by
 have HP : Hid (∀ cs, cs = (strs knowns).toArray -> Calls Tryz.prog 137 #[.pointer (some ⟨r, 0, none⟩), .slice (some ⟨w.heap.size, 0, none⟩) 7 7] (w.alloc (.cells cs 9)) fun e w' => ∃ s ∈ knowns, e = .returned (.string (St s)) /\ RB w' r B n c (K + 1) /\ (w.alloc (.cells cs 9)).grownBy w' (some r)) := fun cs hcs => of_any r B n c K _ 7 knowns _ (h.up (up1 w _)) hk (far_new w r h.lt knowns cs hcs _) (by simp [knowns]) (by decide)
 have HK : Hid (∀ s ∈ knowns, s.length <= 1000) := by show ∀ s ∈ knowns, s.length <= 1000; decide
 clear h hk
 go_enter Tryz.func136, Tryz.ntmps136
 go_wp2_with (go_at_call 137; refine (HP.out _ rfl).mono ?_; rintro e w1 ⟨s, hs, rfl, hr, hg⟩; have HR := Lib.hid hr; have HG := Lib.hid hg; have HS := Lib.hid hs; clear hr hg hs)
 go_ret
 exact ⟨St s, HK.out s HS.out, rfl, HR.out, up_grow (up1 w _) HG.out⟩
def SK : Nat -> Nat
 | 0 => 10
 | d + 1 => 2 * SK d + 10
def SS : Nat -> Nat
 | 0 => 1000
 | d + 1 => 2 * SS d + 2000
def Sh (d : Nat) : Prop := ∀ (r : Nat) (B : Option Addr) (n c K : Nat) (A : Option Addr) (c2 : Nat) (ls : List (List UInt8)) (w : World), RB w r B n c K -> K + SK d <= 1000000000000 -> SFar w A r ls -> (∀ l ∈ ls, l.length <= 1000) -> ls.length + d <= 1000 ->
 Calls Tryz.prog 135 #[.pointer (some ⟨r, 0, none⟩), .slice A ls.length c2, .int .i64 d] w (DPost w r B n c (K + SK d) (SS d))
theorem of_list (r : Nat) (B : Option Addr) (n c K : Nat) (ls : List (List UInt8)) (cs : Array Value) (hcs : cs = (strs ls).toArray) (hl : ls ≠ []) (hl2 : ls.length <= 1000) (hsm : ∀ l ∈ ls, l.length <= 1000) (w : World) (h : RB w r B n c K) (hk : K <= 1000000000000) :
 Calls Tryz.prog 137 #[.pointer (some ⟨r, 0, none⟩), .slice (some ⟨w.heap.size, 0, none⟩) ls.length ls.length] (w.alloc (.cells cs 9)) fun e w' => ∃ s ∈ ls, s.length <= 1000 /\ e = .returned (.string (St s)) /\ RB w' r B n c (K + 1) /\ w.grownBy w' (some r) := by
 refine (of_any r B n c K _ ls.length ls _ (h.up (up1 w _)) hk (far_new w r h.lt ls cs hcs _) hl (by omega)).mono ?_
 rintro e w' ⟨s, hs, he, hr, hg⟩
 exact ⟨s, hs, hsm s hs, he, hr, up_grow (up1 w _) hg⟩
theorem l91Shape_zero : Sh 0 := by
 intro r B n c K A c2 ls w h hK hA hls hn
 have HR := Lib.hid h
 have HG : Hid (w.grownBy w (some r)) := World.grownBy.refl _ _
 have HPK : Hid (∀ (w : World) (K : Nat) (m : Int), RB w r B n c K -> K <= 1000000000000 -> 1 <= m -> m <= 1000000 -> Calls Tryz.prog 79 #[.pointer (some ⟨r, 0, none⟩), .int .i64 m] w fun e w' => ∃ x : Int, 0 <= x /\ x < m /\ e = .returned (.int .i64 x) /\ RB w' r B n c (K + 1) /\ w.grownBy w' (some r)) := fun w K m h hk h1 h2 => pick_rb r B n c K m w h hk h1 h2
 have HOF : Hid (∀ (w : World) (K : Nat), RB w r B n c K -> K <= 1000000000000 -> Calls Tryz.prog 137 #[.pointer (some ⟨r, 0, none⟩), .slice (some ⟨w.heap.size, 0, none⟩) 6 6] (w.alloc (.cells #[.string ⟨#[120]⟩, .string ⟨#[49]⟩, .string ⟨#[120]⟩, .string ⟨#[121]⟩, .string ⟨#[48]⟩, .string ⟨#[49]⟩] 9)) fun e w' => ∃ s ∈ ([[120], [49], [120], [121], [48], [49]] : List (List UInt8)), s.length <= 1000 /\ e = .returned (.string (St s)) /\ RB w' r B n c (K + 1) /\ w.grownBy w' (some r)) := fun w K h hk => of_list r B n c K [[120], [49], [120], [121], [48], [49]] _ rfl (by simp) (by decide) (by decide) w h hk
 have hK2 : K + 10 <= 1000000000000 := hK
 by_cases hl0 : ls = []
 · subst hl0
   show Calls Tryz.prog 135 #[.pointer (some ⟨r, 0, none⟩), .slice A 0 c2, .int .i64 0] w (DPost w r B n c (K + 10) 1000)
   clear h hA hls hn hK
   go_enter Tryz.func135, Tryz.ntmps135
   go_wp2_with (go_at_call 137; refine (HOF.out _ _ HR.out (by omega)).mono ?_; rintro e w1 ⟨s, _, hs, rfl, hr, hg⟩; have HG := Lib.hid (grow_grow HG.out hg (.inl rfl)); have HR := Lib.hid hr; clear hr hg)
   go_ret
   exact ⟨St s, hs, rfl, HR.out.mono (by omega), HG.out⟩
 · have hpos : 0 < ls.length := List.length_pos_iff.2 hl0
   have hpos2 : decide (0 < ls.length) = true := decide_eq_true hpos
   have hn2 : ls.length <= 1000 := by omega
   rcases hA with hA | ⟨g, o, rfl, hne, hlt, hA⟩
   · exact absurd hA hl0
   have HC : Hid (∀ (w' : World) (x : Int), w.grownBy w' (some r) -> 0 <= x -> x < (ls.length : Int) -> ∃ (i : Nat) (s : List UInt8), x = (i : Int) /\ i < ls.length /\ s.length <= 1000 /\ w'.cell? ⟨g, o + i, none⟩ = some (.string (St s))) := fun w' x hg h0 h1 => by
    have hi : x.toNat < ls.length := by omega
    refine ⟨x.toNat, ls[x.toNat], by omega, hi, hls _ (List.getElem_mem _), ?_⟩
    exact (hg.cell_far ⟨g, o + x.toNat, none⟩ hlt (by simp; exact hne)).trans (hA x.toNat _ (List.getElem?_eq_getElem hi))
   show Calls Tryz.prog 135 #[.pointer (some ⟨r, 0, none⟩), .slice (some ⟨g, o, none⟩) ls.length c2, .int .i64 0] w (DPost w r B n c (K + 10) 1000)
   clear h hA hls hn hK hne hlt hl0
   generalize ls.length = m at *
   go_enter Tryz.func135, Tryz.ntmps135
   go_wp2_with (first
    | (go_at_call 137; refine (HOF.out _ _ HR.out (by omega)).mono ?_; rintro e w1 ⟨s, _, hs, rfl, hr, hg⟩; have HG := Lib.hid (grow_grow HG.out hg (.inl rfl)); have HR := Lib.hid hr; clear hr hg)
    | (go_at_call 79; first
     | ((with_reducible refine (HPK.out _ _ (m : Int) HR.out (by omega) (by omega) (by omega)).mono ?_); rintro e w1 ⟨x, hx0, hx1, rfl, hr, hg⟩; have HG := Lib.hid (grow_grow HG.out hg (.inl rfl)); have HR := Lib.hid hr; obtain ⟨i, s, rfl, hi, hs, hcell⟩ := HC.out w1 x HG.out hx0 hx1; clear hr hg)
     | ((with_reducible refine (HPK.out _ _ _ HR.out (by omega) (by decide) (by decide)).mono ?_); rintro e w1 ⟨x, hx0, hx1, rfl, hr, hg⟩; have HG := Lib.hid (grow_grow HG.out hg (.inl rfl)); have HR := Lib.hid hr; clear hr hg)))
   all_goals go_ret
   all_goals exact ⟨St s, hs, rfl, HR.out.mono (by omega), HG.out⟩
end Go.Proofs.YtpokompplapkhaaGreatDoor
namespace Go.Proofs.YtpokompplapkhaaGreatDoor
set_option maxHeartbeats 8000000
set_option maxRecDepth 100000
open Go.RowKit
set_option linter.unusedVariables false
set_option linter.unusedSimpArgs false
theorem zsz (a : Array UInt8) : (ByteArray.mk a).size = a.size := rfl
theorem l91Shape_succ (d : Nat) (hd : d <= 100) (hss : SS d <= 1000000) (ih : Sh d) : Sh (d + 1) := by
 intro r B n c K A c2 ls w h hK hA hls hn
 have HR := Lib.hid h
 have HG : Hid (w.grownBy w (some r)) := World.grownBy.refl _ _
 have HPK : Hid (∀ (w : World) (K : Nat) (m : Int), RB w r B n c K -> K <= 1000000000000 -> 1 <= m -> m <= 1000000 -> Calls Tryz.prog 79 #[.pointer (some ⟨r, 0, none⟩), .int .i64 m] w fun e w' => ∃ x : Int, 0 <= x /\ x < m /\ e = .returned (.int .i64 x) /\ RB w' r B n c (K + 1) /\ w.grownBy w' (some r)) := fun w K m h hk h1 h2 => pick_rb r B n c K m w h hk h1 h2
 have HOF : Hid (∀ (w : World) (K : Nat), RB w r B n c K -> K <= 1000000000000 -> Calls Tryz.prog 137 #[.pointer (some ⟨r, 0, none⟩), .slice (some ⟨w.heap.size, 0, none⟩) 6 6] (w.alloc (.cells #[.string ⟨#[120]⟩, .string ⟨#[49]⟩, .string ⟨#[120]⟩, .string ⟨#[121]⟩, .string ⟨#[48]⟩, .string ⟨#[49]⟩] 9)) fun e w' => ∃ s ∈ ([[120], [49], [120], [121], [48], [49]] : List (List UInt8)), s.length <= 1000 /\ e = .returned (.string (St s)) /\ RB w' r B n c (K + 1) /\ w.grownBy w' (some r)) := fun w K h hk => of_list r B n c K [[120], [49], [120], [121], [48], [49]] _ rfl (by simp) (by decide) (by decide) w h hk
 have HOT : Hid (∀ (w : World) (K : Nat), RB w r B n c K -> K <= 1000000000000 -> Calls Tryz.prog 137 #[.pointer (some ⟨r, 0, none⟩), .slice (some ⟨w.heap.size, 0, none⟩) 3 3] (w.alloc (.cells #[.string ⟨#[116]⟩, .string ⟨#[116, 49]⟩, .string ⟨#[116, 48]⟩] 9)) fun e w' => ∃ s : ByteArray, s.size <= 1000 /\ e = .returned (.string s) /\ RB w' r B n c (K + 1) /\ w.grownBy w' (some r)) := fun w K h hk => (of_list r B n c K [[116], [116, 49], [116, 48]] _ rfl (by simp) (by decide) (by decide) w h hk).mono fun e w' ⟨s, _, h1, h2, h3, h4⟩ => ⟨St s, h1, h2, h3, h4⟩
 have HSH : Hid (∀ (w : World) (K : Nat) (A : Option Addr) (c2 : Nat) (ls : List (List UInt8)), RB w r B n c K -> K + SK d <= 1000000000000 -> SFar w A r ls -> (∀ l ∈ ls, l.length <= 1000) -> ls.length + d <= 1000 -> Calls Tryz.prog 135 #[.pointer (some ⟨r, 0, none⟩), .slice A ls.length c2, .int .i64 d] w (DPost w r B n c (K + SK d) (SS d))) := fun w K A c2 ls h1 h2 h3 h4 h5 => ih r B n c K A c2 ls w h1 h2 h3 h4 h5
 have HSA : Hid (∀ (w1 : World) (K : Nat), w.grownBy w1 (some r) -> RB w1 r B n c K -> K + SK d <= 1000000000000 -> Calls Tryz.prog 135 #[.pointer (some ⟨r, 0, none⟩), .slice A ls.length c2, .int .i64 d] w1 (DPost w1 r B n c (K + SK d) (SS d))) := fun w1 K hg h1 h2 => ih r B n c K A c2 ls w1 h1 h2 (hA.grown hg (.inl rfl)) hls (by omega)
 have HWI : Hid (∀ (w1 : World) (s : ByteArray), w.grownBy w1 (some r) -> r < w1.heap.size -> s.size <= 1000 -> Calls Tryz.prog 158 #[.slice A ls.length c2, .string s] w1 fun e w2 => ∃ g cc, e = .returned (.slice (some ⟨g, 0, none⟩) (ls.length + 1) cc) /\ Below w1.heap.size w1 w2 /\ (∀ (w3 : World) (K : Nat), w3 = w2 -> RB w3 r B n c K -> K + SK d <= 1000000000000 -> Calls Tryz.prog 135 #[.pointer (some ⟨r, 0, none⟩), .slice (some ⟨g, 0, none⟩) (ls.length + 1) cc, .int .i64 d] w3 (DPost w3 r B n c (K + SK d) (SS d)))) := fun w1 s hg hr hs => by
  refine (l1With_any ls A c2 s.data.toList w1 (by omega) (hA.grown hg (.inl rfl)).cells).mono ?_
  rintro e w2 ⟨hb, g, cc, he, ho⟩
  refine ⟨g, cc, by rw [he]; simp, hb, ?_⟩
  rintro w3 K rfl h1 h2
  have hlen : (ls ++ [s.data.toList]).length = ls.length + 1 := by simp
  have hgl := ho.lt
  have hfar : SFar w3 (some ⟨g, 0, none⟩) r (ls ++ [s.data.toList]) := by
   rcases ho.reads with hr0 | ⟨g', o', he', hcell⟩
   · simp at hr0
   · cases he'
     exact .inr ⟨g, 0, rfl, by omega, hgl.2, hcell⟩
  have := ih r B n c K (some ⟨g, 0, none⟩) cc (ls ++ [s.data.toList]) w3 h1 h2 hfar (by intro l hl; simp at hl; rcases hl with hl | rfl; exact hls l hl; rw [size_list]; exact hs) (by rw [hlen]; omega)
  rw [hlen] at this
  exact this
 have hd1 : decide ((d : Int) + 1 <= 0) = false := decide_eq_false (by omega)
 have hdd : (d : Int) <= 100 := by omega
 rw [show SK (d + 1) = 2 * SK d + 10 from rfl, show SS (d + 1) = 2 * SS d + 2000 from rfl]
 have hK2 : K + (2 * SK d + 10) <= 1000000000000 := hK
 rw [show (((d + 1 : Nat) : Int)) = (d : Int) + 1 by simp]
 clear ih hK
 generalize SK d = sk at *
 generalize SS d = ss at *
 by_cases hl0 : ls = []
 · have hpos2 : decide (0 < ls.length) = false := decide_eq_false (by rw [hl0]; simp)
   clear h hA hls hn hl0 HSH
   generalize ls.length = m at *
   go_enter Tryz.func135, Tryz.ntmps135
   go_wp2_with (first
    | (go_at_call 137; first
     | ((with_reducible refine (HOF.out _ _ HR.out (by omega)).mono ?_); rintro e w1 ⟨s, _, hs, rfl, hr, hg⟩; have HS := Lib.hid hs; have HG := Lib.hid (grow_grow HG.out hg (.inl rfl)); have HR := Lib.hid hr; clear hr hg hs)
     | ((with_reducible refine (HOT.out _ _ HR.out (by omega)).mono ?_); rintro e w1 ⟨st, hst, rfl, hr, hg⟩; have HST := Lib.hid hst; have HG := Lib.hid (grow_grow HG.out hg (.inl rfl)); have HR := Lib.hid hr; clear hr hg))
    | (go_at_call 158; (with_reducible refine (HWI.out _ st HG.out HR.out.lt HST.out).mono ?_); rintro e w1 ⟨gw, cw, rfl, hb, hsh⟩; have HSW := Lib.hid hsh; have HG := Lib.hid (grow_up HG.out hb); have HR := Lib.hid (HR.out.up hb); clear hb hsh)
    | (go_at_call 135; first
     | ((with_reducible refine (HSW.out _ _ rfl HR.out (by omega)).mono ?_); rintro e w1 ⟨s3, hs3, rfl, hr, hg⟩; have HS3 := Lib.hid hs3; have HG := Lib.hid (grow_grow HG.out hg (.inl rfl)); have HR := Lib.hid hr; clear hr hg)
     | (have hh1 := HS1.out; clear hh1; (with_reducible refine (HSA.out _ _ HG.out HR.out (by omega)).mono ?_); rintro e w1 ⟨s2, hs2, rfl, hr, hg⟩; have HS2 := Lib.hid hs2; have HG := Lib.hid (grow_grow HG.out hg (.inl rfl)); have HR := Lib.hid hr; clear hr hg)
     | ((with_reducible refine (HSA.out _ _ HG.out HR.out (by omega)).mono ?_); rintro e w1 ⟨s1, hs1, rfl, hr, hg⟩; have HS1 := Lib.hid hs1; have HG := Lib.hid (grow_grow HG.out hg (.inl rfl)); have HR := Lib.hid hr; clear hr hg))
    | (go_at_call 79; first
     | ((with_reducible refine (HPK.out _ _ _ HR.out (by omega) (by decide) (by decide)).mono ?_); rintro e w1 ⟨x, hx0, hx1, rfl, hr, hg⟩; have HG := Lib.hid (grow_grow HG.out hg (.inl rfl)); have HR := Lib.hid hr; clear hr hg)))
   all_goals go_ret
   all_goals first
    | exact ⟨St s, Nat.le_trans HS.out (by omega), rfl, HR.out.mono (by omega), HG.out⟩
    | exact ⟨_, by simp only [ByteArray.size_append, zsz, List.size_toArray, List.length_cons, List.length_nil]; have h1 := HS1.out; have h2 := HS2.out; omega, rfl, HR.out.mono (by omega), HG.out⟩
    | exact ⟨_, by simp only [ByteArray.size_append, zsz, List.size_toArray, List.length_cons, List.length_nil]; have h1 := HS3.out; have h2 := HST.out; omega, rfl, HR.out.mono (by omega), HG.out⟩
 · have hpos : 0 < ls.length := List.length_pos_iff.2 hl0
   have hpos2 : decide (0 < ls.length) = true := decide_eq_true hpos
   have hn2 : ls.length <= 1000 := by omega
   rcases hA with hA | ⟨g, o, rfl, hne, hlt, hA⟩
   · exact absurd hA hl0
   have HC : Hid (∀ (w' : World) (x : Int), w.grownBy w' (some r) -> 0 <= x -> x < (ls.length : Int) -> ∃ (i : Nat) (s : List UInt8), x = (i : Int) /\ i < ls.length /\ s.length <= 1000 /\ w'.cell? ⟨g, o + i, none⟩ = some (.string (St s))) := fun w' x hg h0 h1 => by
    have hi : x.toNat < ls.length := by omega
    refine ⟨x.toNat, ls[x.toNat], by omega, hi, hls _ (List.getElem_mem _), ?_⟩
    exact (hg.cell_far ⟨g, o + x.toNat, none⟩ hlt (by simp; exact hne)).trans (hA x.toNat _ (List.getElem?_eq_getElem hi))
   clear h hA hls hn hne hlt hl0 HSH
   generalize ls.length = m at *
   go_enter Tryz.func135, Tryz.ntmps135
   go_wp2_with (first
    | (go_at_call 137; first
     | ((with_reducible refine (HOF.out _ _ HR.out (by omega)).mono ?_); rintro e w1 ⟨s, _, hs, rfl, hr, hg⟩; have HS := Lib.hid hs; have HG := Lib.hid (grow_grow HG.out hg (.inl rfl)); have HR := Lib.hid hr; clear hr hg hs)
     | ((with_reducible refine (HOT.out _ _ HR.out (by omega)).mono ?_); rintro e w1 ⟨st, hst, rfl, hr, hg⟩; have HST := Lib.hid hst; have HG := Lib.hid (grow_grow HG.out hg (.inl rfl)); have HR := Lib.hid hr; clear hr hg))
    | (go_at_call 158; (with_reducible refine (HWI.out _ st HG.out HR.out.lt HST.out).mono ?_); rintro e w1 ⟨gw, cw, rfl, hb, hsh⟩; have HSW := Lib.hid hsh; have HG := Lib.hid (grow_up HG.out hb); have HR := Lib.hid (HR.out.up hb); clear hb hsh)
    | (go_at_call 135; first
     | ((with_reducible refine (HSW.out _ _ rfl HR.out (by omega)).mono ?_); rintro e w1 ⟨s3, hs3, rfl, hr, hg⟩; have HS3 := Lib.hid hs3; have HG := Lib.hid (grow_grow HG.out hg (.inl rfl)); have HR := Lib.hid hr; clear hr hg)
     | (have hh1 := HS1.out; clear hh1; (with_reducible refine (HSA.out _ _ HG.out HR.out (by omega)).mono ?_); rintro e w1 ⟨s2, hs2, rfl, hr, hg⟩; have HS2 := Lib.hid hs2; have HG := Lib.hid (grow_grow HG.out hg (.inl rfl)); have HR := Lib.hid hr; clear hr hg)
     | ((with_reducible refine (HSA.out _ _ HG.out HR.out (by omega)).mono ?_); rintro e w1 ⟨s1, hs1, rfl, hr, hg⟩; have HS1 := Lib.hid hs1; have HG := Lib.hid (grow_grow HG.out hg (.inl rfl)); have HR := Lib.hid hr; clear hr hg))
    | (go_at_call 79; first
     | ((with_reducible refine (HPK.out _ _ (m : Int) HR.out (by omega) (by omega) (by omega)).mono ?_); rintro e w1 ⟨x, hx0, hx1, rfl, hr, hg⟩; have HG := Lib.hid (grow_grow HG.out hg (.inl rfl)); have HR := Lib.hid hr; obtain ⟨i, s, rfl, hi, hs, hcell⟩ := HC.out w1 x HG.out hx0 hx1; have HS := Lib.hid hs; clear hr hg hs)
     | ((with_reducible refine (HPK.out _ _ _ HR.out (by omega) (by decide) (by decide)).mono ?_); rintro e w1 ⟨x, hx0, hx1, rfl, hr, hg⟩; have HG := Lib.hid (grow_grow HG.out hg (.inl rfl)); have HR := Lib.hid hr; clear hr hg)))
   all_goals go_ret
   all_goals first
    | exact ⟨St s, Nat.le_trans HS.out (by omega), rfl, HR.out.mono (by omega), HG.out⟩
    | exact ⟨_, by simp only [ByteArray.size_append, zsz, List.size_toArray, List.length_cons, List.length_nil]; have h1 := HS1.out; have h2 := HS2.out; omega, rfl, HR.out.mono (by omega), HG.out⟩
    | exact ⟨_, by simp only [ByteArray.size_append, zsz, List.size_toArray, List.length_cons, List.length_nil]; have h1 := HS3.out; have h2 := HST.out; omega, rfl, HR.out.mono (by omega), HG.out⟩
theorem l91Shape_any : ∀ d, d <= 5 -> Sh d
 | 0, _ => l91Shape_zero
 | 1, _ => l91Shape_succ 0 (by omega) (by decide) l91Shape_zero
 | 2, _ => l91Shape_succ 1 (by omega) (by decide) (l91Shape_any 1 (by omega))
 | 3, _ => l91Shape_succ 2 (by omega) (by decide) (l91Shape_any 2 (by omega))
 | 4, _ => l91Shape_succ 3 (by omega) (by decide) (l91Shape_any 3 (by omega))
 | 5, _ => l91Shape_succ 4 (by omega) (by decide) (l91Shape_any 4 (by omega))
theorem l91Type_any (r : Nat) (B : Option Addr) (n c K : Nat) (w : World) (h : RB w r B n c K) (hk : K + 10000 <= 1000000000000) :
 Calls Tryz.prog 134 #[.pointer (some ⟨r, 0, none⟩)] w (DPost w r B n c (K + 10000) 100000) := by
 have HR := Lib.hid h
 have HG : Hid (w.grownBy w (some r)) := World.grownBy.refl _ _
 have HPK : Hid (∀ (w : World) (K : Nat) (m : Int), RB w r B n c K -> K <= 1000000000000 -> 1 <= m -> m <= 1000000 -> Calls Tryz.prog 79 #[.pointer (some ⟨r, 0, none⟩), .int .i64 m] w fun e w' => ∃ x : Int, 0 <= x /\ x < m /\ e = .returned (.int .i64 x) /\ RB w' r B n c (K + 1) /\ w.grownBy w' (some r)) := fun w K m h hk h1 h2 => pick_rb r B n c K m w h hk h1 h2
 have HKN : Hid (∀ (w : World) (K : Nat), RB w r B n c K -> K <= 1000000000000 -> Calls Tryz.prog 136 #[.pointer (some ⟨r, 0, none⟩)] w (DPost w r B n c (K + 1) 1000)) := fun w K h hk => l91Known_any r B n c K w h hk
 have HOF : Hid (∀ (w : World) (K : Nat), RB w r B n c K -> K <= 1000000000000 -> Calls Tryz.prog 137 #[.pointer (some ⟨r, 0, none⟩), .slice (some ⟨w.heap.size, 0, none⟩) 9 9] (w.alloc (.cells #[.string ⟨#[]⟩, .string ⟨#[97]⟩, .string ⟨#[40, 43, 32, 49, 41]⟩, .string ⟨#[40, 114, 101, 99, 32, 120, 32, 49, 41]⟩, .string ⟨#[40, 114, 101, 99, 32, 116, 41]⟩, .string ⟨#[40, 43, 32, 32, 49, 32, 49, 41]⟩, .string ⟨#[40, 42, 32, 49, 32, 49, 32, 49, 41]⟩, .string ⟨#[116, 49, 48, 48]⟩, .string ⟨#[120, 32, 49]⟩] 9)) fun e w' => ∃ s : ByteArray, s.size <= 1000 /\ e = .returned (.string s) /\ RB w' r B n c (K + 1) /\ w.grownBy w' (some r)) := fun w K h hk => (of_list r B n c K [[], [97], [40, 43, 32, 49, 41], [40, 114, 101, 99, 32, 120, 32, 49, 41], [40, 114, 101, 99, 32, 116, 41], [40, 43, 32, 32, 49, 32, 49, 41], [40, 42, 32, 49, 32, 49, 32, 49, 41], [116, 49, 48, 48], [120, 32, 49]] _ rfl (by simp) (by decide) (by decide) w h hk).mono fun e w' ⟨s, _, h1, h2, h3, h4⟩ => ⟨St s, h1, h2, h3, h4⟩
 have HS2 : Hid (∀ (w : World) (K : Nat), RB w r B n c K -> K + 9000 <= 1000000000000 -> Calls Tryz.prog 135 #[.pointer (some ⟨r, 0, none⟩), .slice (some ⟨w.heap.size, 0, none⟩) 2 2, .int .i64 2] (w.alloc (.cells #[.string ⟨#[116]⟩, .string ⟨#[116, 49]⟩] 9)) fun e w' => ∃ s : ByteArray, s.size <= 100000 /\ e = .returned (.string s) /\ RB w' r B n c (K + 9000) /\ w.grownBy w' (some r)) := fun w K h hk => by
  refine (l91Shape_any 2 (by omega) r B n c K _ 2 [[116], [116, 49]] _ (h.up (up1 w _)) (by simp only [SK]; omega) (far_new w r h.lt [[116], [116, 49]] _ rfl _) (by decide) (by decide)).mono ?_
  rintro e w' ⟨s, h1, h2, h3, h4⟩
  exact ⟨s, Nat.le_trans h1 (by decide), h2, h3.mono (by simp only [SK]; omega), up_grow (up1 w _) h4⟩
 have HS3 : Hid (∀ (w : World) (K : Nat), RB w r B n c K -> K + 9000 <= 1000000000000 -> Calls Tryz.prog 135 #[.pointer (some ⟨r, 0, none⟩), .slice (some ⟨w.heap.size, 0, none⟩) 0 0, .int .i64 3] (w.alloc (.cells #[] 9)) fun e w' => ∃ s : ByteArray, s.size <= 100000 /\ e = .returned (.string s) /\ RB w' r B n c (K + 9000) /\ w.grownBy w' (some r)) := fun w K h hk => by
  refine (l91Shape_any 3 (by omega) r B n c K _ 0 [] _ (h.up (up1 w _)) (by simp only [SK]; omega) (.inl rfl) (by simp) (by decide)).mono ?_
  rintro e w' ⟨s, h1, h2, h3, h4⟩
  exact ⟨s, Nat.le_trans h1 (by decide), h2, h3.mono (by simp only [SK]; omega), up_grow (up1 w _) h4⟩
 clear h
 go_enter Tryz.func134, Tryz.ntmps134
 go_wp2_with (first
  | (go_at_call 79; (with_reducible refine (HPK.out _ _ _ HR.out (by omega) (by decide) (by decide)).mono ?_); rintro e w1 ⟨x, hx0, hx1, rfl, hr, hg⟩; have HG := Lib.hid (grow_grow HG.out hg (.inl rfl)); have HR := Lib.hid hr; clear hr hg)
  | (go_at_call 136; (with_reducible refine (HKN.out _ _ HR.out (by omega)).mono ?_); rintro e w1 ⟨s, hs, rfl, hr, hg⟩; have HS := Lib.hid (show s.size <= 100000 by omega); have HG := Lib.hid (grow_grow HG.out hg (.inl rfl)); have HR := Lib.hid hr; clear hr hg)
  | (go_at_call 137; (with_reducible refine (HOF.out _ _ HR.out (by omega)).mono ?_); rintro e w1 ⟨s, hs, rfl, hr, hg⟩; have HS := Lib.hid (show s.size <= 100000 by omega); have HG := Lib.hid (grow_grow HG.out hg (.inl rfl)); have HR := Lib.hid hr; clear hr hg)
  | (go_at_call 135; first
   | ((with_reducible refine (HS2.out _ _ HR.out (by omega)).mono ?_); rintro e w1 ⟨s, hs, rfl, hr, hg⟩; have HS := Lib.hid hs; have HG := Lib.hid (grow_grow HG.out hg (.inl rfl)); have HR := Lib.hid hr; clear hr hg)
   | ((with_reducible refine (HS3.out _ _ HR.out (by omega)).mono ?_); rintro e w1 ⟨s, hs, rfl, hr, hg⟩; have HS := Lib.hid hs; have HG := Lib.hid (grow_grow HG.out hg (.inl rfl)); have HR := Lib.hid hr; clear hr hg)))
 all_goals go_ret
 all_goals exact ⟨s, HS.out, rfl, HR.out.mono (by omega), HG.out⟩
end Go.Proofs.YtpokompplapkhaaGreatDoor
namespace Go.Proofs.YtpokompplapkhaaGreatDoor
set_option maxHeartbeats 8000000
set_option maxRecDepth 100000
open Go.ChangeShapes Go.WideShapes Go.ChangeAt Go.ChangeMaps Go.RowKit
set_option linter.unusedVariables false
set_option linter.unusedSimpArgs false
theorem codeCells : Tryz.prog.cellsOf 5 = 1 := by kernel_rfl
theorem codeLaid : laidOutB Tryz.prog = true := by kernel_rfl
def CodeRow (W : World) (a : Option Addr) (n c : Nat) : Prop :=
 n <= c /\ (n = 0 \/ ∃ g o, a = some ⟨g, o, none⟩ /\ g < W.heap.size /\ ∀ i, i < n -> ∃ b : Nat, b < 256 /\ W.cell? ⟨g, o + i, none⟩ = some (.int .u8 b))
theorem u8_wf {n : Int} (h : (Lit.int .u8 n).wf = true) : 0 <= n /\ n <= 255 := by
 have h1 : IntKind.u8.min = 0 := rfl
 have h2 : IntKind.u8.max = 255 := rfl
 simp only [Lit.wf, Bool.and_eq_true, decide_eq_true_eq] at h
 omega
theorem open_code {H : Type} {enc : TypeId × Value -> H} {W : World} {fuel : Nat} {a : Option Addr} {n c : Nat} {d : DataW H} {p : List MemPlace}
 (hf : DataW.trod enc Tryz.prog W 0 (fun _ => true) true fuel 35 (Value.slice a n c).cells.toList = some (d, p)) (hlt : ∀ x ∈ p, x.block < W.heap.size) : CodeRow W a n c := by
 rcases open_ints Tryz.underlying35 Tryz.underlying5 codeCells hf with ⟨hcs, hx⟩ | ⟨a', len', cap', zs, hcs, _, hl, hm, hz, hx, hcell, hwz⟩
 · simp [Value.cells] at hcs
   obtain ⟨rfl, rfl, rfl⟩ := hcs
   exact ⟨Nat.le_refl _, .inl rfl⟩
 · simp [Value.cells] at hcs
   obtain ⟨rfl, rfl, rfl⟩ := hcs
   simp only [Prod.mk.injEq] at hx
   obtain ⟨rfl, rfl⟩ := hx
   simp only [if_true] at hz
   refine ⟨hl, ?_⟩
   by_cases hn : n = 0
   · exact .inl hn
   · obtain ⟨b, off, spot⟩ := a'
     have hspot : spot = none := by simpa [Addr.add] using World.cell?_spot (hcell 0 (by omega))
     subst hspot
     have hbW : b < W.heap.size := hlt (.cell b off) (MemPlace.mem_row.2 ⟨0, by omega, by simp⟩)
     refine .inr ⟨b, off, rfl, hbW, fun i hi => ?_⟩
     have hi' : i < zs.length := by omega
     have hw := u8_wf (hwz (zs.getD i 0) (by
      have : zs.getD i 0 = zs[i] := by simp [List.getD, hi']
      rw [this]
      exact List.getElem_mem hi'))
     refine ⟨(zs.getD i 0).toNat, by omega, ?_⟩
     rw [show ((zs.getD i 0).toNat : Int) = zs.getD i 0 by omega, <- add_plain]
     exact hcell i hi'
end Go.Proofs.YtpokompplapkhaaGreatDoor
namespace Go.Proofs.YtpokompplapkhaaGreatDoor
set_option maxHeartbeats 8000000
set_option maxRecDepth 100000
open Go.RowKit
set_option linter.unusedVariables false
set_option linter.unusedSimpArgs false
end Go.Proofs.YtpokompplapkhaaGreatDoor
namespace Go.Proofs.YtpokompplapkhaaGreatDoor
set_option maxHeartbeats 8000000
set_option maxRecDepth 100000
open Go.RowKit
set_option linter.unusedVariables false
set_option linter.unusedSimpArgs false
end Go.Proofs.YtpokompplapkhaaGreatDoor

