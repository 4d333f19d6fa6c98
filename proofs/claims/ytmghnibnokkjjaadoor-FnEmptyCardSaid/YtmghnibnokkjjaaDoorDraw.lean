/- The reader of a code: l6Open, pick, of. -/
import Derived.Test.YtmghnibnokkjjaaDoorRow
namespace Go.Proofs.YtmghnibnokkjjaaDoor
open Go.RowKit
set_option linter.unusedVariables false
set_option linter.unusedSimpArgs false

/-- Bytes behind an address, in another block than r. -/
def BRow (w : World) (r : Nat) (B : Option Addr) (n : Nat) : Prop :=
  n = 0 ∨ ∃ g o, B = some ⟨g, o, none⟩ ∧ g ≠ r ∧ g < w.heap.size ∧ ∀ i, i < n → ∃ b : Nat, b < 256 ∧ w.cell? ⟨g, o + i, none⟩ = some (.int .u8 b)
/-- A reader at place p. -/
def RdAt (w : World) (r : Nat) (B : Option Addr) (n c : Nat) (p : Nat) : Prop :=
  w.heap[r]? = some (.cells #[.slice B n c, .int .i64 p] 76 (0, 0)) ∧ BRow w r B n ∧ n ≤ 2000

theorem BRow.grown {w w1 : World} {r : Nat} {B : Option Addr} {n : Nat} (h : BRow w r B n) (hg : w.grownBy w1 (some r)) : BRow w1 r B n := by
  rcases h with h | ⟨g, o, rfl, hne, hlt, h⟩
  · exact .inl h
  · refine .inr ⟨g, o, rfl, hne, Nat.lt_of_lt_of_le hlt hg.size, fun i hi => ?_⟩
    obtain ⟨b, hb, hc⟩ := h i hi
    exact ⟨b, hb, (hg.cell_far ⟨g, o + i, none⟩ hlt (by simp; exact hne)).trans hc⟩

theorem RdAt.step {w : World} {r : Nat} {B : Option Addr} {n c k : Nat} (h : RdAt w r B n c k) :
    RdAt (w.setCell ⟨r, 1, none⟩ (.int .i64 ((k : Int) + 1))) r B n c (k + 1) ∧ w.grownBy (w.setCell ⟨r, 1, none⟩ (.int .i64 ((k : Int) + 1))) (some r) := by
  obtain ⟨hb, hB, hn⟩ := h
  have hg : w.grownBy (w.setCell ⟨r, 1, none⟩ (.int .i64 ((k : Int) + 1))) (some r) := ⟨rfl, rfl, rfl, by simp [World.setCell], fun j _ hne => Below.heap_setCell _ _ _ _ (fun e => hne (by rw [e]))⟩
  refine ⟨⟨?_, hB.grown hg, hn⟩, hg⟩
  have hlt := lt_of_block hb
  have h' : w.heap[r] = .cells #[.slice B n c, .int .i64 k] 76 (0, 0) := by simpa [Array.getElem?_eq_getElem hlt] using hb
  show (w.heap.modify r _)[r]? = _
  rw [Array.getElem?_eq_getElem (by simpa using hlt), Array.getElem_modify_self, h']
  rfl

theorem wraps_i64 (n : Int) (h₀ : 0 ≤ n) (h₁ : n < 2 ^ 63) : IntKind.i64.wrap n = n := by rw [IntKind.wrap_i64]; omega
theorem xor_pos (x : Nat) (hx : x < 2 ^ 62) : 0 ≤ bits .xor .i64 (x : Int) ((x : Int) / 64) := by
  have h1 : (x : Int) / 64 = ((x / 64 : Nat) : Int) := by omega
  have ha' : x % 2 ^ IntKind.i64.bits = x := Nat.mod_eq_of_lt (Nat.lt_trans hx (by decide))
  have hb' : (x / 64) % 2 ^ IntKind.i64.bits = x / 64 := Nat.mod_eq_of_lt (Nat.lt_of_le_of_lt (Nat.div_le_self _ _) (Nat.lt_trans hx (by decide)))
  have h2 : x ^^^ (x / 64) < 2 ^ 63 := Nat.xor_lt_two_pow (by omega) (by omega)
  rw [h1]
  simp only [bits, BitVec.ofInt_natCast, BitVec.toNat_xor, BitVec.toNat_ofNat, ha', hb']
  rw [wraps_i64 _ (by omega) (by exact_mod_cast h2)]
  omega
theorem RdAt.up {w w1 : World} {r : Nat} {B : Option Addr} {n c k : Nat} (h : RdAt w r B n c k) (hb : Below w.heap.size w w1) : RdAt w1 r B n c k :=
  ⟨block_up hb h.1, h.2.1.grown ⟨hb.os, hb.tape, hb.output, hb.size, fun j hj _ => hb.block j hj⟩, h.2.2⟩
theorem grow_up {w w1 w2 : World} {g : Nat} (h : w.grownBy w1 (some g)) (hb : Below w1.heap.size w1 w2) : w.grownBy w2 (some g) :=
  ⟨hb.os.trans h.os, hb.tape.trans h.tape, hb.output.trans h.output, Nat.le_trans h.size hb.size, fun j hj hne => by rw [hb.block j (Nat.lt_of_lt_of_le hj h.size), h.block j hj hne]⟩

set_option maxHeartbeats 4000000 in
set_option maxRecDepth 100000 in
theorem pick_any (r : Nat) (B : Option Addr) (n c k : Nat) (m : Int) (w : World) (h : RdAt w r B n c k) (hk : k ≤ 1000000000000) (hm : 1 ≤ m) (hm2 : m ≤ 1000000) :
    Calls Tryd.prog 63 #[.pointer (some ⟨r, 0, none⟩), .int .i64 m] w fun e w' => ∃ x : Int, 0 ≤ x ∧ x < m ∧ e = .returned (.int .i64 x) ∧ RdAt w' r B n c (k + 1) ∧ w.grownBy w' (some r) := by
  obtain ⟨hb, hB, hn⟩ := h
  have d0 : w.cell? ⟨r, 0, none⟩ = some (.slice B n c) := block_cell hb 0
  have d1 : w.cell? ⟨r, 1, none⟩ = some (.int .i64 k) := block_cell hb 1
  have d2 := block_free hb 1
  have l0 := lt_of_block hb
  have hm3 : decide (m < 1) = false := decide_eq_false (by omega)
  have hk1 : (k : Int) ≤ 1000000000000 := by omega
  have hm4 : (m == 0) = false := by simp; omega
  have hm5 : ¬ m = 0 := by omega
  have HW : Hid (RdAt (w.setCell ⟨r, 1, none⟩ (.int .i64 ((k : Int) + 1))) r B n c (k + 1) ∧ w.grownBy (w.setCell ⟨r, 1, none⟩ (.int .i64 ((k : Int) + 1))) (some r)) := RdAt.step ⟨hb, hB, hn⟩
  have HM : Hid (0 < m) := by show 0 < m; omega
  have HX : Hid (∀ x : Int, 0 ≤ x → 0 ≤ x % m ∧ x % m < m) := fun x hx => ⟨Int.emod_nonneg _ (by omega), Int.emod_lt_of_pos _ (by omega)⟩
  have HY : Hid (∀ x : Int, 0 ≤ x → 0 ≤ x.tmod m ∧ x.tmod m < m) := fun x hx => ⟨Int.tmod_nonneg _ hx, Int.tmod_lt_of_pos _ (by omega)⟩
  by_cases hn0 : n = 0
  · subst hn0
    clear hb hB hn hk hm hm2
    go_enter Tryd.func63, Tryd.ntmps63
    go_wp2
    go_ret
    exact ⟨0, by omega, HM.out, rfl, HW.out⟩
  · have hn1 : ((n : Int) == 0) = false := by simp; omega
    by_cases hkn : k < n
    · have q1 : decide (k < n) = true := decide_eq_true hkn
      rcases hB with hB | ⟨g, o, rfl, hne, hlt, hB⟩
      · omega
      obtain ⟨b, hb0, hc⟩ := hB k hkn
      have hb1 : (b : Int) ≤ 255 := by omega
      clear hb hn hk hm hm2 hB hb0
      go_enter Tryd.func63, Tryd.ntmps63
      go_wp2
      go_ret
      exact ⟨_, (HX.out (b : Int) (by omega)).1, (HX.out (b : Int) (by omega)).2, rfl, HW.out⟩
    · have q1 : decide (k < n) = false := decide_eq_false hkn
      rcases hB with hB | ⟨g, o, rfl, hne, hlt, hB⟩
      · omega
      obtain ⟨i1, hi1⟩ : ∃ i1, k % n = i1 := ⟨_, rfl⟩
      obtain ⟨i2, hi2⟩ : ∃ i2, (k * 7 + 3) % n = i2 := ⟨_, rfl⟩
      obtain ⟨q, hq⟩ : ∃ q, k / n = q := ⟨_, rfl⟩
      have ht1 : Int.tmod (k : Int) (n : Int) = (i1 : Int) := by rw [← hi1]; exact (Int.ofNat_tmod k n).symm
      have ht2 : Int.tmod ((k : Int) * 7 + 3) (n : Int) = (i2 : Int) := by rw [← hi2]; exact (Int.ofNat_tmod (k * 7 + 3) n).symm
      have ht3 : Int.tdiv (k : Int) (n : Int) = (q : Int) := by rw [← hq]; exact (Int.ofNat_tdiv k n).symm
      have r1 : i1 < n := by rw [← hi1]; exact Nat.mod_lt _ (by omega)
      have r2 : i2 < n := by rw [← hi2]; exact Nat.mod_lt _ (by omega)
      have r3 : (q : Int) ≤ 1000000000000 := by
        have : q ≤ k := by rw [← hq]; exact Nat.div_le_self _ _
        omega
      obtain ⟨b1, hb1, c1⟩ := hB i1 r1
      obtain ⟨b2, hb2, c2⟩ := hB i2 r2
      have hb1' : (b1 : Int) ≤ 255 := by omega
      have hb2' : (b2 : Int) ≤ 255 := by omega
      have hX := xor_pos (b1 * 131 + b2 * 1117 + k * 29 + q * 53) (by omega)
      rw [show ((b1 * 131 + b2 * 1117 + k * 29 + q * 53 : Nat) : Int) = (b1 : Int) * 131 + (b2 : Int) * 1117 + (k : Int) * 29 + (q : Int) * 53 by simp] at hX
      have HXX := Lib.hid hX
      clear hX hb hn hk hm hm2 hB hi1 hi2 hq hb1 hb2
      go_enter Tryd.func63, Tryd.ntmps63
      go_wp2
      go_quiet (fail)
      go_wp2
      go_ret
      exact ⟨_, (HY.out _ HXX.out).1, (HY.out _ HXX.out).2, rfl, HW.out.1.up (up_drewN _ _), grow_up HW.out.2 (up_drewN _ _)⟩

end Go.Proofs.YtmghnibnokkjjaaDoor
