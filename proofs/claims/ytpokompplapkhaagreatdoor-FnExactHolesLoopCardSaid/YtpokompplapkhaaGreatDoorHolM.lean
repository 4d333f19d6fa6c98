/- The laws' own functions over rows of holes. -/
import Derived.Test.YtpokompplapkhaaGreatDoorMC
import Derived.Test.YtpokompplapkhaaGreatDoorRow4
namespace Go.Proofs.YtpokompplapkhaaGreatDoor
open Go.RowKit
set_option linter.unusedVariables false
set_option linter.unusedSimpArgs false

/-- A row of told holes that a call owns: their texts, one after the other. -/
def POwn (w : World) (B : Nat) (ls : List (List UInt8)) (g n c : Nat) : Prop := w.ownsRow B 42 2 (.slice (some ⟨g, 0, none⟩) n c) n (strs ls)
theorem POwn.up {w w1 : World} {B g n c : Nat} {ls : List (List UInt8)} (h : POwn w B ls g n c) (hb : Below w.heap.size w w1) : POwn w1 B ls g n c := own_up h hb
theorem POwn.len {w : World} {B g n c : Nat} {ls : List (List UInt8)} (h : POwn w B ls g n c) : ls.length = n * 2 := by
  have := h.1
  simpa [strs] using this
theorem POwn.cell {w : World} {B g n c : Nat} {ls : List (List UInt8)} (h : POwn w B ls g n c) (j : Nat) (s : List UInt8) (hj : ls[j]? = some s) : w.cell? ⟨g, j, none⟩ = some (.string (St s)) := by
  have hi : j < ls.length := (List.getElem?_eq_some_iff.1 hj).1
  have hl := h.len
  rw [World.ownsRow.cellAt h j (by omega)]
  simp [strs, hj]
theorem POwn.free {w : World} {B g n c : Nat} {ls : List (List UInt8)} (h : POwn w B ls g n c) (j : Nat) : w.frozen? ⟨g, j, none⟩ = false := World.ownsRow.frozenAt h j
theorem POwn.reads {w : World} {B g n c : Nat} {ls : List (List UInt8)} (h : POwn w B ls g n c) : SCells w (some ⟨g, 0, none⟩) ls :=
  .inr ⟨g, 0, rfl, fun i l hl => by rw [Nat.zero_add]; exact h.cell i l hl⟩
theorem POwn.set {w : World} {B g n c : Nat} {ls : List (List UInt8)} (h : POwn w B ls g n c) (j : Nat) (s : List UInt8) :
    POwn (w.setCell ⟨g, j, none⟩ (.string (St s))) B (ls.set j s) g n c ∧ w.grownBy (w.setCell ⟨g, j, none⟩ (.string (St s))) (some g) := by
  have := World.ownsRow.stored h j (.string (St s))
  refine ⟨?_, this.2⟩
  unfold POwn
  rw [show strs (ls.set j s) = (strs ls).set j (.string (St s)) by simp [strs, List.map_set]]
  exact this.1
theorem POwn.kept {w w1 : World} {B g n c g' : Nat} {ls : List (List UInt8)} (h : POwn w B ls g n c) (hg : w.grownBy w1 (some g')) (hne : g ≠ g') : POwn w1 B ls g n c :=
  World.ownsRow.kept h hg (.inr (by simp [Value.ownBlock]; exact hne))
theorem POwn.lt {w : World} {B g n c : Nat} {ls : List (List UInt8)} (h : POwn w B ls g n c) : B ≤ g ∧ g < w.heap.size := World.ownsRow.lt h g rfl

set_option maxHeartbeats 1000000 in
theorem eqHole_same (x y : List UInt8) (w : World) : Calls Tryz.prog 59 #[.agg #[.string (St x), .string (St y)], .agg #[.string (St x), .string (St y)]] w fun e w' => e = .returned (.bool true) ∧ Below w.heap.size w w' := by
  have h3 : (x != x) = false := by rw [bne_self_eq_false]
  have h4 : (y != y) = false := by rw [bne_self_eq_false]
  go_enter Tryz.func59, Tryz.ntmps59
  go_wp2
  go_ret
  exact ⟨rfl, by repeat (first | exact Below.refl _ _ | refine up_drew ?_ | refine up_alloc ?_ _ | refine set0 ?_ (by simp))⟩
set_option maxHeartbeats 4000000 in
set_option maxRecDepth 100000 in
theorem eqHoleS_same (xs : List (List UInt8)) (n : Nat) (A B : Option Addr) (c d : Nat) (w : World) (hn : n ≤ 1000000) (hl : xs.length = n * 2) (hx : SCells w A xs) (hy : SCells w B xs) :
    Calls Tryz.prog 20 #[.slice A n c, .slice B n d] w fun e w' => e = .returned (.bool true) ∧ Below w.heap.size w w' := by
  have HX := Lib.hid hx
  have HY := Lib.hid hy
  have HL := Lib.hid hl
  have HE := Lib.hid eqHole_same
  have hnn : ((n : Int) != (n : Int)) = false := by rw [bne_self_eq_false]
  clear hx hy hl
  go_enter Tryz.func20, Tryz.ntmps20
  go_wp2
  go_loopg [5] n (fun m v5 wr => ∃ k : Nat, v5 = .int .i64 k ∧ Hid (m + k = n) ∧ Hid (Below w.heap.size w wr))
  case atStart => exact ⟨0, rfl, rfl, Below.refl _ _⟩
  case round =>
    obtain ⟨k, rfl, HK, HB⟩ := hrel
    have hk := HK.out
    cases gk with
    | zero =>
      have h1 : decide (k < n) = false := decide_eq_false (by omega)
      clear HK hk
      go_wp2
      go_ret
      exact ⟨rfl, HB.out⟩
    | succ m =>
      have h1 : decide (k < n) = true := decide_eq_true (by omega)
      have hkn : k < n := by omega
      have hxs : 2 * k < xs.length := by rw [HL.out]; omega
      have hxs2 : 2 * k + 1 < xs.length := by rw [HL.out]; omega
      obtain ⟨x, hx⟩ : ∃ x, xs[2 * k]? = some x := ⟨_, List.getElem?_eq_getElem hxs⟩
      obtain ⟨y, hy⟩ : ∃ y, xs[2 * k + 1]? = some y := ⟨_, List.getElem?_eq_getElem hxs2⟩
      have hcx := HX.out.up HB.out
      have hcy := HY.out.up HB.out
      rcases hcx with hcx | ⟨gx, ox, rfl, hcx⟩
      · rw [hcx] at hx; cases hx
      rcases hcy with hcy | ⟨gy, oy, rfl, hcy⟩
      · rw [hcy] at hy; cases hy
      have d1 := hcx _ x hx
      have d2 := hcx _ y hy
      have d3 := hcy _ x hx
      have d4 := hcy _ y hy
      rw [Nat.mul_comm 2 k] at d1 d2 d3 d4
      rw [← Nat.add_assoc] at d2 d4
      have HK2 : Hid (m + ((k + 1 : Nat)) = n) := by show _ = _; omega
      clear hcx hcy HK hk hxs hxs2 hx hy
      go_wp2
      go_region_held3 (fun w' => w'.cell? ⟨gx, ox + k * 2, none⟩ = some (.string (St x)) ∧ w'.cell? ⟨gx, ox + k * 2 + 1, none⟩ = some (.string (St y)) ∧ w'.cell? ⟨gy, oy + k * 2, none⟩ = some (.string (St x)) ∧ w'.cell? ⟨gy, oy + k * 2 + 1, none⟩ = some (.string (St y)) ∧ Hid (Below w.heap.size w w')) (first | exact ⟨cell_up (w := wr) HB2.out d1, cell_up (w := wr) HB2.out d2, cell_up (w := wr) HB2.out d3, cell_up (w := wr) HB2.out d4, up_trans HB.out HB2.out⟩ | exact ⟨d1, d2, d3, d4, up_drew HB.out⟩ | go_keep)
        (first | (go_at_call 59; (with_reducible refine (HE.out _ _ _).mono ?_); rintro e w2 ⟨rfl, hb2⟩; have HB2 : Hid (Below wr.heap.size wr w2) := up_trans (up_drew (Below.refl _ _)) hb2; clear hb2))
      go_wp2
      go_roundg m
      case measure => omega
      case rel => exact ⟨k + 1, rfl, HK2, up_trans HB.out HB2.out⟩
/-- Where the loop of markHoleS stands. -/
def MRelH (w : World) (B g c : Nat) (k : Int) (n i : Nat) (wr : World) : Prop :=
  ∃ xs, xs.length = n * 2 ∧ xs.take i = marks k i ∧ POwn wr B xs g n c ∧ w.grownBy wr (some g)
theorem MRelH.step {w wr w1 : World} {B g c n i : Nat} {k : Int} {xs : List (List UInt8)} (hi : i < n * 2) (h1 : xs.length = n * 2) (h2 : xs.take i = marks k i) (h3 : POwn w1 B xs g n c) (h4 : w.grownBy wr (some g)) (hb : Below wr.heap.size wr w1) :
    MRelH w B g c k n (i + 1) (w1.setCell ⟨g, i, none⟩ (.string (St (markB (k + i))))) := by
  obtain ⟨h5, h6⟩ := h3.set i (markB (k + i))
  refine ⟨_, by simpa using h1, ?_, h5, grown_trans2 h4 hb h6⟩
  rw [marks_snoc, List.take_add_one, List.take_set_of_le (Nat.le_refl _), h2]
  simp [h1, hi]
/-- What a store of a mark asks, and what stands behind it. -/
theorem MRelH.next {w wr : World} {B g c n i : Nat} {k : Int} (h : MRelH w B g c k n i wr) (hi : i < n * 2) : ∀ w1, Below wr.heap.size wr w1 → w1.frozen? ⟨g, i, none⟩ = false ∧ (∃ v, w1.cell? ⟨g, i, none⟩ = some v) ∧ MRelH w B g c k n (i + 1) (w1.setCell ⟨g, i, none⟩ (.string (St (markB (k + i))))) := fun w1 hb => by
  obtain ⟨xs, h1, h2, h3, h4⟩ := h
  have h3' := h3.up hb
  exact ⟨h3'.free i, ⟨_, h3'.cell i _ (List.getElem?_eq_getElem (by omega))⟩, MRelH.step hi h1 h2 h3' h4 hb⟩
set_option maxHeartbeats 4000000 in
set_option maxRecDepth 100000 in
theorem markHoleS_any (ls : List (List UInt8)) (B g c n : Nat) (k : Nat) (w : World) (hn : n ≤ 1000000) (hk : k ≤ 1000000) (ho : POwn w B ls g n c) :
    Calls Tryz.prog 21 #[.slice (some ⟨g, 0, none⟩) n c, .int .i64 k] w fun e w' => e = .returned (.int .i64 (k + 2 * n : Nat)) ∧ w.grownBy w' (some g) ∧ POwn w' B (marks k (2 * n)) g n c := by
  have HO : Hid (MRelH w B g c k n 0 w) := ⟨ls, ho.len, rfl, ho, World.grownBy.refl _ _⟩
  clear ho
  go_enter Tryz.func21, Tryz.ntmps21
  go_wp2
  go_loopg [1, 5] n (fun m v1 v5 wr => ∃ i : Nat, v1 = .int .i64 ((k : Int) + 2 * (i : Int)) ∧ v5 = .int .i64 i ∧ Hid (m + i = n) ∧ Hid (MRelH w B g c k n (2 * i) wr))
  case atStart => exact ⟨0, by simp, rfl, rfl, HO⟩
  case round =>
    obtain ⟨i, rfl, rfl, HM, HR⟩ := hrel
    have hm := HM.out
    clear HO
    cases gk with
    | zero =>
      have h5 : decide (i < n) = false := decide_eq_false (by omega)
      obtain rfl : i = n := by omega
      have HP : Hid (w.grownBy wr (some g) ∧ POwn wr B (marks k (2 * i)) g i c) := by
        obtain ⟨xs, h1, h2, h3, h4⟩ := HR.out
        exact ⟨h4, by rw [← h2, List.take_of_length_le (by omega)]; exact h3⟩
      clear HR HM hm
      go_wp2
      go_ret
      exact ⟨rfl, HP.out.1, HP.out.2⟩
    | succ m =>
      have h5 : decide (i < n) = true := decide_eq_true (by omega)
      have hin : i < n := by omega
      have HT := Lib.hid fun w => markText_St ((k : Int) + 2 * (i : Int)) w (by omega)
      have HT2 := Lib.hid fun w => markText_St ((k : Int) + 2 * (i : Int) + 1) w (by omega)
      have HN : Hid (∀ w1, Below wr.heap.size wr w1 → w1.frozen? ⟨g, i * 2, none⟩ = false ∧ (∃ v, w1.cell? ⟨g, i * 2, none⟩ = some v) ∧ Hid (MRelH w B g c k n (2 * i + 1) (w1.setCell ⟨g, i * 2, none⟩ (.string (St (markB ((k : Int) + 2 * (i : Int)))))))) := fun w1 hb => by
        have := HR.out.next (by omega) w1 hb
        rw [show (k : Int) + ((2 * i : Nat) : Int) = (k : Int) + 2 * (i : Int) by omega, Nat.mul_comm 2 i] at this
        rw [Nat.mul_comm 2 i]
        exact this
      have HN2 : Hid (∀ w0, Hid (MRelH w B g c k n (2 * i + 1) w0) → ∀ w1, Below w0.heap.size w0 w1 → w1.frozen? ⟨g, i * 2 + 1, none⟩ = false ∧ (∃ v, w1.cell? ⟨g, i * 2 + 1, none⟩ = some v) ∧ Hid (MRelH w B g c k n (2 * (i + 1)) (w1.setCell ⟨g, i * 2 + 1, none⟩ (.string (St (markB ((k : Int) + 2 * (i : Int) + 1))))))) := fun w0 h0 w1 hb => by
        have := h0.out.next (by omega) w1 hb
        rw [show (k : Int) + ((2 * i + 1 : Nat) : Int) = (k : Int) + 2 * (i : Int) + 1 by omega, Nat.mul_comm 2 i] at this
        rw [show 2 * (i + 1) = i * 2 + 1 + 1 by omega]
        exact this
      clear HR HM
      go_wp2_with (go_at_call 60; first
        | (have HR1' := HR1.out; clear HR1'; (with_reducible refine (HT2.out _).mono ?_); rintro e w2 ⟨rfl, hb2⟩; obtain ⟨d3, ⟨v1, d4⟩, hr2⟩ := HN2.out _ HR1 w2 hb2; have HR2 := Lib.hid hr2; clear hr2 hb2)
        | ((with_reducible refine (HT.out _).mono ?_); rintro e w1 ⟨rfl, hb1⟩; obtain ⟨d1, ⟨v0, d2⟩, HR1⟩ := HN.out w1 hb1; clear hb1))
      go_roundg m
      case measure => omega
      case rel => exact ⟨i + 1, by simp only [Value.int.injEq, true_and]; omega, rfl, by show m + (i + 1) = n; omega, HR2.out⟩
set_option maxHeartbeats 4000000 in
set_option maxRecDepth 100000 in
theorem heldHoleS_any (A : Option Addr) (n c : Nat) (k : Nat) (w : World) (hn : n ≤ 1000000) (hk : k ≤ 1000000) (ho : SCells w A (marks k (2 * n))) :
    Calls Tryz.prog 22 #[.slice A n c, .int .i64 k] w fun e w' => e = .returned (.int .i64 (k + 2 * n : Nat)) ∧ Below w.heap.size w w' := by
  have HO := Lib.hid ho
  clear ho
  go_enter Tryz.func22, Tryz.ntmps22
  go_wp2
  go_loopg [1, 5] n (fun m v1 v5 wr => ∃ i : Nat, v1 = .int .i64 ((k : Int) + 2 * (i : Int)) ∧ v5 = .int .i64 i ∧ Hid (m + i = n) ∧ Hid (Below w.heap.size w wr))
  case atStart => exact ⟨0, by simp, rfl, rfl, Below.refl _ _⟩
  case round =>
    obtain ⟨i, rfl, rfl, HM, HB⟩ := hrel
    have hm := HM.out
    cases gk with
    | zero =>
      have h5 : decide (i < n) = false := decide_eq_false (by omega)
      obtain rfl : i = n := by omega
      clear HM hm
      go_wp2
      go_ret
      exact ⟨rfl, HB.out⟩
    | succ m =>
      have h5 : decide (i < n) = true := decide_eq_true (by omega)
      have hin : i < n := by omega
      have HT := Lib.hid fun w => markText_St ((k : Int) + 2 * (i : Int)) w (by omega)
      have HT2 := Lib.hid fun w => markText_St ((k : Int) + 2 * (i : Int) + 1) w (by omega)
      rcases HO.out.up HB.out with ho | ⟨g, o, rfl, hc⟩
      · have := marks_len (2 * n) k
        rw [ho] at this
        simp at this
        omega
      have d1 := hc _ _ (marks_get (2 * n) k (2 * i) (by omega))
      have d2 := hc _ _ (marks_get (2 * n) k (2 * i + 1) (by omega))
      rw [Nat.mul_comm 2 i, show (k : Int) + ((i * 2 : Nat) : Int) = (k : Int) + 2 * (i : Int) by omega] at d1
      rw [Nat.mul_comm 2 i, show (k : Int) + ((i * 2 + 1 : Nat) : Int) = (k : Int) + 2 * (i : Int) + 1 by omega, ← Nat.add_assoc] at d2
      generalize markB ((k : Int) + 2 * (i : Int)) = s at *
      generalize markB ((k : Int) + 2 * (i : Int) + 1) = s2 at *
      have hss : (s != s) = false := by rw [bne_self_eq_false]
      have hss2 : (s2 != s2) = false := by rw [bne_self_eq_false]
      clear hc HM
      go_wp2
      go_region_held3 (fun w' => w'.cell? ⟨g, o + i * 2, none⟩ = some (.string (St s)) ∧ Hid (Below wr.heap.size wr w')) (first | exact ⟨cell_up (w := wr) HB2.out d1, HB2⟩ | exact ⟨d1, up_drew (Below.refl _ _)⟩ | go_keep)
        (first | (go_at_call 60; (with_reducible refine (HT.out _).mono ?_); rintro e w2 ⟨rfl, hb2⟩; have HB2 : Hid (Below wr.heap.size wr w2) := up_trans (up_drew (Below.refl _ _)) hb2; clear hb2))
      have d3 : w2.cell? ⟨g, o + i * 2 + 1, none⟩ = some (.string (St s2)) := cell_up HB2.out d2
      go_wp2
      go_region_held3 (fun w' => w'.cell? ⟨g, o + i * 2 + 1, none⟩ = some (.string (St s2)) ∧ Hid (Below w2.heap.size w2 w')) (first | exact ⟨cell_up (w := w2) HB3.out d3, HB3⟩ | exact ⟨d3, up_drew (Below.refl _ _)⟩ | go_keep)
        (first | (go_at_call 60; (with_reducible refine (HT2.out _).mono ?_); rintro e w3 ⟨rfl, hb3⟩; have HB3 : Hid (Below w2.heap.size w2 w3) := up_trans (up_drew (Below.refl _ _)) hb3; clear hb3))
      go_wp2
      go_roundg m
      case measure => omega
      case rel => exact ⟨i + 1, by simp only [Value.int.injEq, true_and]; omega, rfl, by show m + (i + 1) = n; omega, up_trans HB.out (up_trans HB2.out HB3.out)⟩
theorem markHoleS_none (A : Option Addr) (c : Nat) (k : Int) (w : World) :
    Calls Tryz.prog 21 #[.slice A 0 c, .int .i64 k] w fun e w' => e = .returned (.int .i64 k) ∧ w' = w := by
  go_enter Tryz.func21, Tryz.ntmps21
  go_wp2
  go_loopw [1, 5] (fun v1 v5 wr => v1 = .int .i64 k ∧ v5 = .int .i64 0 ∧ wr = w) (fun _ _ _ => 0)
  case atStart => exact ⟨rfl, rfl, rfl⟩
  case round =>
    obtain ⟨rfl, rfl, rfl⟩ := hrel
    go_wp2
    go_ret
    exact ⟨rfl, rfl⟩

end Go.Proofs.YtpokompplapkhaaGreatDoor
