/- The laws' own functions over rows of holes. -/
import Derived.Test.YtpokompplapkhaaGreatDoorMC
import Derived.Test.YtpokompplapkhaaGreatDoorRow4
namespace Go.Proofs.YtpokompplapkhaaGreatDoor
set_option maxHeartbeats 4000000
set_option maxRecDepth 100000
open Go.RowKit
set_option linter.unusedVariables false
set_option linter.unusedSimpArgs false
def POwn (w : World) (B : Nat) (ls : List (List UInt8)) (g n c : Nat) : Prop := w.ownsRow B 42 2 (.slice (some ⟨g, 0, none⟩) n c) n (strs ls)
theorem POwn.up {w w1 : World} {B g n c : Nat} {ls : List (List UInt8)} (h : POwn w B ls g n c) (hb : Below w.heap.size w w1) : POwn w1 B ls g n c := own_up h hb
theorem POwn.len {w : World} {B g n c : Nat} {ls : List (List UInt8)} (h : POwn w B ls g n c) : ls.length = n * 2 := by
 have := h.1
 simpa [strs] using this
theorem POwn.cell {w : World} {B g n c : Nat} {ls : List (List UInt8)} (h : POwn w B ls g n c) (j : Nat) (s : List UInt8) (hj : ls[j]? = some s) : w.cell? ⟨g, j, none⟩ = some (.string (St s)) := by
 have hi : j < ls.length := (List.getElem?_eq_some_iff.1 hj).1
 have hl := h.len
 rw [World.ownsRow.cellAt h j (by omega)]
 simp [strs, hj]
theorem POwn.free {w : World} {B g n c : Nat} {ls : List (List UInt8)} (h : POwn w B ls g n c) (j : Nat) : w.frozen? ⟨g, j, none⟩ = false := World.ownsRow.frozenAt h j
theorem POwn.reads {w : World} {B g n c : Nat} {ls : List (List UInt8)} (h : POwn w B ls g n c) : SCells w (some ⟨g, 0, none⟩) ls :=
 .inr ⟨g, 0, rfl, fun i l hl => by rw [Nat.zero_add]; exact h.cell i l hl⟩
theorem POwn.set {w : World} {B g n c : Nat} {ls : List (List UInt8)} (h : POwn w B ls g n c) (j : Nat) (s : List UInt8) :
 POwn (w.setCell ⟨g, j, none⟩ (.string (St s))) B (ls.set j s) g n c /\ w.grownBy (w.setCell ⟨g, j, none⟩ (.string (St s))) (some g) := by
 have := World.ownsRow.stored h j (.string (St s))
 refine ⟨?_, this.2⟩
 unfold POwn
 rw [show strs (ls.set j s) = (strs ls).set j (.string (St s)) by simp [strs, List.map_set]]
 exact this.1
theorem POwn.kept {w w1 : World} {B g n c g' : Nat} {ls : List (List UInt8)} (h : POwn w B ls g n c) (hg : w.grownBy w1 (some g')) (hne : g ≠ g') : POwn w1 B ls g n c :=
 World.ownsRow.kept h hg (.inr (by simp [Value.ownBlock]; exact hne))
theorem POwn.lt {w : World} {B g n c : Nat} {ls : List (List UInt8)} (h : POwn w B ls g n c) : B <= g /\ g < w.heap.size := World.ownsRow.lt h g rfl
def MRelH (w : World) (B g c : Nat) (k : Int) (n i : Nat) (wr : World) : Prop :=
 ∃ xs, xs.length = n * 2 /\ xs.take i = marks k i /\ POwn wr B xs g n c /\ w.grownBy wr (some g)
theorem MRelH.step {w wr w1 : World} {B g c n i : Nat} {k : Int} {xs : List (List UInt8)} (hi : i < n * 2) (h1 : xs.length = n * 2) (h2 : xs.take i = marks k i) (h3 : POwn w1 B xs g n c) (h4 : w.grownBy wr (some g)) (hb : Below wr.heap.size wr w1) :
 MRelH w B g c k n (i + 1) (w1.setCell ⟨g, i, none⟩ (.string (St (markB (k + i))))) := by
 obtain ⟨h5, h6⟩ := h3.set i (markB (k + i))
 refine ⟨_, by simpa using h1, ?_, h5, grown_trans2 h4 hb h6⟩
 rw [marks_snoc, List.take_add_one, List.take_set_of_le (Nat.le_refl _), h2]
 simp [h1, hi]
theorem MRelH.next {w wr : World} {B g c n i : Nat} {k : Int} (h : MRelH w B g c k n i wr) (hi : i < n * 2) : ∀ w1, Below wr.heap.size wr w1 -> w1.frozen? ⟨g, i, none⟩ = false /\ (∃ v, w1.cell? ⟨g, i, none⟩ = some v) /\ MRelH w B g c k n (i + 1) (w1.setCell ⟨g, i, none⟩ (.string (St (markB (k + i))))) := fun w1 hb => by
 obtain ⟨xs, h1, h2, h3, h4⟩ := h
 have h3' := h3.up hb
 exact ⟨h3'.free i, ⟨_, h3'.cell i _ (List.getElem?_eq_getElem (by omega))⟩, MRelH.step hi h1 h2 h3' h4 hb⟩
end Go.Proofs.YtpokompplapkhaaGreatDoor

