/- The reference's l2Turn. -/
import Derived.Test.YtpokompplapkhaaGreatDoorSIs
import Derived.Test.YtpokompplapkhaaGreatDoorTk
import Derived.Test.YtpokompplapkhaaGreatDoorVTyN
import Derived.Test.YtpokompplapkhaaGreatDoorMapP
import Derived.Test.YtpokompplapkhaaGreatDoorLsT
namespace Go.Proofs.YtpokompplapkhaaGreatDoor
open Go.RowKit
set_option linter.unusedVariables false
set_option linter.unusedSimpArgs false
/-- Trees and environments stay, and so does what lies below. -/
structure KT (B : Nat) (w w' : World) : Prop where
  tr : Keeps 59 w w'
  en : Keeps 208 w w'
  bl : Below B w w'
theorem KT.up {B : Nat} {w w' : World} (h : Below w.heap.size w w') (hB : B ≤ w.heap.size) : KT B w w' := ⟨.up h, .up h, ⟨h.os, h.tape, h.output, h.size, fun k hk => h.block k (Nat.lt_of_lt_of_le hk hB)⟩⟩
theorem KT.trans {B : Nat} {w w1 w2 : World} (h : KT B w w1) (k : KT B w1 w2) : KT B w w2 := ⟨h.tr.trans k.tr, h.en.trans k.en, h.bl.trans k.bl⟩
theorem KT.size {B : Nat} {w w' : World} (h : KT B w w') : w.heap.size ≤ w'.heap.size := h.bl.size
/-- The box of what replaces, with its list. -/
def TBx (w : World) (B gb : Nat) (nm : List UInt8) (a b : Nat) (ls : List (List UInt8)) : Prop :=
  ∃ g cap, w.heap[gb]? = some (.cells #[.string (St nm), .int .i64 a, .int .i64 b, .slice (some ⟨g, 0, none⟩) ls.length cap] 115 (0, 0)) ∧ SOwn w B ls g cap ∧ B ≤ gb
theorem TBx.up {w w' : World} {B gb a b : Nat} {nm : List UInt8} {ls : List (List UInt8)} (h : TBx w B gb nm a b ls) (hb : Below w.heap.size w w') : TBx w' B gb nm a b ls := by
  obtain ⟨g, cap, h1, h2, h3⟩ := h
  exact ⟨g, cap, block_up hb h1, h2.up hb, h3⟩
theorem TBx.box {w : World} {B gb a b k : Nat} {nm : List UInt8} {ls : List (List UInt8)} (h : TBx w B gb nm a b ls) {c d : Value} (hk : w.heap[k]? = some (.cells #[c, d] 59 (0, 0))) (x y : Value) : TBx ((w.setCell ⟨k, 0, none⟩ x).setCell ⟨k, 1, none⟩ y) B gb nm a b ls := by
  obtain ⟨g, cap, h1, h2, h3⟩ := h
  have n1 : ¬ gb = k := by
    rintro rfl
    rw [hk] at h1
    simp at h1
  obtain ⟨_, hg⟩ := h2.lt
  have n2 : ¬ g = k := by
    rintro rfl
    rcases h2.2 with ⟨e1, _⟩ | ⟨g', c', cur, e1, _, e2, _⟩
    · cases e1
    · cases e1
      rw [hk] at e2
      simp at e2
  refine ⟨g, cap, ?_, ?_, h3⟩
  · rw [Below.heap_setCell _ ⟨k, 1, none⟩ _ _ n1, Below.heap_setCell _ ⟨k, 0, none⟩ _ _ n1, h1]
  · refine World.ownsRow.kept h2 (row := some k) ?_ (.inr (by simp [Value.ownBlock]; exact n2))
    exact ⟨rfl, rfl, rfl, by simp [World.setCell], fun j hj hne => by
      rw [Below.heap_setCell _ ⟨k, 1, none⟩ _ j (by simpa using hne), Below.heap_setCell _ ⟨k, 0, none⟩ _ j (by simpa using hne)]⟩
theorem KT.box {B : Nat} {w w' : World} (h : KT B w w') {k : Nat} (hk : w.heap.size ≤ k) (hB : B ≤ w.heap.size) (x y : Value) : KT B w ((w'.setCell ⟨k, 0, none⟩ x).setCell ⟨k, 1, none⟩ y) := by
  have hj : ∀ j, j < w.heap.size → ((w'.setCell ⟨k, 0, none⟩ x).setCell ⟨k, 1, none⟩ y).heap[j]? = w'.heap[j]? := fun j hj => by
    rw [Below.heap_setCell _ ⟨k, 1, none⟩ _ j (by show ¬ j = k; omega), Below.heap_setCell _ ⟨k, 0, none⟩ _ j (by show ¬ j = k; omega)]
  exact ⟨fun j cs fr hb => (hj j (lt_of_block hb)).trans (h.tr _ _ _ hb), fun j cs fr hb => (hj j (lt_of_block hb)).trans (h.en _ _ _ hb), set0 (set0 h.bl (by omega)) (by omega)⟩
end Go.Proofs.YtpokompplapkhaaGreatDoor

