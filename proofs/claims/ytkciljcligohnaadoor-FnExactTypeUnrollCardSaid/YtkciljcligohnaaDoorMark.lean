/- The laws' marks: markText, and the laws' own functions over rows of strings. -/
import Derived.Test.YtkciljcligohnaaDoorElems
import Derived.Laws.BytesArg
namespace Go.Proofs.YtkciljcligohnaaDoor
open Go.RowKit
set_option linter.unusedVariables false
set_option linter.unusedSimpArgs false

/-- The digits ahead of 'acc'. -/
def markL : Nat → Int → ByteArray → ByteArray
  | 0, _, acc => acc
  | n + 1, x, acc => if x > 0 then markL n (wrap64 (Int.tdiv x 10)) (strOfNums [(wrap64 (48 + (Int.tmod x 10))) % 256] ++ acc) else acc

/-- What markText gives. -/
def mark (k : Int) : ByteArray := if k ≤ 0 then ⟨#[109, 48]⟩ else ⟨#[109]⟩ ++ markL 10 k ⟨#[]⟩

theorem markL_stop (n : Nat) (x : Int) (acc : ByteArray) (h : ¬ x > 0) : markL n x acc = acc := by
  cases n with
  | zero => rfl
  | succ n => rw [markL, if_neg h]


/-- The mark as a list. -/
def markB (k : Int) : List UInt8 := (mark k).data.toList

/-- A slice whose elements read as 'ls'. -/
def SCells (w : World) (A : Option Addr) (ls : List (List UInt8)) : Prop :=
  ls = [] ∨ ∃ g o, A = some ⟨g, o, none⟩ ∧ ∀ i l, ls[i]? = some l → w.cell? ⟨g, o + i, none⟩ = some (.string (St l))
theorem SCells.up {w w1 : World} {A : Option Addr} {ls : List (List UInt8)} (h : SCells w A ls) (hb : Below w.heap.size w w1) : SCells w1 A ls := by
  rcases h with h | ⟨g, o, rfl, h⟩
  · exact .inl h
  · exact .inr ⟨g, o, rfl, fun i l hl => cell_up hb (h i l hl)⟩
theorem SOwn.reads {w : World} {B : Nat} {ls : List (List UInt8)} {g c : Nat} (h : SOwn w B ls g c) : SCells w (some ⟨g, 0, none⟩) ls := by
  refine .inr ⟨g, 0, rfl, fun i l hl => ?_⟩
  have hi : i < ls.length := (List.getElem?_eq_some_iff.1 hl).1
  rw [Nat.zero_add, World.ownsRow.cellAt h i (by omega)]
  simp [strs, hl]

theorem St_inj {a b : List UInt8} : (St a = St b) ↔ a = b := by
  constructor
  · intro h
    have := congrArg (fun s => s.data.toList) h
    simpa [St] using this
  · intro h; rw [h]

theorem St_bne {a b : List UInt8} (h : a ≠ b) : (a != b) = true := by rw [bne, St_ne h]; rfl
theorem St_bne_self (a : List UInt8) : (a != a) = false := by simp


/-- The marks from k on. -/
def marks (k : Int) : Nat → List (List UInt8)
  | 0 => []
  | n + 1 => markB k :: marks (k + 1) n
theorem marks_len : ∀ (n : Nat) (k : Int), (marks k n).length = n
  | 0, _ => rfl
  | n + 1, k => by rw [marks, List.length_cons, marks_len n]
theorem marks_get : ∀ (n : Nat) (k : Int) (i : Nat), i < n → (marks k n)[i]? = some (markB (k + i))
  | 0, _, _, h => by omega
  | n + 1, k, 0, _ => by simp [marks]
  | n + 1, k, i + 1, h => by
    rw [marks, List.getElem?_cons_succ, marks_get n (k + 1) i (by omega)]
    congr 2
    omega

/-- A store into a row of strings. -/
theorem SOwn.set {w : World} {B : Nat} {ls : List (List UInt8)} {g c : Nat} (h : SOwn w B ls g c) (j : Nat) (s : List UInt8) :
    SOwn (w.setCell ⟨g, j, none⟩ (.string (St s))) B (ls.set j s) g c ∧ w.grownBy (w.setCell ⟨g, j, none⟩ (.string (St s))) (some g) := by
  have := World.ownsRow.stored h j (.string (St s))
  refine ⟨?_, this.2⟩
  unfold SOwn
  rw [List.length_set, show strs (ls.set j s) = (strs ls).set j (.string (St s)) by simp [strs, List.map_set]]
  exact this.1
theorem SOwn.cell {w : World} {B : Nat} {ls : List (List UInt8)} {g c : Nat} (h : SOwn w B ls g c) (j : Nat) (s : List UInt8) (hj : ls[j]? = some s) : w.cell? ⟨g, j, none⟩ = some (.string (St s)) := by
  have hi : j < ls.length := (List.getElem?_eq_some_iff.1 hj).1
  rw [World.ownsRow.cellAt h j (by omega)]
  simp [strs, hj]
theorem SOwn.free {w : World} {B : Nat} {ls : List (List UInt8)} {g c : Nat} (h : SOwn w B ls g c) (j : Nat) : w.frozen? ⟨g, j, none⟩ = false := World.ownsRow.frozenAt h j

/-- Where the loop of markStringS stands: 'i' are marked. -/
def MRel (w : World) (B g c : Nat) (k : Int) (n i : Nat) (wr : World) : Prop :=
  ∃ xs, xs.length = n ∧ xs.take i = marks k i ∧ SOwn wr B xs g c ∧ w.grownBy wr (some g)

theorem marks_snoc : ∀ (i : Nat) (k : Int), marks k (i + 1) = marks k i ++ [markB (k + i)]
  | 0, k => by simp [marks]
  | i + 1, k => by
    rw [marks, marks_snoc i (k + 1), marks, List.cons_append, show k + 1 + (i : Int) = k + ((i + 1 : Nat) : Int) by omega]

theorem grown_trans2 {w w1 w2 w3 : World} {g : Nat} (h : w.grownBy w1 (some g)) (hb : Below w1.heap.size w1 w2) (k : w2.grownBy w3 (some g)) : w.grownBy w3 (some g) :=
  ⟨k.os.trans (hb.os.trans h.os), k.tape.trans (hb.tape.trans h.tape), k.output.trans (hb.output.trans h.output), Nat.le_trans h.size (Nat.le_trans hb.size k.size), fun j hj hne => by
    rw [k.block j (Nat.lt_of_lt_of_le hj (Nat.le_trans h.size hb.size)) hne, hb.block j (Nat.lt_of_lt_of_le hj h.size), h.block j hj hne]⟩

theorem MRel.step {w wr w1 : World} {B g c n i : Nat} {k : Int} {xs : List (List UInt8)} (hi : i < n) (h1 : xs.length = n) (h2 : xs.take i = marks k i) (h3 : SOwn w1 B xs g c) (h4 : w.grownBy wr (some g)) (hb : Below wr.heap.size wr w1) :
    MRel w B g c k n (i + 1) (w1.setCell ⟨g, i, none⟩ (.string (St (markB (k + i))))) := by
  obtain ⟨h5, h6⟩ := h3.set i (markB (k + i))
  refine ⟨_, by simpa using h1, ?_, h5, grown_trans2 h4 hb h6⟩
  rw [marks_snoc, List.take_add_one, List.take_set_of_le (Nat.le_refl _), h2]
  simp [h1, hi]



end Go.Proofs.YtkciljcligohnaaDoor
