/- Rows of strings that a call owns; a value's elements. The laws' marks: markText, and the laws' own functions over rows of strings. Lists of strings that the laws compare and mark. -/
import Derived.Test.YtpokompplapkhaaGreatDoorMB
import Derived.Laws.BytesArg
namespace Go.Proofs.YtpokompplapkhaaGreatDoor
set_option maxHeartbeats 2000000
open Go.RowKit
set_option linter.unusedVariables false
set_option linter.unusedSimpArgs false
def strs (ls : List (List UInt8)) : List Value := ls.map fun l => .string (St l)
theorem strs_app (a b : List (List UInt8)) : strs (a ++ b) = strs a ++ strs b := by simp [strs]
theorem strs_one (a b : List (List UInt8)) : ∀ u ∈ strs a, u.oneCell' = true := by
 intro u hu
 obtain ⟨l, _, rfl⟩ := List.mem_map.1 hu
 rfl
def SOwn (w : World) (B : Nat) (ls : List (List UInt8)) (g c : Nat) : Prop :=
 w.ownsRow B 9 1 (.slice (some ⟨g, 0, none⟩) ls.length c) ls.length (strs ls)
theorem SOwn.up {w w1 : World} {B : Nat} {ls : List (List UInt8)} {g c : Nat} (h : SOwn w B ls g c) (hb : Below w.heap.size w w1) : SOwn w1 B ls g c := own_up h hb
theorem SOwn.lt {w : World} {B : Nat} {ls : List (List UInt8)} {g c : Nat} (h : SOwn w B ls g c) : B <= g /\ g < w.heap.size := World.ownsRow.lt h g rfl
theorem SOwn.new (w : World) (B : Nat) (hB : B <= w.heap.size) (ls : List (List UInt8)) (hl : ls.length <= 1000000000) : SOwn (w.alloc (.cells (strs ls).toArray 9)) B ls w.heap.size ls.length := by
 have := World.ownsRow_lit (e := 9) (size := 1) w (strs ls).toArray ls.length hB (by unfold maxLen; omega) (by simp [strs])
 exact this
theorem SOwn.cells {w : World} {B : Nat} {ls : List (List UInt8)} {g c : Nat} (h : SOwn w B ls g c) : ∀ j u, (strs ls)[j]? = some u -> w.cell? ((⟨g, 0, none⟩ : Addr).add j) = some u := World.ownsRow.cells h rfl
theorem own_nonnil {w : World} {B n : Nat} {e : TypeId} {size : Nat} {v : Value} {xs : List Value} (h : w.ownsRow B e size v n xs) (hv : v ≠ .slice none 0 0) : ∃ g c, v = .slice (some ⟨g, 0, none⟩) n c := by
 rcases h.2 with ⟨rfl, rfl⟩ | ⟨g, cap, cur, rfl, _⟩
 · exact absurd rfl hv
 · exact ⟨_, _, rfl⟩
theorem SOwn.of {w : World} {B n g c : Nat} {a b : List (List UInt8)} {xs : List Value} (h : w.ownsRow B 9 1 (.slice (some ⟨g, 0, none⟩) n c) n xs) (hn : n = (a ++ b).length) (hx : xs = strs a ++ strs b) : SOwn w B (a ++ b) g c := by
 subst hn; subst hx
 unfold SOwn
 rw [strs_app]
 exact h
theorem elems_len : ∀ v : V, v.elems.length <= v.nodes
 | .u => by simp [V.elems]
 | .el _ => by simp [V.elems, V.nodes]
 | .l a => by have := elems_len a; simp only [V.elems, V.nodes]; omega
 | .r a => by have := elems_len a; simp only [V.elems, V.nodes]; omega
 | .f a => by have := elems_len a; simp only [V.elems, V.nodes]; omega
 | .p a b => by have := elems_len a; have := elems_len b; simp only [V.elems, V.nodes, List.length_append]; omega
def LPost (w : World) (ls : List (List UInt8)) (e : Ending) (w' : World) : Prop :=
 Below w.heap.size w w' /\ ∃ g c, e = .returned (.slice (some ⟨g, 0, none⟩) ls.length c) /\ SOwn w' w.heap.size ls g c
theorem Tryz.infoStr : (Tryz.prog.info? 9).map (fun i => (i.zero, i.size, i.bytes)) = some (some (.string ⟨#[]⟩), 1, 16) := by kernel_rfl
theorem SOwn.app {w w2 : World} {B H g c : Nat} {a b : List (List UInt8)} {v' : Value} (h : w2.ownsRow B 9 1 v' (a.length + b.length) (strs a ++ strs b))
 (hn : v' = .slice none 0 0 ↔ (Value.slice (some ⟨g, 0, none⟩) a.length c) = .slice none 0 0 /\ b.length = 0) :
 ∃ g2 c2, v' = .slice (some ⟨g2, 0, none⟩) (a.length + b.length) c2 /\ SOwn w2 B (a ++ b) g2 c2 := by
 obtain ⟨g2, c2, rfl⟩ := own_nonnil h (fun hv => by have := (hn.1 hv).1; cases this)
 exact ⟨g2, c2, rfl, SOwn.of h (by simp) rfl⟩
theorem up_grown {w w1 w2 : World} {g : Nat} (hb : Below w.heap.size w w1) (hg : w1.grownBy w2 (some g)) (h : w.heap.size <= g) : Below w.heap.size w w2 :=
 hb.grown hg hb.size (fun k hk => by cases hk; exact h)
end Go.Proofs.YtpokompplapkhaaGreatDoor
namespace Go.Proofs.YtpokompplapkhaaGreatDoor
set_option maxHeartbeats 2000000
open Go.RowKit
set_option linter.unusedVariables false
set_option linter.unusedSimpArgs false
def markL : Nat -> Int -> ByteArray -> ByteArray
 | 0, _, acc => acc
 | n + 1, x, acc => if x > 0 then markL n (wrap64 (Int.tdiv x 10)) (strOfNums [(wrap64 (48 + (Int.tmod x 10))) % 256] ++ acc) else acc
def mark (k : Int) : ByteArray := if k <= 0 then ⟨#[109, 48]⟩ else ⟨#[109]⟩ ++ markL 10 k ⟨#[]⟩
def markB (k : Int) : List UInt8 := (mark k).data.toList
def SCells (w : World) (A : Option Addr) (ls : List (List UInt8)) : Prop :=
 ls = [] \/ ∃ g o, A = some ⟨g, o, none⟩ /\ ∀ i l, ls[i]? = some l -> w.cell? ⟨g, o + i, none⟩ = some (.string (St l))
theorem SCells.up {w w1 : World} {A : Option Addr} {ls : List (List UInt8)} (h : SCells w A ls) (hb : Below w.heap.size w w1) : SCells w1 A ls := by
 rcases h with h | ⟨g, o, rfl, h⟩
 · exact .inl h
 · exact .inr ⟨g, o, rfl, fun i l hl => cell_up hb (h i l hl)⟩
theorem SOwn.reads {w : World} {B : Nat} {ls : List (List UInt8)} {g c : Nat} (h : SOwn w B ls g c) : SCells w (some ⟨g, 0, none⟩) ls := by
 refine .inr ⟨g, 0, rfl, fun i l hl => ?_⟩
 have hi : i < ls.length := (List.getElem?_eq_some_iff.1 hl).1
 rw [Nat.zero_add, World.ownsRow.cellAt h i (by omega)]
 simp [strs, hl]
theorem St_inj {a b : List UInt8} : (St a = St b) ↔ a = b := by
 constructor
 · intro h
   have := congrArg (fun s => s.data.toList) h
   simpa [St] using this
 · intro h; rw [h]
def marks (k : Int) : Nat -> List (List UInt8)
 | 0 => []
 | n + 1 => markB k :: marks (k + 1) n
theorem SOwn.set {w : World} {B : Nat} {ls : List (List UInt8)} {g c : Nat} (h : SOwn w B ls g c) (j : Nat) (s : List UInt8) :
 SOwn (w.setCell ⟨g, j, none⟩ (.string (St s))) B (ls.set j s) g c /\ w.grownBy (w.setCell ⟨g, j, none⟩ (.string (St s))) (some g) := by
 have := World.ownsRow.stored h j (.string (St s))
 refine ⟨?_, this.2⟩
 unfold SOwn
 rw [List.length_set, show strs (ls.set j s) = (strs ls).set j (.string (St s)) by simp [strs, List.map_set]]
 exact this.1
theorem SOwn.cell {w : World} {B : Nat} {ls : List (List UInt8)} {g c : Nat} (h : SOwn w B ls g c) (j : Nat) (s : List UInt8) (hj : ls[j]? = some s) : w.cell? ⟨g, j, none⟩ = some (.string (St s)) := by
 have hi : j < ls.length := (List.getElem?_eq_some_iff.1 hj).1
 rw [World.ownsRow.cellAt h j (by omega)]
 simp [strs, hj]
theorem SOwn.free {w : World} {B : Nat} {ls : List (List UInt8)} {g c : Nat} (h : SOwn w B ls g c) (j : Nat) : w.frozen? ⟨g, j, none⟩ = false := World.ownsRow.frozenAt h j
def MRel (w : World) (B g c : Nat) (k : Int) (n i : Nat) (wr : World) : Prop :=
 ∃ xs, xs.length = n /\ xs.take i = marks k i /\ SOwn wr B xs g c /\ w.grownBy wr (some g)
theorem marks_snoc : ∀ (i : Nat) (k : Int), marks k (i + 1) = marks k i ++ [markB (k + i)]
 | 0, k => by simp [marks]
 | i + 1, k => by
  rw [marks, marks_snoc i (k + 1), marks, List.cons_append, show k + 1 + (i : Int) = k + ((i + 1 : Nat) : Int) by omega]
theorem grown_trans2 {w w1 w2 w3 : World} {g : Nat} (h : w.grownBy w1 (some g)) (hb : Below w1.heap.size w1 w2) (k : w2.grownBy w3 (some g)) : w.grownBy w3 (some g) :=
 ⟨k.os.trans (hb.os.trans h.os), k.tape.trans (hb.tape.trans h.tape), k.output.trans (hb.output.trans h.output), Nat.le_trans h.size (Nat.le_trans hb.size k.size), fun j hj hne => by
  rw [k.block j (Nat.lt_of_lt_of_le hj (Nat.le_trans h.size hb.size)) hne, hb.block j (Nat.lt_of_lt_of_le hj h.size), h.block j hj hne]⟩
theorem MRel.step {w wr w1 : World} {B g c n i : Nat} {k : Int} {xs : List (List UInt8)} (hi : i < n) (h1 : xs.length = n) (h2 : xs.take i = marks k i) (h3 : SOwn w1 B xs g c) (h4 : w.grownBy wr (some g)) (hb : Below wr.heap.size wr w1) :
 MRel w B g c k n (i + 1) (w1.setCell ⟨g, i, none⟩ (.string (St (markB (k + i))))) := by
 obtain ⟨h5, h6⟩ := h3.set i (markB (k + i))
 refine ⟨_, by simpa using h1, ?_, h5, grown_trans2 h4 hb h6⟩
 rw [marks_snoc, List.take_add_one, List.take_set_of_le (Nat.le_refl _), h2]
 simp [h1, hi]
end Go.Proofs.YtpokompplapkhaaGreatDoor
namespace Go.Proofs.YtpokompplapkhaaGreatDoor
set_option maxHeartbeats 2000000
open Go.RowKit
set_option linter.unusedVariables false
set_option linter.unusedSimpArgs false
theorem SOwn.kept {w w1 : World} {B : Nat} {ls : List (List UInt8)} {g c g' : Nat} (h : SOwn w B ls g c) (hg : w.grownBy w1 (some g')) (hne : g ≠ g') : SOwn w1 B ls g c :=
 World.ownsRow.kept h hg (.inr (by simpa [Value.ownBlock] using hne))
end Go.Proofs.YtpokompplapkhaaGreatDoor

