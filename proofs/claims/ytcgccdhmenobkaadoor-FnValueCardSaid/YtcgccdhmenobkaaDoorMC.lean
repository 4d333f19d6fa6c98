/- Rows of strings that a call owns; a value's elements. The laws' marks: markText, and the laws' own functions over rows of strings. Lists of strings that the laws compare and mark. -/
import Derived.Test.YtcgccdhmenobkaaDoorMB
import Derived.Laws.BytesArg
namespace Go.Proofs.YtcgccdhmenobkaaDoor
set_option maxHeartbeats 4000000
set_option maxRecDepth 100000
open Go.RowKit
set_option linter.unusedVariables false
set_option linter.unusedSimpArgs false
def strs (ls : List (List UInt8)) : List Value := ls.map fun l => .string (St l)
theorem strs_len (ls : List (List UInt8)) : (strs ls).length = ls.length := by simp [strs]
theorem strs_app (a b : List (List UInt8)) : strs (a ++ b) = strs a ++ strs b := by simp [strs]
theorem strs_one (a b : List (List UInt8)) : ∀ u ∈ strs a, u.oneCell' = true := by
 intro u hu
 obtain ⟨l, _, rfl⟩ := List.mem_map.1 hu
 rfl
def SOwn (w : World) (B : Nat) (ls : List (List UInt8)) (g c : Nat) : Prop :=
 w.ownsRow B 9 1 (.slice (some ⟨g, 0, none⟩) ls.length c) ls.length (strs ls)
theorem SOwn.up {w w1 : World} {B : Nat} {ls : List (List UInt8)} {g c : Nat} (h : SOwn w B ls g c) (hb : Below w.heap.size w w1) : SOwn w1 B ls g c := own_up h hb
theorem SOwn.less {w : World} {B B' : Nat} {ls : List (List UInt8)} {g c : Nat} (h : SOwn w B ls g c) (hb : B' <= B) : SOwn w B' ls g c := by
 refine ⟨h.1, ?_⟩
 rcases h.2 with h2 | ⟨g', cap, cur, h1, h2, h3⟩
 · exact .inl h2
 · exact .inr ⟨g', cap, cur, h1, Nat.le_trans hb h2, h3⟩
theorem SOwn.lt {w : World} {B : Nat} {ls : List (List UInt8)} {g c : Nat} (h : SOwn w B ls g c) : B <= g /\ g < w.heap.size := World.ownsRow.lt h g rfl
theorem SOwn.new (w : World) (B : Nat) (hB : B <= w.heap.size) (ls : List (List UInt8)) (hl : ls.length <= 1000000000) : SOwn (w.alloc (.cells (strs ls).toArray 9)) B ls w.heap.size ls.length := by
 have := World.ownsRow_lit (e := 9) (size := 1) w (strs ls).toArray ls.length hB (by unfold maxLen; omega) (by simp [strs])
 exact this
theorem SOwn.cells {w : World} {B : Nat} {ls : List (List UInt8)} {g c : Nat} (h : SOwn w B ls g c) : ∀ j u, (strs ls)[j]? = some u -> w.cell? ((⟨g, 0, none⟩ : Addr).add j) = some u := World.ownsRow.cells h rfl
theorem SOwn.len_cap {w : World} {B : Nat} {ls : List (List UInt8)} {g c : Nat} (h : SOwn w B ls g c) : ls.length <= c := by
 rcases h.2 with ⟨h1, _⟩ | ⟨g', cap, cur, h1, _, _, h2, _⟩
 · cases h1
 · cases h1; exact h2
theorem own_nonnil {w : World} {B n : Nat} {e : TypeId} {size : Nat} {v : Value} {xs : List Value} (h : w.ownsRow B e size v n xs) (hv : v ≠ .slice none 0 0) : ∃ g c, v = .slice (some ⟨g, 0, none⟩) n c := by
 rcases h.2 with ⟨rfl, rfl⟩ | ⟨g, cap, cur, rfl, _⟩
 · exact absurd rfl hv
 · exact ⟨_, _, rfl⟩
theorem SOwn.of {w : World} {B n g c : Nat} {a b : List (List UInt8)} {xs : List Value} (h : w.ownsRow B 9 1 (.slice (some ⟨g, 0, none⟩) n c) n xs) (hn : n = (a ++ b).length) (hx : xs = strs a ++ strs b) : SOwn w B (a ++ b) g c := by
 subst hn; subst hx
 unfold SOwn
 rw [strs_app]
 exact h
theorem elems_len : ∀ v : V, v.elems.length <= v.nodes
 | .u => by simp [V.elems]
 | .el _ => by simp [V.elems, V.nodes]
 | .l a => by have := elems_len a; simp only [V.elems, V.nodes]; omega
 | .r a => by have := elems_len a; simp only [V.elems, V.nodes]; omega
 | .f a => by have := elems_len a; simp only [V.elems, V.nodes]; omega
 | .p a b => by have := elems_len a; have := elems_len b; simp only [V.elems, V.nodes, List.length_append]; omega
def LPost (w : World) (ls : List (List UInt8)) (e : Ending) (w' : World) : Prop :=
 Below w.heap.size w w' /\ ∃ g c, e = .returned (.slice (some ⟨g, 0, none⟩) ls.length c) /\ SOwn w' w.heap.size ls g c
theorem Tryd.infoStr : (Tryd.prog.info? 9).map (fun i => (i.zero, i.size, i.bytes)) = some (some (.string ⟨#[]⟩), 1, 16) := by kernel_rfl
theorem SOwn.app {w w2 : World} {B H g c : Nat} {a b : List (List UInt8)} {v' : Value} (h : w2.ownsRow B 9 1 v' (a.length + b.length) (strs a ++ strs b))
 (hn : v' = .slice none 0 0 ↔ (Value.slice (some ⟨g, 0, none⟩) a.length c) = .slice none 0 0 /\ b.length = 0) :
 ∃ g2 c2, v' = .slice (some ⟨g2, 0, none⟩) (a.length + b.length) c2 /\ SOwn w2 B (a ++ b) g2 c2 := by
 obtain ⟨g2, c2, rfl⟩ := own_nonnil h (fun hv => by have := (hn.1 hv).1; cases this)
 exact ⟨g2, c2, rfl, SOwn.of h (by simp) rfl⟩
theorem up_grown {w w1 w2 : World} {g : Nat} (hb : Below w.heap.size w w1) (hg : w1.grownBy w2 (some g)) (h : w.heap.size <= g) : Below w.heap.size w w2 :=
 hb.grown hg hb.size (fun k hk => by cases hk; exact h)
theorem elements_any (v : V) : ∀ (w : World) (p : Option Addr), VAt w v p -> v.nodes <= 1000000 ->
 Calls Tryd.prog 24 #[.pointer p] w (LPost w v.elems) := by
 obtain ⟨i0, hi0, hz0, hz1, hz2⟩ := info_parts Tryd.infoStr
 induction v with
 | u =>
  rintro w p ⟨g, rfl, hb⟩ hn
  have HC : Hid (∀ w1, Below w.heap.size w w1 -> w1.cell? ⟨g, 0, none⟩ = some (.int .u8 117) /\ w1.cell? ⟨g, 2, none⟩ = some (.pointer none) /\ w1.cell? ⟨g, 3, none⟩ = some (.pointer none)) := fun w1 h1 => ⟨block_cell (block_up h1 hb) 0, block_cell (block_up h1 hb) 2, block_cell (block_up h1 hb) 3⟩
  have l0 := lt_of_block hb
  clear hb
  obtain ⟨c0, c2, c3⟩ := HC.out w (Below.refl _ _)
  clear hi0 hz0 hz1 hz2
  go_enter Tryd.func24, Tryd.ntmps24
  go_wp2_with fail
  go_ret
  exact ⟨up1 w _, _, _, rfl, SOwn.new w _ (Nat.le_refl _) [] (by simp)⟩
 | el s =>
  rintro w p ⟨g, rfl, hb⟩ hn
  have c0 : w.cell? ⟨g, 0, none⟩ = some (.int .u8 101) := block_cell hb 0
  have c1 : w.cell? ⟨g, 1, none⟩ = some (.string (St s)) := block_cell hb 1
  clear hb hi0 hz0 hz1 hz2
  go_enter Tryd.func24, Tryd.ntmps24
  go_wp2_with fail
  go_ret
  exact ⟨up1 w _, _, _, rfl, SOwn.new w _ (Nat.le_refl _) [s] (by simp)⟩
 | p a b iha ihb =>
  rintro w p ⟨pa, pb, ⟨g, rfl, hb⟩, ha, hb'⟩ hn
  simp only [V.nodes] at hn ⊢
  have hla := elems_len a
  have hlb := elems_len b
  have HA : Hid (∀ w1, Below w.heap.size w w1 -> Hid (VAt w1 a pa)) := fun w1 h1 => ha.up h1
  have HB : Hid (∀ w1, Below w.heap.size w w1 -> Hid (VAt w1 b pb)) := fun w1 h1 => hb'.up h1
  have H1 := Lib.hid fun w pa h => iha w pa h (by omega)
  have H2 := Lib.hid fun w pa h => ihb w pa h (by omega)
  obtain ⟨ga, rfl⟩ := ha.some_
  obtain ⟨gb, rfl⟩ := hb'.some_
  have HC : Hid (∀ w1, Below w.heap.size w w1 -> w1.cell? ⟨g, 2, none⟩ = some (.pointer (some ⟨ga, 0, none⟩)) /\ w1.cell? ⟨g, 3, none⟩ = some (.pointer (some ⟨gb, 0, none⟩))) := fun w1 h1 => ⟨block_cell (block_up h1 hb) 2, block_cell (block_up h1 hb) 3⟩
  have c0 := block_cell hb 0
  obtain ⟨c2, c3⟩ := HC.out w (Below.refl _ _)
  have l0 := lt_of_block hb
  clear hb ha hb' iha ihb
  simp only [V.elems]
  generalize a.elems = l at *
  generalize b.elems = m at *
  have hll : l.length <= 1000000 := by omega
  have hlm : m.length <= 1000000 := by omega
  clear hla hlb hn
  go_enter Tryd.func24, Tryd.ntmps24
  go_wp2_with (first
   | (go_at_call 24; first
    | ((with_reducible refine (H2.out _ _ (HB.out _ HB2.out).out).mono ?_); rintro e w3 ⟨hb3, g3, c3', rfl, ho⟩; have HO3 := Lib.hid ho; have HB3 := Lib.hid (up_trans HB2.out hb3); have HO2' := Lib.hid (HO2.out.up hb3); clear ho hb3)
    | ((with_reducible refine (H1.out _ _ (HA.out _ (up1 w _)).out).mono ?_); rintro e w1 ⟨hb1, g1, c1, rfl, ho⟩; have HO := Lib.hid ho; have HB1 := Lib.hid (up_trans (up1 w _) hb1); have ho0 : w1.ownsRow w.heap.size 9 1 (.slice (some ⟨w.heap.size, 0, none⟩) 0 0) 0 (strs []) := own_up (SOwn.new w _ (Nat.le_refl _) [] (by simp)) hb1; have HO0 := Lib.hid ho0; clear ho ho0 hb1))
   | (at_builtin; first
    | (refine wpList_append_own _ rfl _ _ 25 rfl w.heap.size 9 i0 (.string ⟨#[]⟩) 1 16 Tryd.underlying25 hi0 hz0 hz1 hz2 rfl (by decide) (.slice (some ⟨g2, 0, none⟩) l.length c2') l.length (strs l) rfl HO2'.out ⟨g3, 0, none⟩ m.length c3' (strs m) rfl (by simp [strs]) (SOwn.cells HO3.out) (strs_one m m) (by unfold maxLen; omega) (by omega) HB3.out.size ?_; intro v' w4 hown hgrow hnil; obtain ⟨g4, c4, rfl, ho4⟩ := SOwn.app (w := w3) (H := 0) (a := l) (g := g2) (c := c2') hown hnil; have HB4 := Lib.hid (up_grown HB3.out hgrow (SOwn.lt HO2'.out).1); have HO4 := Lib.hid ho4; clear hown hgrow hnil ho4)
    | (refine wpList_append_own _ rfl _ _ 25 rfl w.heap.size 9 i0 (.string ⟨#[]⟩) 1 16 Tryd.underlying25 hi0 hz0 hz1 hz2 rfl (by decide) (.slice (some ⟨w.heap.size, 0, none⟩) 0 0) 0 (strs []) rfl HO0.out ⟨g1, 0, none⟩ l.length c1 (strs l) rfl (by simp [strs]) (SOwn.cells HO.out) (strs_one l l) (by unfold maxLen; omega) (by omega) HB1.out.size ?_; intro v' w2 hown hgrow hnil; obtain ⟨g2, c2', hv2, ho2⟩ := SOwn.app (w := w1) (H := 0) (a := []) (g := w.heap.size) (c := 0) hown hnil; obtain rfl : v' = .slice (some ⟨g2, 0, none⟩) l.length c2' := (by rw [hv2]; simp); clear hv2; have HB2 := Lib.hid (up_grown HB1.out hgrow (Nat.le_refl _)); have HO2 : Hid (SOwn w2 w.heap.size l g2 c2') := ho2; obtain ⟨d2, d3⟩ := HC.out w2 HB2.out; clear hown hgrow hnil ho2)))
  go_ret
  exact ⟨HB4.out, _, _, by simp, HO4.out⟩
 | _ a iha =>
  rintro w p ⟨pa, ⟨g, rfl, hb⟩, ha⟩ hn
  simp only [V.nodes] at hn ⊢
  have hl := elems_len a
  have h1 := fun w pa h => iha w pa h (by omega)
  have HA : Hid (∀ w1, Below w.heap.size w w1 -> Hid (VAt w1 a pa)) := fun w1 h1 => ha.up h1
  have H1 := Lib.hid h1
  obtain ⟨ga, rfl⟩ := ha.some_
  have HC : Hid (∀ w1, Below w.heap.size w w1 -> w1.cell? ⟨g, 2, none⟩ = some (.pointer (some ⟨ga, 0, none⟩)) /\ w1.cell? ⟨g, 3, none⟩ = some (.pointer none)) := fun w1 h1 => ⟨block_cell (block_up h1 hb) 2, block_cell (block_up h1 hb) 3⟩
  have c0 := block_cell hb 0
  obtain ⟨c2, c3⟩ := HC.out w (Below.refl _ _)
  have l0 := lt_of_block hb
  clear hb ha iha h1
  simp only [V.elems]
  generalize a.elems = l at *
  have hll : l.length <= 1000000 := by omega
  clear hl hn
  go_enter Tryd.func24, Tryd.ntmps24
  go_wp2_with (first
   | (go_at_call 24; refine (H1.out _ _ (HA.out _ (up1 w _)).out).mono ?_; rintro e w1 ⟨hb1, g1, c1, rfl, ho⟩; have HO := Lib.hid ho; have HB1 := Lib.hid (up_trans (up1 w _) hb1); have ho0 : w1.ownsRow w.heap.size 9 1 (.slice (some ⟨w.heap.size, 0, none⟩) 0 0) 0 (strs []) := own_up (SOwn.new w _ (Nat.le_refl _) [] (by simp)) hb1; have HO0 := Lib.hid ho0; clear ho ho0 hb1)
   | (at_builtin; refine wpList_append_own _ rfl _ _ 25 rfl w.heap.size 9 i0 (.string ⟨#[]⟩) 1 16 Tryd.underlying25 hi0 hz0 hz1 hz2 rfl (by decide) (.slice (some ⟨w.heap.size, 0, none⟩) 0 0) 0 (strs []) rfl HO0.out ⟨g1, 0, none⟩ l.length c1 (strs l) rfl (by simp [strs]) (SOwn.cells HO.out) (strs_one l l) (by unfold maxLen; omega) (by omega) HB1.out.size ?_; intro v' w2 hown hgrow hnil; obtain ⟨g2, c2', rfl, ho2⟩ := SOwn.app (w := w1) (H := 0) (a := []) (g := w.heap.size) (c := 0) hown hnil; have HB2 := Lib.hid (up_grown HB1.out hgrow (Nat.le_refl _)); have HO2 := Lib.hid ho2; obtain ⟨d2, d3⟩ := HC.out w2 HB2.out; clear hown hgrow hnil ho2))
  go_ret
  exact ⟨HB2.out, _, _, by simp, HO2.out⟩
end Go.Proofs.YtcgccdhmenobkaaDoor
namespace Go.Proofs.YtcgccdhmenobkaaDoor
set_option maxHeartbeats 4000000
set_option maxRecDepth 100000
open Go.RowKit
set_option linter.unusedVariables false
set_option linter.unusedSimpArgs false
def markL : Nat -> Int -> ByteArray -> ByteArray
 | 0, _, acc => acc
 | n + 1, x, acc => if x > 0 then markL n (wrap64 (Int.tdiv x 10)) (strOfNums [(wrap64 (48 + (Int.tmod x 10))) % 256] ++ acc) else acc
def mark (k : Int) : ByteArray := if k <= 0 then ⟨#[109, 48]⟩ else ⟨#[109]⟩ ++ markL 10 k ⟨#[]⟩
theorem markL_stop (n : Nat) (x : Int) (acc : ByteArray) (h : ¬ x > 0) : markL n x acc = acc := by
 cases n with
 | zero => rfl
 | succ n => rw [markL, if_neg h]
def markB (k : Int) : List UInt8 := (mark k).data.toList
def SCells (w : World) (A : Option Addr) (ls : List (List UInt8)) : Prop :=
 ls = [] \/ ∃ g o, A = some ⟨g, o, none⟩ /\ ∀ i l, ls[i]? = some l -> w.cell? ⟨g, o + i, none⟩ = some (.string (St l))
theorem SCells.up {w w1 : World} {A : Option Addr} {ls : List (List UInt8)} (h : SCells w A ls) (hb : Below w.heap.size w w1) : SCells w1 A ls := by
 rcases h with h | ⟨g, o, rfl, h⟩
 · exact .inl h
 · exact .inr ⟨g, o, rfl, fun i l hl => cell_up hb (h i l hl)⟩
theorem SOwn.reads {w : World} {B : Nat} {ls : List (List UInt8)} {g c : Nat} (h : SOwn w B ls g c) : SCells w (some ⟨g, 0, none⟩) ls := by
 refine .inr ⟨g, 0, rfl, fun i l hl => ?_⟩
 have hi : i < ls.length := (List.getElem?_eq_some_iff.1 hl).1
 rw [Nat.zero_add, World.ownsRow.cellAt h i (by omega)]
 simp [strs, hl]
theorem St_inj {a b : List UInt8} : (St a = St b) ↔ a = b := by
 constructor
 · intro h
   have := congrArg (fun s => s.data.toList) h
   simpa [St] using this
 · intro h; rw [h]
theorem St_bne {a b : List UInt8} (h : a ≠ b) : (a != b) = true := by rw [bne, St_ne h]; rfl
theorem St_bne_self (a : List UInt8) : (a != a) = false := by simp
def marks (k : Int) : Nat -> List (List UInt8)
 | 0 => []
 | n + 1 => markB k :: marks (k + 1) n
theorem marks_len : ∀ (n : Nat) (k : Int), (marks k n).length = n
 | 0, _ => rfl
 | n + 1, k => by rw [marks, List.length_cons, marks_len n]
theorem marks_get : ∀ (n : Nat) (k : Int) (i : Nat), i < n -> (marks k n)[i]? = some (markB (k + i))
 | 0, _, _, h => by omega
 | n + 1, k, 0, _ => by simp [marks]
 | n + 1, k, i + 1, h => by
  rw [marks, List.getElem?_cons_succ, marks_get n (k + 1) i (by omega)]
  congr 2
  omega
theorem SOwn.set {w : World} {B : Nat} {ls : List (List UInt8)} {g c : Nat} (h : SOwn w B ls g c) (j : Nat) (s : List UInt8) :
 SOwn (w.setCell ⟨g, j, none⟩ (.string (St s))) B (ls.set j s) g c /\ w.grownBy (w.setCell ⟨g, j, none⟩ (.string (St s))) (some g) := by
 have := World.ownsRow.stored h j (.string (St s))
 refine ⟨?_, this.2⟩
 unfold SOwn
 rw [List.length_set, show strs (ls.set j s) = (strs ls).set j (.string (St s)) by simp [strs, List.map_set]]
 exact this.1
theorem SOwn.cell {w : World} {B : Nat} {ls : List (List UInt8)} {g c : Nat} (h : SOwn w B ls g c) (j : Nat) (s : List UInt8) (hj : ls[j]? = some s) : w.cell? ⟨g, j, none⟩ = some (.string (St s)) := by
 have hi : j < ls.length := (List.getElem?_eq_some_iff.1 hj).1
 rw [World.ownsRow.cellAt h j (by omega)]
 simp [strs, hj]
theorem SOwn.free {w : World} {B : Nat} {ls : List (List UInt8)} {g c : Nat} (h : SOwn w B ls g c) (j : Nat) : w.frozen? ⟨g, j, none⟩ = false := World.ownsRow.frozenAt h j
def MRel (w : World) (B g c : Nat) (k : Int) (n i : Nat) (wr : World) : Prop :=
 ∃ xs, xs.length = n /\ xs.take i = marks k i /\ SOwn wr B xs g c /\ w.grownBy wr (some g)
theorem marks_snoc : ∀ (i : Nat) (k : Int), marks k (i + 1) = marks k i ++ [markB (k + i)]
 | 0, k => by simp [marks]
 | i + 1, k => by
  rw [marks, marks_snoc i (k + 1), marks, List.cons_append, show k + 1 + (i : Int) = k + ((i + 1 : Nat) : Int) by omega]
theorem grown_trans2 {w w1 w2 w3 : World} {g : Nat} (h : w.grownBy w1 (some g)) (hb : Below w1.heap.size w1 w2) (k : w2.grownBy w3 (some g)) : w.grownBy w3 (some g) :=
 ⟨k.os.trans (hb.os.trans h.os), k.tape.trans (hb.tape.trans h.tape), k.output.trans (hb.output.trans h.output), Nat.le_trans h.size (Nat.le_trans hb.size k.size), fun j hj hne => by
  rw [k.block j (Nat.lt_of_lt_of_le hj (Nat.le_trans h.size hb.size)) hne, hb.block j (Nat.lt_of_lt_of_le hj h.size), h.block j hj hne]⟩
theorem MRel.step {w wr w1 : World} {B g c n i : Nat} {k : Int} {xs : List (List UInt8)} (hi : i < n) (h1 : xs.length = n) (h2 : xs.take i = marks k i) (h3 : SOwn w1 B xs g c) (h4 : w.grownBy wr (some g)) (hb : Below wr.heap.size wr w1) :
 MRel w B g c k n (i + 1) (w1.setCell ⟨g, i, none⟩ (.string (St (markB (k + i))))) := by
 obtain ⟨h5, h6⟩ := h3.set i (markB (k + i))
 refine ⟨_, by simpa using h1, ?_, h5, grown_trans2 h4 hb h6⟩
 rw [marks_snoc, List.take_add_one, List.take_set_of_le (Nat.le_refl _), h2]
 simp [h1, hi]
end Go.Proofs.YtcgccdhmenobkaaDoor
namespace Go.Proofs.YtcgccdhmenobkaaDoor
set_option maxHeartbeats 4000000
set_option maxRecDepth 100000
open Go.RowKit
set_option linter.unusedVariables false
set_option linter.unusedSimpArgs false
theorem SOwn.kept {w w1 : World} {B : Nat} {ls : List (List UInt8)} {g c g' : Nat} (h : SOwn w B ls g c) (hg : w.grownBy w1 (some g')) (hne : g ≠ g') : SOwn w1 B ls g c :=
 World.ownsRow.kept h hg (.inr (by simpa [Value.ownBlock] using hne))
theorem SOwn.new0 (w : World) (o : Obj) (B : Nat) (h : B <= w.heap.size) : SOwn ((w.alloc o).alloc (.cells #[] 9)) B [] (w.heap.size + 1) 0 := by
 have e : (w.alloc o).heap.size = w.heap.size + 1 := by simp
 have := SOwn.new (w.alloc o) B (by omega) [] (by simp)
 rw [e] at this
 exact this
end Go.Proofs.YtcgccdhmenobkaaDoor
