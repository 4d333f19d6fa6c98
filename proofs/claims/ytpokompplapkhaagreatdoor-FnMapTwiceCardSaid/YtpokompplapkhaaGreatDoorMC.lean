/- Rows of strings that a call owns; a value's elements. The laws' marks: markText, and the laws' own functions over rows of strings. Lists of strings that the laws compare and mark. -/
import Derived.Test.YtpokompplapkhaaGreatDoorMB
import Derived.Laws.BytesArg
namespace Go.Proofs.YtpokompplapkhaaGreatDoor
open Go.RowKit
set_option linter.unusedVariables false
set_option linter.unusedSimpArgs false

def strs (ls : List (List UInt8)) : List Value := ls.map fun l => .string (St l)
theorem strs_len (ls : List (List UInt8)) : (strs ls).length = ls.length := by simp [strs]
theorem strs_app (a b : List (List UInt8)) : strs (a ++ b) = strs a ++ strs b := by simp [strs]
theorem strs_one (a b : List (List UInt8)) : ∀ u ∈ strs a, u.oneCell' = true := by
  intro u hu
  obtain ⟨l, _, rfl⟩ := List.mem_map.1 hu
  rfl
/-- A row of strings from block 'B' on. -/
def SOwn (w : World) (B : Nat) (ls : List (List UInt8)) (g c : Nat) : Prop :=
  w.ownsRow B 9 1 (.slice (some ⟨g, 0, none⟩) ls.length c) ls.length (strs ls)
theorem SOwn.up {w w1 : World} {B : Nat} {ls : List (List UInt8)} {g c : Nat} (h : SOwn w B ls g c) (hb : Below w.heap.size w w1) : SOwn w1 B ls g c := own_up h hb
theorem SOwn.less {w : World} {B B' : Nat} {ls : List (List UInt8)} {g c : Nat} (h : SOwn w B ls g c) (hb : B' ≤ B) : SOwn w B' ls g c := by
  refine ⟨h.1, ?_⟩
  rcases h.2 with h2 | ⟨g', cap, cur, h1, h2, h3⟩
  · exact .inl h2
  · exact .inr ⟨g', cap, cur, h1, Nat.le_trans hb h2, h3⟩
theorem SOwn.lt {w : World} {B : Nat} {ls : List (List UInt8)} {g c : Nat} (h : SOwn w B ls g c) : B ≤ g ∧ g < w.heap.size := World.ownsRow.lt h g rfl
theorem SOwn.new (w : World) (B : Nat) (hB : B ≤ w.heap.size) (ls : List (List UInt8)) (hl : ls.length ≤ 1000000000) : SOwn (w.alloc (.cells (strs ls).toArray 9)) B ls w.heap.size ls.length := by
  have := World.ownsRow_lit (e := 9) (size := 1) w (strs ls).toArray ls.length hB (by unfold maxLen; omega) (by simp [strs])
  exact this
theorem SOwn.cells {w : World} {B : Nat} {ls : List (List UInt8)} {g c : Nat} (h : SOwn w B ls g c) : ∀ j u, (strs ls)[j]? = some u → w.cell? ((⟨g, 0, none⟩ : Addr).add j) = some u := World.ownsRow.cells h rfl
theorem SOwn.len_cap {w : World} {B : Nat} {ls : List (List UInt8)} {g c : Nat} (h : SOwn w B ls g c) : ls.length ≤ c := by
  rcases h.2 with ⟨h1, _⟩ | ⟨g', cap, cur, h1, _, _, h2, _⟩
  · cases h1
  · cases h1; exact h2
theorem own_nonnil {w : World} {B n : Nat} {e : TypeId} {size : Nat} {v : Value} {xs : List Value} (h : w.ownsRow B e size v n xs) (hv : v ≠ .slice none 0 0) : ∃ g c, v = .slice (some ⟨g, 0, none⟩) n c := by
  rcases h.2 with ⟨rfl, rfl⟩ | ⟨g, cap, cur, rfl, _⟩
  · exact absurd rfl hv
  · exact ⟨_, _, rfl⟩
theorem SOwn.of {w : World} {B n g c : Nat} {a b : List (List UInt8)} {xs : List Value} (h : w.ownsRow B 9 1 (.slice (some ⟨g, 0, none⟩) n c) n xs) (hn : n = (a ++ b).length) (hx : xs = strs a ++ strs b) : SOwn w B (a ++ b) g c := by
  subst hn; subst hx
  unfold SOwn
  rw [strs_app]
  exact h

theorem elems_len : ∀ v : V, v.elems.length ≤ v.nodes
  | .u => by simp [V.elems]
  | .el _ => by simp [V.elems, V.nodes]
  | .l a => by have := elems_len a; simp only [V.elems, V.nodes]; omega
  | .r a => by have := elems_len a; simp only [V.elems, V.nodes]; omega
  | .f a => by have := elems_len a; simp only [V.elems, V.nodes]; omega
  | .p a b => by have := elems_len a; have := elems_len b; simp only [V.elems, V.nodes, List.length_append]; omega

/-- What elements() does. -/
def LPost (w : World) (ls : List (List UInt8)) (e : Ending) (w' : World) : Prop :=
  Below w.heap.size w w' ∧ ∃ g c, e = .returned (.slice (some ⟨g, 0, none⟩) ls.length c) ∧ SOwn w' w.heap.size ls g c

theorem Tryz.infoStr : (Tryz.prog.info? 9).map (fun i => (i.zero, i.size, i.bytes)) = some (some (.string ⟨#[]⟩), 1, 16) := by kernel_rfl

/-- An append of a row onto a row, both the call's own. -/
theorem SOwn.app {w w2 : World} {B H g c : Nat} {a b : List (List UInt8)} {v' : Value} (h : w2.ownsRow B 9 1 v' (a.length + b.length) (strs a ++ strs b))
    (hn : v' = .slice none 0 0 ↔ (Value.slice (some ⟨g, 0, none⟩) a.length c) = .slice none 0 0 ∧ b.length = 0) :
    ∃ g2 c2, v' = .slice (some ⟨g2, 0, none⟩) (a.length + b.length) c2 ∧ SOwn w2 B (a ++ b) g2 c2 := by
  obtain ⟨g2, c2, rfl⟩ := own_nonnil h (fun hv => by have := (hn.1 hv).1; cases this)
  exact ⟨g2, c2, rfl, SOwn.of h (by simp) rfl⟩

theorem up_grown {w w1 w2 : World} {g : Nat} (hb : Below w.heap.size w w1) (hg : w1.grownBy w2 (some g)) (h : w.heap.size ≤ g) : Below w.heap.size w w2 :=
  hb.grown hg hb.size (fun k hk => by cases hk; exact h)

end Go.Proofs.YtpokompplapkhaaGreatDoor

namespace Go.Proofs.YtpokompplapkhaaGreatDoor
open Go.RowKit
set_option linter.unusedVariables false
set_option linter.unusedSimpArgs false

/-- The digits ahead of 'acc'. -/
def markL : Nat → Int → ByteArray → ByteArray
  | 0, _, acc => acc
  | n + 1, x, acc => if x > 0 then markL n (wrap64 (Int.tdiv x 10)) (strOfNums [(wrap64 (48 + (Int.tmod x 10))) % 256] ++ acc) else acc

/-- What markText gives. -/
def mark (k : Int) : ByteArray := if k ≤ 0 then ⟨#[109, 48]⟩ else ⟨#[109]⟩ ++ markL 10 k ⟨#[]⟩

theorem markL_stop (n : Nat) (x : Int) (acc : ByteArray) (h : ¬ x > 0) : markL n x acc = acc := by
  cases n with
  | zero => rfl
  | succ n => rw [markL, if_neg h]

set_option maxHeartbeats 2000000 in
theorem markText_any (k : Int) (w : World) (hk : k ≤ 1000000000) :
    Calls Tryz.prog 60 #[.int .i64 k] w fun e w' => e = .returned (.string (mark k)) ∧ Below w.heap.size w w' := by
  cases hc : decide (k ≤ 0) with
  | true =>
    have : mark k = ⟨#[109, 48]⟩ := by rw [mark, if_pos (by simpa using hc)]
    rw [this]
    clear hk this
    go_enter Tryz.func60, Tryz.ntmps60
    go_wp2
    go_ret
    exact ⟨rfl, Below.refl _ _⟩
  | false =>
    have hk0 : 0 < k := by simpa using hc
    have hm : mark k = ⟨#[109]⟩ ++ markL 10 k ⟨#[]⟩ := by rw [mark, if_neg (by omega)]
    rw [hm]
    generalize hr : markL 10 k ⟨#[]⟩ = r
    have HR0 : Hid (markL 10 k ⟨#[]⟩ = r ∧ 0 ≤ k ∧ k < 10 ^ 10 ∧ (⟨#[]⟩ : ByteArray).size + 10 ≤ 10) := ⟨hr, by omega, by omega, by decide⟩
    clear hr hm hk hk0
    go_enter Tryz.func60, Tryz.ntmps60
    go_wp2
    go_loopg [0, 3] 10 (fun n v0 v3 wr => ∃ (x : Int) (acc : ByteArray), v0 = .int .i64 x ∧ v3 = .string acc ∧ Hid (markL n x acc = r ∧ 0 ≤ x ∧ x < 10 ^ n ∧ acc.size + n ≤ 10) ∧ Hid (Below w.heap.size w wr))
    case atStart => exact ⟨k, _, rfl, rfl, HR0, Below.refl _ _⟩
    case round =>
      obtain ⟨x, acc, rfl, rfl, HR, HB⟩ := hrel
      clear hc HR0
      cases hx : decide (0 < x) with
      | true =>
        have hx0 : 0 < x := by simpa using hx
        cases gk with
        | zero => have := HR.out.2.2.1; simp at this; omega
        | succ n =>
          obtain ⟨h1, h2, h3, h4⟩ := HR.out
          rw [markL, if_pos hx0] at h1
          have hw : wrap64 (Int.tdiv x 10) = x / 10 := by
            rw [Int.tdiv_eq_ediv_of_nonneg (by omega)]
            unfold wrap64
            have : x / 10 ≤ x := Int.ediv_le_self _ (by omega)
            have : (10 : Int) ^ (n + 1) ≤ 10 ^ 10 := by
              have : n + 1 ≤ 10 := by omega
              exact_mod_cast Nat.pow_le_pow_right (by decide) this
            omega
          have hp : x / 10 < 10 ^ n := by
            rw [Int.ediv_lt_iff_lt_mul (by decide)]
            rw [Int.pow_succ] at h3
            exact h3
          obtain ⟨z, hz⟩ : ∃ z, z = (wrap64 (48 + (Int.tmod x 10))) % 256 := ⟨_, rfl⟩
          have hsz : (strOfNums [z]).size = 1 := strOfNums_size _
          have HN : Hid (markL n (wrap64 (Int.tdiv x 10)) (strOfNums [(wrap64 (48 + (Int.tmod x 10))) % 256] ++ acc) = r ∧ 0 ≤ wrap64 (Int.tdiv x 10) ∧ wrap64 (Int.tdiv x 10) < 10 ^ n ∧ (strOfNums [(wrap64 (48 + (Int.tmod x 10))) % 256] ++ acc).size + n ≤ 10) := by
            refine ⟨h1, by rw [hw]; omega, by rw [hw]; exact hp, ?_⟩
            rw [← hz, ByteArray.size_append, hsz]
            omega
          have c1 : ((strOfNums [(wrap64 (48 + (Int.tmod x 10))) % 256]).size + acc.size ≤ 9223372036854775807) = True := eq_true (by rw [← hz, hsz]; omega)
          have c2 : decide ((strOfNums [(wrap64 (48 + (Int.tmod x 10))) % 256]).size + acc.size ≤ 9223372036854775807) = true := decide_eq_true (by rw [← hz, hsz]; omega)
          have c3 : (9223372036854775807 < (strOfNums [(wrap64 (48 + (Int.tmod x 10))) % 256]).size + acc.size) = False := eq_false (by rw [← hz, hsz]; omega)
          have kc : (convert 35 9 (.slice (some ⟨wr.heap.size, 0, none⟩) 1 1)).run Tryz.prog (wr.alloc (.cells #[.int .u8 ((wrap64 (48 + (Int.tmod x 10))) % 256)] 5)) = .ok (.string (strOfNums [(wrap64 (48 + (Int.tmod x 10))) % 256])) (wr.alloc (.cells #[.int .u8 ((wrap64 (48 + (Int.tmod x 10))) % 256)] 5)) :=
            run_convert_bytes_arg (P := Tryz.prog) _ 35 5 Tryz.underlying35 Tryz.underlying5 wr.heap.size 0 1 1 [_] rfl (fun i hi => by
              obtain rfl : i = 0 := by omega
              exact block_cell (block_new wr _) 0) 9 Tryz.underlying9
          clear h1 h2 h3 h4 hw hp hz hsz hx0 HR
          go_wp2
          go_roundg n
          case measure => omega
          case rel => exact ⟨_, _, rfl, rfl, HN, up_alloc HB.out _⟩
      | false =>
        have hx0 : ¬ x > 0 := by simpa using hx
        obtain ⟨h1, h2, h3, h4⟩ := HR.out
        rw [markL_stop _ _ _ hx0] at h1
        subst h1
        have c1 : (1 + acc.size ≤ 9223372036854775807) = True := eq_true (by omega)
        have c2 : decide (1 + acc.size ≤ 9223372036854775807) = true := decide_eq_true (by omega)
        have c3 : (9223372036854775807 < 1 + acc.size) = False := eq_false (by omega)
        clear h2 h3 h4 HR hx0
        go_wp2
        go_ret
        exact ⟨rfl, HB.out⟩

/-- The mark as a list. -/
def markB (k : Int) : List UInt8 := (mark k).data.toList
theorem markText_St (k : Int) (w : World) (hk : k ≤ 1000000000) :
    Calls Tryz.prog 60 #[.int .i64 k] w fun e w' => e = .returned (.string (St (markB k))) ∧ Below w.heap.size w w' := by
  have := markText_any k w hk
  rw [show St (markB k) = mark k from rfl]
  exact this

/-- A slice whose elements read as 'ls'. -/
def SCells (w : World) (A : Option Addr) (ls : List (List UInt8)) : Prop :=
  ls = [] ∨ ∃ g o, A = some ⟨g, o, none⟩ ∧ ∀ i l, ls[i]? = some l → w.cell? ⟨g, o + i, none⟩ = some (.string (St l))
theorem SCells.up {w w1 : World} {A : Option Addr} {ls : List (List UInt8)} (h : SCells w A ls) (hb : Below w.heap.size w w1) : SCells w1 A ls := by
  rcases h with h | ⟨g, o, rfl, h⟩
  · exact .inl h
  · exact .inr ⟨g, o, rfl, fun i l hl => cell_up hb (h i l hl)⟩
theorem SOwn.reads {w : World} {B : Nat} {ls : List (List UInt8)} {g c : Nat} (h : SOwn w B ls g c) : SCells w (some ⟨g, 0, none⟩) ls := by
  refine .inr ⟨g, 0, rfl, fun i l hl => ?_⟩
  have hi : i < ls.length := (List.getElem?_eq_some_iff.1 hl).1
  rw [Nat.zero_add, World.ownsRow.cellAt h i (by omega)]
  simp [strs, hl]

theorem St_inj {a b : List UInt8} : (St a = St b) ↔ a = b := by
  constructor
  · intro h
    have := congrArg (fun s => s.data.toList) h
    simpa [St] using this
  · intro h; rw [h]

theorem St_bne {a b : List UInt8} (h : a ≠ b) : (a != b) = true := by rw [bne, St_ne h]; rfl
theorem St_bne_self (a : List UInt8) : (a != a) = false := by simp


/-- The marks from k on. -/
def marks (k : Int) : Nat → List (List UInt8)
  | 0 => []
  | n + 1 => markB k :: marks (k + 1) n
theorem marks_len : ∀ (n : Nat) (k : Int), (marks k n).length = n
  | 0, _ => rfl
  | n + 1, k => by rw [marks, List.length_cons, marks_len n]
theorem marks_get : ∀ (n : Nat) (k : Int) (i : Nat), i < n → (marks k n)[i]? = some (markB (k + i))
  | 0, _, _, h => by omega
  | n + 1, k, 0, _ => by simp [marks]
  | n + 1, k, i + 1, h => by
    rw [marks, List.getElem?_cons_succ, marks_get n (k + 1) i (by omega)]
    congr 2
    omega

/-- A store into a row of strings. -/
theorem SOwn.set {w : World} {B : Nat} {ls : List (List UInt8)} {g c : Nat} (h : SOwn w B ls g c) (j : Nat) (s : List UInt8) :
    SOwn (w.setCell ⟨g, j, none⟩ (.string (St s))) B (ls.set j s) g c ∧ w.grownBy (w.setCell ⟨g, j, none⟩ (.string (St s))) (some g) := by
  have := World.ownsRow.stored h j (.string (St s))
  refine ⟨?_, this.2⟩
  unfold SOwn
  rw [List.length_set, show strs (ls.set j s) = (strs ls).set j (.string (St s)) by simp [strs, List.map_set]]
  exact this.1
theorem SOwn.cell {w : World} {B : Nat} {ls : List (List UInt8)} {g c : Nat} (h : SOwn w B ls g c) (j : Nat) (s : List UInt8) (hj : ls[j]? = some s) : w.cell? ⟨g, j, none⟩ = some (.string (St s)) := by
  have hi : j < ls.length := (List.getElem?_eq_some_iff.1 hj).1
  rw [World.ownsRow.cellAt h j (by omega)]
  simp [strs, hj]
theorem SOwn.free {w : World} {B : Nat} {ls : List (List UInt8)} {g c : Nat} (h : SOwn w B ls g c) (j : Nat) : w.frozen? ⟨g, j, none⟩ = false := World.ownsRow.frozenAt h j

/-- Where the loop of markStringS stands: 'i' are marked. -/
def MRel (w : World) (B g c : Nat) (k : Int) (n i : Nat) (wr : World) : Prop :=
  ∃ xs, xs.length = n ∧ xs.take i = marks k i ∧ SOwn wr B xs g c ∧ w.grownBy wr (some g)

theorem marks_snoc : ∀ (i : Nat) (k : Int), marks k (i + 1) = marks k i ++ [markB (k + i)]
  | 0, k => by simp [marks]
  | i + 1, k => by
    rw [marks, marks_snoc i (k + 1), marks, List.cons_append, show k + 1 + (i : Int) = k + ((i + 1 : Nat) : Int) by omega]

theorem grown_trans2 {w w1 w2 w3 : World} {g : Nat} (h : w.grownBy w1 (some g)) (hb : Below w1.heap.size w1 w2) (k : w2.grownBy w3 (some g)) : w.grownBy w3 (some g) :=
  ⟨k.os.trans (hb.os.trans h.os), k.tape.trans (hb.tape.trans h.tape), k.output.trans (hb.output.trans h.output), Nat.le_trans h.size (Nat.le_trans hb.size k.size), fun j hj hne => by
    rw [k.block j (Nat.lt_of_lt_of_le hj (Nat.le_trans h.size hb.size)) hne, hb.block j (Nat.lt_of_lt_of_le hj h.size), h.block j hj hne]⟩

theorem MRel.step {w wr w1 : World} {B g c n i : Nat} {k : Int} {xs : List (List UInt8)} (hi : i < n) (h1 : xs.length = n) (h2 : xs.take i = marks k i) (h3 : SOwn w1 B xs g c) (h4 : w.grownBy wr (some g)) (hb : Below wr.heap.size wr w1) :
    MRel w B g c k n (i + 1) (w1.setCell ⟨g, i, none⟩ (.string (St (markB (k + i))))) := by
  obtain ⟨h5, h6⟩ := h3.set i (markB (k + i))
  refine ⟨_, by simpa using h1, ?_, h5, grown_trans2 h4 hb h6⟩
  rw [marks_snoc, List.take_add_one, List.take_set_of_le (Nat.le_refl _), h2]
  simp [h1, hi]



end Go.Proofs.YtpokompplapkhaaGreatDoor

namespace Go.Proofs.YtpokompplapkhaaGreatDoor
open Go.RowKit
set_option linter.unusedVariables false
set_option linter.unusedSimpArgs false

theorem SOwn.kept {w w1 : World} {B : Nat} {ls : List (List UInt8)} {g c g' : Nat} (h : SOwn w B ls g c) (hg : w.grownBy w1 (some g')) (hne : g ≠ g') : SOwn w1 B ls g c :=
  World.ownsRow.kept h hg (.inr (by simpa [Value.ownBlock] using hne))

theorem SOwn.new0 (w : World) (o : Obj) (B : Nat) (h : B ≤ w.heap.size) : SOwn ((w.alloc o).alloc (.cells #[] 9)) B [] (w.heap.size + 1) 0 := by
  have e : (w.alloc o).heap.size = w.heap.size + 1 := by simp
  have := SOwn.new (w.alloc o) B (by omega) [] (by simp)
  rw [e] at this
  exact this



end Go.Proofs.YtpokompplapkhaaGreatDoor
