/- The laws' marks: markText, and the laws' own functions over rows of strings. -/
import Derived.Test.YtmghnibnokkjjaaDoorElems
import Derived.Laws.BytesArg
namespace Go.Proofs.YtmghnibnokkjjaaDoor
open Go.RowKit
set_option linter.unusedVariables false
set_option linter.unusedSimpArgs false

/-- The digits ahead of 'acc'. -/
def markL : Nat → Int → ByteArray → ByteArray
  | 0, _, acc => acc
  | n + 1, x, acc => if x > 0 then markL n (wrap64 (Int.tdiv x 10)) (strOfNums [(wrap64 (48 + (Int.tmod x 10))) % 256] ++ acc) else acc

/-- What markText gives. -/
def mark (k : Int) : ByteArray := if k ≤ 0 then ⟨#[109, 48]⟩ else ⟨#[109]⟩ ++ markL 10 k ⟨#[]⟩

theorem markL_stop (n : Nat) (x : Int) (acc : ByteArray) (h : ¬ x > 0) : markL n x acc = acc := by
  cases n with
  | zero => rfl
  | succ n => rw [markL, if_neg h]

set_option maxHeartbeats 2000000 in
theorem markText_any (k : Int) (w : World) (hk : k ≤ 1000000000) :
    Calls Tryd.prog 60 #[.int .i64 k] w fun e w' => e = .returned (.string (mark k)) ∧ Below w.heap.size w w' := by
  cases hc : decide (k ≤ 0) with
  | true =>
    have : mark k = ⟨#[109, 48]⟩ := by rw [mark, if_pos (by simpa using hc)]
    rw [this]
    clear hk this
    go_enter Tryd.func60, Tryd.ntmps60
    go_wp2
    go_ret
    exact ⟨rfl, Below.refl _ _⟩
  | false =>
    have hk0 : 0 < k := by simpa using hc
    have hm : mark k = ⟨#[109]⟩ ++ markL 10 k ⟨#[]⟩ := by rw [mark, if_neg (by omega)]
    rw [hm]
    generalize hr : markL 10 k ⟨#[]⟩ = r
    have HR0 : Hid (markL 10 k ⟨#[]⟩ = r ∧ 0 ≤ k ∧ k < 10 ^ 10 ∧ (⟨#[]⟩ : ByteArray).size + 10 ≤ 10) := ⟨hr, by omega, by omega, by decide⟩
    clear hr hm hk hk0
    go_enter Tryd.func60, Tryd.ntmps60
    go_wp2
    go_loopg [0, 3] 10 (fun n v0 v3 wr => ∃ (x : Int) (acc : ByteArray), v0 = .int .i64 x ∧ v3 = .string acc ∧ Hid (markL n x acc = r ∧ 0 ≤ x ∧ x < 10 ^ n ∧ acc.size + n ≤ 10) ∧ Hid (Below w.heap.size w wr))
    case atStart => exact ⟨k, _, rfl, rfl, HR0, Below.refl _ _⟩
    case round =>
      obtain ⟨x, acc, rfl, rfl, HR, HB⟩ := hrel
      clear hc HR0
      cases hx : decide (0 < x) with
      | true =>
        have hx0 : 0 < x := by simpa using hx
        cases gk with
        | zero => have := HR.out.2.2.1; simp at this; omega
        | succ n =>
          obtain ⟨h1, h2, h3, h4⟩ := HR.out
          rw [markL, if_pos hx0] at h1
          have hw : wrap64 (Int.tdiv x 10) = x / 10 := by
            rw [Int.tdiv_eq_ediv_of_nonneg (by omega)]
            unfold wrap64
            have : x / 10 ≤ x := Int.ediv_le_self _ (by omega)
            have : (10 : Int) ^ (n + 1) ≤ 10 ^ 10 := by
              have : n + 1 ≤ 10 := by omega
              exact_mod_cast Nat.pow_le_pow_right (by decide) this
            omega
          have hp : x / 10 < 10 ^ n := by
            rw [Int.ediv_lt_iff_lt_mul (by decide)]
            rw [Int.pow_succ] at h3
            exact h3
          obtain ⟨z, hz⟩ : ∃ z, z = (wrap64 (48 + (Int.tmod x 10))) % 256 := ⟨_, rfl⟩
          have hsz : (strOfNums [z]).size = 1 := strOfNums_size _
          have HN : Hid (markL n (wrap64 (Int.tdiv x 10)) (strOfNums [(wrap64 (48 + (Int.tmod x 10))) % 256] ++ acc) = r ∧ 0 ≤ wrap64 (Int.tdiv x 10) ∧ wrap64 (Int.tdiv x 10) < 10 ^ n ∧ (strOfNums [(wrap64 (48 + (Int.tmod x 10))) % 256] ++ acc).size + n ≤ 10) := by
            refine ⟨h1, by rw [hw]; omega, by rw [hw]; exact hp, ?_⟩
            rw [← hz, ByteArray.size_append, hsz]
            omega
          have c1 : ((strOfNums [(wrap64 (48 + (Int.tmod x 10))) % 256]).size + acc.size ≤ 9223372036854775807) = True := eq_true (by rw [← hz, hsz]; omega)
          have c2 : decide ((strOfNums [(wrap64 (48 + (Int.tmod x 10))) % 256]).size + acc.size ≤ 9223372036854775807) = true := decide_eq_true (by rw [← hz, hsz]; omega)
          have c3 : (9223372036854775807 < (strOfNums [(wrap64 (48 + (Int.tmod x 10))) % 256]).size + acc.size) = False := eq_false (by rw [← hz, hsz]; omega)
          have kc : (convert 26 9 (.slice (some ⟨wr.heap.size, 0, none⟩) 1 1)).run Tryd.prog (wr.alloc (.cells #[.int .u8 ((wrap64 (48 + (Int.tmod x 10))) % 256)] 5)) = .ok (.string (strOfNums [(wrap64 (48 + (Int.tmod x 10))) % 256])) (wr.alloc (.cells #[.int .u8 ((wrap64 (48 + (Int.tmod x 10))) % 256)] 5)) :=
            run_convert_bytes_arg (P := Tryd.prog) _ 26 5 Tryd.underlying26 Tryd.underlying5 wr.heap.size 0 1 1 [_] rfl (fun i hi => by
              obtain rfl : i = 0 := by omega
              exact block_cell (block_new wr _) 0) 9 Tryd.underlying9
          clear h1 h2 h3 h4 hw hp hz hsz hx0 HR
          go_wp2
          go_roundg n
          case measure => omega
          case rel => exact ⟨_, _, rfl, rfl, HN, up_alloc HB.out _⟩
      | false =>
        have hx0 : ¬ x > 0 := by simpa using hx
        obtain ⟨h1, h2, h3, h4⟩ := HR.out
        rw [markL_stop _ _ _ hx0] at h1
        subst h1
        have c1 : (1 + acc.size ≤ 9223372036854775807) = True := eq_true (by omega)
        have c2 : decide (1 + acc.size ≤ 9223372036854775807) = true := decide_eq_true (by omega)
        have c3 : (9223372036854775807 < 1 + acc.size) = False := eq_false (by omega)
        clear h2 h3 h4 HR hx0
        go_wp2
        go_ret
        exact ⟨rfl, HB.out⟩

/-- The mark as a list. -/
def markB (k : Int) : List UInt8 := (mark k).data.toList
theorem markText_St (k : Int) (w : World) (hk : k ≤ 1000000000) :
    Calls Tryd.prog 60 #[.int .i64 k] w fun e w' => e = .returned (.string (St (markB k))) ∧ Below w.heap.size w w' := by
  have := markText_any k w hk
  rw [show St (markB k) = mark k from rfl]
  exact this

/-- A slice whose elements read as 'ls'. -/
def SCells (w : World) (A : Option Addr) (ls : List (List UInt8)) : Prop :=
  ls = [] ∨ ∃ g o, A = some ⟨g, o, none⟩ ∧ ∀ i l, ls[i]? = some l → w.cell? ⟨g, o + i, none⟩ = some (.string (St l))
theorem SCells.up {w w1 : World} {A : Option Addr} {ls : List (List UInt8)} (h : SCells w A ls) (hb : Below w.heap.size w w1) : SCells w1 A ls := by
  rcases h with h | ⟨g, o, rfl, h⟩
  · exact .inl h
  · exact .inr ⟨g, o, rfl, fun i l hl => cell_up hb (h i l hl)⟩
theorem SOwn.reads {w : World} {B : Nat} {ls : List (List UInt8)} {g c : Nat} (h : SOwn w B ls g c) : SCells w (some ⟨g, 0, none⟩) ls := by
  refine .inr ⟨g, 0, rfl, fun i l hl => ?_⟩
  have hi : i < ls.length := (List.getElem?_eq_some_iff.1 hl).1
  rw [Nat.zero_add, World.ownsRow.cellAt h i (by omega)]
  simp [strs, hl]

theorem St_inj {a b : List UInt8} : (St a = St b) ↔ a = b := by
  constructor
  · intro h
    have := congrArg (fun s => s.data.toList) h
    simpa [St] using this
  · intro h; rw [h]

theorem St_bne {a b : List UInt8} (h : a ≠ b) : (a != b) = true := by rw [bne, St_ne h]; rfl
theorem St_bne_self (a : List UInt8) : (a != a) = false := by simp

set_option maxHeartbeats 4000000 in
set_option maxRecDepth 100000 in
theorem eqStringS_any (xs ys : List (List UInt8)) (A B : Option Addr) (c d : Nat) (w : World) (hn : xs.length ≤ 1000000) (hx : SCells w A xs) (hy : SCells w B ys) :
    Calls Tryd.prog 28 #[.slice A xs.length c, .slice B ys.length d] w fun e w' => e = .returned (.bool (decide (xs = ys))) ∧ Below w.heap.size w w' := by
  cases hl : ((xs.length : Int) != (ys.length : Int)) with
  | true =>
    have hne : xs ≠ ys := fun h => by simp [h] at hl
    rw [decide_eq_false hne]
    clear hne hx hy
    generalize xs.length = n at *
    generalize ys.length = m at *
    go_enter Tryd.func28, Tryd.ntmps28
    go_wp2
    go_ret
    exact ⟨rfl, Below.refl _ _⟩
  | false =>
    have hlen : xs.length = ys.length := by have := hl; simp at this; omega
    generalize hb : decide (xs = ys) = b
    have HX := Lib.hid hx
    have HY := Lib.hid hy
    have HBB : Hid (∀ k, k ≤ xs.length → (xs.take k = ys.take k) → (∀ x y, xs[k]? = some x → ys[k]? = some y → x ≠ y → b = false) ∧ (xs.length ≤ k → b = true)) := fun k hk ht => by
      constructor
      · intro x y h1 h2 h3
        rw [← hb]
        apply decide_eq_false
        intro h
        rw [h, h2] at h1
        exact h3 (Option.some.inj h1).symm
      · intro h
        rw [← hb]
        apply decide_eq_true
        rw [List.take_of_length_le h, List.take_of_length_le (by omega)] at ht
        exact ht
    have HL := Lib.hid hlen
    rw [← hlen] at hl ⊢
    clear hx hy hb hlen
    generalize hN : xs.length = n at *
    have HN := Lib.hid hN
    clear hN
    go_enter Tryd.func28, Tryd.ntmps28
    go_wp2
    go_loopg [5] n (fun m v5 wr => ∃ k : Nat, v5 = .int .i64 k ∧ Hid (m + k = n ∧ xs.take k = ys.take k) ∧ Hid (Below w.heap.size w wr))
    case atStart => exact ⟨0, rfl, ⟨rfl, rfl⟩, Below.refl _ _⟩
    case round =>
      obtain ⟨k, rfl, HK, HB⟩ := hrel
      obtain ⟨hk, htk⟩ := HK.out
      cases gk with
      | zero =>
        have h1 : decide (k < n) = false := decide_eq_false (by omega)
        have hbt := (HBB.out k (by omega) htk).2 (by omega)
        subst hbt
        clear hk htk HK
        go_wp2
        go_ret
        exact ⟨rfl, HB.out⟩
      | succ m =>
        have h1 : decide (k < n) = true := decide_eq_true (by omega)
        have hkn : k < n := by omega
        have hxs : k < xs.length := by rw [HN.out]; exact hkn
        have hys : k < ys.length := by have := HL.out; omega
        obtain ⟨x, hx⟩ : ∃ x, xs[k]? = some x := ⟨_, List.getElem?_eq_getElem hxs⟩
        obtain ⟨y, hy⟩ : ∃ y, ys[k]? = some y := ⟨_, List.getElem?_eq_getElem hys⟩
        have hcx := HX.out.up HB.out
        have hcy := HY.out.up HB.out
        rcases hcx with hcx | ⟨gx, ox, rfl, hcx⟩
        · rw [hcx] at hx; cases hx
        rcases hcy with hcy | ⟨gy, oy, rfl, hcy⟩
        · rw [hcy] at hy; cases hy
        have d1 := hcx k x hx
        have d2 := hcy k y hy
        clear hcx hcy
        by_cases hxe : x = y
        case neg =>
          have hxy : (x != y) = true := St_bne hxe
          have hxy2 : (x == y) = false := St_ne hxe
          have hb := (HBB.out k (by omega) htk).1 x y hx hy hxe
          subst hb
          clear hk htk HK hxs hys hx hy
          go_wp2
          go_region
          go_wp2
          go_ret
          exact ⟨rfl, up_drew HB.out⟩
        case pos =>
          have hxy : (x != y) = false := by rw [hxe]; exact St_bne_self y
          have hxy2 : (x == y) = true := by rw [hxe]; simp
          have ht2 : xs.take (k + 1) = ys.take (k + 1) := by
            rw [List.take_add_one, List.take_add_one, htk, hx, hy, hxe]
          have HK2 : Hid (m + ((k + 1 : Nat)) = n ∧ xs.take (k + 1) = ys.take (k + 1)) := ⟨by omega, ht2⟩
          clear hk htk HK hxs hys hx hy ht2
          go_wp2
          go_region
          go_wp2
          go_roundg m
          case measure => omega
          case rel => exact ⟨k + 1, rfl, HK2, up_drew HB.out⟩

/-- The marks from k on. -/
def marks (k : Int) : Nat → List (List UInt8)
  | 0 => []
  | n + 1 => markB k :: marks (k + 1) n
theorem marks_len : ∀ (n : Nat) (k : Int), (marks k n).length = n
  | 0, _ => rfl
  | n + 1, k => by rw [marks, List.length_cons, marks_len n]
theorem marks_get : ∀ (n : Nat) (k : Int) (i : Nat), i < n → (marks k n)[i]? = some (markB (k + i))
  | 0, _, _, h => by omega
  | n + 1, k, 0, _ => by simp [marks]
  | n + 1, k, i + 1, h => by
    rw [marks, List.getElem?_cons_succ, marks_get n (k + 1) i (by omega)]
    congr 2
    omega

/-- A store into a row of strings. -/
theorem SOwn.set {w : World} {B : Nat} {ls : List (List UInt8)} {g c : Nat} (h : SOwn w B ls g c) (j : Nat) (s : List UInt8) :
    SOwn (w.setCell ⟨g, j, none⟩ (.string (St s))) B (ls.set j s) g c ∧ w.grownBy (w.setCell ⟨g, j, none⟩ (.string (St s))) (some g) := by
  have := World.ownsRow.stored h j (.string (St s))
  refine ⟨?_, this.2⟩
  unfold SOwn
  rw [List.length_set, show strs (ls.set j s) = (strs ls).set j (.string (St s)) by simp [strs, List.map_set]]
  exact this.1
theorem SOwn.cell {w : World} {B : Nat} {ls : List (List UInt8)} {g c : Nat} (h : SOwn w B ls g c) (j : Nat) (s : List UInt8) (hj : ls[j]? = some s) : w.cell? ⟨g, j, none⟩ = some (.string (St s)) := by
  have hi : j < ls.length := (List.getElem?_eq_some_iff.1 hj).1
  rw [World.ownsRow.cellAt h j (by omega)]
  simp [strs, hj]
theorem SOwn.free {w : World} {B : Nat} {ls : List (List UInt8)} {g c : Nat} (h : SOwn w B ls g c) (j : Nat) : w.frozen? ⟨g, j, none⟩ = false := World.ownsRow.frozenAt h j

/-- Where the loop of markStringS stands: 'i' are marked. -/
def MRel (w : World) (B g c : Nat) (k : Int) (n i : Nat) (wr : World) : Prop :=
  ∃ xs, xs.length = n ∧ xs.take i = marks k i ∧ SOwn wr B xs g c ∧ w.grownBy wr (some g)

theorem marks_snoc : ∀ (i : Nat) (k : Int), marks k (i + 1) = marks k i ++ [markB (k + i)]
  | 0, k => by simp [marks]
  | i + 1, k => by
    rw [marks, marks_snoc i (k + 1), marks, List.cons_append, show k + 1 + (i : Int) = k + ((i + 1 : Nat) : Int) by omega]

theorem grown_trans2 {w w1 w2 w3 : World} {g : Nat} (h : w.grownBy w1 (some g)) (hb : Below w1.heap.size w1 w2) (k : w2.grownBy w3 (some g)) : w.grownBy w3 (some g) :=
  ⟨k.os.trans (hb.os.trans h.os), k.tape.trans (hb.tape.trans h.tape), k.output.trans (hb.output.trans h.output), Nat.le_trans h.size (Nat.le_trans hb.size k.size), fun j hj hne => by
    rw [k.block j (Nat.lt_of_lt_of_le hj (Nat.le_trans h.size hb.size)) hne, hb.block j (Nat.lt_of_lt_of_le hj h.size), h.block j hj hne]⟩

theorem MRel.step {w wr w1 : World} {B g c n i : Nat} {k : Int} {xs : List (List UInt8)} (hi : i < n) (h1 : xs.length = n) (h2 : xs.take i = marks k i) (h3 : SOwn w1 B xs g c) (h4 : w.grownBy wr (some g)) (hb : Below wr.heap.size wr w1) :
    MRel w B g c k n (i + 1) (w1.setCell ⟨g, i, none⟩ (.string (St (markB (k + i))))) := by
  obtain ⟨h5, h6⟩ := h3.set i (markB (k + i))
  refine ⟨_, by simpa using h1, ?_, h5, grown_trans2 h4 hb h6⟩
  rw [marks_snoc, List.take_add_one, List.take_set_of_le (Nat.le_refl _), h2]
  simp [h1, hi]

set_option maxHeartbeats 4000000 in
set_option maxRecDepth 100000 in
theorem markStringS_any (ls : List (List UInt8)) (B g c : Nat) (k : Nat) (w : World) (hn : ls.length ≤ 1000000) (hk : k ≤ 1000000) (ho : SOwn w B ls g c) :
    Calls Tryd.prog 29 #[.slice (some ⟨g, 0, none⟩) ls.length c, .int .i64 k] w fun e w' => e = .returned (.int .i64 (k + ls.length : Nat)) ∧ w.grownBy w' (some g) ∧ SOwn w' B (marks k ls.length) g c := by
  have HO : Hid (MRel w B g c k ls.length 0 w) := ⟨ls, rfl, rfl, ho, World.grownBy.refl _ _⟩
  clear ho
  generalize ls.length = n at *
  go_enter Tryd.func29, Tryd.ntmps29
  go_wp2
  go_loopg [1, 5] n (fun m v1 v5 wr => ∃ i : Nat, v1 = .int .i64 ((k + i : Nat) : Int) ∧ v5 = .int .i64 i ∧ Hid (m + i = n) ∧ Hid (MRel w B g c k n i wr))
  case atStart => exact ⟨0, rfl, rfl, rfl, HO⟩
  case round =>
    obtain ⟨i, rfl, rfl, HM, HR⟩ := hrel
    have hm := HM.out
    obtain ⟨xs, h1, h2, h3, h4⟩ := HR.out
    clear HO
    cases gk with
    | zero =>
      have h5 : decide (i < n) = false := decide_eq_false (by omega)
      obtain rfl : i = n := by omega
      have HP : Hid (w.grownBy wr (some g) ∧ SOwn wr B (marks k i) g c) := ⟨h4, by rw [← h2, List.take_of_length_le (by omega)]; exact h3⟩
      clear h1 h2 h3 h4 HR HM hm
      go_wp2
      go_ret
      exact ⟨rfl, HP.out.1, HP.out.2⟩
    | succ m =>
      have h5 : decide (i < n) = true := decide_eq_true (by omega)
      have hin : i < n := by omega
      have HT := Lib.hid fun w => markText_St ((k + i : Nat) : Int) w (by omega)
      have HN : Hid (∀ w1, Below wr.heap.size wr w1 → w1.frozen? ⟨g, i, none⟩ = false ∧ (∃ v, w1.cell? ⟨g, i, none⟩ = some v) ∧ MRel w B g c k n (i + 1) (w1.setCell ⟨g, i, none⟩ (.string (St (markB ((k + i : Nat) : Int)))))) := fun w1 hb => by
        have h3' := h3.up hb
        refine ⟨h3'.free i, ⟨_, h3'.cell i _ (List.getElem?_eq_getElem (by omega))⟩, ?_⟩
        rw [Int.natCast_add]
        exact MRel.step hin h1 h2 h3' h4 hb
      clear h1 h2 h3 h4 HR HM
      go_wp2_with (go_at_call 60; refine (HT.out _).mono ?_; rintro e w1 ⟨rfl, hb1⟩; obtain ⟨d1, ⟨v0, d2⟩, hr⟩ := HN.out w1 hb1; have HR := Lib.hid hr; clear hr hb1)
      go_roundg m
      case measure => omega
      case rel => exact ⟨i + 1, by simp; omega, rfl, by show m + (i + 1) = n; omega, HR⟩

set_option maxHeartbeats 4000000 in
set_option maxRecDepth 100000 in
theorem heldStringS_any (A : Option Addr) (n c : Nat) (k : Nat) (w : World) (hn : n ≤ 1000000) (hk : k ≤ 1000000) (ho : SCells w A (marks k n)) :
    Calls Tryd.prog 30 #[.slice A n c, .int .i64 k] w fun e w' => e = .returned (.int .i64 (k + n : Nat)) ∧ Below w.heap.size w w' := by
  have HO := Lib.hid ho
  clear ho
  go_enter Tryd.func30, Tryd.ntmps30
  go_wp2
  go_loopg [1, 5] n (fun m v1 v5 wr => ∃ i : Nat, v1 = .int .i64 ((k : Int) + (i : Int)) ∧ v5 = .int .i64 i ∧ Hid (m + i = n) ∧ Hid (Below w.heap.size w wr))
  case atStart => exact ⟨0, by simp, rfl, rfl, Below.refl _ _⟩
  case round =>
    obtain ⟨i, rfl, rfl, HM, HB⟩ := hrel
    have hm := HM.out
    cases gk with
    | zero =>
      have h5 : decide (i < n) = false := decide_eq_false (by omega)
      obtain rfl : i = n := by omega
      clear HM hm
      go_wp2
      go_ret
      exact ⟨rfl, HB.out⟩
    | succ m =>
      have h5 : decide (i < n) = true := decide_eq_true (by omega)
      have hin : i < n := by omega
      have HT := Lib.hid fun w => markText_St ((k : Int) + (i : Int)) w (by omega)
      rcases HO.out.up HB.out with ho | ⟨g, o, rfl, hc⟩
      · have := marks_len n k
        rw [ho] at this
        simp at this
        omega
      have d1 := hc i _ (marks_get n k i hin)
      generalize markB ((k : Int) + (i : Int)) = s at *
      have hss : (s != s) = false := by simp
      clear hc HM
      go_wp2
      go_region_held3 (fun w' => w'.cell? ⟨g, o + i, none⟩ = some (.string (St s)) ∧ Hid (Below w.heap.size w w')) (first | exact ⟨d2, HB2⟩ | exact ⟨d1, up_drew HB.out⟩ | go_keep)
        (first | (go_at_call 60; (with_reducible refine (HT.out _).mono ?_); rintro e w2 ⟨rfl, hb2⟩; have d2 : w2.cell? ⟨g, o + i, none⟩ = some (.string (St s)) := cell_up (w := wr.drew) hb2 d1; have HB2 := Lib.hid (up_trans (up_drew HB.out) hb2); clear hb2))
      go_wp2
      go_roundg m
      case measure => omega
      case rel => exact ⟨i + 1, by simp; omega, rfl, by show m + (i + 1) = n; omega, HB2⟩

end Go.Proofs.YtmghnibnokkjjaaDoor
