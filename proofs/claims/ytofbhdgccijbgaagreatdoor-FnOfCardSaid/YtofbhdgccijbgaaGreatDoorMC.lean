/- Rows of strings that a call owns; a value's elements. The laws' marks: markText, and the laws' own functions over rows of strings. Lists of strings that the laws compare and mark. -/
import Derived.Test.YtofbhdgccijbgaaGreatDoorMB
import Derived.Laws.BytesArg
namespace Go.Proofs.YtofbhdgccijbgaaGreatDoor
open Go.RowKit
set_option linter.unusedVariables false
set_option linter.unusedSimpArgs false

def strs (ls : List (List UInt8)) : List Value := ls.map fun l => .string (St l)
theorem strs_len (ls : List (List UInt8)) : (strs ls).length = ls.length := by simp [strs]
theorem strs_app (a b : List (List UInt8)) : strs (a ++ b) = strs a ++ strs b := by simp [strs]
theorem strs_one (a b : List (List UInt8)) : ∀ u ∈ strs a, u.oneCell' = true := by
  intro u hu
  obtain ⟨l, _, rfl⟩ := List.mem_map.1 hu
  rfl
/-- A row of strings from block 'B' on. -/
def SOwn (w : World) (B : Nat) (ls : List (List UInt8)) (g c : Nat) : Prop :=
  w.ownsRow B 9 1 (.slice (some ⟨g, 0, none⟩) ls.length c) ls.length (strs ls)
theorem SOwn.up {w w1 : World} {B : Nat} {ls : List (List UInt8)} {g c : Nat} (h : SOwn w B ls g c) (hb : Below w.heap.size w w1) : SOwn w1 B ls g c := own_up h hb
theorem SOwn.less {w : World} {B B' : Nat} {ls : List (List UInt8)} {g c : Nat} (h : SOwn w B ls g c) (hb : B' ≤ B) : SOwn w B' ls g c := by
  refine ⟨h.1, ?_⟩
  rcases h.2 with h2 | ⟨g', cap, cur, h1, h2, h3⟩
  · exact .inl h2
  · exact .inr ⟨g', cap, cur, h1, Nat.le_trans hb h2, h3⟩
theorem SOwn.lt {w : World} {B : Nat} {ls : List (List UInt8)} {g c : Nat} (h : SOwn w B ls g c) : B ≤ g ∧ g < w.heap.size := World.ownsRow.lt h g rfl
theorem SOwn.new (w : World) (B : Nat) (hB : B ≤ w.heap.size) (ls : List (List UInt8)) (hl : ls.length ≤ 1000000000) : SOwn (w.alloc (.cells (strs ls).toArray 9)) B ls w.heap.size ls.length := by
  have := World.ownsRow_lit (e := 9) (size := 1) w (strs ls).toArray ls.length hB (by unfold maxLen; omega) (by simp [strs])
  exact this
theorem SOwn.cells {w : World} {B : Nat} {ls : List (List UInt8)} {g c : Nat} (h : SOwn w B ls g c) : ∀ j u, (strs ls)[j]? = some u → w.cell? ((⟨g, 0, none⟩ : Addr).add j) = some u := World.ownsRow.cells h rfl
theorem SOwn.len_cap {w : World} {B : Nat} {ls : List (List UInt8)} {g c : Nat} (h : SOwn w B ls g c) : ls.length ≤ c := by
  rcases h.2 with ⟨h1, _⟩ | ⟨g', cap, cur, h1, _, _, h2, _⟩
  · cases h1
  · cases h1; exact h2
theorem own_nonnil {w : World} {B n : Nat} {e : TypeId} {size : Nat} {v : Value} {xs : List Value} (h : w.ownsRow B e size v n xs) (hv : v ≠ .slice none 0 0) : ∃ g c, v = .slice (some ⟨g, 0, none⟩) n c := by
  rcases h.2 with ⟨rfl, rfl⟩ | ⟨g, cap, cur, rfl, _⟩
  · exact absurd rfl hv
  · exact ⟨_, _, rfl⟩
theorem SOwn.of {w : World} {B n g c : Nat} {a b : List (List UInt8)} {xs : List Value} (h : w.ownsRow B 9 1 (.slice (some ⟨g, 0, none⟩) n c) n xs) (hn : n = (a ++ b).length) (hx : xs = strs a ++ strs b) : SOwn w B (a ++ b) g c := by
  subst hn; subst hx
  unfold SOwn
  rw [strs_app]
  exact h

theorem elems_len : ∀ v : V, v.elems.length ≤ v.nodes
  | .u => by simp [V.elems]
  | .el _ => by simp [V.elems, V.nodes]
  | .l a => by have := elems_len a; simp only [V.elems, V.nodes]; omega
  | .r a => by have := elems_len a; simp only [V.elems, V.nodes]; omega
  | .f a => by have := elems_len a; simp only [V.elems, V.nodes]; omega
  | .p a b => by have := elems_len a; have := elems_len b; simp only [V.elems, V.nodes, List.length_append]; omega

/-- What elements() does. -/
def LPost (w : World) (ls : List (List UInt8)) (e : Ending) (w' : World) : Prop :=
  Below w.heap.size w w' ∧ ∃ g c, e = .returned (.slice (some ⟨g, 0, none⟩) ls.length c) ∧ SOwn w' w.heap.size ls g c

theorem Tryz.infoStr : (Tryz.prog.info? 9).map (fun i => (i.zero, i.size, i.bytes)) = some (some (.string ⟨#[]⟩), 1, 16) := by kernel_rfl

/-- An append of a row onto a row, both the call's own. -/
theorem SOwn.app {w w2 : World} {B H g c : Nat} {a b : List (List UInt8)} {v' : Value} (h : w2.ownsRow B 9 1 v' (a.length + b.length) (strs a ++ strs b))
    (hn : v' = .slice none 0 0 ↔ (Value.slice (some ⟨g, 0, none⟩) a.length c) = .slice none 0 0 ∧ b.length = 0) :
    ∃ g2 c2, v' = .slice (some ⟨g2, 0, none⟩) (a.length + b.length) c2 ∧ SOwn w2 B (a ++ b) g2 c2 := by
  obtain ⟨g2, c2, rfl⟩ := own_nonnil h (fun hv => by have := (hn.1 hv).1; cases this)
  exact ⟨g2, c2, rfl, SOwn.of h (by simp) rfl⟩

theorem up_grown {w w1 w2 : World} {g : Nat} (hb : Below w.heap.size w w1) (hg : w1.grownBy w2 (some g)) (h : w.heap.size ≤ g) : Below w.heap.size w w2 :=
  hb.grown hg hb.size (fun k hk => by cases hk; exact h)

set_option maxHeartbeats 4000000 in
set_option maxRecDepth 100000 in
theorem elements_any (v : V) : ∀ (w : World) (p : Option Addr), VAt w v p → v.nodes ≤ 1000000 →
    Calls Tryz.prog 87 #[.pointer p] w (LPost w v.elems) := by
  obtain ⟨i0, hi0, hz0, hz1, hz2⟩ := info_parts Tryz.infoStr
  induction v with
  | u =>
    rintro w p ⟨g, rfl, hb⟩ hn
    have HC : Hid (∀ w1, Below w.heap.size w w1 → w1.cell? ⟨g, 0, none⟩ = some (.int .u8 117) ∧ w1.cell? ⟨g, 2, none⟩ = some (.pointer none) ∧ w1.cell? ⟨g, 3, none⟩ = some (.pointer none)) := fun w1 h1 => ⟨block_cell (block_up h1 hb) 0, block_cell (block_up h1 hb) 2, block_cell (block_up h1 hb) 3⟩
    have l0 := lt_of_block hb
    clear hb
    obtain ⟨c0, c2, c3⟩ := HC.out w (Below.refl _ _)
    clear hi0 hz0 hz1 hz2
    go_enter Tryz.func87, Tryz.ntmps87
    go_wp2_with fail
    go_ret
    exact ⟨up1 w _, _, _, rfl, SOwn.new w _ (Nat.le_refl _) [] (by simp)⟩
  | el s =>
    rintro w p ⟨g, rfl, hb⟩ hn
    have c0 : w.cell? ⟨g, 0, none⟩ = some (.int .u8 101) := block_cell hb 0
    have c1 : w.cell? ⟨g, 1, none⟩ = some (.string (St s)) := block_cell hb 1
    clear hb hi0 hz0 hz1 hz2
    go_enter Tryz.func87, Tryz.ntmps87
    go_wp2_with fail
    go_ret
    exact ⟨up1 w _, _, _, rfl, SOwn.new w _ (Nat.le_refl _) [s] (by simp)⟩
  | p a b iha ihb =>
    rintro w p ⟨pa, pb, ⟨g, rfl, hb⟩, ha, hb'⟩ hn
    simp only [V.nodes] at hn ⊢
    have hla := elems_len a
    have hlb := elems_len b
    have HA : Hid (∀ w1, Below w.heap.size w w1 → Hid (VAt w1 a pa)) := fun w1 h1 => ha.up h1
    have HB : Hid (∀ w1, Below w.heap.size w w1 → Hid (VAt w1 b pb)) := fun w1 h1 => hb'.up h1
    have H1 := Lib.hid fun w pa h => iha w pa h (by omega)
    have H2 := Lib.hid fun w pa h => ihb w pa h (by omega)
    obtain ⟨ga, rfl⟩ := ha.some_
    obtain ⟨gb, rfl⟩ := hb'.some_
    have HC : Hid (∀ w1, Below w.heap.size w w1 → w1.cell? ⟨g, 2, none⟩ = some (.pointer (some ⟨ga, 0, none⟩)) ∧ w1.cell? ⟨g, 3, none⟩ = some (.pointer (some ⟨gb, 0, none⟩))) := fun w1 h1 => ⟨block_cell (block_up h1 hb) 2, block_cell (block_up h1 hb) 3⟩
    have c0 := block_cell hb 0
    obtain ⟨c2, c3⟩ := HC.out w (Below.refl _ _)
    have l0 := lt_of_block hb
    clear hb ha hb' iha ihb
    simp only [V.elems]
    generalize a.elems = l at *
    generalize b.elems = m at *
    have hll : l.length ≤ 1000000 := by omega
    have hlm : m.length ≤ 1000000 := by omega
    clear hla hlb hn
    go_enter Tryz.func87, Tryz.ntmps87
    go_wp2_with (first
      | (go_at_call 87; first
          | ((with_reducible refine (H2.out _ _ (HB.out _ HB2.out).out).mono ?_); rintro e w3 ⟨hb3, g3, c3', rfl, ho⟩; have HO3 := Lib.hid ho; have HB3 := Lib.hid (up_trans HB2.out hb3); have HO2' := Lib.hid (HO2.out.up hb3); clear ho hb3)
          | ((with_reducible refine (H1.out _ _ (HA.out _ (up1 w _)).out).mono ?_); rintro e w1 ⟨hb1, g1, c1, rfl, ho⟩; have HO := Lib.hid ho; have HB1 := Lib.hid (up_trans (up1 w _) hb1); have ho0 : w1.ownsRow w.heap.size 9 1 (.slice (some ⟨w.heap.size, 0, none⟩) 0 0) 0 (strs []) := own_up (SOwn.new w _ (Nat.le_refl _) [] (by simp)) hb1; have HO0 := Lib.hid ho0; clear ho ho0 hb1))
      | (at_builtin; first
          | (refine wpList_append_own _ rfl _ _ 26 rfl w.heap.size 9 i0 (.string ⟨#[]⟩) 1 16 Tryz.underlying26 hi0 hz0 hz1 hz2 rfl (by decide) (.slice (some ⟨g2, 0, none⟩) l.length c2') l.length (strs l) rfl HO2'.out ⟨g3, 0, none⟩ m.length c3' (strs m) rfl (by simp [strs]) (SOwn.cells HO3.out) (strs_one m m) (by unfold maxLen; omega) (by omega) HB3.out.size ?_; intro v' w4 hown hgrow hnil; obtain ⟨g4, c4, rfl, ho4⟩ := SOwn.app (w := w3) (H := 0) (a := l) (g := g2) (c := c2') hown hnil; have HB4 := Lib.hid (up_grown HB3.out hgrow (SOwn.lt HO2'.out).1); have HO4 := Lib.hid ho4; clear hown hgrow hnil ho4)
          | (refine wpList_append_own _ rfl _ _ 26 rfl w.heap.size 9 i0 (.string ⟨#[]⟩) 1 16 Tryz.underlying26 hi0 hz0 hz1 hz2 rfl (by decide) (.slice (some ⟨w.heap.size, 0, none⟩) 0 0) 0 (strs []) rfl HO0.out ⟨g1, 0, none⟩ l.length c1 (strs l) rfl (by simp [strs]) (SOwn.cells HO.out) (strs_one l l) (by unfold maxLen; omega) (by omega) HB1.out.size ?_; intro v' w2 hown hgrow hnil; obtain ⟨g2, c2', hv2, ho2⟩ := SOwn.app (w := w1) (H := 0) (a := []) (g := w.heap.size) (c := 0) hown hnil; obtain rfl : v' = .slice (some ⟨g2, 0, none⟩) l.length c2' := (by rw [hv2]; simp); clear hv2; have HB2 := Lib.hid (up_grown HB1.out hgrow (Nat.le_refl _)); have HO2 : Hid (SOwn w2 w.heap.size l g2 c2') := ho2; obtain ⟨d2, d3⟩ := HC.out w2 HB2.out; clear hown hgrow hnil ho2)))
    go_ret
    exact ⟨HB4.out, _, _, by simp, HO4.out⟩
  | _ a iha =>
    rintro w p ⟨pa, ⟨g, rfl, hb⟩, ha⟩ hn
    simp only [V.nodes] at hn ⊢
    have hl := elems_len a
    have h1 := fun w pa h => iha w pa h (by omega)
    have HA : Hid (∀ w1, Below w.heap.size w w1 → Hid (VAt w1 a pa)) := fun w1 h1 => ha.up h1
    have H1 := Lib.hid h1
    obtain ⟨ga, rfl⟩ := ha.some_
    have HC : Hid (∀ w1, Below w.heap.size w w1 → w1.cell? ⟨g, 2, none⟩ = some (.pointer (some ⟨ga, 0, none⟩)) ∧ w1.cell? ⟨g, 3, none⟩ = some (.pointer none)) := fun w1 h1 => ⟨block_cell (block_up h1 hb) 2, block_cell (block_up h1 hb) 3⟩
    have c0 := block_cell hb 0
    obtain ⟨c2, c3⟩ := HC.out w (Below.refl _ _)
    have l0 := lt_of_block hb
    clear hb ha iha h1
    simp only [V.elems]
    generalize a.elems = l at *
    have hll : l.length ≤ 1000000 := by omega
    clear hl hn
    go_enter Tryz.func87, Tryz.ntmps87
    go_wp2_with (first
      | (go_at_call 87; refine (H1.out _ _ (HA.out _ (up1 w _)).out).mono ?_; rintro e w1 ⟨hb1, g1, c1, rfl, ho⟩; have HO := Lib.hid ho; have HB1 := Lib.hid (up_trans (up1 w _) hb1); have ho0 : w1.ownsRow w.heap.size 9 1 (.slice (some ⟨w.heap.size, 0, none⟩) 0 0) 0 (strs []) := own_up (SOwn.new w _ (Nat.le_refl _) [] (by simp)) hb1; have HO0 := Lib.hid ho0; clear ho ho0 hb1)
      | (at_builtin; refine wpList_append_own _ rfl _ _ 26 rfl w.heap.size 9 i0 (.string ⟨#[]⟩) 1 16 Tryz.underlying26 hi0 hz0 hz1 hz2 rfl (by decide) (.slice (some ⟨w.heap.size, 0, none⟩) 0 0) 0 (strs []) rfl HO0.out ⟨g1, 0, none⟩ l.length c1 (strs l) rfl (by simp [strs]) (SOwn.cells HO.out) (strs_one l l) (by unfold maxLen; omega) (by omega) HB1.out.size ?_; intro v' w2 hown hgrow hnil; obtain ⟨g2, c2', rfl, ho2⟩ := SOwn.app (w := w1) (H := 0) (a := []) (g := w.heap.size) (c := 0) hown hnil; have HB2 := Lib.hid (up_grown HB1.out hgrow (Nat.le_refl _)); have HO2 := Lib.hid ho2; obtain ⟨d2, d3⟩ := HC.out w2 HB2.out; clear hown hgrow hnil ho2))
    go_ret
    exact ⟨HB2.out, _, _, by simp, HO2.out⟩

end Go.Proofs.YtofbhdgccijbgaaGreatDoor

namespace Go.Proofs.YtofbhdgccijbgaaGreatDoor
open Go.RowKit
set_option linter.unusedVariables false
set_option linter.unusedSimpArgs false

/-- The digits ahead of 'acc'. -/
def markL : Nat → Int → ByteArray → ByteArray
  | 0, _, acc => acc
  | n + 1, x, acc => if x > 0 then markL n (wrap64 (Int.tdiv x 10)) (strOfNums [(wrap64 (48 + (Int.tmod x 10))) % 256] ++ acc) else acc

/-- What markText gives. -/
def mark (k : Int) : ByteArray := if k ≤ 0 then ⟨#[109, 48]⟩ else ⟨#[109]⟩ ++ markL 10 k ⟨#[]⟩

theorem markL_stop (n : Nat) (x : Int) (acc : ByteArray) (h : ¬ x > 0) : markL n x acc = acc := by
  cases n with
  | zero => rfl
  | succ n => rw [markL, if_neg h]

set_option maxHeartbeats 2000000 in
theorem markText_any (k : Int) (w : World) (hk : k ≤ 1000000000) :
    Calls Tryz.prog 61 #[.int .i64 k] w fun e w' => e = .returned (.string (mark k)) ∧ Below w.heap.size w w' := by
  cases hc : decide (k ≤ 0) with
  | true =>
    have : mark k = ⟨#[109, 48]⟩ := by rw [mark, if_pos (by simpa using hc)]
    rw [this]
    clear hk this
    go_enter Tryz.func61, Tryz.ntmps61
    go_wp2
    go_ret
    exact ⟨rfl, Below.refl _ _⟩
  | false =>
    have hk0 : 0 < k := by simpa using hc
    have hm : mark k = ⟨#[109]⟩ ++ markL 10 k ⟨#[]⟩ := by rw [mark, if_neg (by omega)]
    rw [hm]
    generalize hr : markL 10 k ⟨#[]⟩ = r
    have HR0 : Hid (markL 10 k ⟨#[]⟩ = r ∧ 0 ≤ k ∧ k < 10 ^ 10 ∧ (⟨#[]⟩ : ByteArray).size + 10 ≤ 10) := ⟨hr, by omega, by omega, by decide⟩
    clear hr hm hk hk0
    go_enter Tryz.func61, Tryz.ntmps61
    go_wp2
    go_loopg [0, 3] 10 (fun n v0 v3 wr => ∃ (x : Int) (acc : ByteArray), v0 = .int .i64 x ∧ v3 = .string acc ∧ Hid (markL n x acc = r ∧ 0 ≤ x ∧ x < 10 ^ n ∧ acc.size + n ≤ 10) ∧ Hid (Below w.heap.size w wr))
    case atStart => exact ⟨k, _, rfl, rfl, HR0, Below.refl _ _⟩
    case round =>
      obtain ⟨x, acc, rfl, rfl, HR, HB⟩ := hrel
      clear hc HR0
      cases hx : decide (0 < x) with
      | true =>
        have hx0 : 0 < x := by simpa using hx
        cases gk with
        | zero => have := HR.out.2.2.1; simp at this; omega
        | succ n =>
          obtain ⟨h1, h2, h3, h4⟩ := HR.out
          rw [markL, if_pos hx0] at h1
          have hw : wrap64 (Int.tdiv x 10) = x / 10 := by
            rw [Int.tdiv_eq_ediv_of_nonneg (by omega)]
            unfold wrap64
            have : x / 10 ≤ x := Int.ediv_le_self _ (by omega)
            have : (10 : Int) ^ (n + 1) ≤ 10 ^ 10 := by
              have : n + 1 ≤ 10 := by omega
              exact_mod_cast Nat.pow_le_pow_right (by decide) this
            omega
          have hp : x / 10 < 10 ^ n := by
            rw [Int.ediv_lt_iff_lt_mul (by decide)]
            rw [Int.pow_succ] at h3
            exact h3
          obtain ⟨z, hz⟩ : ∃ z, z = (wrap64 (48 + (Int.tmod x 10))) % 256 := ⟨_, rfl⟩
          have hsz : (strOfNums [z]).size = 1 := strOfNums_size _
          have HN : Hid (markL n (wrap64 (Int.tdiv x 10)) (strOfNums [(wrap64 (48 + (Int.tmod x 10))) % 256] ++ acc) = r ∧ 0 ≤ wrap64 (Int.tdiv x 10) ∧ wrap64 (Int.tdiv x 10) < 10 ^ n ∧ (strOfNums [(wrap64 (48 + (Int.tmod x 10))) % 256] ++ acc).size + n ≤ 10) := by
            refine ⟨h1, by rw [hw]; omega, by rw [hw]; exact hp, ?_⟩
            rw [← hz, ByteArray.size_append, hsz]
            omega
          have c1 : ((strOfNums [(wrap64 (48 + (Int.tmod x 10))) % 256]).size + acc.size ≤ 9223372036854775807) = True := eq_true (by rw [← hz, hsz]; omega)
          have c2 : decide ((strOfNums [(wrap64 (48 + (Int.tmod x 10))) % 256]).size + acc.size ≤ 9223372036854775807) = true := decide_eq_true (by rw [← hz, hsz]; omega)
          have c3 : (9223372036854775807 < (strOfNums [(wrap64 (48 + (Int.tmod x 10))) % 256]).size + acc.size) = False := eq_false (by rw [← hz, hsz]; omega)
          have kc : (convert 43 9 (.slice (some ⟨wr.heap.size, 0, none⟩) 1 1)).run Tryz.prog (wr.alloc (.cells #[.int .u8 ((wrap64 (48 + (Int.tmod x 10))) % 256)] 5)) = .ok (.string (strOfNums [(wrap64 (48 + (Int.tmod x 10))) % 256])) (wr.alloc (.cells #[.int .u8 ((wrap64 (48 + (Int.tmod x 10))) % 256)] 5)) :=
            run_convert_bytes_arg (P := Tryz.prog) _ 43 5 Tryz.underlying43 Tryz.underlying5 wr.heap.size 0 1 1 [_] rfl (fun i hi => by
              obtain rfl : i = 0 := by omega
              exact block_cell (block_new wr _) 0) 9 Tryz.underlying9
          clear h1 h2 h3 h4 hw hp hz hsz hx0 HR
          go_wp2
          go_roundg n
          case measure => omega
          case rel => exact ⟨_, _, rfl, rfl, HN, up_alloc HB.out _⟩
      | false =>
        have hx0 : ¬ x > 0 := by simpa using hx
        obtain ⟨h1, h2, h3, h4⟩ := HR.out
        rw [markL_stop _ _ _ hx0] at h1
        subst h1
        have c1 : (1 + acc.size ≤ 9223372036854775807) = True := eq_true (by omega)
        have c2 : decide (1 + acc.size ≤ 9223372036854775807) = true := decide_eq_true (by omega)
        have c3 : (9223372036854775807 < 1 + acc.size) = False := eq_false (by omega)
        clear h2 h3 h4 HR hx0
        go_wp2
        go_ret
        exact ⟨rfl, HB.out⟩

/-- The mark as a list. -/
def markB (k : Int) : List UInt8 := (mark k).data.toList
theorem markText_St (k : Int) (w : World) (hk : k ≤ 1000000000) :
    Calls Tryz.prog 61 #[.int .i64 k] w fun e w' => e = .returned (.string (St (markB k))) ∧ Below w.heap.size w w' := by
  have := markText_any k w hk
  rw [show St (markB k) = mark k from rfl]
  exact this

/-- A slice whose elements read as 'ls'. -/
def SCells (w : World) (A : Option Addr) (ls : List (List UInt8)) : Prop :=
  ls = [] ∨ ∃ g o, A = some ⟨g, o, none⟩ ∧ ∀ i l, ls[i]? = some l → w.cell? ⟨g, o + i, none⟩ = some (.string (St l))
theorem SCells.up {w w1 : World} {A : Option Addr} {ls : List (List UInt8)} (h : SCells w A ls) (hb : Below w.heap.size w w1) : SCells w1 A ls := by
  rcases h with h | ⟨g, o, rfl, h⟩
  · exact .inl h
  · exact .inr ⟨g, o, rfl, fun i l hl => cell_up hb (h i l hl)⟩
theorem SOwn.reads {w : World} {B : Nat} {ls : List (List UInt8)} {g c : Nat} (h : SOwn w B ls g c) : SCells w (some ⟨g, 0, none⟩) ls := by
  refine .inr ⟨g, 0, rfl, fun i l hl => ?_⟩
  have hi : i < ls.length := (List.getElem?_eq_some_iff.1 hl).1
  rw [Nat.zero_add, World.ownsRow.cellAt h i (by omega)]
  simp [strs, hl]

theorem St_inj {a b : List UInt8} : (St a = St b) ↔ a = b := by
  constructor
  · intro h
    have := congrArg (fun s => s.data.toList) h
    simpa [St] using this
  · intro h; rw [h]

theorem St_bne {a b : List UInt8} (h : a ≠ b) : (a != b) = true := by rw [bne, St_ne h]; rfl
theorem St_bne_self (a : List UInt8) : (a != a) = false := by simp

set_option maxHeartbeats 4000000 in
set_option maxRecDepth 100000 in
theorem eqStringS_any (xs ys : List (List UInt8)) (A B : Option Addr) (c d : Nat) (w : World) (hn : xs.length ≤ 1000000) (hx : SCells w A xs) (hy : SCells w B ys) :
    Calls Tryz.prog 21 #[.slice A xs.length c, .slice B ys.length d] w fun e w' => e = .returned (.bool (decide (xs = ys))) ∧ Below w.heap.size w w' := by
  cases hl : ((xs.length : Int) != (ys.length : Int)) with
  | true =>
    have hne : xs ≠ ys := fun h => by simp [h] at hl
    rw [decide_eq_false hne]
    clear hne hx hy
    generalize xs.length = n at *
    generalize ys.length = m at *
    go_enter Tryz.func21, Tryz.ntmps21
    go_wp2
    go_ret
    exact ⟨rfl, Below.refl _ _⟩
  | false =>
    have hlen : xs.length = ys.length := by have := hl; simp at this; omega
    generalize hb : decide (xs = ys) = b
    have HX := Lib.hid hx
    have HY := Lib.hid hy
    have HBB : Hid (∀ k, k ≤ xs.length → (xs.take k = ys.take k) → (∀ x y, xs[k]? = some x → ys[k]? = some y → x ≠ y → b = false) ∧ (xs.length ≤ k → b = true)) := fun k hk ht => by
      constructor
      · intro x y h1 h2 h3
        rw [← hb]
        apply decide_eq_false
        intro h
        rw [h, h2] at h1
        exact h3 (Option.some.inj h1).symm
      · intro h
        rw [← hb]
        apply decide_eq_true
        rw [List.take_of_length_le h, List.take_of_length_le (by omega)] at ht
        exact ht
    have HL := Lib.hid hlen
    rw [← hlen] at hl ⊢
    clear hx hy hb hlen
    generalize hN : xs.length = n at *
    have HN := Lib.hid hN
    clear hN
    go_enter Tryz.func21, Tryz.ntmps21
    go_wp2
    go_loopg [5] n (fun m v5 wr => ∃ k : Nat, v5 = .int .i64 k ∧ Hid (m + k = n ∧ xs.take k = ys.take k) ∧ Hid (Below w.heap.size w wr))
    case atStart => exact ⟨0, rfl, ⟨rfl, rfl⟩, Below.refl _ _⟩
    case round =>
      obtain ⟨k, rfl, HK, HB⟩ := hrel
      obtain ⟨hk, htk⟩ := HK.out
      cases gk with
      | zero =>
        have h1 : decide (k < n) = false := decide_eq_false (by omega)
        have hbt := (HBB.out k (by omega) htk).2 (by omega)
        subst hbt
        clear hk htk HK
        go_wp2
        go_ret
        exact ⟨rfl, HB.out⟩
      | succ m =>
        have h1 : decide (k < n) = true := decide_eq_true (by omega)
        have hkn : k < n := by omega
        have hxs : k < xs.length := by rw [HN.out]; exact hkn
        have hys : k < ys.length := by have := HL.out; omega
        obtain ⟨x, hx⟩ : ∃ x, xs[k]? = some x := ⟨_, List.getElem?_eq_getElem hxs⟩
        obtain ⟨y, hy⟩ : ∃ y, ys[k]? = some y := ⟨_, List.getElem?_eq_getElem hys⟩
        have hcx := HX.out.up HB.out
        have hcy := HY.out.up HB.out
        rcases hcx with hcx | ⟨gx, ox, rfl, hcx⟩
        · rw [hcx] at hx; cases hx
        rcases hcy with hcy | ⟨gy, oy, rfl, hcy⟩
        · rw [hcy] at hy; cases hy
        have d1 := hcx k x hx
        have d2 := hcy k y hy
        clear hcx hcy
        by_cases hxe : x = y
        case neg =>
          have hxy : (x != y) = true := St_bne hxe
          have hxy2 : (x == y) = false := St_ne hxe
          have hb := (HBB.out k (by omega) htk).1 x y hx hy hxe
          subst hb
          clear hk htk HK hxs hys hx hy
          go_wp2
          go_region
          go_wp2
          go_ret
          exact ⟨rfl, up_drew HB.out⟩
        case pos =>
          have hxy : (x != y) = false := by rw [hxe]; exact St_bne_self y
          have hxy2 : (x == y) = true := by rw [hxe]; simp
          have ht2 : xs.take (k + 1) = ys.take (k + 1) := by
            rw [List.take_add_one, List.take_add_one, htk, hx, hy, hxe]
          have HK2 : Hid (m + ((k + 1 : Nat)) = n ∧ xs.take (k + 1) = ys.take (k + 1)) := ⟨by omega, ht2⟩
          clear hk htk HK hxs hys hx hy ht2
          go_wp2
          go_region
          go_wp2
          go_roundg m
          case measure => omega
          case rel => exact ⟨k + 1, rfl, HK2, up_drew HB.out⟩

/-- The marks from k on. -/
def marks (k : Int) : Nat → List (List UInt8)
  | 0 => []
  | n + 1 => markB k :: marks (k + 1) n
theorem marks_len : ∀ (n : Nat) (k : Int), (marks k n).length = n
  | 0, _ => rfl
  | n + 1, k => by rw [marks, List.length_cons, marks_len n]
theorem marks_get : ∀ (n : Nat) (k : Int) (i : Nat), i < n → (marks k n)[i]? = some (markB (k + i))
  | 0, _, _, h => by omega
  | n + 1, k, 0, _ => by simp [marks]
  | n + 1, k, i + 1, h => by
    rw [marks, List.getElem?_cons_succ, marks_get n (k + 1) i (by omega)]
    congr 2
    omega

/-- A store into a row of strings. -/
theorem SOwn.set {w : World} {B : Nat} {ls : List (List UInt8)} {g c : Nat} (h : SOwn w B ls g c) (j : Nat) (s : List UInt8) :
    SOwn (w.setCell ⟨g, j, none⟩ (.string (St s))) B (ls.set j s) g c ∧ w.grownBy (w.setCell ⟨g, j, none⟩ (.string (St s))) (some g) := by
  have := World.ownsRow.stored h j (.string (St s))
  refine ⟨?_, this.2⟩
  unfold SOwn
  rw [List.length_set, show strs (ls.set j s) = (strs ls).set j (.string (St s)) by simp [strs, List.map_set]]
  exact this.1
theorem SOwn.cell {w : World} {B : Nat} {ls : List (List UInt8)} {g c : Nat} (h : SOwn w B ls g c) (j : Nat) (s : List UInt8) (hj : ls[j]? = some s) : w.cell? ⟨g, j, none⟩ = some (.string (St s)) := by
  have hi : j < ls.length := (List.getElem?_eq_some_iff.1 hj).1
  rw [World.ownsRow.cellAt h j (by omega)]
  simp [strs, hj]
theorem SOwn.free {w : World} {B : Nat} {ls : List (List UInt8)} {g c : Nat} (h : SOwn w B ls g c) (j : Nat) : w.frozen? ⟨g, j, none⟩ = false := World.ownsRow.frozenAt h j

/-- Where the loop of markStringS stands: 'i' are marked. -/
def MRel (w : World) (B g c : Nat) (k : Int) (n i : Nat) (wr : World) : Prop :=
  ∃ xs, xs.length = n ∧ xs.take i = marks k i ∧ SOwn wr B xs g c ∧ w.grownBy wr (some g)

theorem marks_snoc : ∀ (i : Nat) (k : Int), marks k (i + 1) = marks k i ++ [markB (k + i)]
  | 0, k => by simp [marks]
  | i + 1, k => by
    rw [marks, marks_snoc i (k + 1), marks, List.cons_append, show k + 1 + (i : Int) = k + ((i + 1 : Nat) : Int) by omega]

theorem grown_trans2 {w w1 w2 w3 : World} {g : Nat} (h : w.grownBy w1 (some g)) (hb : Below w1.heap.size w1 w2) (k : w2.grownBy w3 (some g)) : w.grownBy w3 (some g) :=
  ⟨k.os.trans (hb.os.trans h.os), k.tape.trans (hb.tape.trans h.tape), k.output.trans (hb.output.trans h.output), Nat.le_trans h.size (Nat.le_trans hb.size k.size), fun j hj hne => by
    rw [k.block j (Nat.lt_of_lt_of_le hj (Nat.le_trans h.size hb.size)) hne, hb.block j (Nat.lt_of_lt_of_le hj h.size), h.block j hj hne]⟩

theorem MRel.step {w wr w1 : World} {B g c n i : Nat} {k : Int} {xs : List (List UInt8)} (hi : i < n) (h1 : xs.length = n) (h2 : xs.take i = marks k i) (h3 : SOwn w1 B xs g c) (h4 : w.grownBy wr (some g)) (hb : Below wr.heap.size wr w1) :
    MRel w B g c k n (i + 1) (w1.setCell ⟨g, i, none⟩ (.string (St (markB (k + i))))) := by
  obtain ⟨h5, h6⟩ := h3.set i (markB (k + i))
  refine ⟨_, by simpa using h1, ?_, h5, grown_trans2 h4 hb h6⟩
  rw [marks_snoc, List.take_add_one, List.take_set_of_le (Nat.le_refl _), h2]
  simp [h1, hi]

set_option maxHeartbeats 4000000 in
set_option maxRecDepth 100000 in
theorem markStringS_any (ls : List (List UInt8)) (B g c : Nat) (k : Nat) (w : World) (hn : ls.length ≤ 1000000) (hk : k ≤ 1000000) (ho : SOwn w B ls g c) :
    Calls Tryz.prog 22 #[.slice (some ⟨g, 0, none⟩) ls.length c, .int .i64 k] w fun e w' => e = .returned (.int .i64 (k + ls.length : Nat)) ∧ w.grownBy w' (some g) ∧ SOwn w' B (marks k ls.length) g c := by
  have HO : Hid (MRel w B g c k ls.length 0 w) := ⟨ls, rfl, rfl, ho, World.grownBy.refl _ _⟩
  clear ho
  generalize ls.length = n at *
  go_enter Tryz.func22, Tryz.ntmps22
  go_wp2
  go_loopg [1, 5] n (fun m v1 v5 wr => ∃ i : Nat, v1 = .int .i64 ((k + i : Nat) : Int) ∧ v5 = .int .i64 i ∧ Hid (m + i = n) ∧ Hid (MRel w B g c k n i wr))
  case atStart => exact ⟨0, rfl, rfl, rfl, HO⟩
  case round =>
    obtain ⟨i, rfl, rfl, HM, HR⟩ := hrel
    have hm := HM.out
    obtain ⟨xs, h1, h2, h3, h4⟩ := HR.out
    clear HO
    cases gk with
    | zero =>
      have h5 : decide (i < n) = false := decide_eq_false (by omega)
      obtain rfl : i = n := by omega
      have HP : Hid (w.grownBy wr (some g) ∧ SOwn wr B (marks k i) g c) := ⟨h4, by rw [← h2, List.take_of_length_le (by omega)]; exact h3⟩
      clear h1 h2 h3 h4 HR HM hm
      go_wp2
      go_ret
      exact ⟨rfl, HP.out.1, HP.out.2⟩
    | succ m =>
      have h5 : decide (i < n) = true := decide_eq_true (by omega)
      have hin : i < n := by omega
      have HT := Lib.hid fun w => markText_St ((k + i : Nat) : Int) w (by omega)
      have HN : Hid (∀ w1, Below wr.heap.size wr w1 → w1.frozen? ⟨g, i, none⟩ = false ∧ (∃ v, w1.cell? ⟨g, i, none⟩ = some v) ∧ MRel w B g c k n (i + 1) (w1.setCell ⟨g, i, none⟩ (.string (St (markB ((k + i : Nat) : Int)))))) := fun w1 hb => by
        have h3' := h3.up hb
        refine ⟨h3'.free i, ⟨_, h3'.cell i _ (List.getElem?_eq_getElem (by omega))⟩, ?_⟩
        rw [Int.natCast_add]
        exact MRel.step hin h1 h2 h3' h4 hb
      clear h1 h2 h3 h4 HR HM
      go_wp2_with (go_at_call 61; refine (HT.out _).mono ?_; rintro e w1 ⟨rfl, hb1⟩; obtain ⟨d1, ⟨v0, d2⟩, hr⟩ := HN.out w1 hb1; have HR := Lib.hid hr; clear hr hb1)
      go_roundg m
      case measure => omega
      case rel => exact ⟨i + 1, by simp; omega, rfl, by show m + (i + 1) = n; omega, HR⟩

set_option maxHeartbeats 4000000 in
set_option maxRecDepth 100000 in
theorem heldStringS_any (A : Option Addr) (n c : Nat) (k : Nat) (w : World) (hn : n ≤ 1000000) (hk : k ≤ 1000000) (ho : SCells w A (marks k n)) :
    Calls Tryz.prog 23 #[.slice A n c, .int .i64 k] w fun e w' => e = .returned (.int .i64 (k + n : Nat)) ∧ Below w.heap.size w w' := by
  have HO := Lib.hid ho
  clear ho
  go_enter Tryz.func23, Tryz.ntmps23
  go_wp2
  go_loopg [1, 5] n (fun m v1 v5 wr => ∃ i : Nat, v1 = .int .i64 ((k : Int) + (i : Int)) ∧ v5 = .int .i64 i ∧ Hid (m + i = n) ∧ Hid (Below w.heap.size w wr))
  case atStart => exact ⟨0, by simp, rfl, rfl, Below.refl _ _⟩
  case round =>
    obtain ⟨i, rfl, rfl, HM, HB⟩ := hrel
    have hm := HM.out
    cases gk with
    | zero =>
      have h5 : decide (i < n) = false := decide_eq_false (by omega)
      obtain rfl : i = n := by omega
      clear HM hm
      go_wp2
      go_ret
      exact ⟨rfl, HB.out⟩
    | succ m =>
      have h5 : decide (i < n) = true := decide_eq_true (by omega)
      have hin : i < n := by omega
      have HT := Lib.hid fun w => markText_St ((k : Int) + (i : Int)) w (by omega)
      rcases HO.out.up HB.out with ho | ⟨g, o, rfl, hc⟩
      · have := marks_len n k
        rw [ho] at this
        simp at this
        omega
      have d1 := hc i _ (marks_get n k i hin)
      generalize markB ((k : Int) + (i : Int)) = s at *
      have hss : (s != s) = false := by simp
      clear hc HM
      go_wp2
      go_region_held3 (fun w' => w'.cell? ⟨g, o + i, none⟩ = some (.string (St s)) ∧ Hid (Below w.heap.size w w')) (first | exact ⟨d2, HB2⟩ | exact ⟨d1, up_drew HB.out⟩ | go_keep)
        (first | (go_at_call 61; (with_reducible refine (HT.out _).mono ?_); rintro e w2 ⟨rfl, hb2⟩; have d2 : w2.cell? ⟨g, o + i, none⟩ = some (.string (St s)) := cell_up (w := wr.drew) hb2 d1; have HB2 := Lib.hid (up_trans (up_drew HB.out) hb2); clear hb2))
      go_wp2
      go_roundg m
      case measure => omega
      case rel => exact ⟨i + 1, by simp; omega, rfl, by show m + (i + 1) = n; omega, HB2⟩

end Go.Proofs.YtofbhdgccijbgaaGreatDoor

namespace Go.Proofs.YtofbhdgccijbgaaGreatDoor
open Go.RowKit
set_option linter.unusedVariables false
set_option linter.unusedSimpArgs false

theorem SOwn.kept {w w1 : World} {B : Nat} {ls : List (List UInt8)} {g c g' : Nat} (h : SOwn w B ls g c) (hg : w.grownBy w1 (some g')) (hne : g ≠ g') : SOwn w1 B ls g c :=
  World.ownsRow.kept h hg (.inr (by simpa [Value.ownBlock] using hne))

theorem SOwn.new0 (w : World) (o : Obj) (B : Nat) (h : B ≤ w.heap.size) : SOwn ((w.alloc o).alloc (.cells #[] 9)) B [] (w.heap.size + 1) 0 := by
  have e : (w.alloc o).heap.size = w.heap.size + 1 := by simp
  have := SOwn.new (w.alloc o) B (by omega) [] (by simp)
  rw [e] at this
  exact this

theorem eqStringS_same (xs : List (List UInt8)) (A B : Option Addr) (c d : Nat) (w : World) (hn : xs.length ≤ 1000000) (hx : SCells w A xs) (hy : SCells w B xs) :
    Calls Tryz.prog 21 #[.slice A xs.length c, .slice B xs.length d] w fun e w' => e = .returned (.bool true) ∧ Below w.heap.size w w' := by
  have := eqStringS_any xs xs A B c d w hn hx hy
  rw [decide_eq_true rfl] at this
  exact this

theorem markStringS_none (A : Option Addr) (c : Nat) (k : Int) (w : World) :
    Calls Tryz.prog 22 #[.slice A 0 c, .int .i64 k] w fun e w' => e = .returned (.int .i64 k) ∧ w' = w := by
  go_enter Tryz.func22, Tryz.ntmps22
  go_wp2
  go_loopw [1, 5] (fun v1 v5 wr => v1 = .int .i64 k ∧ v5 = .int .i64 0 ∧ wr = w) (fun _ _ _ => 0)
  case atStart => exact ⟨rfl, rfl, rfl⟩
  case round =>
    obtain ⟨rfl, rfl, rfl⟩ := hrel
    go_wp2
    go_ret
    exact ⟨rfl, rfl⟩

end Go.Proofs.YtofbhdgccijbgaaGreatDoor
