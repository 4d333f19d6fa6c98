/- The reference's free names: l1Has, l1With, l1Free. -/
import Derived.Test.YtkciljcligohnaaDoorSTy3
import Derived.Test.YtkciljcligohnaaDoorRow
namespace Go.Proofs.YtkciljcligohnaaDoor
open Go.RowKit
set_option linter.unusedVariables false
set_option linter.unusedSimpArgs false

set_option maxHeartbeats 4000000 in
set_option maxRecDepth 100000 in
theorem l1Has_any (ls : List (List UInt8)) (A : Option Addr) (c : Nat) (s : List UInt8) (w : World) (hn : ls.length ≤ 1000000) (hx : SCells w A ls) :
    Calls Tryd.prog 93 #[.slice A ls.length c, .string (St s)] w fun e w' => e = .returned (.bool (decide (s ∈ ls))) ∧ Below w.heap.size w w' := by
  generalize hb : decide (s ∈ ls) = b
  have HX := Lib.hid hx
  have HBB : Hid (∀ k, k ≤ ls.length → (∀ x ∈ ls.take k, x ≠ s) → (∀ x, ls[k]? = some x → x = s → b = true) ∧ (∀ x, ls[k]? = some x → x ≠ s → ∀ y ∈ ls.take (k + 1), y ≠ s) ∧ (ls.length ≤ k → b = false)) := fun k hk ht => by
    refine ⟨fun x h1 h2 => ?_, fun x h1 h2 y hy => ?_, fun h => ?_⟩
    · rw [← hb]
      exact decide_eq_true (h2 ▸ List.mem_of_getElem? h1)
    · rw [List.take_add_one, h1] at hy
      simp at hy
      rcases hy with hy | rfl
      · exact ht y hy
      · exact h2
    · rw [← hb]
      rw [List.take_of_length_le h] at ht
      exact decide_eq_false (fun hm => ht s hm rfl)
  clear hx hb
  generalize hN : ls.length = n at *
  have HN := Lib.hid hN
  clear hN
  go_enter Tryd.func93, Tryd.ntmps93
  go_wp2
  go_loopg [5] n (fun m v5 wr => ∃ k : Nat, v5 = .int .i64 k ∧ Hid (m + k = n ∧ ∀ x ∈ ls.take k, x ≠ s) ∧ Hid (Below w.heap.size w wr))
  case atStart => exact ⟨0, rfl, ⟨rfl, by simp⟩, Below.refl _ _⟩
  case round =>
    obtain ⟨k, rfl, HK, HB⟩ := hrel
    obtain ⟨hk, htk⟩ := HK.out
    cases gk with
    | zero =>
      have h1 : decide (k < n) = false := decide_eq_false (by omega)
      have hbt := (HBB.out k (by omega) htk).2.2 (by omega)
      subst hbt
      clear hk htk HK
      go_wp2
      go_ret
      exact ⟨rfl, HB.out⟩
    | succ m =>
      have h1 : decide (k < n) = true := decide_eq_true (by omega)
      have hkn : k < n := by omega
      have hxs : k < ls.length := by rw [HN.out]; exact hkn
      obtain ⟨x, hx⟩ : ∃ x, ls[k]? = some x := ⟨_, List.getElem?_eq_getElem hxs⟩
      have hcx := HX.out.up HB.out
      rcases hcx with hcx | ⟨gx, ox, rfl, hcx⟩
      · rw [hcx] at hx; cases hx
      have d1 := hcx k x hx
      clear hcx
      by_cases hxe : x = s
      case pos =>
        have hxy2 : (x == s) = true := by rw [hxe]; simp
        have hb := (HBB.out k (by omega) htk).1 x hx hxe
        subst hb
        clear hk htk HK hxs hx
        go_wp2
        go_ret
        exact ⟨rfl, HB.out⟩
      case neg =>
        have hxy2 : (x == s) = false := St_ne hxe
        have HK2 : Hid (m + ((k + 1 : Nat)) = n ∧ ∀ y ∈ ls.take (k + 1), y ≠ s) := ⟨by omega, (HBB.out k (by omega) htk).2.1 x hx hxe⟩
        clear hk htk HK hxs hx
        go_wp2
        go_roundg m
        case measure => omega
        case rel => exact ⟨k + 1, rfl, HK2, HB.out⟩

set_option maxHeartbeats 4000000 in
set_option maxRecDepth 100000 in
theorem l1With_any (ls : List (List UInt8)) (A : Option Addr) (c : Nat) (s : List UInt8) (w : World) (hn : ls.length ≤ 1000000) (hx : SCells w A ls) :
    Calls Tryd.prog 94 #[.slice A ls.length c, .string (St s)] w (LPost w (ls ++ [s])) := by
  obtain ⟨i0, hi0, hz0, hz1, hz2⟩ := info_parts Tryd.infoStr
  have HR : Hid (∀ w1, Below w.heap.size w w1 → RCells w1 A (strs ls)) := fun w1 hb => (hx.up hb).row
  have HONE : Hid (∀ u ∈ strs ls, u.oneCell' = true) := strs_one _ []
  have HLEN : Hid ((strs ls).length = ls.length) := by show _ = _; simp [strs]
  have HP : Hid (∀ (w' : World) g c, Below w.heap.size w w' → w'.ownsRow w.heap.size 9 1 (.slice (some ⟨g, 0, none⟩) (ls.length + 1) c) (ls.length + 1) (strs ls ++ [.string (St s)]) → LPost w (ls ++ [s]) (.returned (.slice (some ⟨g, 0, none⟩) (ls.length + 1) c)) w') := fun w' g c hb ho =>
    ⟨hb, g, c, by simp, SOwn.of ho (by simp) (by simp [strs])⟩
  clear hx
  generalize strs ls = es at *
  generalize LPost w (ls ++ [s]) = Q at *
  generalize ls.length = n at *
  go_enter Tryd.func94, Tryd.ntmps94
  go_wp2_with (at_builtin; first
    | (refine wpList_append_row _ rfl _ _ 33 rfl w.heap.size 9 i0 (.string ⟨#[]⟩) 16 Tryd.underlying33 hi0 hz0 hz1 hz2 rfl w.heap.size 0 0 [] rfl (own_nil w _ (Nat.le_refl _) _) A n c es rfl HLEN.out (HR.out _ (up1 w _)) HONE.out (by omega) (by decide) (by simp) n (by omega) es (by simp) ?_; intro g2 c2 w2 hown hgrow hbel hat; have HB2 : Hid (Below w.heap.size w w2) := Below.trans (up1 w _) hbel; have HO2 := Lib.hid hown; clear hown hgrow hbel hat)
    | (refine wpList_append_row _ rfl _ _ 33 rfl w.heap.size 9 i0 (.string ⟨#[]⟩) 16 Tryd.underlying33 hi0 hz0 hz1 hz2 rfl g2 n c2 es rfl (World.ownsRow.alloc HO2.out _) (some ⟨w2.heap.size, 0, none⟩) 1 1 [.string (St s)] rfl rfl (row_one (block_cell (block_new w2 _) 0)) (by simp [Value.oneCell']) (by omega) (by decide) (Below.size (up_alloc HB2.out _)) (n + 1) rfl (es ++ [.string (St s)]) rfl ?_; intro g3 c3 w3 hown hgrow hbel hat; have HB3 : Hid (Below w.heap.size w w3) := Below.trans (up_alloc HB2.out _) hbel; have HO3 := Lib.hid hown; clear hown hgrow hbel hat))
  exact HP.out _ _ _ HB3.out HO3.out

/-- Trees stay where the blocks of trees stay. -/
theorem TRow.keep {w w1 : World} {ok : Nat → Prop} (hb : Keeps 43 w w1) {ts : List Tr} {A : Option Addr} (h : TRow w ok ts A) : TRow w1 ok ts A := by
  induction h with
  | nil A => exact .nil A
  | cons b o s ps ts A c cur h0 h1 h2 h3 hc _ _ ih1 ih2 => exact .cons b o s ps ts A c cur h0 (hb _ _ _ h1) h2 h3 hc ih1 ih2
theorem TAt.keep {w w1 : World} {ok : Nat → Prop} (hb : Keeps 43 w w1) {t : Tr} {v : Value} (h : TAt w ok t v) : TAt w1 ok t v := by
  cases t
  obtain ⟨A, c, rfl, hc, hr⟩ := h
  exact ⟨A, c, rfl, hc, hr.keep hb⟩

theorem TRow.at3k {w : World} {ok : Nat → Prop} {a : Tr} {ts : List Tr} {b o : Nat} (h : TRow w ok (a :: ts) (some ⟨b, o, none⟩)) :
    ∃ A n c, (∀ w1, Keeps 43 w w1 → w1.cell? ⟨b, o, none⟩ = some (.string (St a.atom)) ∧ w1.cell? ⟨b, o + 1, none⟩ = some (.slice A n c)) ∧ TAt w ok a (.agg #[.string (St a.atom), .slice A n c]) ∧ TRow w ok ts (some ⟨b, o + 2, none⟩) := by
  obtain ⟨s, ps⟩ := a
  cases h with
  | cons b o s ps ts A' c cur h0 h1 h2 h3 hc hp ht =>
    exact ⟨A', _, c, fun w1 hk => ⟨(block_cell (hk _ _ _ h1) o).trans h2, (block_cell (hk _ _ _ h1) (o + 1)).trans h3⟩, ⟨A', c, rfl, hc, hp⟩, ht⟩

/-- What the three parts of a list give, while trees stay. -/
theorem three_keeps {w : World} {ok : Nat → Prop} {h : List UInt8} {q : List Tr} {a b : Tr} {v : Value} (hp : TAt w ok (.mk [] [.mk h q, a, b]) v) :
    ∃ bl o c, v = .agg #[.string (St []), .slice (some ⟨bl, o, none⟩) 3 c] ∧ ∃ A2 n2 c2 A4 n4 c4, Hid (∀ w1, Keeps 43 w w1 → w1.cell? ⟨bl, o + 2, none⟩ = some (.string (St a.atom)) ∧ w1.cell? ⟨bl, o + 3, none⟩ = some (.slice A2 n2 c2) ∧ w1.cell? ⟨bl, o + 4, none⟩ = some (.string (St b.atom)) ∧ w1.cell? ⟨bl, o + 5, none⟩ = some (.slice A4 n4 c4) ∧
      Hid (TAt w1 ok a (.agg #[.string (St a.atom), .slice A2 n2 c2])) ∧ Hid (TAt w1 ok b (.agg #[.string (St b.atom), .slice A4 n4 c4]))) ∧
      Hid (∀ w1, Keeps 43 w w1 → Calls Tryd.prog 55 #[.agg #[.string (St []), .slice (some ⟨bl, o, none⟩) 3 c]] w1 fun e w' => e = .returned (.string (St h)) ∧ Below w1.heap.size w1 w') := by
  have hh : ∀ w1, Keeps 43 w w1 → Calls Tryd.prog 55 #[v] w1 fun e w' => e = .returned (.string (St h)) ∧ Below w1.heap.size w1 w' := fun w1 hb => l1Head_any _ v w1 (hp.keep hb)
  obtain ⟨A, c, rfl, hr⟩ := hp.parts
  obtain ⟨bl, o, A', c', rfl, _, _, _, _, hr⟩ := hr.uncons
  obtain ⟨A2, n2, c2, d2, ha, hr⟩ := hr.at3k
  obtain ⟨A4, n4, c4, d4, hb, _⟩ := hr.at3k
  exact ⟨bl, o, c, rfl, A2, n2, c2, A4, n4, c4, fun w1 hk => ⟨(d2 w1 hk).1, (d2 w1 hk).2, (d4 w1 hk).1, (d4 w1 hk).2, ha.keep hk, hb.keep hk⟩, hh⟩

/-! ### free names -/
/-- Free names, behind a list, in the order of the text. -/
def NT.fr : NT → List (List UInt8) → List (List UInt8) → List (List UInt8)
  | .name s, bd, ls => if s ∈ bd ∨ s ∈ ls then ls else ls ++ [s]
  | .sum a b, bd, ls => b.fr bd (a.fr bd ls)
  | .prod a b, bd, ls => b.fr bd (a.fr bd ls)
  | .loop s a, bd, ls => a.fr (bd ++ [s]) ls
  | _, _, ls => ls
theorem fr_len : ∀ (n : NT) (bd ls : List (List UInt8)), (n.fr bd ls).length ≤ ls.length + n.atoms
  | .zero, bd, ls => by simp [NT.fr]
  | .one, bd, ls => by simp [NT.fr]
  | .name s, bd, ls => by
    simp only [NT.fr, NT.atoms]
    split
    · omega
    · simp
  | .sum a b, bd, ls => by have := fr_len a bd ls; have := fr_len b bd (a.fr bd ls); simp only [NT.fr, NT.atoms]; omega
  | .prod a b, bd, ls => by have := fr_len a bd ls; have := fr_len b bd (a.fr bd ls); simp only [NT.fr, NT.atoms]; omega
  | .loop s a, bd, ls => by have := fr_len a (bd ++ [s]) ls; simp only [NT.fr, NT.atoms]; omega

/-- Names in a row that does not lie in block g. -/
def SFar (w : World) (A : Option Addr) (g : Nat) (ls : List (List UInt8)) : Prop :=
  ls = [] ∨ ∃ b o, A = some ⟨b, o, none⟩ ∧ b ≠ g ∧ b < w.heap.size ∧ ∀ i l, ls[i]? = some l → w.cell? ⟨b, o + i, none⟩ = some (.string (St l))
theorem SFar.cells {w : World} {A : Option Addr} {g : Nat} {ls : List (List UInt8)} (h : SFar w A g ls) : SCells w A ls := by
  rcases h with h | ⟨b, o, h1, _, _, h2⟩
  · exact .inl h
  · exact .inr ⟨b, o, h1, h2⟩
theorem SFar.grown {w w1 : World} {A : Option Addr} {g g' : Nat} {ls : List (List UInt8)} (h : SFar w A g ls) (hg : w.grownBy w1 (some g)) (hg' : g' = g ∨ w.heap.size ≤ g') : SFar w1 A g' ls := by
  rcases h with h | ⟨b, o, rfl, hne, hlt, h⟩
  · exact .inl h
  · refine .inr ⟨b, o, rfl, by omega, Nat.lt_of_lt_of_le hlt hg.size, fun i l hl => ?_⟩
    exact (hg.cell_far ⟨b, o + i, none⟩ hlt (by simp; exact hne)).trans (h i l hl)
theorem SFar.up {w w1 : World} {A : Option Addr} {g : Nat} {ls : List (List UInt8)} (h : SFar w A g ls) (hb : Below w.heap.size w w1) : SFar w1 A g ls := by
  rcases h with h | ⟨b, o, rfl, hne, hlt, h⟩
  · exact .inl h
  · exact .inr ⟨b, o, rfl, hne, Nat.lt_of_lt_of_le hlt hb.size, fun i l hl => cell_up hb (h i l hl)⟩

theorem up_grow {w w1 w2 : World} {g : Nat} (hb : Below w.heap.size w w1) (hg : w1.grownBy w2 (some g)) : w.grownBy w2 (some g) :=
  ⟨hg.os.trans hb.os, hg.tape.trans hb.tape, hg.output.trans hb.output, Nat.le_trans hb.size hg.size, fun j hj hne => by rw [hg.block j (Nat.lt_of_lt_of_le hj hb.size) hne, hb.block j hj]⟩
theorem grow_grow {w w1 w2 : World} {g g' : Nat} (h : w.grownBy w1 (some g)) (k : w1.grownBy w2 (some g')) (hg : g' = g ∨ w.heap.size ≤ g') : w.grownBy w2 (some g) :=
  ⟨k.os.trans h.os, k.tape.trans h.tape, k.output.trans h.output, Nat.le_trans h.size k.size, fun j hj hne => by
    rw [k.block j (Nat.lt_of_lt_of_le hj h.size) (fun e => by cases e; rcases hg with rfl | hg; exact hne rfl; omega), h.block j hj hne]⟩

/-- What l1Free does: the list grows in its row, or moves to a new one. -/
def FPost (w : World) (B g : Nat) (ls : List (List UInt8)) (e : Ending) (w' : World) : Prop :=
  ∃ g' c', e = .returned (.slice (some ⟨g', 0, none⟩) ls.length c') ∧ SOwn w' B ls g' c' ∧ w.grownBy w' (some g) ∧ (g' = g ∨ w.heap.size ≤ g')
theorem FPost.after {w w1 w' : World} {B g : Nat} {ls : List (List UInt8)} {e : Ending} (hb : Below w.heap.size w w1) (h : FPost w1 B g ls e w') : FPost w B g ls e w' := by
  obtain ⟨g', c', he, ho, hg, hat⟩ := h
  exact ⟨g', c', he, ho, up_grow hb hg, by have := hb.size; omega⟩

def LF (n : NT) : Prop := ∀ (v : Value) (w : World) (A : Option Addr) (c : Nat) (bd : List (List UInt8)) (B g c2 : Nat) (ls : List (List UInt8)), TAt w (fun _ => True) n.toTr v → SFar w A g bd → SOwn w B ls g c2 → B ≤ w.heap.size → bd.length + n.atoms ≤ 100000 → ls.length + n.atoms ≤ 100000 →
  Calls Tryd.prog 64 #[v, .slice A bd.length c, .slice (some ⟨g, 0, none⟩) ls.length c2] w (FPost w B g (n.fr bd ls))

theorem FPost.same {w w' : World} {B g c : Nat} {ls : List (List UInt8)} (hb : Below w.heap.size w w') (ho : SOwn w B ls g c) : FPost w B g ls (.returned (.slice (some ⟨g, 0, none⟩) ls.length c)) w' :=
  ⟨g, c, rfl, ho.up hb, ⟨hb.os, hb.tape, hb.output, hb.size, fun j hj _ => hb.block j hj⟩, .inl rfl⟩

set_option maxHeartbeats 2000000 in
set_option maxRecDepth 100000 in
theorem l1Free_digit (s : List UInt8) (hs : s = [48] ∨ s = [49]) (ps : List Tr) (v : Value) (w : World) (A : Option Addr) (n c : Nat) (B g c2 : Nat) (ls : List (List UInt8)) (hp : TAt w (fun _ => True) (.mk s ps) v) (ho : SOwn w B ls g c2) :
    Calls Tryd.prog 64 #[v, .slice A n c, .slice (some ⟨g, 0, none⟩) ls.length c2] w (FPost w B g ls) := by
  obtain ⟨A', c', rfl, _⟩ := TAt.parts hp
  have HP : Hid (∀ w', Below w.heap.size w w' → FPost w B g ls (.returned (.slice (some ⟨g, 0, none⟩) ls.length c2)) w') := fun w' hb => .same hb ho
  clear hp ho
  generalize FPost w B g ls = Q at *
  generalize ls.length = m at *
  rcases hs with rfl | rfl
  · go_enter Tryd.func64, Tryd.ntmps64
    go_wp2
    exact HP.out _ (up1 w _)
  · go_enter Tryd.func64, Tryd.ntmps64
    go_wp2
    exact HP.out _ (up1 w _)

set_option maxHeartbeats 4000000 in
set_option maxRecDepth 100000 in
theorem l1Free_name (s : List UInt8) (h0 : s ≠ []) (h1 : s ≠ [48]) (h2 : s ≠ [49]) (v : Value) (w : World) (A : Option Addr) (c : Nat) (bd : List (List UInt8)) (B g c2 : Nat) (ls : List (List UInt8)) (hp : TAt w (fun _ => True) (.mk s []) v) (hA : SFar w A g bd) (ho : SOwn w B ls g c2) (hB : B ≤ w.heap.size) (hl1 : bd.length ≤ 100000) (hl2 : ls.length ≤ 100000) :
    Calls Tryd.prog 64 #[v, .slice A bd.length c, .slice (some ⟨g, 0, none⟩) ls.length c2] w (FPost w B g (if s ∈ bd ∨ s ∈ ls then ls else ls ++ [s])) := by
  obtain ⟨i0, hi0, hz0, hz1, hz2⟩ := info_parts Tryd.infoStr
  obtain ⟨A', c', rfl, _⟩ := TAt.parts hp
  have k0 := St_ne h0
  have k1 := St_ne h1
  have k2 := St_ne h2
  have HP : Hid (∀ w', Below w.heap.size w w' → FPost w B g ls (.returned (.slice (some ⟨g, 0, none⟩) ls.length c2)) w') := fun w' hb => .same hb ho
  have HO : Hid (∀ w', Below w.heap.size w w' → w'.ownsRow B 9 1 (.slice (some ⟨g, 0, none⟩) ls.length c2) ls.length (strs ls)) := fun w' hb => own_up ho hb
  have HN : Hid (∀ w1 w' g' c', Below w.heap.size w w1 → w'.ownsRow B 9 1 (.slice (some ⟨g', 0, none⟩) (ls.length + 1) c') (ls.length + 1) (strs ls ++ [.string (St s)]) → w1.grownBy w' (some g) → (g' = g ∨ w1.heap.size ≤ g') → FPost w B g (ls ++ [s]) (.returned (.slice (some ⟨g', 0, none⟩) (ls.length + 1) c')) w') := fun w1 w' g' c' hb ho hg hat => by
    refine ⟨g', c', by simp, SOwn.of ho (by simp) (by simp [strs]), up_grow hb hg, ?_⟩
    have := hb.size
    omega
  have HH1 : Hid (∀ w', Below w.heap.size w w' → Calls Tryd.prog 93 #[.slice A bd.length c, .string (St s)] w' fun e w2 => e = .returned (.bool (decide (s ∈ bd))) ∧ Below w'.heap.size w' w2) := fun w' hb => l1Has_any bd A c s w' (by omega) (hA.up hb).cells
  have HH2 : Hid (∀ w', Below w.heap.size w w' → Calls Tryd.prog 93 #[.slice (some ⟨g, 0, none⟩) ls.length c2, .string (St s)] w' fun e w2 => e = .returned (.bool (decide (s ∈ ls))) ∧ Below w'.heap.size w' w2) := fun w' hb => l1Has_any ls _ c2 s w' (by omega) (ho.up hb).reads
  have HB0 := Lib.hid hB
  clear hp ho hA h0 h1 h2 hB hl1
  cases hx : decide (s ∈ bd) with
  | true =>
    rw [hx] at HH1
    rw [if_pos (.inl (of_decide_eq_true hx))]
    clear hx HN
    generalize FPost w B g ls = Q at *
    generalize ls.length = m at *
    generalize bd.length = n at *
    go_enter Tryd.func64, Tryd.ntmps64
    go_wp2_with (go_at_call 93; (with_reducible refine (HH1.out _ (up1 w _)).mono ?_); rintro e w1 ⟨rfl, hb1⟩; have HB1 := Lib.hid (up_trans (up1 w _) hb1); clear hb1)
    exact HP.out _ HB1.out
  | false =>
    rw [hx] at HH1
    cases hy : decide (s ∈ ls) with
    | true =>
      rw [hy] at HH2
      rw [if_pos (.inr (of_decide_eq_true hy))]
      clear hx hy HN
      generalize FPost w B g ls = Q at *
      generalize ls.length = m at *
      generalize bd.length = n at *
      go_enter Tryd.func64, Tryd.ntmps64
      go_wp2_with (go_at_call 93; first
        | ((with_reducible refine (HH2.out _ HB1.out).mono ?_); rintro e w2 ⟨rfl, hb2⟩; have HB2 := Lib.hid (up_trans HB1.out hb2); clear hb2)
        | ((with_reducible refine (HH1.out _ (up1 w _)).mono ?_); rintro e w1 ⟨rfl, hb1⟩; have e0 : w1.cell? ⟨w.heap.size, 0, none⟩ = some (.string (St s)) := block_cell (block_up hb1 (block_new w _)) 0; have l0 : w.heap.size < w1.heap.size := lt_of_block (block_up hb1 (block_new w _)); have HB1 := Lib.hid (up_trans (up1 w _) hb1); clear hb1))
      exact HP.out _ HB2.out
    | false =>
      rw [hy] at HH2
      rw [if_neg (fun h => by rcases h with h | h; exact absurd h (of_decide_eq_false hx); exact absurd h (of_decide_eq_false hy))]
      clear hx hy HP
      generalize FPost w B g (ls ++ [s]) = Q at *
      have HLEN : Hid ((strs ls).length = ls.length) := by show _ = _; simp [strs]
      generalize strs ls = es at *
      generalize ls.length = m at *
      generalize bd.length = n at *
      go_enter Tryd.func64, Tryd.ntmps64
      go_wp2_with (first
        | (at_builtin; refine wpList_append_row _ rfl _ _ 33 rfl B 9 i0 (.string ⟨#[]⟩) 16 Tryd.underlying33 hi0 hz0 hz1 hz2 rfl g m c2 es rfl (HO.out _ (up_alloc HB2.out _)) (some ⟨w2.heap.size, 0, none⟩) 1 1 [.string (St s)] rfl rfl (row_one (block_cell (block_new w2 _) 0)) (by simp [Value.oneCell']) (by omega) (by decide) (Nat.le_trans HB0.out (Below.size (up_alloc HB2.out _))) (m + 1) rfl _ rfl ?_; intro g3 c3 w3 hown hgrow hbel hat; have HQ := Lib.hid (HN.out _ _ _ _ (up_alloc HB2.out _) hown hgrow hat); clear hown hgrow hbel hat)
        | (go_at_call 93; first
          | ((with_reducible refine (HH2.out _ HB1.out).mono ?_); rintro e w2 ⟨rfl, hb2⟩; have e2 := cell_up hb2 e0; have l2 : w.heap.size < w2.heap.size := Nat.lt_of_lt_of_le l0 hb2.size; have HB2 := Lib.hid (up_trans HB1.out hb2); clear hb2)
          | ((with_reducible refine (HH1.out _ (up1 w _)).mono ?_); rintro e w1 ⟨rfl, hb1⟩; have e0 : w1.cell? ⟨w.heap.size, 0, none⟩ = some (.string (St s)) := block_cell (block_up hb1 (block_new w _)) 0; have l0 : w.heap.size < w1.heap.size := lt_of_block (block_up hb1 (block_new w _)); have HB1 := Lib.hid (up_trans (up1 w _) hb1); clear hb1)))
      exact HQ.out

end Go.Proofs.YtkciljcligohnaaDoor
