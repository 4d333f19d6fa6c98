/- The reference's free names: l1Has, l1With, l1Free. The reference's l1Free whole. l6Dec and l1List. l6Dec whole; l1List. visit with its closures; DerivPlaces, names. The program's names, isClosed. TypeNames and TypeClosed, both. The program's isEmpty. -/
import Derived.Test.YtpokompplapkhaaGreatDoorMD
import Derived.Test.YtpokompplapkhaaGreatDoorME
import Derived.Laws.BytesArg
import Derived.Deep.RegionLaw
import Derived.Lib.SlicesS
namespace Go.Proofs.YtpokompplapkhaaGreatDoor
set_option maxHeartbeats 8000000
set_option maxRecDepth 100000
open Go.RowKit
set_option linter.unusedVariables false
set_option linter.unusedSimpArgs false
theorem l1Has_any (ls : List (List UInt8)) (A : Option Addr) (c : Nat) (s : List UInt8) (w : World) (hn : ls.length <= 1000000) (hx : SCells w A ls) :
 Calls Tryz.prog 157 #[.slice A ls.length c, .string (St s)] w fun e w' => e = .returned (.bool (decide (s ∈ ls))) /\ Below w.heap.size w w' := by
 generalize hb : decide (s ∈ ls) = b
 have HX := Lib.hid hx
 have HBB : Hid (∀ k, k <= ls.length -> (∀ x ∈ ls.take k, x ≠ s) -> (∀ x, ls[k]? = some x -> x = s -> b = true) /\ (∀ x, ls[k]? = some x -> x ≠ s -> ∀ y ∈ ls.take (k + 1), y ≠ s) /\ (ls.length <= k -> b = false)) := fun k hk ht => by
  refine ⟨fun x h1 h2 => ?_, fun x h1 h2 y hy => ?_, fun h => ?_⟩
  · rw [<- hb]
    exact decide_eq_true (h2 ▸ List.mem_of_getElem? h1)
  · rw [List.take_add_one, h1] at hy
    simp at hy
    rcases hy with hy | rfl
    · exact ht y hy
    · exact h2
  · rw [<- hb]
    rw [List.take_of_length_le h] at ht
    exact decide_eq_false (fun hm => ht s hm rfl)
 clear hx hb
 generalize hN : ls.length = n at *
 have HN := Lib.hid hN
 clear hN
 go_enter Tryz.func157, Tryz.ntmps157
 go_wp2
 go_loopg [5] n (fun m v5 wr => ∃ k : Nat, v5 = .int .i64 k /\ Hid (m + k = n /\ ∀ x ∈ ls.take k, x ≠ s) /\ Hid (Below w.heap.size w wr))
 case atStart => exact ⟨0, rfl, ⟨rfl, by simp⟩, Below.refl _ _⟩
 case round =>
  obtain ⟨k, rfl, HK, HB⟩ := hrel
  obtain ⟨hk, htk⟩ := HK.out
  cases gk with
  | zero =>
   have h1 : decide (k < n) = false := decide_eq_false (by omega)
   have hbt := (HBB.out k (by omega) htk).2.2 (by omega)
   subst hbt
   clear hk htk HK
   go_wp2
   go_ret
   exact ⟨rfl, HB.out⟩
  | succ m =>
   have h1 : decide (k < n) = true := decide_eq_true (by omega)
   have hkn : k < n := by omega
   have hxs : k < ls.length := by rw [HN.out]; exact hkn
   obtain ⟨x, hx⟩ : ∃ x, ls[k]? = some x := ⟨_, List.getElem?_eq_getElem hxs⟩
   have hcx := HX.out.up HB.out
   rcases hcx with hcx | ⟨gx, ox, rfl, hcx⟩
   · rw [hcx] at hx; cases hx
   have d1 := hcx k x hx
   clear hcx
   by_cases hxe : x = s
   case pos =>
    have hxy2 : (x == s) = true := by rw [hxe]; simp
    have hb := (HBB.out k (by omega) htk).1 x hx hxe
    subst hb
    clear hk htk HK hxs hx
    go_wp2
    go_ret
    exact ⟨rfl, HB.out⟩
   case neg =>
    have hxy2 : (x == s) = false := St_ne hxe
    have HK2 : Hid (m + ((k + 1 : Nat)) = n /\ ∀ y ∈ ls.take (k + 1), y ≠ s) := ⟨by omega, (HBB.out k (by omega) htk).2.1 x hx hxe⟩
    clear hk htk HK hxs hx
    go_wp2
    go_roundg m
    case measure => omega
    case rel => exact ⟨k + 1, rfl, HK2, HB.out⟩
theorem l1With_any (ls : List (List UInt8)) (A : Option Addr) (c : Nat) (s : List UInt8) (w : World) (hn : ls.length <= 1000000) (hx : SCells w A ls) :
 Calls Tryz.prog 158 #[.slice A ls.length c, .string (St s)] w (LPost w (ls ++ [s])) := by
 obtain ⟨i0, hi0, hz0, hz1, hz2⟩ := info_parts Tryz.infoStr
 have HR : Hid (∀ w1, Below w.heap.size w w1 -> RCells w1 A (strs ls)) := fun w1 hb => (hx.up hb).row
 have HONE : Hid (∀ u ∈ strs ls, u.oneCell' = true) := strs_one _ []
 have HLEN : Hid ((strs ls).length = ls.length) := by show _ = _; simp [strs]
 have HP : Hid (∀ (w' : World) g c, Below w.heap.size w w' -> w'.ownsRow w.heap.size 9 1 (.slice (some ⟨g, 0, none⟩) (ls.length + 1) c) (ls.length + 1) (strs ls ++ [.string (St s)]) -> LPost w (ls ++ [s]) (.returned (.slice (some ⟨g, 0, none⟩) (ls.length + 1) c)) w') := fun w' g c hb ho =>
  ⟨hb, g, c, by simp, SOwn.of ho (by simp) (by simp [strs])⟩
 clear hx
 generalize strs ls = es at *
 generalize LPost w (ls ++ [s]) = Q at *
 generalize ls.length = n at *
 go_enter Tryz.func158, Tryz.ntmps158
 go_wp2_with (at_builtin; first
  | (refine wpList_append_row _ rfl _ _ 38 rfl w.heap.size 9 i0 (.string ⟨#[]⟩) 16 Tryz.underlying38 hi0 hz0 hz1 hz2 rfl w.heap.size 0 0 [] rfl (own_nil w _ (Nat.le_refl _) _) A n c es rfl HLEN.out (HR.out _ (up1 w _)) HONE.out (by omega) (by decide) (by simp) n (by omega) es (by simp) ?_; intro g2 c2 w2 hown hgrow hbel hat; have HB2 : Hid (Below w.heap.size w w2) := Below.trans (up1 w _) hbel; have HO2 := Lib.hid hown; clear hown hgrow hbel hat)
  | (refine wpList_append_row _ rfl _ _ 38 rfl w.heap.size 9 i0 (.string ⟨#[]⟩) 16 Tryz.underlying38 hi0 hz0 hz1 hz2 rfl g2 n c2 es rfl (World.ownsRow.alloc HO2.out _) (some ⟨w2.heap.size, 0, none⟩) 1 1 [.string (St s)] rfl rfl (row_one (block_cell (block_new w2 _) 0)) (by simp [Value.oneCell']) (by omega) (by decide) (Below.size (up_alloc HB2.out _)) (n + 1) rfl (es ++ [.string (St s)]) rfl ?_; intro g3 c3 w3 hown hgrow hbel hat; have HB3 : Hid (Below w.heap.size w w3) := Below.trans (up_alloc HB2.out _) hbel; have HO3 := Lib.hid hown; clear hown hgrow hbel hat))
 exact HP.out _ _ _ HB3.out HO3.out
theorem TRow.keep {w w1 : World} {ok : Nat -> Prop} (hb : Keeps 59 w w1) {ts : List Tr} {A : Option Addr} (h : TRow w ok ts A) : TRow w1 ok ts A := by
 induction h with
 | nil A => exact .nil A
 | cons b o s ps ts A c cur h0 h1 h2 h3 hc _ _ ih1 ih2 => exact .cons b o s ps ts A c cur h0 (hb _ _ _ h1) h2 h3 hc ih1 ih2
theorem TAt.keep {w w1 : World} {ok : Nat -> Prop} (hb : Keeps 59 w w1) {t : Tr} {v : Value} (h : TAt w ok t v) : TAt w1 ok t v := by
 cases t
 obtain ⟨A, c, rfl, hc, hr⟩ := h
 exact ⟨A, c, rfl, hc, hr.keep hb⟩
theorem TRow.at3k {w : World} {ok : Nat -> Prop} {a : Tr} {ts : List Tr} {b o : Nat} (h : TRow w ok (a :: ts) (some ⟨b, o, none⟩)) :
 ∃ A n c, (∀ w1, Keeps 59 w w1 -> w1.cell? ⟨b, o, none⟩ = some (.string (St a.atom)) /\ w1.cell? ⟨b, o + 1, none⟩ = some (.slice A n c)) /\ TAt w ok a (.agg #[.string (St a.atom), .slice A n c]) /\ TRow w ok ts (some ⟨b, o + 2, none⟩) := by
 obtain ⟨s, ps⟩ := a
 cases h with
 | cons b o s ps ts A' c cur h0 h1 h2 h3 hc hp ht =>
  exact ⟨A', _, c, fun w1 hk => ⟨(block_cell (hk _ _ _ h1) o).trans h2, (block_cell (hk _ _ _ h1) (o + 1)).trans h3⟩, ⟨A', c, rfl, hc, hp⟩, ht⟩
theorem three_keeps {w : World} {ok : Nat -> Prop} {h : List UInt8} {q : List Tr} {a b : Tr} {v : Value} (hp : TAt w ok (.mk [] [.mk h q, a, b]) v) :
 ∃ bl o c, v = .agg #[.string (St []), .slice (some ⟨bl, o, none⟩) 3 c] /\ ∃ A2 n2 c2 A4 n4 c4, Hid (∀ w1, Keeps 59 w w1 -> w1.cell? ⟨bl, o + 2, none⟩ = some (.string (St a.atom)) /\ w1.cell? ⟨bl, o + 3, none⟩ = some (.slice A2 n2 c2) /\ w1.cell? ⟨bl, o + 4, none⟩ = some (.string (St b.atom)) /\ w1.cell? ⟨bl, o + 5, none⟩ = some (.slice A4 n4 c4) /\
  Hid (TAt w1 ok a (.agg #[.string (St a.atom), .slice A2 n2 c2])) /\ Hid (TAt w1 ok b (.agg #[.string (St b.atom), .slice A4 n4 c4]))) /\
  Hid (∀ w1, Keeps 59 w w1 -> Calls Tryz.prog 125 #[.agg #[.string (St []), .slice (some ⟨bl, o, none⟩) 3 c]] w1 fun e w' => e = .returned (.string (St h)) /\ Below w1.heap.size w1 w') := by
 have hh : ∀ w1, Keeps 59 w w1 -> Calls Tryz.prog 125 #[v] w1 fun e w' => e = .returned (.string (St h)) /\ Below w1.heap.size w1 w' := fun w1 hb => l1Head_any _ v w1 (hp.keep hb)
 obtain ⟨A, c, rfl, hr⟩ := hp.parts
 obtain ⟨bl, o, A', c', rfl, _, _, _, _, hr⟩ := hr.uncons
 obtain ⟨A2, n2, c2, d2, ha, hr⟩ := hr.at3k
 obtain ⟨A4, n4, c4, d4, hb, _⟩ := hr.at3k
 exact ⟨bl, o, c, rfl, A2, n2, c2, A4, n4, c4, fun w1 hk => ⟨(d2 w1 hk).1, (d2 w1 hk).2, (d4 w1 hk).1, (d4 w1 hk).2, ha.keep hk, hb.keep hk⟩, hh⟩
def NT.fr : NT -> List (List UInt8) -> List (List UInt8) -> List (List UInt8)
 | .name s, bd, ls => if s ∈ bd \/ s ∈ ls then ls else ls ++ [s]
 | .sum a b, bd, ls => b.fr bd (a.fr bd ls)
 | .prod a b, bd, ls => b.fr bd (a.fr bd ls)
 | .loop s a, bd, ls => a.fr (bd ++ [s]) ls
 | _, _, ls => ls
theorem fr_len : ∀ (n : NT) (bd ls : List (List UInt8)), (n.fr bd ls).length <= ls.length + n.atoms
 | .zero, bd, ls => by simp [NT.fr]
 | .one, bd, ls => by simp [NT.fr]
 | .name s, bd, ls => by
  simp only [NT.fr, NT.atoms]
  split
  · omega
  · simp
 | .sum a b, bd, ls => by have := fr_len a bd ls; have := fr_len b bd (a.fr bd ls); simp only [NT.fr, NT.atoms]; omega
 | .prod a b, bd, ls => by have := fr_len a bd ls; have := fr_len b bd (a.fr bd ls); simp only [NT.fr, NT.atoms]; omega
 | .loop s a, bd, ls => by have := fr_len a (bd ++ [s]) ls; simp only [NT.fr, NT.atoms]; omega
def SFar (w : World) (A : Option Addr) (g : Nat) (ls : List (List UInt8)) : Prop :=
 ls = [] \/ ∃ b o, A = some ⟨b, o, none⟩ /\ b ≠ g /\ b < w.heap.size /\ ∀ i l, ls[i]? = some l -> w.cell? ⟨b, o + i, none⟩ = some (.string (St l))
theorem SFar.cells {w : World} {A : Option Addr} {g : Nat} {ls : List (List UInt8)} (h : SFar w A g ls) : SCells w A ls := by
 rcases h with h | ⟨b, o, h1, _, _, h2⟩
 · exact .inl h
 · exact .inr ⟨b, o, h1, h2⟩
theorem SFar.grown {w w1 : World} {A : Option Addr} {g g' : Nat} {ls : List (List UInt8)} (h : SFar w A g ls) (hg : w.grownBy w1 (some g)) (hg' : g' = g \/ w.heap.size <= g') : SFar w1 A g' ls := by
 rcases h with h | ⟨b, o, rfl, hne, hlt, h⟩
 · exact .inl h
 · refine .inr ⟨b, o, rfl, by omega, Nat.lt_of_lt_of_le hlt hg.size, fun i l hl => ?_⟩
   exact (hg.cell_far ⟨b, o + i, none⟩ hlt (by simp; exact hne)).trans (h i l hl)
theorem SFar.up {w w1 : World} {A : Option Addr} {g : Nat} {ls : List (List UInt8)} (h : SFar w A g ls) (hb : Below w.heap.size w w1) : SFar w1 A g ls := by
 rcases h with h | ⟨b, o, rfl, hne, hlt, h⟩
 · exact .inl h
 · exact .inr ⟨b, o, rfl, hne, Nat.lt_of_lt_of_le hlt hb.size, fun i l hl => cell_up hb (h i l hl)⟩
theorem up_grow {w w1 w2 : World} {g : Nat} (hb : Below w.heap.size w w1) (hg : w1.grownBy w2 (some g)) : w.grownBy w2 (some g) :=
 ⟨hg.os.trans hb.os, hg.tape.trans hb.tape, hg.output.trans hb.output, Nat.le_trans hb.size hg.size, fun j hj hne => by rw [hg.block j (Nat.lt_of_lt_of_le hj hb.size) hne, hb.block j hj]⟩
theorem grow_grow {w w1 w2 : World} {g g' : Nat} (h : w.grownBy w1 (some g)) (k : w1.grownBy w2 (some g')) (hg : g' = g \/ w.heap.size <= g') : w.grownBy w2 (some g) :=
 ⟨k.os.trans h.os, k.tape.trans h.tape, k.output.trans h.output, Nat.le_trans h.size k.size, fun j hj hne => by
  rw [k.block j (Nat.lt_of_lt_of_le hj h.size) (fun e => by cases e; rcases hg with rfl | hg; exact hne rfl; omega), h.block j hj hne]⟩
def FPost (w : World) (B g : Nat) (ls : List (List UInt8)) (e : Ending) (w' : World) : Prop :=
 ∃ g' c', e = .returned (.slice (some ⟨g', 0, none⟩) ls.length c') /\ SOwn w' B ls g' c' /\ w.grownBy w' (some g) /\ (g' = g \/ w.heap.size <= g')
theorem FPost.after {w w1 w' : World} {B g : Nat} {ls : List (List UInt8)} {e : Ending} (hb : Below w.heap.size w w1) (h : FPost w1 B g ls e w') : FPost w B g ls e w' := by
 obtain ⟨g', c', he, ho, hg, hat⟩ := h
 exact ⟨g', c', he, ho, up_grow hb hg, by have := hb.size; omega⟩
def LF (n : NT) : Prop := ∀ (v : Value) (w : World) (A : Option Addr) (c : Nat) (bd : List (List UInt8)) (B g c2 : Nat) (ls : List (List UInt8)), TAt w (fun _ => True) n.toTr v -> SFar w A g bd -> SOwn w B ls g c2 -> B <= w.heap.size -> bd.length + n.atoms <= 100000 -> ls.length + n.atoms <= 100000 ->
 Calls Tryz.prog 103 #[v, .slice A bd.length c, .slice (some ⟨g, 0, none⟩) ls.length c2] w (FPost w B g (n.fr bd ls))
theorem FPost.same {w w' : World} {B g c : Nat} {ls : List (List UInt8)} (hb : Below w.heap.size w w') (ho : SOwn w B ls g c) : FPost w B g ls (.returned (.slice (some ⟨g, 0, none⟩) ls.length c)) w' :=
 ⟨g, c, rfl, ho.up hb, ⟨hb.os, hb.tape, hb.output, hb.size, fun j hj _ => hb.block j hj⟩, .inl rfl⟩
theorem l1Free_digit (s : List UInt8) (hs : s = [48] \/ s = [49]) (ps : List Tr) (v : Value) (w : World) (A : Option Addr) (n c : Nat) (B g c2 : Nat) (ls : List (List UInt8)) (hp : TAt w (fun _ => True) (.mk s ps) v) (ho : SOwn w B ls g c2) :
 Calls Tryz.prog 103 #[v, .slice A n c, .slice (some ⟨g, 0, none⟩) ls.length c2] w (FPost w B g ls) := by
 obtain ⟨A', c', rfl, _⟩ := TAt.parts hp
 have HP : Hid (∀ w', Below w.heap.size w w' -> FPost w B g ls (.returned (.slice (some ⟨g, 0, none⟩) ls.length c2)) w') := fun w' hb => .same hb ho
 clear hp ho
 generalize FPost w B g ls = Q at *
 generalize ls.length = m at *
 rcases hs with rfl | rfl
 · go_enter Tryz.func103, Tryz.ntmps103
   go_wp2
   exact HP.out _ (up1 w _)
 · go_enter Tryz.func103, Tryz.ntmps103
   go_wp2
   exact HP.out _ (up1 w _)
theorem l1Free_name (s : List UInt8) (h0 : s ≠ []) (h1 : s ≠ [48]) (h2 : s ≠ [49]) (v : Value) (w : World) (A : Option Addr) (c : Nat) (bd : List (List UInt8)) (B g c2 : Nat) (ls : List (List UInt8)) (hp : TAt w (fun _ => True) (.mk s []) v) (hA : SFar w A g bd) (ho : SOwn w B ls g c2) (hB : B <= w.heap.size) (hl1 : bd.length <= 100000) (hl2 : ls.length <= 100000) :
 Calls Tryz.prog 103 #[v, .slice A bd.length c, .slice (some ⟨g, 0, none⟩) ls.length c2] w (FPost w B g (if s ∈ bd \/ s ∈ ls then ls else ls ++ [s])) := by
 obtain ⟨i0, hi0, hz0, hz1, hz2⟩ := info_parts Tryz.infoStr
 obtain ⟨A', c', rfl, _⟩ := TAt.parts hp
 have k0 := St_ne h0
 have k1 := St_ne h1
 have k2 := St_ne h2
 have HP : Hid (∀ w', Below w.heap.size w w' -> FPost w B g ls (.returned (.slice (some ⟨g, 0, none⟩) ls.length c2)) w') := fun w' hb => .same hb ho
 have HO : Hid (∀ w', Below w.heap.size w w' -> w'.ownsRow B 9 1 (.slice (some ⟨g, 0, none⟩) ls.length c2) ls.length (strs ls)) := fun w' hb => own_up ho hb
 have HN : Hid (∀ w1 w' g' c', Below w.heap.size w w1 -> w'.ownsRow B 9 1 (.slice (some ⟨g', 0, none⟩) (ls.length + 1) c') (ls.length + 1) (strs ls ++ [.string (St s)]) -> w1.grownBy w' (some g) -> (g' = g \/ w1.heap.size <= g') -> FPost w B g (ls ++ [s]) (.returned (.slice (some ⟨g', 0, none⟩) (ls.length + 1) c')) w') := fun w1 w' g' c' hb ho hg hat => by
  refine ⟨g', c', by simp, SOwn.of ho (by simp) (by simp [strs]), up_grow hb hg, ?_⟩
  have := hb.size
  omega
 have HH1 : Hid (∀ w', Below w.heap.size w w' -> Calls Tryz.prog 157 #[.slice A bd.length c, .string (St s)] w' fun e w2 => e = .returned (.bool (decide (s ∈ bd))) /\ Below w'.heap.size w' w2) := fun w' hb => l1Has_any bd A c s w' (by omega) (hA.up hb).cells
 have HH2 : Hid (∀ w', Below w.heap.size w w' -> Calls Tryz.prog 157 #[.slice (some ⟨g, 0, none⟩) ls.length c2, .string (St s)] w' fun e w2 => e = .returned (.bool (decide (s ∈ ls))) /\ Below w'.heap.size w' w2) := fun w' hb => l1Has_any ls _ c2 s w' (by omega) (ho.up hb).reads
 have HB0 := Lib.hid hB
 clear hp ho hA h0 h1 h2 hB hl1
 cases hx : decide (s ∈ bd) with
 | true =>
  rw [hx] at HH1
  rw [if_pos (.inl (of_decide_eq_true hx))]
  clear hx HN
  generalize FPost w B g ls = Q at *
  generalize ls.length = m at *
  generalize bd.length = n at *
  go_enter Tryz.func103, Tryz.ntmps103
  go_wp2_with (go_at_call 157; (with_reducible refine (HH1.out _ (up1 w _)).mono ?_); rintro e w1 ⟨rfl, hb1⟩; have HB1 := Lib.hid (up_trans (up1 w _) hb1); clear hb1)
  exact HP.out _ HB1.out
 | false =>
  rw [hx] at HH1
  cases hy : decide (s ∈ ls) with
  | true =>
   rw [hy] at HH2
   rw [if_pos (.inr (of_decide_eq_true hy))]
   clear hx hy HN
   generalize FPost w B g ls = Q at *
   generalize ls.length = m at *
   generalize bd.length = n at *
   go_enter Tryz.func103, Tryz.ntmps103
   go_wp2_with (go_at_call 157; first
    | ((with_reducible refine (HH2.out _ HB1.out).mono ?_); rintro e w2 ⟨rfl, hb2⟩; have HB2 := Lib.hid (up_trans HB1.out hb2); clear hb2)
    | ((with_reducible refine (HH1.out _ (up1 w _)).mono ?_); rintro e w1 ⟨rfl, hb1⟩; have e0 : w1.cell? ⟨w.heap.size, 0, none⟩ = some (.string (St s)) := block_cell (block_up hb1 (block_new w _)) 0; have l0 : w.heap.size < w1.heap.size := lt_of_block (block_up hb1 (block_new w _)); have HB1 := Lib.hid (up_trans (up1 w _) hb1); clear hb1))
   exact HP.out _ HB2.out
  | false =>
   rw [hy] at HH2
   rw [if_neg (fun h => by rcases h with h | h; exact absurd h (of_decide_eq_false hx); exact absurd h (of_decide_eq_false hy))]
   clear hx hy HP
   generalize FPost w B g (ls ++ [s]) = Q at *
   have HLEN : Hid ((strs ls).length = ls.length) := by show _ = _; simp [strs]
   generalize strs ls = es at *
   generalize ls.length = m at *
   generalize bd.length = n at *
   go_enter Tryz.func103, Tryz.ntmps103
   go_wp2_with (first
    | (at_builtin; refine wpList_append_row _ rfl _ _ 38 rfl B 9 i0 (.string ⟨#[]⟩) 16 Tryz.underlying38 hi0 hz0 hz1 hz2 rfl g m c2 es rfl (HO.out _ (up_alloc HB2.out _)) (some ⟨w2.heap.size, 0, none⟩) 1 1 [.string (St s)] rfl rfl (row_one (block_cell (block_new w2 _) 0)) (by simp [Value.oneCell']) (by omega) (by decide) (Nat.le_trans HB0.out (Below.size (up_alloc HB2.out _))) (m + 1) rfl _ rfl ?_; intro g3 c3 w3 hown hgrow hbel hat; have HQ := Lib.hid (HN.out _ _ _ _ (up_alloc HB2.out _) hown hgrow hat); clear hown hgrow hbel hat)
    | (go_at_call 157; first
     | ((with_reducible refine (HH2.out _ HB1.out).mono ?_); rintro e w2 ⟨rfl, hb2⟩; have e2 := cell_up hb2 e0; have l2 : w.heap.size < w2.heap.size := Nat.lt_of_lt_of_le l0 hb2.size; have HB2 := Lib.hid (up_trans HB1.out hb2); clear hb2)
     | ((with_reducible refine (HH1.out _ (up1 w _)).mono ?_); rintro e w1 ⟨rfl, hb1⟩; have e0 : w1.cell? ⟨w.heap.size, 0, none⟩ = some (.string (St s)) := block_cell (block_up hb1 (block_new w _)) 0; have l0 : w.heap.size < w1.heap.size := lt_of_block (block_up hb1 (block_new w _)); have HB1 := Lib.hid (up_trans (up1 w _) hb1); clear hb1)))
   exact HQ.out
end Go.Proofs.YtpokompplapkhaaGreatDoor
namespace Go.Proofs.YtpokompplapkhaaGreatDoor
set_option maxHeartbeats 8000000
set_option maxRecDepth 100000
open Go.RowKit
set_option linter.unusedVariables false
set_option linter.unusedSimpArgs false
theorem SOwn.keeps {w w1 : World} {B g c : Nat} {ls : List (List UInt8)} (h : SOwn w B ls g c) (hg : w.grownBy w1 (some g)) : Keeps 59 w w1 :=
 Keeps.grown h hg (by decide)
theorem l1Free_rec (x : List UInt8) (a : NT) (ih : LF a) : LF (.loop x a) := by
 intro v w A c bd B g c2 ls hp hA ho hB h1 h2
 have hp : TAt w (fun _ => True) (.mk [] [.mk [114, 101, 99] [], .mk x [], a.toTr]) v := hp
 simp only [NT.fr, NT.atoms] at h1 h2 ⊢
 obtain ⟨bl, o, c', rfl, A2, n2, cc2, A4, n4, c4, HC, HH⟩ := three_keeps hp
 have hxa : (Tr.mk x []).atom = x := rfl
 rw [hxa] at HC
 have hgl := ho.lt
 have HWI : Hid (∀ w1, Below w.heap.size w w1 -> Calls Tryz.prog 158 #[.slice A bd.length c, .string (St x)] w1 (fun e w2 => Below w1.heap.size w1 w2 /\ ∃ g3 c3, e = .returned (.slice (some ⟨g3, 0, none⟩) (bd.length + 1) c3) /\ SFar w2 (some ⟨g3, 0, none⟩) g (bd ++ [x]))) := fun w1 hb => by
  refine (l1With_any bd A c x w1 (by omega) (hA.up hb).cells).mono ?_
  rintro e w2 ⟨hb2, g3, c3, he, ho3⟩
  refine ⟨hb2, g3, c3, by rw [he]; simp, ?_⟩
  have hl3 := ho3.lt
  have := hb.size
  rcases ho3.reads with hr0 | ⟨g', o', he', hcell⟩
  · simp at hr0
  · cases he'
    exact .inr ⟨g3, 0, rfl, by omega, hl3.2, hcell⟩
 have HIH : Hid (∀ w1 g3 c3, Below w.heap.size w w1 -> SFar w1 (some ⟨g3, 0, none⟩) g (bd ++ [x]) -> Hid (TAt w1 (fun _ => True) a.toTr (.agg #[.string (St a.toTr.atom), .slice A4 n4 c4])) -> Calls Tryz.prog 103 #[.agg #[.string (St a.toTr.atom), .slice A4 n4 c4], .slice (some ⟨g3, 0, none⟩) (bd.length + 1) c3, .slice (some ⟨g, 0, none⟩) ls.length c2] w1 (FPost w1 B g (a.fr (bd ++ [x]) ls))) := fun w1 g3 c3 hb hf ht => by
  have := ih _ w1 (some ⟨g3, 0, none⟩) c3 (bd ++ [x]) B g c2 ls ht.out hf (ho.up hb) (Nat.le_trans hB hb.size) (by simp; omega) (by omega)
  rw [show (bd ++ [x]).length = bd.length + 1 by simp] at this
  exact this
 have HKK : Hid (∀ w1 w2, Below w.heap.size w w1 -> w1.grownBy w2 (some g) -> Keeps 59 w1 w2) := fun w1 w2 hb hg => (ho.up hb).keeps hg
 clear hp hA ho hB h1 h2 hgl ih
 generalize a.toTr.atom = y at *
 generalize a.fr (bd ++ [x]) ls = ls' at *
 generalize bd ++ [x] = bd' at *
 generalize bd.length = n at *
 generalize ls.length = m at *
 go_enter Tryz.func103, Tryz.ntmps103
 go_wp2_with (go_at_call 125; refine (HH.out _ (.up (up1 w _))).mono ?_; rintro e w1 ⟨rfl, hb1⟩; have G0 := Lib.hid (block_up hb1 (block_new w (.cells #[.string (St []), .slice (some ⟨bl, o, none⟩) 3 c'] 59))); have e1 : w1.cell? ⟨w.heap.size, 1, none⟩ = some (.slice (some ⟨bl, o, none⟩) 3 c') := block_cell G0.out 1; obtain ⟨d2, d3, d4, d5, _, _⟩ := HC.out w1 (.up (up_trans (up1 w _) hb1)); have HB1 := Lib.hid (up_trans (up1 w _) hb1); clear hb1)
 go_region_held3 (fun w' => w'.cell? ⟨w.heap.size, 1, none⟩ = some (.slice (some ⟨bl, o, none⟩) 3 c') /\ w'.cell? ⟨bl, o + 2, none⟩ = some (.string (St x)) /\ w'.cell? ⟨bl, o + 3, none⟩ = some (.slice A2 n2 cc2) /\ w'.cell? ⟨bl, o + 4, none⟩ = some (.string (St y)) /\ w'.cell? ⟨bl, o + 5, none⟩ = some (.slice A4 n4 c4))
  (first | exact ⟨t1, t2, t3, t4, t5⟩ | exact ⟨s1, s2, s3, s4, s5⟩ | exact ⟨e1, d2, d3, d4, d5⟩ | go_keep)
  (first
   | (go_at_call 158; (with_reducible refine (HWI.out _ (up_drew HB1.out)).mono ?_); rintro e w2 ⟨hb2, g3, c3, rfl, hf⟩; have HB2 := Lib.hid (up_trans (up_drew HB1.out) hb2); have hk2 : Below w1.heap.size w1 w2 := up_trans (up_drew (Below.refl _ w1)) hb2; have s1 := cell_up hk2 e1; have G2 := Lib.hid (block_up hk2 G0.out); obtain ⟨s2, s3, s4, s5, _, TB⟩ := HC.out w2 (.up HB2.out); have HF := Lib.hid hf; clear hb2 hf hk2)
   | (go_at_call 103; (with_reducible refine (HIH.out _ _ _ HB2.out HF.out TB).mono ?_); rintro e w3 hpost; have HP := Lib.hid (FPost.after HB2.out hpost); obtain ⟨g4, c4', rfl, ho4, hg4, hat4⟩ := hpost; have hk3 : Keeps 59 w2 w3 := HKK.out w2 w3 HB2.out hg4; have t1 : w3.cell? ⟨w.heap.size, 1, none⟩ = some (.slice (some ⟨bl, o, none⟩) 3 c') := block_cell (hk3 _ _ _ G2.out) 1; obtain ⟨t2, t3, t4, t5, _, _⟩ := HC.out w3 ((Keeps.up HB2.out).trans hk3); clear ho4 hg4 hat4 hk3))
 all_goals go_wp2
 all_goals go_ret
 all_goals exact HP.out
theorem l1Free_two (h : List UInt8) (hne : h ≠ [114, 101, 99]) (a b : NT) (v : Value) (w : World) (A : Option Addr) (c : Nat) (bd : List (List UInt8)) (B g c2 : Nat) (ls : List (List UInt8)) (hp : TAt w (fun _ => True) (.mk [] [.mk h [], a.toTr, b.toTr]) v) (hA : SFar w A g bd) (ho : SOwn w B ls g c2) (hB : B <= w.heap.size)
 (h1 : bd.length + (1 + a.atoms + b.atoms) <= 100000) (h2 : ls.length + (1 + a.atoms + b.atoms) <= 100000) (iha : LF a) (ihb : LF b) :
 Calls Tryz.prog 103 #[v, .slice A bd.length c, .slice (some ⟨g, 0, none⟩) ls.length c2] w (FPost w B g (b.fr bd (a.fr bd ls))) := by
 obtain ⟨bl, o, c', rfl, A2, n2, cc2, A4, n4, c4, HC, HH⟩ := three_keeps hp
 have k : (h == [114, 101, 99]) = false := St_ne hne
 have hlen := fr_len a bd ls
 have HIA : Hid (∀ w1, Below w.heap.size w w1 -> Hid (TAt w1 (fun _ => True) a.toTr (.agg #[.string (St a.toTr.atom), .slice A2 n2 cc2])) -> Calls Tryz.prog 103 #[.agg #[.string (St a.toTr.atom), .slice A2 n2 cc2], .slice A bd.length c, .slice (some ⟨g, 0, none⟩) ls.length c2] w1 (fun e w2 => ∃ g2 c3, e = .returned (.slice (some ⟨g2, 0, none⟩) (a.fr bd ls).length c3) /\ SOwn w2 B (a.fr bd ls) g2 c3 /\ w.grownBy w2 (some g) /\ (g2 = g \/ w.heap.size <= g2) /\ Keeps 59 w1 w2)) := fun w1 hb ht => by
  refine (iha _ w1 A c bd B g c2 ls ht.out (hA.up hb) (ho.up hb) (Nat.le_trans hB hb.size) (by omega) (by omega)).mono ?_
  rintro e w2 ⟨g2, c3, he, ho2, hg2, hat2⟩
  refine ⟨g2, c3, he, ho2, up_grow hb hg2, ?_, (ho.up hb).keeps hg2⟩
  have := hb.size
  omega
 have HIB : Hid (∀ w1 g' c3, w.grownBy w1 (some g) -> (g' = g \/ w.heap.size <= g') -> SOwn w1 B (a.fr bd ls) g' c3 -> Hid (TAt w1 (fun _ => True) b.toTr (.agg #[.string (St b.toTr.atom), .slice A4 n4 c4])) -> Calls Tryz.prog 103 #[.agg #[.string (St b.toTr.atom), .slice A4 n4 c4], .slice A bd.length c, .slice (some ⟨g', 0, none⟩) (a.fr bd ls).length c3] w1 (fun e w2 => FPost w B g (b.fr bd (a.fr bd ls)) e w2 /\ Keeps 59 w1 w2 /\ ∃ v, e = .returned v)) := fun w1 g' c3 hg hat ho1 ht => by
  refine (ihb _ w1 A c bd B g' c3 (a.fr bd ls) ht.out (hA.grown hg hat) ho1 (Nat.le_trans hB hg.size) (by omega) (by omega)).mono ?_
  rintro e w2 ⟨g2, c5, he, ho2, hg2, hat2⟩
  refine ⟨⟨g2, c5, he, ho2, grow_grow hg hg2 hat, ?_⟩, ho1.keeps hg2, _, he⟩
  have := hg.size
  omega
 have HKK : Hid (∀ w2, w.grownBy w2 (some g) -> Keeps 59 w w2) := fun w2 hg => ho.keeps hg
 clear hp hA ho hB h1 h2 iha ihb hne hlen
 generalize a.toTr.atom = x at *
 generalize b.toTr.atom = y at *
 generalize b.fr bd (a.fr bd ls) = ls3 at *
 generalize hls2 : a.fr bd ls = ls2 at *
 clear hls2
 generalize hn2 : ls2.length = n2' at *
 generalize bd.length = n at *
 generalize ls.length = m at *
 go_enter Tryz.func103, Tryz.ntmps103
 go_wp2_with (go_at_call 125; refine (HH.out _ (.up (up1 w _))).mono ?_; rintro e w1 ⟨rfl, hb1⟩; have G0 := Lib.hid (block_up hb1 (block_new w (.cells #[.string (St []), .slice (some ⟨bl, o, none⟩) 3 c'] 59))); have e1 : w1.cell? ⟨w.heap.size, 1, none⟩ = some (.slice (some ⟨bl, o, none⟩) 3 c') := block_cell G0.out 1; obtain ⟨d2, d3, d4, d5, TA, _⟩ := HC.out w1 (.up (up_trans (up1 w _) hb1)); have HB1 := Lib.hid (up_trans (up1 w _) hb1); clear hb1)
 go_region_held3 (fun w' => w'.cell? ⟨w.heap.size, 1, none⟩ = some (.slice (some ⟨bl, o, none⟩) 3 c') /\ w'.cell? ⟨bl, o + 2, none⟩ = some (.string (St x)) /\ w'.cell? ⟨bl, o + 3, none⟩ = some (.slice A2 n2 cc2) /\ w'.cell? ⟨bl, o + 4, none⟩ = some (.string (St y)) /\ w'.cell? ⟨bl, o + 5, none⟩ = some (.slice A4 n4 c4))
  (first | exact ⟨t1, t2, t3, t4, t5⟩ | exact ⟨s1, s2, s3, s4, s5⟩ | exact ⟨e1, d2, d3, d4, d5⟩ | go_keep)
  ((go_at_call 103; first
   | ((with_reducible refine (HIB.out _ _ _ HG2.out HAT.out HO2.out TB).mono ?_); rintro e w3 ⟨hpost, hk3, v3, rfl⟩; have HP := Lib.hid hpost; have t1 : w3.cell? ⟨w.heap.size, 1, none⟩ = some (.slice (some ⟨bl, o, none⟩) 3 c') := block_cell (hk3 _ _ _ G2.out) 1; obtain ⟨t2, t3, t4, t5, _, _⟩ := HC.out w3 ((HKK.out w2 HG2.out).trans hk3); clear hpost hk3)
   | ((with_reducible refine (HIA.out _ (up_drew HB1.out) (Lib.hid (TAt.up (up_drew (Below.refl _ w1)) TA.out))).mono ?_); rintro e w2 ⟨g2, c3', rfl, ho2, hg2, hat2, hk2⟩; have HO2 := Lib.hid ho2; have HG2 := Lib.hid hg2; have HAT := Lib.hid hat2; have G2 : Hid (w2.heap[w.heap.size]? = some (.cells #[.string (St []), .slice (some ⟨bl, o, none⟩) 3 c'] 59 (0, 0))) := hk2 _ _ _ G0.out; have s1 : w2.cell? ⟨w.heap.size, 1, none⟩ = some (.slice (some ⟨bl, o, none⟩) 3 c') := block_cell G2.out 1; obtain ⟨s2, s3, s4, s5, _, TB⟩ := HC.out w2 (HKK.out w2 hg2); clear ho2 hg2 hat2 hk2)))
 all_goals go_wp2
 all_goals go_ret
 all_goals exact HP.out
def nmOk (s : List UInt8) : Prop := s ≠ [] /\ s ≠ [48] /\ s ≠ [49] /\ (∀ b ∈ s, atomB b = true) /\ s.length <= 10
theorem digit_atom {b : UInt8} (h : digitB b = true) : atomB b = true := by
 obtain ⟨h1, h2⟩ := (digitB_iff b).1 h
 have h3 : (48 : UInt8) <= b := UInt8.le_iff_toNat_le.2 (by simpa using h1)
 have h4 : b <= (57 : UInt8) := UInt8.le_iff_toNat_le.2 (by simpa using h2)
 simp [atomB, h3, h4]
theorem named_ok {L s : List UInt8} (hL : ∀ b ∈ L, atomB b = true /\ b ≠ 48 /\ b ≠ 49) (h : namedB L s = true) : nmOk s := by
 cases s with
 | nil => simp [namedB] at h
 | cons c r =>
  simp only [namedB, Bool.and_eq_true, decide_eq_true_eq, List.contains_iff_mem, List.all_eq_true] at h
  obtain ⟨⟨h1, h2⟩, h3⟩ := h
  obtain ⟨a1, a2, a3⟩ := hL c h1
  refine ⟨by simp, by simp; intro h _; exact a2 h, by simp; intro h _; exact a3 h, fun b hb => ?_, by simp; omega⟩
  rcases List.mem_cons.1 hb with rfl | hb
  · exact a1
  · exact digit_atom (h3 b hb)
theorem name_ok {s : List UInt8} (h : paramB s = true \/ loopB s = true) : nmOk s := by
 rcases h with h | h
 · exact named_ok (by decide) h
 · exact named_ok (by decide) h
def NT.ok3 : NT -> Prop
 | .name s => nmOk s
 | .sum a b => a.ok3 /\ b.ok3
 | .prod a b => a.ok3 /\ b.ok3
 | .loop s a => (nmOk s /\ paramB s = false) /\ a.ok3
 | _ => True
theorem loop_noparam {s : List UInt8} (h : loopB s = true) : paramB s = false := by
 cases s with
 | nil => rfl
 | cons c r =>
  simp [namedB] at h
  obtain ⟨⟨h2, _⟩, _⟩ := h
  subst h2
  simp [namedB]
theorem ok_ok3 : ∀ {n : NT}, n.ok -> n.ok3
 | .zero, _ => trivial
 | .one, _ => trivial
 | .name s, h => name_ok h
 | .sum a b, h => ⟨ok_ok3 h.1, ok_ok3 h.2⟩
 | .prod a b, h => ⟨ok_ok3 h.1, ok_ok3 h.2⟩
 | .loop s a, h => ⟨⟨name_ok (.inr h.1), loop_noparam h.1⟩, ok_ok3 h.2⟩
theorem l1Free_any3 : ∀ (n : NT), n.ok3 -> LF n
 | .zero, _ => fun v w A c bd B g c2 ls hp hA ho hB h1 h2 => l1Free_digit [48] (.inl rfl) [] v w A _ c B g c2 ls hp ho
 | .one, _ => fun v w A c bd B g c2 ls hp hA ho hB h1 h2 => l1Free_digit [49] (.inr rfl) [] v w A _ c B g c2 ls hp ho
 | .name s, h => fun v w A c bd B g c2 ls hp hA ho hB h1 h2 =>
  l1Free_name s h.1 h.2.1 h.2.2.1 v w A c bd B g c2 ls hp hA ho hB (by omega) (by omega)
 | .sum a b, h => fun v w A c bd B g c2 ls hp hA ho hB h1 h2 =>
  l1Free_two [43] (by decide) a b v w A c bd B g c2 ls hp hA ho hB h1 h2 (l1Free_any3 a h.1) (l1Free_any3 b h.2)
 | .prod a b, h => fun v w A c bd B g c2 ls hp hA ho hB h1 h2 =>
  l1Free_two [42] (by decide) a b v w A c bd B g c2 ls hp hA ho hB h1 h2 (l1Free_any3 a h.1) (l1Free_any3 b h.2)
 | .loop s a, h => l1Free_rec s a (l1Free_any3 a h.2)
theorem l1Free_any (n : NT) (h : n.ok) : LF n := l1Free_any3 n (ok_ok3 h)
end Go.Proofs.YtpokompplapkhaaGreatDoor
namespace Go.Proofs.YtpokompplapkhaaGreatDoor
set_option maxHeartbeats 8000000
set_option maxRecDepth 100000
open Go.RowKit
set_option linter.unusedVariables false
set_option linter.unusedSimpArgs false
def decL (n : Nat) : List UInt8 := if n < 10 then [UInt8.ofNat (48 + n)] else decL (n / 10) ++ [UInt8.ofNat (48 + n % 10)]
theorem str1 (z : Nat) : strOfNums [48 + (z : Int)] = St [UInt8.ofNat (48 + z)] := by
 have : ((48 + (z : Int))).toNat = 48 + z := by omega
 simp only [strOfNums, List.map_cons, List.map_nil, this]
theorem decL_len : ∀ (d n : Nat), n < 10 ^ (d + 1) -> (decL n).length <= d + 1
 | 0, n, h => by
  rw [decL, if_pos (by omega)]
  simp
 | d + 1, n, h => by
  rw [decL]
  split
  · simp
  · have := decL_len d (n / 10) (by rw [Nat.pow_succ] at h; omega)
    simp
    omega
theorem l6Dec_small (n : Nat) (hn : n < 10) (w : World) : Calls Tryz.prog 148 #[.int .i64 n] w fun e w' => e = .returned (.string (St (decL n))) /\ Below w.heap.size w w' := by
 rw [show decL n = [UInt8.ofNat (48 + n)] from by rw [decL, if_pos hn]]
 have h1 : (n : Int) < 10 := by omega
 have h0 : (0 : Int) <= n := by omega
 have kc : ∀ (W : World) (z : Int), (convert 35 9 (.slice (some ⟨W.heap.size, 0, none⟩) 1 1)).run Tryz.prog (W.alloc (.cells #[.int .u8 z] 5)) = .ok (.string (strOfNums [z])) (W.alloc (.cells #[.int .u8 z] 5)) := fun W z =>
  run_convert_bytes_arg (P := Tryz.prog) _ 35 5 Tryz.underlying35 Tryz.underlying5 W.heap.size 0 1 1 [_] rfl (fun i hi => by
   obtain rfl : i = 0 := by omega
   exact block_cell (block_new W _) 0) 9 Tryz.underlying9
 go_enter Tryz.func148, Tryz.ntmps148
 go_wp2
 go_ret
 exact ⟨by rw [<- str1]; rfl, up1 w _⟩
theorem l6Dec_big (n : Nat) (hn : ¬ n < 10) (hn2 : n <= 100000000) (w : World) (ih : ∀ w, Calls Tryz.prog 148 #[.int .i64 (n / 10 : Nat)] w fun e w' => e = .returned (.string (St (decL (n / 10)))) /\ Below w.heap.size w w') : Calls Tryz.prog 148 #[.int .i64 n] w fun e w' => e = .returned (.string (St (decL n))) /\ Below w.heap.size w w' := by
 have IH := Lib.hid ih
 obtain ⟨q, hq⟩ : ∃ q, n / 10 = q := ⟨_, rfl⟩
 obtain ⟨r, hr⟩ : ∃ r, n % 10 = r := ⟨_, rfl⟩
 have ht1 : Int.tdiv (n : Int) 10 = (q : Int) := by rw [<- hq]; exact (Int.ofNat_tdiv n 10).symm
 have ht2 : Int.tmod (n : Int) 10 = (r : Int) := by rw [<- hr]; exact (Int.ofNat_tmod n 10).symm
 have ht3 : (n : Int) / 10 = (q : Int) := by omega
 have ht4 : (n : Int) % 10 = (r : Int) := by omega
 have hdec : decL n = decL q ++ [UInt8.ofNat (48 + r)] := by rw [decL, if_neg hn, hq, hr]
 have hlen : (decL q).length <= 9 := decL_len 8 q (by omega)
 rw [hdec]
 rw [hq] at IH
 have h1 : ¬ (n : Int) < 10 := by omega
 have h10 : (10 : Int) <= n := by omega
 have hn3 : (n : Int) <= 100000000 := by omega
 have hr9 : (r : Int) <= 9 := by omega
 have kc : ∀ (W : World) (g : Nat) (z : Int), W.cell? ⟨g, 0, none⟩ = some (.int .u8 z) -> (convert 35 9 (.slice (some ⟨g, 0, none⟩) 1 1)).run Tryz.prog W = .ok (.string (strOfNums [z])) W := fun W g z hc =>
  run_convert_bytes_arg (P := Tryz.prog) _ 35 5 Tryz.underlying35 Tryz.underlying5 g 0 1 1 [_] rfl (fun i hi => by
   obtain rfl : i = 0 := by omega
   exact hc) 9 Tryz.underlying9
 have kd : ∀ (W : World) (z : Int), (convert 35 9 (.slice (some ⟨W.heap.size, 0, none⟩) 1 1)).run Tryz.prog (W.alloc (.cells #[.int .u8 z] 5)) = .ok (.string (strOfNums [z])) (W.alloc (.cells #[.int .u8 z] 5)) := fun W z => kc _ _ _ (block_cell (block_new W _) 0)
 have ke : ∀ (W : World) (z : Int), (convert 35 9 (.slice (some ⟨W.heap.size, 0, none⟩) 1 1)).run Tryz.prog (W.alloc (.cells #[.int .u8 z] 5)).drew = .ok (.string (strOfNums [z])) (W.alloc (.cells #[.int .u8 z] 5)).drew := fun W z => kc _ _ _ (block_cell (block_new W _) 0)
 have hw1 : IntKind.i64.wrap (q : Int) = q := by rw [IntKind.wrap_i64]; omega
 have hw2 : IntKind.i64.wrap (48 + (r : Int)) = 48 + (r : Int) := by rw [IntKind.wrap_i64]; omega
 have hw3 : IntKind.u8.wrap (48 + (r : Int)) = 48 + (r : Int) := by rw [IntKind.wrap_u8]; omega
 have hsz : (strOfNums [48 + (r : Int)]).size = 1 := strOfNums_size _
 have hdq : (St (decL q)).size <= 9 := hlen
 clear ih hn hq hr hdec
 generalize decL q = dq at *
 have HST : Hid (St dq ++ strOfNums [48 + (r : Int)] = St (dq ++ [UInt8.ofNat (48 + r)])) := by
  show _ = _
  rw [str1]
  apply ByteArray.ext
  simp [ByteArray.data_append]
 generalize hsd : St dq = bq at *
 clear hsd
 go_enter Tryz.func148, Tryz.ntmps148
 go_wp2
 go_region_with ((go_at_call 148; first
  | ((with_reducible refine (IH.out (w.alloc (.cells #[.int .u8 (48 + (r : Int))] 5)).drew).mono ?_); rintro e w2 ⟨rfl, hb2⟩; have dk : w2.cell? ⟨w.heap.size, 0, none⟩ = some (.int .u8 (48 + (r : Int))) := cell_up hb2 (show (w.alloc (.cells #[.int .u8 (48 + (r : Int))] 5)).drew.cell? _ = _ from block_cell (block_new w _) 0); have HB2 : Hid (Below w.heap.size w w2) := up_trans (up_drew (up1 w _)) hb2; clear hb2)
  | ((with_reducible refine (IH.out (w.alloc (.cells #[.int .u8 (48 + (r : Int))] 5))).mono ?_); rintro e w2 ⟨rfl, hb2⟩; have dk : w2.cell? ⟨w.heap.size, 0, none⟩ = some (.int .u8 (48 + (r : Int))) := cell_up hb2 (block_cell (block_new w _) 0); have HB2 : Hid (Below w.heap.size w w2) := up_trans (up1 w _) hb2; clear hb2)
  | ((with_reducible refine (IH.out w.drew).mono ?_); rintro e w2 ⟨rfl, hb2⟩; have HB2 : Hid (Below w.heap.size w w2) := up_trans (up_drew (Below.refl _ _)) hb2; clear hb2)
  | ((with_reducible refine (IH.out w).mono ?_); rintro e w2 ⟨rfl, hb2⟩; have HB2 : Hid (Below w.heap.size w w2) := hb2; clear hb2)))
 all_goals go_wp2
 all_goals go_ret
 all_goals refine ⟨congrArg (fun z => Ending.returned (.string z)) HST.out, ?_⟩
 all_goals first
  | exact HB2.out
  | exact up_alloc HB2.out _
  | exact up_drew (up_alloc HB2.out _)
  | exact up_alloc (up_drew HB2.out) _
  | exact up_drew HB2.out
  | (trace_state; sorry)
end Go.Proofs.YtpokompplapkhaaGreatDoor
namespace Go.Proofs.YtpokompplapkhaaGreatDoor
set_option maxHeartbeats 8000000
set_option maxRecDepth 100000
open Go.RowKit
set_option linter.unusedVariables false
set_option linter.unusedSimpArgs false
theorem l6Dec_any : ∀ (n : Nat) (w : World), n <= 100000000 -> Calls Tryz.prog 148 #[.int .i64 n] w fun e w' => e = .returned (.string (St (decL n))) /\ Below w.heap.size w w' := by
 intro n
 induction n using Nat.strongRecOn with
 | ind n ih =>
  intro w hn
  by_cases h : n < 10
  · exact l6Dec_small n h w
  · exact l6Dec_big n h hn w (fun w => ih (n / 10) (by omega) w (by omega))
theorem Trees.weak {w : World} {ok ok' : Nat -> Prop} (hok : ∀ k, ok k -> ok' k) {ts : List Tr} {cs : List Value} (h : Trees w ok ts cs) : Trees w ok' ts cs := h.move fun k _ ho => ⟨hok k ho, rfl⟩
theorem Trees.one {w : World} {ok : Nat -> Prop} {ts : List Tr} {cs : List Value} (h : Trees w ok ts cs) : ∀ u ∈ cs, u.oneCell' = true := by
 induction h with
 | nil => intro u hu; cases hu
 | cons s ps A c ts cs _ _ _ ih =>
  intro u hu
  rcases List.mem_cons.1 hu with rfl | hu
  · rfl
  · rcases List.mem_cons.1 hu with rfl | hu
    · rfl
    · exact ih u hu
theorem l1List_any (head : List UInt8) (ts : List Tr) (gp op c : Nat) (cs : List Value) (ok : Nat -> Prop) (w : World) (hts : Trees w ok ts cs) (hc : ∀ j u, cs[j]? = some u -> w.cell? ⟨gp, op + j, none⟩ = some u) (hn : 0 < ts.length) (hn2 : ts.length <= 1000) :
 Calls Tryz.prog 71 #[.string (St head), .slice (some ⟨gp, op, none⟩) ts.length c] w fun e w' => (∃ x A n c, e = .returned (.agg #[.string x, .slice A n c]) /\ TAt w' (fun k => w.heap.size <= k \/ ok k) (.mk [] (.mk head [] :: ts)) (.agg #[.string x, .slice A n c])) /\ Below w.heap.size w w' := by
 obtain ⟨i0, hi0, hz0, hz1, hz2⟩ := info_parts Tryz.infoTree
 have hlen := hts.length
 have hone : ∀ u ∈ cs, u.oneCell' = true := hts.one
 have HC : Hid (∀ w1, Below w.heap.size w w1 -> ∀ j u, cs[j]? = some u -> w1.cell? ((⟨gp, op, none⟩ : Addr).add j) = some u) := fun w1 hb j u hu => by
  have hadd : (⟨gp, op, none⟩ : Addr).add j = ⟨gp, op + j, none⟩ := by unfold Addr.add; split <;> simp_all
  rw [hadd]
  exact cell_up hb (hc j u hu)
 have HL : Hid (cs.length = ts.length * 2) := hlen
 have HONE : Hid (∀ u ∈ cs, u.oneCell' = true) := hone
 have HFIN : Hid (∀ (w1 w2 : World) g cap, Below w.heap.size w w1 -> w.heap.size <= g -> Below w.heap.size w w2 -> w2.heap[w.heap.size]? = some (.cells #[.string (St []), .slice none 0 0] 59 (0, 0)) -> w2.ownsRow (w.heap.size + 1) 59 2 (.slice (some ⟨g, 0, none⟩) (1 + ts.length) cap) (1 + ts.length) ([.string (St head), .slice none 0 0] ++ cs) ->
  TAt ((w2.setCell ⟨w.heap.size, 0, none⟩ (.string (St []))).setCell ⟨w.heap.size, 1, none⟩ (.slice (some ⟨g, 0, none⟩) (1 + ts.length) cap)) (fun k => w.heap.size <= k \/ ok k) (.mk [] (.mk head [] :: ts)) (.agg #[.string (St []), .slice (some ⟨g, 0, none⟩) (1 + ts.length) cap])) := fun w1 w2 g cap _ hg hb2 hres ho => by
  have h2 : Trees w2 (fun k => w.heap.size + 1 <= k \/ (k < w.heap.size /\ ok k)) ts cs := hts.move fun k hk hok => ⟨.inr ⟨hk, hok⟩, hb2.block k hk⟩
  have h3 : Trees w2 (fun k => w.heap.size + 1 <= k \/ (k < w.heap.size /\ ok k)) (.mk head [] :: ts) ([.string (St head), .slice none 0 0] ++ cs) := .cons head [] none 0 ts cs (Nat.le_refl _) (.nil _) h2
  obtain ⟨A, c', hv, hcc, hrow⟩ := h3.own ho (by simp; omega) (fun g' hg' => by
   have := ho.lt g' hg'
   exact .inl this.1)
  injection hv with hv1 hv2 hv3
  subst hv1
  subst hv3
  refine ⟨_, _, by simp [Nat.add_comm], hcc, hrow.move fun k hk hok => ⟨?_, ?_⟩⟩
  · rcases hok with h | h
    · exact .inl (by omega)
    · exact .inr h.2
  · have hne : k ≠ w.heap.size := by omega
    rw [Below.heap_setCell _ ⟨w.heap.size, 1, none⟩ _ k hne, Below.heap_setCell _ ⟨w.heap.size, 0, none⟩ _ k hne]
 clear hts hc hlen hone
 generalize hN : ts.length = n at *
 clear hN
 go_enter Tryz.func71, Tryz.ntmps71
 go_wp2_with (at_builtin; refine wpList_append_lies _ rfl _ _ 57 rfl (w.heap.size + 1) 59 i0 (.agg #[.string ⟨#[]⟩, .slice none 0 0]) 2 40 Tryz.underlying57 hi0 hz0 hz1 hz2 rfl (by decide) (.slice (some ⟨w.heap.size + 1, 0, none⟩) 1 1) 1 [.string (St head), .slice none 0 0] rfl (by
  have := World.ownsRow_lit (e := 59) (size := 2) (base := w.heap.size + 1) (w.alloc (.cells #[.string (St []), .slice none 0 0] 59)) #[.string (St head), .slice none 0 0] 1 (by simp) (by decide) (by simp)
  simpa using this) ⟨gp, op, none⟩ n c cs rfl HL.out (HC.out _ (up_alloc (up1 w _) _)) HONE.out hn (by unfold maxLen; omega) (by omega) (by simp) (w.heap.size + 2) (by simp) ?_; intro g cap w2 hown hgrow hat hlt; have g0 : w2.heap[w.heap.size]? = some (.cells #[.string (St []), .slice none 0 0] 59 (0, 0)) := (hgrow.block w.heap.size (by simp; omega) (by simp [Value.ownBlock])).trans (old2 w _ _); have c0 : w2.cell? ⟨w.heap.size, 0, none⟩ = some (.string (St [])) := block_cell g0 0; have c1 : w2.cell? ⟨w.heap.size, 1, none⟩ = some (.slice none 0 0) := block_cell g0 1; have f0 := block_free g0 0; have f1 := block_free g0 1; have l0 := lt_of_block g0; have hgg : w.heap.size <= g := (by simp [Value.ownBlock] at hat; omega); have hb2 : Below w.heap.size w w2 := (up_alloc (up1 w _) _).grown hgrow (by simp; omega) (fun k hk => by simp [Value.ownBlock] at hk; omega); have HF := Lib.hid (HFIN.out w w2 g cap (Below.refl _ _) hgg hb2 g0 hown); have HB2 := Lib.hid hb2; clear hown hgrow hat hlt hb2 hgg g0)
 refine bodyPost_ret (v := .agg #[.string (St []), .slice (some ⟨g, 0, none⟩) (1 + n) cap]) (by simp [results, Tryz.results71, go_sem, c0, c1, l0]) rfl ?_
 exact ⟨⟨_, _, _, _, rfl, HF.out⟩, set0 (set0 HB2.out (Nat.le_refl _)) (Nat.le_refl _)⟩
end Go.Proofs.YtpokompplapkhaaGreatDoor
namespace Go.Proofs.YtpokompplapkhaaGreatDoor
set_option maxHeartbeats 8000000
set_option maxRecDepth 100000
open Go.RowKit
set_option linter.unusedVariables false
set_option linter.unusedSimpArgs false
def Ty.pre : Ty -> List Ty
 | .sum a b => .sum a b :: (a.pre ++ b.pre)
 | .prod a b => .prod a b :: (a.pre ++ b.pre)
 | .loop a => .loop a :: a.pre
 | t => [t]
theorem pre_len : ∀ t : Ty, t.pre.length <= t.atoms
 | .sum a b => by have := pre_len a; have := pre_len b; simp only [Ty.pre, Ty.atoms, List.length_cons, List.length_append]; omega
 | .prod a b => by have := pre_len a; have := pre_len b; simp only [Ty.pre, Ty.atoms, List.length_cons, List.length_append]; omega
 | .loop a => by have := pre_len a; simp only [Ty.pre, Ty.atoms, List.length_cons]; omega
 | .zero => by simp [Ty.pre, Ty.atoms]
 | .one => by simp [Ty.pre, Ty.atoms]
 | .name _ => by simp [Ty.pre, Ty.atoms]
 | .bound _ => by simp [Ty.pre, Ty.atoms]
def NT.uses (nm : List UInt8) : NT -> Nat
 | .name s => if s = nm then 1 else 0
 | .sum a b => a.uses nm + b.uses nm
 | .prod a b => a.uses nm + b.uses nm
 | .loop s a => if s = nm then 0 else a.uses nm
 | _ => 0
end Go.Proofs.YtpokompplapkhaaGreatDoor
namespace Go.Proofs.YtpokompplapkhaaGreatDoor
set_option maxHeartbeats 8000000
set_option maxRecDepth 100000
open Go.RowKit
set_option linter.unusedVariables false
set_option linter.unusedSimpArgs false
theorem row_heap {W W' : World} {A : Option Addr} {ls : List Value} (h : W.heap = W'.heap) (hr : RCells W A ls) : RCells W' A ls := by
 rcases hr with hr | ⟨g, o, rfl, hr⟩
 · exact .inl hr
 · refine .inr ⟨g, o, rfl, fun j u hu => ?_⟩
   rw [<- hr j u hu]
   simp only [World.cell?, h]
theorem pre_pos : ∀ t : Ty, 1 <= t.pre.length
 | .sum a b => by simp [Ty.pre]
 | .prod a b => by simp [Ty.pre]
 | .loop a => by simp [Ty.pre]
 | .zero => by simp [Ty.pre]
 | .one => by simp [Ty.pre]
 | .name _ => by simp [Ty.pre]
 | .bound _ => by simp [Ty.pre]
theorem fold_m {α : Type} (m : α -> Nat) (step : α -> Ty -> α) (hm : ∀ acc u, m (step acc u) <= m acc + 1) : ∀ (l : List Ty) (acc : α), m (l.foldl step acc) <= m acc + l.length
 | [], acc => by simp
 | u :: l, acc => by
  have h1 := hm acc u
  have h2 := fold_m m step hm l (step acc u)
  simp only [List.foldl_cons, List.length_cons]
  omega
theorem visit_NM {α : Type} (I : α -> World -> Prop) (step : α -> Ty -> α) (q1 : Addr)
 (m : α -> Nat) (M : Nat) (hm : ∀ acc u, m (step acc u) <= m acc + 1)
 (hK : ∀ (u : Ty) (p : Option Addr) (w : World) (acc : α), m acc < M -> I acc w -> TyAt w u p -> Calls Tryz.prog 209 #[.pointer p, .pointer (some q1)] w fun e w' => e = .returned (.tuple #[]) /\ I (step acc u) w' /\ Keeps 124 w w')
 (t : Ty) : ∀ (w : World) (p : Option Addr) (acc : α), m acc + t.pre.length <= M -> I acc w -> TyAt w t p ->
  Calls Tryz.prog 99 #[.pointer p, .func (.func 209) #[] #[.pointer (some q1)]] w fun e w' => e = .returned (.tuple #[]) /\ I (t.pre.foldl step acc) w' /\ Keeps 124 w w' := by
 have HK := Lib.hid hK
 clear hK
 induction t with
 | sum a b iha ihb =>
  intro w p acc hM hI hp
  have hM1 := hm acc (.sum a b)
  have hM2 := fold_m m step hm a.pre (step acc (.sum a b))
  have hl1 := pre_pos (Ty.sum a b)
  have hlen : (Ty.sum a b).pre.length = 1 + a.pre.length + b.pre.length := by simp [Ty.pre]; omega
  have IHA := Lib.hid (fun w p h1 h2 => iha w p (step acc (.sum a b)) (by omega) h1 h2)
  have IHB := Lib.hid (fun w p h1 h2 => ihb w p (a.pre.foldl step (step acc (.sum a b))) (by omega) h1 h2)
  have HKM : Hid (m acc < M) := by show m acc < M; omega
  have HP := Lib.hid hp
  have HI := Lib.hid hI
  obtain ⟨pa, pb, ⟨g, rfl, hb⟩, ha, hb'⟩ := hp
  obtain ⟨ga, rfl⟩ := ha.some_
  obtain ⟨gb, rfl⟩ := hb'.some_
  have HC : Hid (∀ w1, Keeps 124 w w1 -> w1.cell? ⟨g, 3, none⟩ = some (.pointer (some ⟨ga, 0, none⟩)) /\ w1.cell? ⟨g, 4, none⟩ = some (.pointer (some ⟨gb, 0, none⟩)) /\ Hid (TyAt w1 a (some ⟨ga, 0, none⟩)) /\ Hid (TyAt w1 b (some ⟨gb, 0, none⟩))) := fun w1 hk => ⟨block_cell (hk _ _ _ hb) 3, block_cell (hk _ _ _ hb) 4, ha.keep hk, hb'.keep hk⟩
  simp only [Ty.pre, List.foldl_cons, List.foldl_append]
  clear iha ihb hb ha hb' hI hM hM1 hM2 hl1 hlen
  go_enter Tryz.func99, Tryz.ntmps99
  go_wp2_with (first
   | (go_at_call 209; refine (HK.out _ _ _ _ HKM.out HI.out HP.out).mono ?_; rintro e w1 ⟨rfl, hi1, hk1⟩; obtain ⟨c3, c4, ha1, _⟩ := HC.out w1 hk1; have HI1 := Lib.hid hi1; have HK1 := Lib.hid hk1; clear hi1 hk1)
   | (go_at_call 99; first
    | ((with_reducible refine (IHB.out _ _ HI2.out hb2.out).mono ?_); rintro e w3 ⟨rfl, hi3, hk3⟩; have HI3 := Lib.hid hi3; have HK3 := Lib.hid (HK2.out.trans hk3); clear hi3 hk3)
    | ((with_reducible refine (IHA.out _ _ HI1.out ha1.out).mono ?_); rintro e w2 ⟨rfl, hi2, hk2⟩; obtain ⟨d3, d4, _, hb2⟩ := HC.out w2 (HK1.out.trans hk2); have HI2 := Lib.hid hi2; have HK2 := Lib.hid (HK1.out.trans hk2); clear hi2 hk2)))
  go_end0
  exact ⟨rfl, HI3.out, HK3.out⟩
 | prod a b iha ihb =>
  intro w p acc hM hI hp
  have hM1 := hm acc (.prod a b)
  have hM2 := fold_m m step hm a.pre (step acc (.prod a b))
  have hl1 := pre_pos (Ty.prod a b)
  have hlen : (Ty.prod a b).pre.length = 1 + a.pre.length + b.pre.length := by simp [Ty.pre]; omega
  have IHA := Lib.hid (fun w p h1 h2 => iha w p (step acc (.prod a b)) (by omega) h1 h2)
  have IHB := Lib.hid (fun w p h1 h2 => ihb w p (a.pre.foldl step (step acc (.prod a b))) (by omega) h1 h2)
  have HKM : Hid (m acc < M) := by show m acc < M; omega
  have HP := Lib.hid hp
  have HI := Lib.hid hI
  obtain ⟨pa, pb, ⟨g, rfl, hb⟩, ha, hb'⟩ := hp
  obtain ⟨ga, rfl⟩ := ha.some_
  obtain ⟨gb, rfl⟩ := hb'.some_
  have HC : Hid (∀ w1, Keeps 124 w w1 -> w1.cell? ⟨g, 3, none⟩ = some (.pointer (some ⟨ga, 0, none⟩)) /\ w1.cell? ⟨g, 4, none⟩ = some (.pointer (some ⟨gb, 0, none⟩)) /\ Hid (TyAt w1 a (some ⟨ga, 0, none⟩)) /\ Hid (TyAt w1 b (some ⟨gb, 0, none⟩))) := fun w1 hk => ⟨block_cell (hk _ _ _ hb) 3, block_cell (hk _ _ _ hb) 4, ha.keep hk, hb'.keep hk⟩
  simp only [Ty.pre, List.foldl_cons, List.foldl_append]
  clear iha ihb hb ha hb' hI hM hM1 hM2 hl1 hlen
  go_enter Tryz.func99, Tryz.ntmps99
  go_wp2_with (first
   | (go_at_call 209; refine (HK.out _ _ _ _ HKM.out HI.out HP.out).mono ?_; rintro e w1 ⟨rfl, hi1, hk1⟩; obtain ⟨c3, c4, ha1, _⟩ := HC.out w1 hk1; have HI1 := Lib.hid hi1; have HK1 := Lib.hid hk1; clear hi1 hk1)
   | (go_at_call 99; first
    | ((with_reducible refine (IHB.out _ _ HI2.out hb2.out).mono ?_); rintro e w3 ⟨rfl, hi3, hk3⟩; have HI3 := Lib.hid hi3; have HK3 := Lib.hid (HK2.out.trans hk3); clear hi3 hk3)
    | ((with_reducible refine (IHA.out _ _ HI1.out ha1.out).mono ?_); rintro e w2 ⟨rfl, hi2, hk2⟩; obtain ⟨d3, d4, _, hb2⟩ := HC.out w2 (HK1.out.trans hk2); have HI2 := Lib.hid hi2; have HK2 := Lib.hid (HK1.out.trans hk2); clear hi2 hk2)))
  go_end0
  exact ⟨rfl, HI3.out, HK3.out⟩
 | loop a iha =>
  intro w p acc hM hI hp
  have hM1 := hm acc (.loop a)
  have hl1 := pre_pos (Ty.loop a)
  have hlen : (Ty.loop a).pre.length = 1 + a.pre.length := by simp [Ty.pre]; omega
  have IHA := Lib.hid (fun w p h1 h2 => iha w p (step acc (.loop a)) (by omega) h1 h2)
  have HKM : Hid (m acc < M) := by show m acc < M; omega
  have HP := Lib.hid hp
  have HI := Lib.hid hI
  obtain ⟨pa, ⟨g, rfl, hb⟩, ha⟩ := hp
  obtain ⟨ga, rfl⟩ := ha.some_
  have HC : Hid (∀ w1, Keeps 124 w w1 -> w1.cell? ⟨g, 3, none⟩ = some (.pointer (some ⟨ga, 0, none⟩)) /\ w1.cell? ⟨g, 4, none⟩ = some (.pointer none) /\ Hid (TyAt w1 a (some ⟨ga, 0, none⟩))) := fun w1 hk => ⟨block_cell (hk _ _ _ hb) 3, block_cell (hk _ _ _ hb) 4, ha.keep hk⟩
  rw [show (Ty.loop a).pre.foldl step acc = a.pre.foldl step (step acc (.loop a)) from rfl]
  clear iha hb ha hI hM hM1 hl1 hlen
  go_enter Tryz.func99, Tryz.ntmps99
  go_wp2_with (first
   | (go_at_call 209; refine (HK.out _ _ _ _ HKM.out HI.out HP.out).mono ?_; rintro e w1 ⟨rfl, hi1, hk1⟩; obtain ⟨c3, c4, ha1⟩ := HC.out w1 hk1; have HI1 := Lib.hid hi1; have HK1 := Lib.hid hk1; clear hi1 hk1)
   | (go_at_call 99; (with_reducible refine (IHA.out _ _ HI1.out ha1.out).mono ?_); rintro e w2 ⟨rfl, hi2, hk2⟩; obtain ⟨d3, d4, ha2⟩ := HC.out w2 (HK1.out.trans hk2); have HI2 := Lib.hid hi2; have HK2 := Lib.hid (HK1.out.trans hk2); clear hi2 hk2))
  go_end0
  exact ⟨rfl, HI2.out, HK2.out⟩
 | _ =>
  intro w p acc hM hI hp
  have HKM : Hid (m acc < M) := by show m acc < M; simp [Ty.pre] at hM; omega
  have HP := Lib.hid hp
  have HI := Lib.hid hI
  obtain ⟨g, rfl, hb⟩ := hp
  have HC : Hid (∀ w1, Keeps 124 w w1 -> w1.cell? ⟨g, 3, none⟩ = some (.pointer none) /\ w1.cell? ⟨g, 4, none⟩ = some (.pointer none)) := fun w1 hk => ⟨block_cell (hk _ _ _ hb) 3, block_cell (hk _ _ _ hb) 4⟩
  clear hb hI hM
  go_enter Tryz.func99, Tryz.ntmps99
  go_wp2_with (go_at_call 209; refine (HK.out _ _ _ _ HKM.out HI.out HP.out).mono ?_; rintro e w1 ⟨rfl, hi1, hk1⟩; obtain ⟨c3, c4⟩ := HC.out w1 hk1; have HI1 := Lib.hid hi1; have HK1 := Lib.hid hk1; clear hi1 hk1)
  go_end0
  exact ⟨rfl, HI1.out, HK1.out⟩
def nstep (ls : List (List UInt8)) : Ty -> List (List UInt8)
 | .name s => if s ∈ ls then ls else ls ++ [s]
 | _ => ls
theorem nstep_len (ls : List (List UInt8)) (u : Ty) : (nstep ls u).length <= ls.length + 1 := by
 cases u with
 | name s =>
  simp only [nstep]
  split
  · omega
  · simp
 | _ => simp only [nstep]; omega
def NI (w0 : World) (b : Nat) (ls : List (List UInt8)) (w : World) : Prop :=
 Below w0.heap.size w0 w /\ w0.heap.size <= b /\ ∃ g c, w.heap[b]? = some (.cells #[.slice (some ⟨g, 0, none⟩) ls.length c] 38 (0, 0)) /\ SOwn w w0.heap.size ls g c
theorem contains_q (ls : List (List UInt8)) (g c : Nat) (s : List UInt8) (w : World) (B : Nat) (hl : ls.length <= 1000000) (ho : SOwn w B ls g c) (n : Nat) :
 Calls Tryz.prog 177 #[.slice (some ⟨g, 0, none⟩) ls.length c, .string (St s)] (w.drewN n) fun e w' => e = .returned (.bool (decide (s ∈ ls))) /\ ∃ m, w' = w.drewN m := by
 have ho' : SOwn (w.drewN n) B ls g c := ho.up (up_drewN w n)
 refine (Tryz.slices_Contains_string g 0 ls.length c (ls.map St) (St s) (w.drewN n) (by simp) (by omega) (fun j hj => ?_)).mono ?_
 · have hj' : j < ls.length := by simpa using hj
   rw [Nat.zero_add, ho'.cell j ls[j] (List.getElem?_eq_getElem hj')]
   simp [List.getD, hj']
 · rintro e w' ⟨he, hw⟩
   refine ⟨?_, n, hw⟩
   rw [he]
   congr 2
   rw [Bool.eq_iff_iff, Lib.containsS_iff, decide_eq_true_iff]
   rw [List.take_of_length_le (by simp)]
   constructor
   · intro h
     obtain ⟨x, hx, hxe⟩ := List.mem_map.1 h
     rwa [<- St_inj.1 hxe]
   · intro h
     exact List.mem_map.2 ⟨s, h, rfl⟩
theorem names_clo (w0 : World) (b : Nat) (ls : List (List UInt8)) (hl : ls.length < 1000) (u : Ty) (p : Option Addr) (w : World) (hi : NI w0 b ls w) (hp : TyAt w u p) :
 Calls Tryz.prog 209 #[.pointer p, .pointer (some ⟨b, 0, none⟩)] w fun e w' => e = .returned (.tuple #[]) /\ NI w0 b (nstep ls u) w' /\ Keeps 124 w w' := by
 obtain ⟨i0, hi0, hz0, hz1, hz2⟩ := info_parts Tryz.infoStr
 obtain ⟨h1, h2, g, c, h3, h4⟩ := hi
 have d2 : w.cell? ⟨b, 0, none⟩ = some (.slice (some ⟨g, 0, none⟩) ls.length c) := block_cell h3 0
 have d3 := block_free h3 0
 have l2 := lt_of_block h3
 have HS : Hid (∀ m, NI w0 b ls (w.drewN m) /\ Keeps 124 w (w.drewN m)) := fun m => ⟨⟨up_trans h1 (up_drewN _ _), h2, g, c, h3, h4.up (up_drewN _ _)⟩, .up (up_drewN _ _)⟩
 have hgb : g ≠ b := by
  rintro rfl
  rcases h4.2 with ⟨h5, _⟩ | ⟨g', cap, cur, h5, _, hh, _⟩
  · cases h5
  · cases h5
    rw [h3] at hh
    simp at hh
 cases u with
 | name s =>
  obtain ⟨gu, rfl, hb⟩ := hp
  have c0 : w.cell? ⟨gu, 0, none⟩ = some (.int .u8 110) := block_cell hb 0
  have c1 : w.cell? ⟨gu, 1, none⟩ = some (.string (St s)) := block_cell hb 1
  have HCT := Lib.hid (contains_q ls g c s w w0.heap.size (by omega) h4)
  by_cases hs : s ∈ ls
  · rw [decide_eq_true hs] at HCT
    rw [show nstep ls (.name s) = ls from by simp only [nstep]; rw [if_pos hs]]
    clear h1 h2 h3 h4 hb hs hgb
    generalize ls.length = n at *
    go_enter Tryz.func209, Tryz.ntmps209
    go_wp2
    go_quiet ((go_at_call 177; with_reducible exact HCT.out _))
    go_wp2
    go_end0
    exact ⟨rfl, HS.out _⟩
  · rw [decide_eq_false hs] at HCT
    rw [show nstep ls (.name s) = ls ++ [s] from by simp only [nstep]; rw [if_neg hs]]
    have HO : Hid (∀ w', Below w.heap.size w w' -> w'.ownsRow w0.heap.size 9 1 (.slice (some ⟨g, 0, none⟩) ls.length c) ls.length (strs ls) /\ w0.heap.size <= w'.heap.size) := fun w' hb => ⟨own_up h4 hb, Nat.le_trans h1.size hb.size⟩
    have HAF : Hid (∀ w1 w2, Below w.heap.size w w1 -> w1.grownBy w2 (some g) -> w2.cell? ⟨b, 0, none⟩ = some (.slice (some ⟨g, 0, none⟩) ls.length c) /\ w2.frozen? ⟨b, 0, none⟩ = false /\ b < w2.heap.size) := fun w1 w2 hb hg => by
     have hb1 := block_up hb h3
     have hlt1 := lt_of_block hb1
     have hb2 : w2.heap[b]? = some (.cells #[.slice (some ⟨g, 0, none⟩) ls.length c] 38 (0, 0)) := (hg.block b hlt1 (by simp; exact fun h => hgb h.symm)).trans hb1
     exact ⟨block_cell hb2 0, block_free hb2 0, lt_of_block hb2⟩
    have HFIN : Hid (∀ w1 w2 g2 c2, Below w.heap.size w w1 -> w1.grownBy w2 (some g) -> (g2 = g \/ w1.heap.size <= g2) -> w2.ownsRow w0.heap.size 9 1 (.slice (some ⟨g2, 0, none⟩) (ls.length + 1) c2) (ls.length + 1) (strs ls ++ [.string (St s)]) -> NI w0 b (ls ++ [s]) (w2.setCell ⟨b, 0, none⟩ (.slice (some ⟨g2, 0, none⟩) (ls.length + 1) c2)) /\ Keeps 124 w (w2.setCell ⟨b, 0, none⟩ (.slice (some ⟨g2, 0, none⟩) (ls.length + 1) c2))) := fun w1 w2 g2 c2 hb hg hat ho => by
     have hb1 := block_up hb h3
     have hlt1 := lt_of_block hb1
     have hb2 : w2.heap[b]? = some (.cells #[.slice (some ⟨g, 0, none⟩) ls.length c] 38 (0, 0)) := (hg.block b hlt1 (by simp; exact fun h => hgb h.symm)).trans hb1
     have hg2 : g2 ≠ b := by omega
     have hgg := h4.lt.1
     have hbel : Below w0.heap.size w0 w2 := (up_trans h1 hb).grown hg (up_trans h1 hb).size (fun k hk => by cases hk; exact hgg)
     have hso : SOwn w2 w0.heap.size (ls ++ [s]) g2 c2 := SOwn.of ho (by simp) (by simp [strs])
     refine ⟨⟨set0 hbel h2, h2, g2, c2, ?_, ?_⟩, ?_⟩
     · have := one_setCell hb2 (u := .slice (some ⟨g2, 0, none⟩) (ls.length + 1) c2)
       simpa using this
     · exact ownsRow_setCell_other hso (by simp [Value.ownBlock]; exact hg2) _
     · exact ((Keeps.up hb).trans (Keeps.grown (own_up h4 hb) hg (by decide))).trans (Keeps.set_ (a := ⟨b, 0, none⟩) hb2 (by decide) _)
    have da : ∀ (k : Nat) (o : Obj), ((w.drewN k).alloc o).cell? ⟨b, 0, none⟩ = some (.slice (some ⟨g, 0, none⟩) ls.length c) := fun k o => cell_up (up_alloc (up_drewN w k) o) d2
    clear h1 h2 h3 h4 hb hs hgb HS
    have HLS : Hid (ls.length < 1000) := hl
    have HLN : Hid ((strs ls).length = ls.length) := by show _ = _; simp [strs]
    generalize strs ls = es at *
    generalize hnn : ls.length = n at *
    go_enter Tryz.func209, Tryz.ntmps209
    go_wp2
    go_quiet ((go_at_call 177; with_reducible exact HCT.out _))
    go_wp2
    go_region_law ((refine step_append_row _ (by rfl) _ _ 38 (by rfl) w0.heap.size 9 i0 (.string ⟨#[]⟩) 16 Tryz.underlying38 hi0 hz0 hz1 hz2 rfl g n c es (by rfl) (own_heap (W := w.alloc (.cells #[.string (St s)] 9)) rfl (HO.out _ (up1 w _)).1) (some ⟨w.heap.size, 0, none⟩) 1 1 [.string (St s)] (by rfl) rfl (row_heap (W := w.alloc (.cells #[.string (St s)] 9)) rfl (row_one (block_cell (block_new w _) 0))) (by simp [Value.oneCell']) (by have := HLS.out; omega) (by decide) (Nat.le_trans (HO.out w (Below.refl _ _)).2 (Below.size (by repeat (first | exact up_drewN _ _ | exact Below.refl _ _ | refine up_drew ?_ | refine up_alloc ?_ _)))) (n + 1) rfl (es ++ [.string (St s)]) rfl ?_; intro g2 c2 w5 hown hgrow hbel hat; obtain ⟨d5, f5, l5⟩ := HAF.out _ w5 (by repeat (first | exact up_drewN _ _ | exact Below.refl _ _ | refine up_drew ?_ | refine up_alloc ?_ _)) hgrow; have HF := Lib.hid (HFIN.out _ w5 g2 c2 (by repeat (first | exact up_drewN _ _ | exact Below.refl _ _ | refine up_drew ?_ | refine up_alloc ?_ _)) hgrow hat hown); clear hown hgrow hbel hat))
    all_goals go_wp2
    all_goals go_end0
    all_goals exact ⟨rfl, HF.out⟩
 | _ =>
  have hp' : ∃ g sg nm up pa pb, p = some ⟨g, 0, none⟩ /\ (∃ s2 : Int, sg = s2 /\ (s2 == 110) = false) /\ w.heap[g]? = some (.cells #[.int .u8 sg, .string (St nm), .int .i64 up, .pointer pa, .pointer pb] 124 (0, 0)) := by
   first
    | (obtain ⟨g, rfl, hb⟩ := hp; exact ⟨g, _, _, _, _, _, rfl, ⟨_, rfl, rfl⟩, hb⟩)
    | (obtain ⟨pa, ⟨g, rfl, hb⟩, ha⟩ := hp; exact ⟨g, _, _, _, _, _, rfl, ⟨_, rfl, rfl⟩, hb⟩)
    | (obtain ⟨pa, pb, ⟨g, rfl, hb⟩, ha, hb'⟩ := hp; exact ⟨g, _, _, _, _, _, rfl, ⟨_, rfl, rfl⟩, hb⟩)
  obtain ⟨gu, sg, nm', up, pa, pb, rfl, ⟨_, rfl, hsg⟩, hb⟩ := hp'
  have hsg2 : decide (sg = 110) = false := by simpa using hsg
  have c0 := block_cell hb 0
  rw [show nstep ls _ = ls from rfl]
  clear h1 h2 h3 h4 hb hgb
  generalize ls.length = n at *
  go_enter Tryz.func209, Tryz.ntmps209
  go_wp2
  go_quiet (fail)
  go_wp2
  go_end0
  exact ⟨rfl, HS.out _⟩
theorem names_any (t : Ty) (w : World) (p : Option Addr) (hp : TyAt w t p) (hn : t.atoms <= 900) :
 Calls Tryz.prog 175 #[.pointer p] w (LPost w (t.pre.foldl nstep [])) := by
 have hl := pre_len t
 have HV : Hid (∀ (w1 : World) (b : Nat), NI w b [] w1 -> TyAt w1 t p -> Calls Tryz.prog 99 #[.pointer p, .func (.func 209) #[] #[.pointer (some ⟨b, 0, none⟩)]] w1 fun e w' => e = .returned (.tuple #[]) /\ NI w b (t.pre.foldl nstep []) w' /\ Keeps 124 w1 w') := fun w1 b hi ht =>
  visit_NM (NI w b) nstep ⟨b, 0, none⟩ List.length 999 (fun acc u => nstep_len acc u) (fun u p w2 acc ha hi hp => names_clo w b acc (by omega) u p w2 hi hp) t w1 p [] (by simp; omega) hi ht
 have HI : Hid (NI w (w.heap.size + 1) [] ((w.alloc (.cells #[] 9)).alloc (.cells #[.slice (some ⟨w.heap.size, 0, none⟩) 0 0] 38)) /\ TyAt ((w.alloc (.cells #[] 9)).alloc (.cells #[.slice (some ⟨w.heap.size, 0, none⟩) 0 0] 38)) t p) :=
  ⟨⟨up_alloc (up1 w _) _, by omega, w.heap.size, 0, new2 w _ _, (SOwn.new w _ (Nat.le_refl _) [] (by simp)).up (up1 _ _)⟩, (hp.up (up1 _ _)).up (up1 _ _)⟩
 clear hp hl
 generalize t.pre.foldl nstep [] = ls at *
 go_enter Tryz.func175, Tryz.ntmps175
 go_wp2_with (go_at_call 99; refine (HV.out _ _ HI.out.1 HI.out.2).mono ?_; rintro e w3 ⟨rfl, ⟨hb, _, g, c, hbl, ho⟩, _⟩; have d3 := block_cell hbl 0; have HB := Lib.hid hb; have HO := Lib.hid ho; clear hb hbl ho)
 go_ret
 exact ⟨HB.out, g, c, rfl, HO.out⟩
theorem look_none {s : List UInt8} : ∀ {env : List (List UInt8)}, look s env = none ↔ s ∉ env
 | [] => by simp [look]
 | e :: r => by
  rw [look]
  by_cases h : e = s
  · subst h; simp
  · rw [if_neg h]
    simp only [Option.map_eq_none_iff, look_none (env := r), List.mem_cons, not_or]
    exact ⟨fun h1 => ⟨fun h2 => h h2.symm, h1⟩, fun h1 => h1.2⟩
theorem names_fr3 : ∀ (n : NT) (env ls : List (List UInt8)), n.ok3 -> (∀ e ∈ env, paramB e = false) -> (n.db env).pre.foldl nstep ls = n.fr env.reverse ls
 | .zero, _, _, _, _ => rfl
 | .one, _, _, _, _ => rfl
 | .name s, env, ls, h, he => by
  simp only [NT.db, NT.fr]
  by_cases hs : paramB s = true
  · rw [if_pos hs]
    have hn : s ∉ env := fun hm => by rw [he s hm] at hs; cases hs
    simp only [Ty.pre, List.foldl_cons, List.foldl_nil, nstep, List.mem_reverse]
    by_cases hm : s ∈ ls
    · rw [if_pos hm, if_pos (.inr hm)]
    · rw [if_neg hm, if_neg (fun h => by rcases h with h | h; exact hn h; exact hm h)]
  · rw [if_neg hs]
    cases hl : look s env with
    | none =>
     have hn := look_none.1 hl
     simp only [Ty.pre, List.foldl_cons, List.foldl_nil, nstep, List.mem_reverse]
     by_cases hm : s ∈ ls
     · rw [if_pos hm, if_pos (.inr hm)]
     · rw [if_neg hm, if_neg (fun h => by rcases h with h | h; exact hn h; exact hm h)]
    | some k =>
     have hn : s ∈ env := Classical.byContradiction fun h => by rw [look_none.2 h] at hl; cases hl
     simp only [Ty.pre, List.foldl_cons, List.foldl_nil, nstep, List.mem_reverse]
     rw [if_pos (.inl hn)]
 | .sum a b, env, ls, h, he => by
  simp only [NT.db, NT.fr, Ty.pre, List.foldl_cons, List.foldl_append, nstep]
  rw [names_fr3 a env ls h.1 he, names_fr3 b env _ h.2 he]
 | .prod a b, env, ls, h, he => by
  simp only [NT.db, NT.fr, Ty.pre, List.foldl_cons, List.foldl_append, nstep]
  rw [names_fr3 a env ls h.1 he, names_fr3 b env _ h.2 he]
 | .loop s a, env, ls, h, he => by
  simp only [NT.db, NT.fr, Ty.pre, List.foldl_cons, nstep]
  rw [names_fr3 a (s :: env) ls h.2 (by intro e hm; rcases List.mem_cons.1 hm with rfl | hm; exact h.1.2; exact he e hm)]
  simp
theorem names_fr (n : NT) (env ls : List (List UInt8)) (h : n.ok) (he : ∀ e ∈ env, loopB e = true) : (n.db env).pre.foldl nstep ls = n.fr env.reverse ls := names_fr3 n env ls (ok_ok3 h) fun e hm => loop_noparam (he e hm)
end Go.Proofs.YtpokompplapkhaaGreatDoor
namespace Go.Proofs.YtpokompplapkhaaGreatDoor
set_option maxHeartbeats 8000000
set_option maxRecDepth 100000
open Go.RowKit
set_option linter.unusedVariables false
set_option linter.unusedSimpArgs false
def NT.names (n : NT) : List (List UInt8) := n.fr [] []
theorem names_len (n : NT) : n.names.length <= n.atoms := by
 have := fr_len n [] []
 simpa [NT.names] using this
theorem any_step {ls : List (List UInt8)} {b : Bool} (hb : ls.any loopB = b) : ∀ k, k <= ls.length -> (∀ x ∈ ls.take k, loopB x = false) -> (∀ x, ls[k]? = some x -> loopB x = true -> b = true) /\ (∀ x, ls[k]? = some x -> loopB x = false -> ∀ y ∈ ls.take (k + 1), loopB y = false) /\ (ls.length <= k -> b = false) := fun k hk ht => by
 refine ⟨fun x h1 h2 => ?_, fun x h1 h2 y hy => ?_, fun h => ?_⟩
 · rw [<- hb]
   exact List.any_eq_true.2 ⟨x, List.mem_of_getElem? h1, h2⟩
 · rw [List.take_add_one, h1] at hy
   simp at hy
   rcases hy with hy | rfl
   · exact ht y hy
   · exact h2
 · rw [<- hb]
   rw [List.take_of_length_le h] at ht
   cases ha : ls.any loopB with
   | false => rfl
   | true =>
    obtain ⟨x, hx, hl⟩ := List.any_eq_true.1 ha
    rw [ht x hx] at hl
    cases hl
theorem indexFunc_any (ls : List (List UInt8)) (A : Option Addr) (c : Nat) (w : World) (hn : ls.length <= 1000000) (hx : SCells w A ls) :
 Calls Tryz.prog 218 #[.slice A ls.length c, .func (.func 174) #[] #[]] w fun e w' => (∃ x : Int, e = .returned (.int .i64 x) /\ decide (0 <= x) = ls.any loopB) /\ Below w.heap.size w w' := by
 generalize hb : ls.any loopB = b
 have HX := Lib.hid hx
 have HBB := Lib.hid (any_step hb)
 have HL : Hid (∀ (s : List UInt8) (w : World), Calls Tryz.prog 174 #[.string (St s)] w fun e w' => e = .returned (.bool (loopB s)) /\ Below w.heap.size w w') := fun s w => isLoopName_all s w
 clear hx hb
 generalize hN : ls.length = n at *
 have HN := Lib.hid hN
 clear hN
 go_enter Tryz.func218, Tryz.ntmps218
 go_wp2
 go_loopg [5, 8] n (fun m v5 v8 wr => ∃ k : Nat, v8 = .int .i64 k /\ Hid (m + k = n /\ ∀ x ∈ ls.take k, loopB x = false) /\ Hid (Below w.heap.size w wr))
 case atStart => exact ⟨0, rfl, ⟨rfl, by simp⟩, Below.refl _ _⟩
 case round =>
  obtain ⟨k, rfl, HK, HB⟩ := hrel
  obtain ⟨hk, htk⟩ := HK.out
  cases gk with
  | zero =>
   have h1 : decide (k < n) = false := decide_eq_false (by omega)
   have hbt := (HBB.out k (by first | omega | (rw [HN.out]; omega)) htk).2.2 (by first | omega | (rw [HN.out]; omega))
   subst hbt
   clear hk htk HK
   go_wp2
   go_ret
   exact ⟨⟨-1, rfl, by decide⟩, HB.out⟩
  | succ m =>
   have h1 : decide (k < n) = true := decide_eq_true (by omega)
   have hkn : k < n := by omega
   have hxs : k < ls.length := by rw [HN.out]; exact hkn
   obtain ⟨x, hx⟩ : ∃ x, ls[k]? = some x := ⟨_, List.getElem?_eq_getElem hxs⟩
   have hcx := HX.out.up HB.out
   rcases hcx with hcx | ⟨gx, ox, rfl, hcx⟩
   · rw [hcx] at hx; cases hx
   have d1 := hcx k x hx
   have HLX := Lib.hid (HL.out x)
   clear hcx
   cases hxe : loopB x with
   | true =>
    rw [hxe] at HLX
    have hb := (HBB.out k (by omega) htk).1 x hx hxe
    subst hb
    clear hk htk HK hxs hx hxe
    go_wp2_with (go_at_call 174; refine (HLX.out _).mono ?_; rintro e w2 ⟨rfl, hb2⟩; have HB2 := Lib.hid (up_trans HB.out hb2); clear hb2)
    go_ret
    exact ⟨⟨k, rfl, by simp⟩, HB2.out⟩
   | false =>
    rw [hxe] at HLX
    have HK2 : Hid (m + ((k + 1 : Nat)) = n /\ ∀ y ∈ ls.take (k + 1), loopB y = false) := ⟨by omega, (HBB.out k (by omega) htk).2.1 x hx hxe⟩
    clear hk htk HK hxs hx hxe
    go_wp2_with (go_at_call 174; refine (HLX.out _).mono ?_; rintro e w2 ⟨rfl, hb2⟩; have HB2 := Lib.hid (up_trans HB.out hb2); clear hb2)
    go_roundg m
    case measure => omega
    case rel => exact ⟨k + 1, rfl, HK2, HB2.out⟩
theorem containsFunc_any (ls : List (List UInt8)) (A : Option Addr) (c : Nat) (w : World) (hn : ls.length <= 1000000) (hx : SCells w A ls) :
 Calls Tryz.prog 184 #[.slice A ls.length c, .func (.func 174) #[] #[]] w fun e w' => e = .returned (.bool (ls.any loopB)) /\ Below w.heap.size w w' := by
 have H := Lib.hid (indexFunc_any ls A c w hn hx)
 clear hx hn
 generalize ls.any loopB = b at *
 generalize ls.length = n at *
 go_enter Tryz.func184, Tryz.ntmps184
 go_wp2_with (go_at_call 218; refine H.out.mono ?_; rintro e w1 ⟨⟨x, rfl, hxb⟩, hb1⟩; have HB1 := Lib.hid hb1; clear hb1)
 go_ret
 exact ⟨rfl, HB1.out⟩
theorem isClosed_any (n : NT) (hok : n.ok) (hn : n.atoms <= 900) (w : World) (p : Option Addr) (hp : TyAt w (n.db []) p) :
 Calls Tryz.prog 150 #[.pointer p] w fun e w' => e = .returned (.bool (!n.names.any loopB)) /\ Below w.heap.size w w' := by
 have h := names_any (n.db []) w p hp (by rw [NT.db_atoms]; exact hn)
 rw [names_fr n [] [] hok (by simp)] at h
 have H : Hid (Calls Tryz.prog 175 #[.pointer p] w (LPost w n.names)) := h
 have hl := names_len n
 have HCF : Hid (∀ (w1 : World) A c, SCells w1 A n.names -> Calls Tryz.prog 184 #[.slice A n.names.length c, .func (.func 174) #[] #[]] w1 fun e w' => e = .returned (.bool (n.names.any loopB)) /\ Below w1.heap.size w1 w') := fun w1 A c h => containsFunc_any n.names A c w1 (by omega) h
 clear h hp hl hn hok
 generalize n.names = ls at *
 generalize ls.any loopB = b at *
 go_enter Tryz.func150, Tryz.ntmps150
 go_wp2_with (first
  | (go_at_call 175; refine H.out.mono ?_; rintro e w1 ⟨hb1, g, c, rfl, ho⟩; have HB1 := Lib.hid hb1; have HO := Lib.hid ho; clear hb1 ho)
  | (go_at_call 184; refine (HCF.out _ _ _ HO.out.reads).mono ?_; rintro e w2 ⟨rfl, hb2⟩; have HB2 := Lib.hid (up_trans HB1.out hb2); clear hb2))
 go_ret
 exact ⟨rfl, HB2.out⟩
def closedOf : Option NT -> Bool
 | none => false
 | some n => !n.names.any loopB
theorem own_new2 (w : World) (o : Obj) (B : Nat) (h : B <= w.heap.size + 2) : SOwn (((w.alloc o).alloc (.cells #[] 9)).alloc (.cells #[] 9)) B [] (w.heap.size + 2) 0 := by
 have e : ((w.alloc o).alloc (.cells #[] 9)).heap.size = w.heap.size + 2 := by simp
 have := SOwn.new ((w.alloc o).alloc (.cells #[] 9)) B (by rw [e]; exact h) [] (by simp)
 rw [e] at this
 exact this
theorem l1Closed_none (s : ByteArray) (w : World) (hs : s.size <= 9223372036854775807) (h : rdTy s.data.toList = none) : Calls Tryz.prog 48 #[.string s] w (STPost w none) := by
 have hc : ∀ w, Calls Tryz.prog 102 #[.string s] w (fun e w' => Below w.heap.size w w' /\ ∃ x A n c, e = .returned (.tuple #[.agg #[.string x, .slice A n c], .bool false])) := fun w => by
  have := l1Type_any s w hs
  rw [h] at this
  exact this
 have HCALL := Lib.hid hc
 clear hc hs h
 go_enter Tryz.func48, Tryz.ntmps48
 go_wp2_with (go_at_call 102; refine (HCALL.out _).mono ?_; rintro e w1 ⟨hb1, x, A, n, c, rfl⟩; have g0 : w1.heap[w.heap.size]? = some (.cells #[.string (St []), .slice none 0 0] 59 (0, 0)) := block_up hb1 (block_new w _); have c0 : w1.cell? ⟨w.heap.size, 0, none⟩ = some (.string (St [])) := block_cell g0 0; have c1 : w1.cell? ⟨w.heap.size, 1, none⟩ = some (.slice none 0 0) := block_cell g0 1; have f0 := block_free g0 0; have f1 := block_free g0 1; have l0 := lt_of_block g0; have HB1 := Lib.hid (up_trans (up1 w _) hb1); clear hb1 g0)
 refine bodyPost_ret (v := .tuple #[.agg #[.string x, .slice A n c], .bool false]) (by simp [results, Tryz.results48, go_sem, c0, c1, l0]) rfl ?_
 exact ⟨by repeat (first | exact HB1.out | refine up_drew ?_ | refine up_alloc ?_ _ | refine set0 ?_ (Nat.le_refl _)), _, _, _, _, rfl⟩
theorem l1Closed_some (s : ByteArray) (w : World) (hs : s.size <= 9223372036854775807) (n : NT) (h : rdTy s.data.toList = some n) :
 Calls Tryz.prog 48 #[.string s] w (fun e w' => Below w.heap.size w w' /\ ∃ x A n' c, e = .returned (.tuple #[.agg #[.string x, .slice A n' c], .bool (!n.names.any loopB)]) /\ TAt w' (fun k => w.heap.size < k) n.toTr (.agg #[.string x, .slice A n' c])) := by
 have hc : ∀ w, Calls Tryz.prog 102 #[.string s] w (fun e w' => Below w.heap.size w w' /\ ∃ x A n' c, e = .returned (.tuple #[.agg #[.string x, .slice A n' c], .bool true]) /\ TAt w' (fun k => w.heap.size <= k) n.toTr (.agg #[.string x, .slice A n' c])) := fun w => by
  have := l1Type_any s w hs
  rw [h] at this
  exact this
 obtain ⟨hok, hat⟩ := rdTy_some h
 have HCALL := Lib.hid hc
 have hnl := names_len n
 have HF : Hid (∀ (w1 : World) (x : ByteArray) A n' c, TAt w1 (fun _ => True) n.toTr (.agg #[.string x, .slice A n' c]) -> Calls Tryz.prog 103 #[.agg #[.string x, .slice A n' c], .slice (some ⟨w1.heap.size + 1, 0, none⟩) 0 0, .slice (some ⟨w1.heap.size + 2, 0, none⟩) 0 0] (((w1.alloc (.cells #[.string x, .slice A n' c] 59)).alloc (.cells #[] 9)).alloc (.cells #[] 9)) fun e w2 => ∃ g c3, e = .returned (.slice (some ⟨g, 0, none⟩) n.names.length c3) /\ SCells w2 (some ⟨g, 0, none⟩) n.names /\ Below (w1.heap.size + 1) ((w1.alloc (.cells #[.string x, .slice A n' c] 59))) w2) := fun w1 x A n' c ht => by
  refine (l1Free_any n hok _ _ (some ⟨w1.heap.size + 1, 0, none⟩) 0 [] (w1.heap.size + 2) (w1.heap.size + 2) 0 [] (((ht.up (up1 _ _)).up (up1 _ _)).up (up1 _ _)) (.inl rfl) (own_new2 w1 _ _ (by omega)) (by simp) (by simp; omega) (by simp; omega)).mono ?_
  rintro e w2 ⟨g, c2, he, ho, hg, _⟩
  refine ⟨g, c2, he, ho.reads, ?_⟩
  have hb0 : Below (w1.heap.size + 1) (w1.alloc (.cells #[.string x, .slice A n' c] 59)) (((w1.alloc (.cells #[.string x, .slice A n' c] 59)).alloc (.cells #[] 9)).alloc (.cells #[] 9)) := ((Below.refl _ _).alloc (by simp) _).alloc (by simp) _
  have := hb0.grown hg (by simp) (fun k hk => by cases hk; omega)
  exact this
 generalize hb : n.names.any loopB = b
 have HBB := Lib.hid (any_step hb)
 have HL : Hid (∀ (s : List UInt8) (w : World), Calls Tryz.prog 104 #[.string (St s)] w fun e w' => e = .returned (.bool (loopB s)) /\ w = w') := fun s w => l1Loop_any (St s) w
 have hln : n.names.length <= 1000 := by omega
 clear hc hs h hok hat hnl hb
 generalize n.toTr = tr at *
 generalize n.names = ls at *
 generalize hN : ls.length = len at *
 have HN := Lib.hid hN
 clear hN
 go_enter Tryz.func48, Tryz.ntmps48
 go_wp2_with (first
  | (go_at_call 102; refine (HCALL.out _).mono ?_; rintro e w1 ⟨hb1, x, A, n, c, rfl, hv⟩; have HV := Lib.hid hv; have g0 : w1.heap[w.heap.size]? = some (.cells #[.string (St []), .slice none 0 0] 59 (0, 0)) := block_up hb1 (block_new w _); have G0 := Lib.hid g0; have HB1 := Lib.hid (up_trans (up1 w _) hb1); clear hb1 g0 hv)
  | (go_at_call 103; (refine (HF.out _ _ _ _ _ (HV.out.weak fun _ _ => trivial)).mono ?_; rintro e w2 ⟨g, c2, rfl, hcells, hb2⟩; have g0 : w2.heap[w.heap.size]? = some (.cells #[.string (St []), .slice none 0 0] 59 (0, 0)) := (hb2.block _ (by have := lt_of_block G0.out; omega)).trans (block_alloc G0.out _); have g1 : w2.heap[w1.heap.size]? = some (.cells #[.string x, .slice A n c] 59 (0, 0)) := (hb2.block _ (by omega)).trans (block_new w1 _); have c0 : w2.cell? ⟨w.heap.size, 0, none⟩ = some (.string (St [])) := block_cell g0 0; have c1 : w2.cell? ⟨w.heap.size, 1, none⟩ = some (.slice none 0 0) := block_cell g0 1; have f0 := block_free g0 0; have f1 := block_free g0 1; have l0 := lt_of_block g0; have k0 : w2.cell? ⟨w1.heap.size, 0, none⟩ = some (.string x) := block_cell g1 0; have k1 : w2.cell? ⟨w1.heap.size, 1, none⟩ = some (.slice A n c) := block_cell g1 1; have l1 := lt_of_block g1; have l01 : w.heap.size < w1.heap.size := lt_of_block G0.out; have HCE := Lib.hid hcells; have HB2 : Hid (Below w.heap.size w w2) := Below.trans (up_alloc HB1.out _) (hb2.mono (by omega)); have HV2 : Hid (TAt w2 (fun k => w.heap.size < k) tr (.agg #[.string x, .slice A n c])) := HV.out.move (fun k hk ho => ⟨by (have ho' : w.heap.size + 1 <= k := by simpa using ho); omega, (hb2.block k (by omega)).trans ((up1 w1 _).block k hk)⟩); clear hcells hb2 g0 g1)))
 go_loopg [7] len (fun m v7 wr => ∃ k : Nat, v7 = .int .i64 k /\ wr = w2 /\ Hid (m + k = len /\ ∀ x ∈ ls.take k, loopB x = false))
 case atStart => exact ⟨0, rfl, rfl, rfl, by simp⟩
 case round =>
  obtain ⟨k, rfl, rfl, HK⟩ := hrel
  obtain ⟨hk, htk⟩ := HK.out
  have HFIN : Hid (Below w.heap.size w ((wr.setCell ⟨w.heap.size, 0, none⟩ (.string x)).setCell ⟨w.heap.size, 1, none⟩ (.slice A n c)) /\ TAt ((wr.setCell ⟨w.heap.size, 0, none⟩ (.string x)).setCell ⟨w.heap.size, 1, none⟩ (.slice A n c)) (fun k => w.heap.size < k) tr (.agg #[.string x, .slice A n c])) :=
   ⟨set0 (set0 HB2.out (Nat.le_refl _)) (Nat.le_refl _), HV2.out.move fun k hk hok => ⟨hok, by
    rw [Below.heap_setCell _ ⟨w.heap.size, 1, none⟩ _ k (by show k ≠ w.heap.size; omega), Below.heap_setCell _ ⟨w.heap.size, 0, none⟩ _ k (by show k ≠ w.heap.size; omega)]⟩⟩
  cases gk with
  | zero =>
   have h1 : decide (k < len) = false := decide_eq_false (by omega)
   have hbt := (HBB.out k (by first | omega | (rw [HN.out]; omega)) htk).2.2 (by first | omega | (rw [HN.out]; omega))
   subst hbt
   clear hk htk HK
   go_wp2
   refine bodyPost_ret (v := .tuple #[.agg #[.string x, .slice A n c], .bool true]) (by simp [results, Tryz.results48, go_sem, c0, c1, l0]) rfl ?_
   exact ⟨HFIN.out.1, _, _, _, _, rfl, HFIN.out.2⟩
  | succ m =>
   have h1 : decide (k < len) = true := decide_eq_true (by omega)
   have hkn : k < len := by omega
   have hxs : k < ls.length := by rw [HN.out]; exact hkn
   obtain ⟨y, hy⟩ : ∃ y, ls[k]? = some y := ⟨_, List.getElem?_eq_getElem hxs⟩
   rcases HCE.out with hcx | ⟨gx, ox, hxe, hcx⟩
   · rw [hcx] at hy; cases hy
   cases hxe
   have d1 : wr.cell? ⟨g, k, none⟩ = some (.string (St y)) := by have := hcx k y hy; rwa [Nat.zero_add] at this
   have HLX := Lib.hid (HL.out y)
   clear hcx
   cases hye : loopB y with
   | true =>
    rw [hye] at HLX
    have hb := (HBB.out k (by omega) htk).1 y hy hye
    subst hb
    clear hk htk HK hxs hy hye
    go_wp2_with (go_at_call 104; refine (HLX.out _).mono ?_; rintro e w' ⟨rfl, rfl⟩)
    refine bodyPost_ret (v := .tuple #[.agg #[.string x, .slice A n c], .bool false]) (by simp [results, Tryz.results48, go_sem, c0, c1, l0]) rfl ?_
    exact ⟨HFIN.out.1, _, _, _, _, rfl, HFIN.out.2⟩
   | false =>
    rw [hye] at HLX
    have HK2 : Hid (m + ((k + 1 : Nat)) = len /\ ∀ y ∈ ls.take (k + 1), loopB y = false) := ⟨by omega, (HBB.out k (by omega) htk).2.1 y hy hye⟩
    clear hk htk HK hxs hy hye
    go_wp2_with (go_at_call 104; refine (HLX.out _).mono ?_; rintro e w' ⟨rfl, rfl⟩)
    go_roundg m
    case measure => omega
    case rel => exact ⟨k + 1, rfl, rfl, HK2⟩
end Go.Proofs.YtpokompplapkhaaGreatDoor
namespace Go.Proofs.YtpokompplapkhaaGreatDoor
set_option maxHeartbeats 8000000
set_option maxRecDepth 100000
open Go.RowKit
set_option linter.unusedVariables false
set_option linter.unusedSimpArgs false
def Ty.scoped : Ty -> Nat -> Prop
 | .bound j, k => j < k
 | .sum a b, k => a.scoped k /\ b.scoped k
 | .prod a b, k => a.scoped k /\ b.scoped k
 | .loop a, k => a.scoped (k + 1)
 | _, _ => True
theorem look_lt {s : List UInt8} : ∀ {env : List (List UInt8)} {k : Nat}, look s env = some k -> k < env.length
 | [], k, h => by simp [look] at h
 | e :: r, k, h => by
  rw [look] at h
  split at h
  · cases h; simp
  · cases hl : look s r with
    | none => rw [hl] at h; simp at h
    | some j =>
     rw [hl] at h
     simp at h
     have := look_lt hl
     simp
     omega
theorem db_scoped : ∀ (n : NT) (env : List (List UInt8)), (n.db env).scoped env.length
 | .zero, _ => trivial
 | .one, _ => trivial
 | .name s, env => by
  simp only [NT.db]
  split
  · trivial
  · cases hl : look s env with
    | none => trivial
    | some k => exact look_lt hl
 | .sum a b, env => ⟨db_scoped a env, db_scoped b env⟩
 | .prod a b, env => ⟨db_scoped a env, db_scoped b env⟩
 | .loop s a, env => db_scoped a (s :: env)
end Go.Proofs.YtpokompplapkhaaGreatDoor

