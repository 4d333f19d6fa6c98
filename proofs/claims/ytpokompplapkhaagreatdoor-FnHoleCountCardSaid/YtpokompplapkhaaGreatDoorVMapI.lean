/- The program's ValueOf. -/
import Derived.Test.YtpokompplapkhaaGreatDoorMapE
import Derived.Test.YtpokompplapkhaaGreatDoorMF
import Derived.Test.YtpokompplapkhaaGreatDoorME
namespace Go.Proofs.YtpokompplapkhaaGreatDoor
set_option maxHeartbeats 4000000
set_option maxRecDepth 100000
open Go.RowKit
set_option linter.unusedVariables false
set_option linter.unusedSimpArgs false
theorem NI.up2 {w0 w w' : World} {b : Nat} {ls : List (List UInt8)} (h : NI w0 b ls w) (hb : Below w.heap.size w w') : NI w0 b ls w' := by
 obtain ⟨h1, h2, g, c, h3, h4⟩ := h
 exact ⟨up_trans h1 hb, h2, g, c, block_up hb h3, h4.up hb⟩
theorem valueOf_clo (w0 : World) (b : Nat) (ls : List (List UInt8)) (hl : ls.length < 1000000) (s : List UInt8) (w : World) (hi : NI w0 b ls w) :
 Calls Tryz.prog 75 #[.string (St s), .pointer (some ⟨b, 0, none⟩)] w fun e w' => e = .returned (.string (St s)) /\ NI w0 b (ls ++ [s]) w' /\ Kp w w' := by
 obtain ⟨i0, hi0, hz0, hz1, hz2⟩ := info_parts Tryz.infoStr
 obtain ⟨h1, h2, g, c, h3, h4⟩ := hi
 have d2 : w.cell? ⟨b, 0, none⟩ = some (.slice (some ⟨g, 0, none⟩) ls.length c) := block_cell h3 0
 have d3 := block_free h3 0
 have l2 := lt_of_block h3
 have hgb : g ≠ b := by
  rintro rfl
  rcases h4.2 with ⟨h5, _⟩ | ⟨g', cap, cur, h5, _, hh, _⟩
  · cases h5
  · cases h5
    rw [h3] at hh
    simp at hh
 have HO : Hid (∀ w', Below w.heap.size w w' -> w'.ownsRow w0.heap.size 9 1 (.slice (some ⟨g, 0, none⟩) ls.length c) ls.length (strs ls) /\ w0.heap.size <= w'.heap.size) := fun w' hb => ⟨own_up h4 hb, Nat.le_trans h1.size hb.size⟩
 have HAF : Hid (∀ w1 w2, Below w.heap.size w w1 -> w1.grownBy w2 (some g) -> w2.cell? ⟨b, 0, none⟩ = some (.slice (some ⟨g, 0, none⟩) ls.length c) /\ w2.frozen? ⟨b, 0, none⟩ = false /\ b < w2.heap.size) := fun w1 w2 hb hg => by
  have hb1 := block_up hb h3
  have hlt1 := lt_of_block hb1
  have hb2 : w2.heap[b]? = some (.cells #[.slice (some ⟨g, 0, none⟩) ls.length c] 38 (0, 0)) := (hg.block b hlt1 (by simp; exact fun h => hgb h.symm)).trans hb1
  exact ⟨block_cell hb2 0, block_free hb2 0, lt_of_block hb2⟩
 have HFIN : Hid (∀ w1 w2 g2 c2, Below w.heap.size w w1 -> w1.grownBy w2 (some g) -> (g2 = g \/ w1.heap.size <= g2) -> w2.ownsRow w0.heap.size 9 1 (.slice (some ⟨g2, 0, none⟩) (ls.length + 1) c2) (ls.length + 1) (strs ls ++ [.string (St s)]) -> NI w0 b (ls ++ [s]) (w2.setCell ⟨b, 0, none⟩ (.slice (some ⟨g2, 0, none⟩) (ls.length + 1) c2)) /\ Kp w (w2.setCell ⟨b, 0, none⟩ (.slice (some ⟨g2, 0, none⟩) (ls.length + 1) c2))) := fun w1 w2 g2 c2 hb hg hat ho => by
  have hb1 := block_up hb h3
  have hlt1 := lt_of_block hb1
  have hb2 : w2.heap[b]? = some (.cells #[.slice (some ⟨g, 0, none⟩) ls.length c] 38 (0, 0)) := (hg.block b hlt1 (by simp; exact fun h => hgb h.symm)).trans hb1
  have hg2 : g2 ≠ b := by omega
  have hgg := h4.lt.1
  have hbel : Below w0.heap.size w0 w2 := (up_trans h1 hb).grown hg (up_trans h1 hb).size (fun k hk => by cases hk; exact hgg)
  have hso : SOwn w2 w0.heap.size (ls ++ [s]) g2 c2 := SOwn.of ho (by simp) (by simp [strs])
  have ks : ∀ e, e ≠ 9 -> e ≠ 38 -> Keeps e w (w2.setCell ⟨b, 0, none⟩ (.slice (some ⟨g2, 0, none⟩) (ls.length + 1) c2)) := fun e k1 k2 => ((Keeps.up hb).trans (Keeps.grown (own_up h4 hb) hg k1)).trans (Keeps.set_ (a := ⟨b, 0, none⟩) hb2 k2 _)
  refine ⟨⟨set0 hbel h2, h2, g2, c2, ?_, ?_⟩, ⟨ks _ (by decide) (by decide), ks _ (by decide) (by decide), ks _ (by decide) (by decide), ks _ (by decide) (by decide), ks _ (by decide) (by decide)⟩⟩
  · have := one_setCell hb2 (u := .slice (some ⟨g2, 0, none⟩) (ls.length + 1) c2)
    simpa using this
  · exact ownsRow_setCell_other hso (by simp [Value.ownBlock]; exact hg2) _
 clear h1 h2 h3 h4 hgb
 generalize ls.length = n at *
 generalize strs ls = es at *
 go_enter Tryz.func75, Tryz.ntmps75
 go_wp2_with (at_builtin; refine wpList_append_row _ rfl _ _ 38 rfl w0.heap.size 9 i0 (.string ⟨#[]⟩) 16 Tryz.underlying38 hi0 hz0 hz1 hz2 rfl g n c es rfl (HO.out _ (up1 w _)).1 (some ⟨w.heap.size, 0, none⟩) 1 1 [.string (St s)] rfl rfl (row_one (block_cell (block_new w _) 0)) (by simp [Value.oneCell']) (by omega) (by decide) (HO.out _ (up1 w _)).2 (n + 1) rfl (es ++ [.string (St s)]) rfl ?_; intro g2 c2 w2 hown hgrow hbel hat; obtain ⟨q1, q2, q3⟩ := HAF.out _ w2 (up1 w _) hgrow; have HF2 := Lib.hid (HFIN.out _ w2 g2 c2 (up1 w _) hgrow (by simpa using hat) hown); clear hown hgrow hbel hat)
 go_ret
 exact ⟨rfl, HF2.out⟩
def voB (l v nm : List UInt8) : Option (List (List UInt8)) := match valsOf l v 100 with
 | some (N, x) => if paramB nm = true then some (x.atE [] (N.db []) nm) else none
 | none => none
def VLPost (w : World) (o : Option (List (List UInt8))) (e : Ending) (w' : World) : Prop :=
 Below w.heap.size w w' /\ match o with
  | none => ∃ A c, e = .returned (.tuple #[.slice A 0 c, .bool false])
  | some v => ∃ g c, e = .returned (.tuple #[.slice (some ⟨g, 0, none⟩) v.length c, .bool true]) /\ SOwn w' w.heap.size v g c
theorem ValueOf_any (s v nm : ByteArray) (w : World) (hs : s.size <= 9223372036854775807) (hv : v.size <= 9223372036854775807) (hn : nm.size <= 9223372036854775807) :
 Calls Tryz.prog 30 #[.string s, .string v, .string nm] w (VLPost w (voB s.data.toList v.data.toList nm.data.toList)) := by
 have H := valueOf_any s v 100 w hs hv
 have HP := Lib.hid fun w1 => isParameter_any nm w1 hn
 have hsome := fun N x h => valsOf_some (l := s.data.toList) (v := v.data.toList) (n := 100) (N := N) (x := x) h
 have hxok := fun x h => rdVal_ok (l := v.data.toList) (v := x) h
 have hxn := fun x h => rdVal_nodes (l := v.data.toList) (v := x) h
 have hNN := fun N h => clTy_some (l := s.data.toList) (N := N) h
 unfold voB
 have HNONE : Hid (∀ w' , Below w.heap.size w w' -> VLPost w none (.returned (.tuple #[.slice none 0 0, .bool false])) w') := fun w' hb => ⟨hb, _, _, rfl⟩
 clear hs hv hn
 cases ho : valsOf s.data.toList v.data.toList 100 with
 | none =>
  rw [ho] at H
  have HV : Hid (Calls Tryz.prog 51 #[.string s, .string v, .int .i64 100] w fun e w' => Below w.heap.size w w' /\ ∃ p, e = .returned (.tuple #[.pointer p, .pointer none])) := H
  show Calls _ _ _ _ (VLPost w none)
  generalize VLPost w none = Q at *
  clear H hsome hxok hxn hNN ho
  go_enter Tryz.func30, Tryz.ntmps30
  go_wp2_with (go_at_call 51; refine HV.out.mono ?_; rintro e w1 ⟨hb1, p1, rfl⟩; have HB1 := Lib.hid hb1; clear hb1)
  exact HNONE.out _ HB1.out
 | some q =>
  obtain ⟨N, x⟩ := q
  obtain ⟨hc, hr, _, _, hty⟩ := hsome N x ho
  have hok := hxok x hr
  have hnd := hxn x hr
  obtain ⟨_, hNo, hNa, _⟩ := hNN N hc
  rw [ho] at H
  have HV : Hid (Calls Tryz.prog 51 #[.string s, .string v, .int .i64 100] w fun e w' => Below w.heap.size w w' /\ ∃ g q, e = .returned (.tuple #[.pointer (some ⟨g, 0, none⟩), .pointer (some ⟨q, 0, none⟩)]) /\ TyAt w' (N.db []) (some ⟨g, 0, none⟩) /\ VAt w' x (some ⟨q, 0, none⟩)) := H
  cases hp : paramB nm.data.toList with
  | false =>
   rw [hp] at HP
   show Calls _ _ _ _ (VLPost w none)
   generalize VLPost w none = Q at *
   clear H hsome hxok hxn hNN ho hok hnd hNo hNa hc hr hty hp
   go_enter Tryz.func30, Tryz.ntmps30
   go_wp2_with (first
    | (go_at_call 51; refine HV.out.mono ?_; rintro e w1 ⟨hb1, g1, q1, rfl, _, _⟩; have HB1 := Lib.hid hb1; clear hb1)
    | (go_at_call 52; refine (HP.out _).mono ?_; rintro e w2 ⟨rfl, hb2⟩; have HB2 := Lib.hid (up_trans HB1.out hb2); clear hb2))
   exact HNONE.out _ HB2.out
  | true =>
   rw [hp] at HP
   have HM : Hid (∀ w1 b p q, TyAt w1 (N.db []) p -> VAt w1 x q -> NI w b [] w1 -> Calls Tryz.prog 74 #[.agg #[.pointer p, .pointer none], .pointer q, .string nm, .func (.func 75) #[] #[.pointer (some ⟨b, 0, none⟩)]] w1 fun e w' => ∃ g, e = .returned (.pointer g) /\ NI w b (x.atE [] (N.db []) nm.data.toList) w') := fun w1 b p q h1 h2 h3 => by
    have := mapV_any (fun acc w1 => NI w b acc w1) (fun acc w1 w2 h hb => h.up2 hb) (fun s => s) nm.data.toList (some ⟨b, 0, none⟩) 100 (fun s acc w1 hs hl hi => valueOf_clo _ b acc hl s w1 hi) _ x (Nat.le_refl _) (N.db []) [] w1 p none q [] h3 h1 rfl h2 (db_scoped N []) (scoped_bs _ 0 (db_scoped N []) (by rw [NT.db_atoms]; omega)) EnvG.nil hok hty (by simp; omega)
    refine this.mono ?_
    rintro e w' ⟨g, he, _, hi, _⟩
    exact ⟨_, he, by simpa using hi⟩
   have HQ : Hid (∀ w' b, NI w b (x.atE [] (N.db []) nm.data.toList) w' -> ∃ g c, w'.cell? ⟨b, 0, none⟩ = some (.slice (some ⟨g, 0, none⟩) (x.atE [] (N.db []) nm.data.toList).length c) /\ VLPost w (some (x.atE [] (N.db []) nm.data.toList)) (.returned (.tuple #[.slice (some ⟨g, 0, none⟩) (x.atE [] (N.db []) nm.data.toList).length c, .bool true])) w') := fun w' b ⟨h1, h2, g, c, h3, h4⟩ => ⟨g, c, block_cell h3 0, h1, g, c, rfl, h4⟩
   have HNI : Hid (∀ w1, Below w.heap.size w w1 -> NI w (w1.heap.size + 1) [] ((w1.alloc (.cells #[] 9)).alloc (.cells #[.slice (some ⟨w1.heap.size, 0, none⟩) 0 0] 38))) := fun w1 hb => ⟨up_alloc (up_alloc hb _) _, by have := hb.size; omega, w1.heap.size, 0, new2 w1 _ _, (SOwn.up (own_nil w1 _ hb.size 9) (up1 _ _))⟩
   show Calls _ _ _ _ (VLPost w (some (x.atE [] (N.db []) nm.data.toList)))
   generalize x.atE [] (N.db []) nm.data.toList = out at *
   generalize VLPost w (some out) = Q at *
   clear H hsome hxok hxn hNN ho hok hnd hNo hNa hc hr hty hp HNONE
   generalize out.length = m at *
   go_enter Tryz.func30, Tryz.ntmps30
   go_wp2_with (first
    | (go_at_call 51; refine HV.out.mono ?_; rintro e w1 ⟨hb1, g1, q1, rfl, ht1, hv1⟩; have HB1 := Lib.hid hb1; have HT1 := Lib.hid ht1; have HV1 := Lib.hid hv1; clear hb1 ht1 hv1)
    | (go_at_call 52; refine (HP.out _).mono ?_; rintro e w2 ⟨rfl, hb2⟩; have HB2 := Lib.hid (up_trans HB1.out hb2); have HT2 := Lib.hid ((HT1.out.up hb2).up (up_alloc (up1 w2 (.cells #[] 9)) (.cells #[.slice (some ⟨w2.heap.size, 0, none⟩) 0 0] 38))); have HV2 := Lib.hid ((HV1.out.up hb2).up (up_alloc (up1 w2 (.cells #[] 9)) (.cells #[.slice (some ⟨w2.heap.size, 0, none⟩) 0 0] 38))); clear hb2)
    | (go_at_call 74; (with_reducible refine (HM.out _ _ _ _ HT2.out HV2.out (HNI.out _ HB2.out)).mono ?_); rintro e w3 ⟨g3, rfl, hi3⟩; obtain ⟨g4, c4, q4, hq4⟩ := HQ.out _ _ hi3; have HQ4 := Lib.hid hq4; clear hi3 hq4))
   exact HQ4.out
end Go.Proofs.YtpokompplapkhaaGreatDoor

