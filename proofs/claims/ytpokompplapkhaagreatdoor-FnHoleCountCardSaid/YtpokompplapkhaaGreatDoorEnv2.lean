/- The reference's l2Enter and l2Find. -/
import Derived.Test.YtpokompplapkhaaGreatDoorEnv
namespace Go.Proofs.YtpokompplapkhaaGreatDoor
set_option maxHeartbeats 8000000
set_option maxRecDepth 100000
open Go.RowKit
set_option linter.unusedVariables false
set_option linter.unusedSimpArgs false
theorem Tryz.infoEnv : (Tryz.prog.info? 208).map (fun i => (i.zero, i.size, i.bytes)) = some (some (.agg #[.string ⟨#[]⟩, .string ⟨#[]⟩, .slice none 0 0, .slice none 0 0]), 4, 80) := by kernel_rfl
theorem own_heapS {W W' : World} {B sz : Nat} {e : TypeId} {v : Value} {n : Nat} {xs : List Value} (h : W.heap = W'.heap) (ho : W.ownsRow B e sz v n xs) : W'.ownsRow B e sz v n xs := by
 obtain ⟨h1, h2⟩ := ho
 refine ⟨h1, ?_⟩
 rw [<- h]
 exact h2
theorem own_nilsH (w : World) (B sz : Nat) (hB : B <= w.heap.size) (hs : 0 < sz) (e : TypeId) (H : Nat) (hH : w.heap.size = H) : (w.alloc (.cells #[] e)).ownsRow B e sz (.slice (some ⟨H, 0, none⟩) 0 0) 0 [] := hH ▸ own_nils w B sz hB hs e
theorem row_four {w : World} {k : Nat} {a b c d : Value} {t : TypeId} {fr : Nat × Nat} (h : w.heap[k]? = some (.cells #[a, b, c, d] t fr)) : RCells w (some ⟨k, 0, none⟩) [a, b, c, d] :=
 .inr ⟨k, 0, rfl, fun j u hu => by
  rw [Nat.zero_add, block_cell h j]
  simpa using hu⟩
theorem cell_box {w : World} {b k i : Nat} (h : ¬ k = b) (x y : Value) : ((w.setCell ⟨b, 0, none⟩ x).setCell ⟨b, 1, none⟩ y).cell? ⟨k, i, none⟩ = w.cell? ⟨k, i, none⟩ := by
 have h1 := Below.heap_setCell (w.setCell ⟨b, 0, none⟩ x) ⟨b, 1, none⟩ y k h
 have h2 := Below.heap_setCell w ⟨b, 0, none⟩ x k h
 simp only [World.cell?]
 rw [h1, h2]
theorem EnvAt.enter {w w1 : World} {env : List (List UInt8 × NT)} {A : Option Addr} {x : List UInt8} {a : NT} {bl o c' cA g3 c3 B : Nat} {news : List Value} (hb : Below w.heap.size w w1) (he : EnvAt w env A) (hp : TAt w (fun _ => True) (NT.loop x a).toTr (.agg #[.string (St []), .slice (some ⟨bl, o, none⟩) 3 c']))
 (hn : news.length = env.length * 4) (hnc : ∀ (w1 : World) (g2 : Nat) (cs2 : Array Value) (fr2 : Nat × Nat), Below w.heap.size w w1 -> w1.heap[g2]? = some (.cells cs2 208 fr2) -> (∀ (j : Nat) (u : Value), news[j]? = some u -> cs2[j]? = some u) -> EnvAt w1 env (some ⟨g2, 0, none⟩))
 (ho : w1.ownsRow B 208 4 (.slice (some ⟨g3, 0, none⟩) (env.length + 1) c3) (env.length + 1) (news ++ [.string (St x), .string (St []), .slice (some ⟨bl, o, none⟩) 3 c', .slice A env.length cA])) : EnvAt w1 ((x, .loop x a) :: env) (some ⟨g3, 0, none⟩) := by
 rcases ho.2 with ⟨h1, _⟩ | ⟨g', cap, cur, h1, _, hblk, _, _, _, htk⟩
 · cases h1
 · cases h1
   have hget : ∀ j u, (news ++ [.string (St x), .string (St []), .slice (some ⟨bl, o, none⟩) 3 c', .slice A env.length cA])[j]? = some u -> cur[j]? = some u := fun j u hj => by
    rw [<- htk, List.getElem?_take] at hj
    split at hj
    · rwa [Array.getElem?_toList] at hj
    · cases hj
   have hget4 : ∀ j u, [Value.string (St x), .string (St []), .slice (some ⟨bl, o, none⟩) 3 c', .slice A env.length cA][j]? = some u -> cur[4 * env.length + j]? = some u := fun j u hj => hget _ u (by
    rw [List.getElem?_append_right (by omega)]
    rw [show 4 * env.length + j - news.length = j by omega]
    exact hj)
   exact ⟨g3, cur, (0, 0), some ⟨bl, o, none⟩, 3, c', A, cA, rfl, hblk, hget4 0 _ rfl, hget4 1 _ rfl, hget4 2 _ rfl, hget4 3 _ rfl, hp.up hb, he.up hb, hnc w1 g3 cur (0, 0) hb hblk fun j u hj => hget j u (by
    have := (List.getElem?_eq_some_iff.1 hj).1
    rw [List.getElem?_append_left this]
    exact hj)⟩
theorem l2Enter_any (x : List UInt8) (a : NT) (env : List (List UInt8 × NT)) (A : Option Addr) (cA : Nat) (v : Value) (w : World) (hp : TAt w (fun _ => True) (NT.loop x a).toTr v) (he : EnvAt w env A) (hl : env.length <= 100000) :
 Calls Tryz.prog 141 #[v, .slice A env.length cA] w (FindP w (a, (x, .loop x a) :: env)) := by
 have hp : TAt w (fun _ => True) (.mk [] [.mk [114, 101, 99] [], .mk x [], a.toTr]) v := hp
 obtain ⟨bl, o, c', rfl, A2, n2, cc2, A4, n4, c4, HC, _⟩ := three_cells hp
 have hxa : (Tr.mk x []).atom = x := rfl
 rw [hxa] at HC
 have lbl : bl < w.heap.size := World.block_lt_of_cell? w _ (HC.out w (Below.refl _ _)).1
 have nb1 : ¬ bl = w.heap.size + 1 := by omega
 have nb2 : ¬ w.heap.size + 1 = bl := by omega
 obtain ⟨news, hnl, hnr, hn1, hnc⟩ := he.vals
 obtain ⟨i0, hi0, hz0, hz1, hz2⟩ := info_parts Tryz.infoEnv
 have HLEN := Lib.hid hnl
 have HONE := Lib.hid hn1
 have HNE := Lib.hid hl
 have HFIN : Hid (∀ (w5 : World) (g3 c3 B : Nat), Below w.heap.size w w5 -> w5.ownsRow B 208 4 (.slice (some ⟨g3, 0, none⟩) (env.length + 1) c3) (env.length + 1) (news ++ [.string (St x), .string (St []), .slice (some ⟨bl, o, none⟩) 3 c', .slice A env.length cA]) -> FindP w (a, (x, .loop x a) :: env) (.returned (.tuple #[.agg #[.string (St a.toTr.atom), .slice A4 n4 c4], .slice (some ⟨g3, 0, none⟩) (env.length + 1) c3])) w5) := fun w5 g3 c3 B hb ho =>
  ⟨hb, A4, n4, c4, some ⟨g3, 0, none⟩, c3, rfl, (HC.out w5 hb).2.2.2.2.2.out, EnvAt.enter hb he hp hnl hnc ho⟩
 have HRW : Hid (∀ w1, Below w.heap.size w w1 -> RCells w1 A news) := fun w1 hb => hnr.up hb
 clear hp he hnr hnl hn1 hnc hl
 generalize a.toTr.atom = y at *
 generalize FindP w (a, (x, .loop x a) :: env) = Q at *
 generalize env.length = m at *
 go_enter Tryz.func141, Tryz.ntmps141
 go_wp2
 have HW : Hid (Below w.heap.size w ((w.alloc (.cells #[.string (St []), .slice (some ⟨bl, o, none⟩) 3 c'] 59)).alloc (.cells #[.string ⟨#[]⟩, .slice none 0 0] 59))) := up_alloc (up1 w _) _
 have K0 := old2 w (.cells #[.string (St []), .slice (some ⟨bl, o, none⟩) 3 c'] 59) (.cells #[.string ⟨#[]⟩, .slice none 0 0] 59)
 have K1 := new2 w (.cells #[.string (St []), .slice (some ⟨bl, o, none⟩) 3 c'] 59) (.cells #[.string ⟨#[]⟩, .slice none 0 0] 59)
 generalize ((w.alloc (.cells #[.string (St []), .slice (some ⟨bl, o, none⟩) 3 c'] 59)).alloc (.cells #[.string ⟨#[]⟩, .slice none 0 0] 59)) = W0 at *
 have HS : Hid (∀ w', Below W0.heap.size W0 w' -> w'.cell? ⟨w.heap.size, 0, none⟩ = some (.string (St [])) /\ w'.cell? ⟨w.heap.size, 1, none⟩ = some (.slice (some ⟨bl, o, none⟩) 3 c') /\ w'.cell? ⟨bl, o + 2, none⟩ = some (.string (St x)) /\ w'.cell? ⟨bl, o + 3, none⟩ = some (.slice A2 n2 cc2) /\ w'.cell? ⟨bl, o + 4, none⟩ = some (.string (St y)) /\ w'.cell? ⟨bl, o + 5, none⟩ = some (.slice A4 n4 c4)) := fun w' h => by
  obtain ⟨d2, d3, d4, d5, _, _⟩ := HC.out w' (up_trans HW.out h)
  exact ⟨cell_up h (block_cell K0 0), cell_up h (block_cell K0 1), d2, d3, d4, d5⟩
 have HRES : Hid (∀ w', Below W0.heap.size W0 w' -> w'.cell? ⟨w.heap.size + 1, 0, none⟩ = some (.string ⟨#[]⟩) /\ w'.cell? ⟨w.heap.size + 1, 1, none⟩ = some (.slice none 0 0) /\ w'.frozen? ⟨w.heap.size + 1, 0, none⟩ = false /\ w'.frozen? ⟨w.heap.size + 1, 1, none⟩ = false /\ w.heap.size + 1 < w'.heap.size) := fun w' h =>
  ⟨cell_up h (block_cell K1 0), cell_up h (block_cell K1 1), block_free (block_up h K1) 0, block_free (block_up h K1) 1, lt_of_block (block_up h K1)⟩
 have HR : Hid (∀ w1, Below W0.heap.size W0 w1 -> RCells w1 A news) := fun w1 h => HRW.out w1 (up_trans HW.out h)
 have HFIN2 : Hid (∀ (w5 : World) (g3 c3 : Nat) (u1 u2 : Value), Below W0.heap.size W0 w5 -> w5.ownsRow W0.heap.size 208 4 (.slice (some ⟨g3, 0, none⟩) (m + 1) c3) (m + 1) (news ++ [.string (St x), .string (St []), .slice (some ⟨bl, o, none⟩) 3 c', .slice A m cA]) -> Q (.returned (.tuple #[.agg #[.string (St y), .slice A4 n4 c4], .slice (some ⟨g3, 0, none⟩) (m + 1) c3])) ((w5.setCell ⟨w.heap.size + 1, 0, none⟩ u1).setCell ⟨w.heap.size + 1, 1, none⟩ u2)) := fun w5 g3 c3 u1 u2 hb ho => by
  have hlt := lt_of_block K1
  have hg := (World.ownsRow.lt ho g3 rfl).1
  refine HFIN.out _ g3 c3 W0.heap.size (set0 (set0 (up_trans HW.out hb) (by omega)) (by omega)) ?_
  refine World.ownsRow.kept ho (row := some (w.heap.size + 1)) ?_ (.inr (by simp [Value.ownBlock]; omega))
  exact ⟨rfl, rfl, rfl, by simp [World.setCell], fun j hj hne => by
   rw [Below.heap_setCell _ ⟨w.heap.size + 1, 1, none⟩ _ j (by simpa using hne), Below.heap_setCell _ ⟨w.heap.size + 1, 0, none⟩ _ j (by simpa using hne)]⟩
 obtain ⟨s0, s1, s2, s3, s4, s5⟩ := HS.out W0 (Below.refl _ _)
 clear HW K0 K1 HC HRW HFIN
 go_region_held3 (fun w' => w'.cell? ⟨w.heap.size, 0, none⟩ = some (.string (St [])) /\ w'.cell? ⟨w.heap.size, 1, none⟩ = some (.slice (some ⟨bl, o, none⟩) 3 c') /\ w'.cell? ⟨bl, o + 2, none⟩ = some (.string (St x)) /\ w'.cell? ⟨bl, o + 3, none⟩ = some (.slice A2 n2 cc2) /\ w'.cell? ⟨bl, o + 4, none⟩ = some (.string (St y)) /\ w'.cell? ⟨bl, o + 5, none⟩ = some (.slice A4 n4 c4))
  (first | exact ⟨h0, h1, h2, h3, h4, h5⟩ | exact ⟨e0, e1, e2, e3, e4, e5⟩ | exact ⟨s0, s1, s2, s3, s4, s5⟩ | exact ⟨(cell_box (by omega) _ _).trans h0, (cell_box (by omega) _ _).trans h1, (cell_box nb1 _ _).trans h2, (cell_box nb1 _ _).trans h3, (cell_box nb1 _ _).trans h4, (cell_box nb1 _ _).trans h5⟩ | (refine HS.out _ ?_; repeat (first | exact HB4.out | refine up_drew ?_ | refine up_alloc ?_ _ | exact Below.refl _ _)))
  (first
   | ((refine step_append_rows _ rfl _ _ 103 rfl W0.heap.size 4 208 i0 (.agg #[.string ⟨#[]⟩, .string ⟨#[]⟩, .slice none 0 0, .slice none 0 0]) 80 Tryz.underlying103 hi0 hz0 hz1 hz2 rfl (by decide) _ 0 0 [] rfl (own_heapS (W := W0.alloc (.cells #[] 208)) rfl (own_nils W0 _ 4 (Nat.le_refl _) (by decide) 208)) A m cA news rfl HLEN.out (HR.out _ (by repeat (first | exact Below.refl _ _ | refine up_drew ?_ | refine up_alloc ?_ _))) HONE.out (by have := HNE.out; omega) (by decide) (Below.size (by repeat (first | exact Below.refl _ _ | refine up_drew ?_ | refine up_alloc ?_ _))) m (by omega) news (by simp) ?_); intro g2 c2 w4 hown hgrow hbel hat; have HB4 : Hid (Below W0.heap.size W0 w4) := Below.trans (by repeat (first | exact Below.refl _ _ | refine up_drew ?_ | refine up_alloc ?_ _)) hbel; have HO4 := Lib.hid hown; obtain ⟨e0, e1, e2, e3, e4, e5⟩ := HS.out w4 HB4.out; clear hown hgrow hbel hat)
   | ((refine step_append_rows _ rfl _ _ 103 rfl W0.heap.size 4 208 i0 (.agg #[.string ⟨#[]⟩, .string ⟨#[]⟩, .slice none 0 0, .slice none 0 0]) 80 Tryz.underlying103 hi0 hz0 hz1 hz2 rfl (by decide) _ 0 0 [] rfl (own_heapS (W := (W0.alloc (.cells #[] 208)).alloc (.cells #[.string (St x), .string (St []), .slice (some ⟨bl, o, none⟩) 3 c', .slice A m cA] 208)) rfl (World.ownsRow.alloc (own_nils W0 _ 4 (Nat.le_refl _) (by decide) 208) _)) A m cA news rfl HLEN.out (HR.out _ (by repeat (first | exact Below.refl _ _ | refine up_drew ?_ | refine up_alloc ?_ _))) HONE.out (by have := HNE.out; omega) (by decide) (Below.size (by repeat (first | exact Below.refl _ _ | refine up_drew ?_ | refine up_alloc ?_ _))) m (by omega) news (by simp) ?_); intro g2 c2 w4 hown hgrow hbel hat; have HB4 : Hid (Below W0.heap.size W0 w4) := Below.trans (by repeat (first | exact Below.refl _ _ | refine up_drew ?_ | refine up_alloc ?_ _)) hbel; have HO4 := Lib.hid hown; obtain ⟨e0, e1, e2, e3, e4, e5⟩ := HS.out w4 HB4.out; have KB : Hid (w4.heap[W0.heap.size + 1]? = some (.cells #[.string (St x), .string (St []), .slice (some ⟨bl, o, none⟩) 3 c', .slice A m cA] 208 (0, 0))) := (hgrow.block _ (by simp) (by simp)).trans (new2 W0 _ _); clear hown hgrow hbel hat)
   | ((refine step_append_rows _ rfl _ _ 103 rfl W0.heap.size 4 208 i0 (.agg #[.string ⟨#[]⟩, .string ⟨#[]⟩, .slice none 0 0, .slice none 0 0]) 80 Tryz.underlying103 hi0 hz0 hz1 hz2 rfl (by decide) _ 0 0 [] rfl (own_heapS (W := (W0.alloc (.cells #[.string (St x), .string (St []), .slice (some ⟨bl, o, none⟩) 3 c', .slice A m cA] 208)).alloc (.cells #[] 208)) rfl (own_nilsH (W0.alloc (.cells #[.string (St x), .string (St []), .slice (some ⟨bl, o, none⟩) 3 c', .slice A m cA] 208)) _ 4 (by simp) (by decide) 208 (W0.heap.size + 1) (by simp))) A m cA news rfl HLEN.out (HR.out _ (by repeat (first | exact Below.refl _ _ | refine up_drew ?_ | refine up_alloc ?_ _))) HONE.out (by have := HNE.out; omega) (by decide) (Below.size (by repeat (first | exact Below.refl _ _ | refine up_drew ?_ | refine up_alloc ?_ _))) m (by omega) news (by simp) ?_); intro g2 c2 w4 hown hgrow hbel hat; have HB4 : Hid (Below W0.heap.size W0 w4) := Below.trans (by repeat (first | exact Below.refl _ _ | refine up_drew ?_ | refine up_alloc ?_ _)) hbel; have HO4 := Lib.hid hown; obtain ⟨e0, e1, e2, e3, e4, e5⟩ := HS.out w4 HB4.out; have KB : Hid (w4.heap[W0.heap.size]? = some (.cells #[.string (St x), .string (St []), .slice (some ⟨bl, o, none⟩) 3 c', .slice A m cA] 208 (0, 0))) := (hgrow.block _ (by simp; omega) (by simp)).trans (old2 W0 _ _); clear hown hgrow hbel hat)
   | ((refine step_append_rows _ rfl _ _ 103 rfl W0.heap.size 4 208 i0 (.agg #[.string ⟨#[]⟩, .string ⟨#[]⟩, .slice none 0 0, .slice none 0 0]) 80 Tryz.underlying103 hi0 hz0 hz1 hz2 rfl (by decide) g2 m c2 news rfl (own_heapS (W := w4.alloc (.cells #[.string (St x), .string (St []), .slice (some ⟨bl, o, none⟩) 3 c', .slice A m cA] 208)) rfl (World.ownsRow.alloc HO4.out _)) (some ⟨_, 0, none⟩) 1 1 [.string (St x), .string (St []), .slice (some ⟨bl, o, none⟩) 3 c', .slice A m cA] rfl rfl (row_four (block_new w4 _)) (by simp [Value.oneCell']) (by have := HNE.out; omega) (by decide) (Below.size (by repeat (first | exact HB4.out | refine up_drew ?_ | refine up_alloc ?_ _))) (m + 1) rfl (news ++ [.string (St x), .string (St []), .slice (some ⟨bl, o, none⟩) 3 c', .slice A m cA]) rfl ?_); intro g3 c3 w5 hown hgrow hbel hat; have HB5 : Hid (Below W0.heap.size W0 w5) := Below.trans (by repeat (first | exact HB4.out | refine up_drew ?_ | refine up_alloc ?_ _)) hbel; have HO5 := Lib.hid hown; obtain ⟨h0, h1, h2, h3, h4, h5⟩ := HS.out w5 HB5.out; obtain ⟨rc0, rc1, fr0, fr1, lr⟩ := HRES.out w5 HB5.out; clear hown hgrow hbel hat)
   | ((refine step_append_rows _ rfl _ _ 103 rfl W0.heap.size 4 208 i0 (.agg #[.string ⟨#[]⟩, .string ⟨#[]⟩, .slice none 0 0, .slice none 0 0]) 80 Tryz.underlying103 hi0 hz0 hz1 hz2 rfl (by decide) g2 m c2 news rfl (own_heapS (W := w4) rfl (HO4.out)) (some ⟨_, 0, none⟩) 1 1 [.string (St x), .string (St []), .slice (some ⟨bl, o, none⟩) 3 c', .slice A m cA] rfl rfl (row_four KB.out) (by simp [Value.oneCell']) (by have := HNE.out; omega) (by decide) (Below.size (by repeat (first | exact HB4.out | refine up_drew ?_ | refine up_alloc ?_ _))) (m + 1) rfl (news ++ [.string (St x), .string (St []), .slice (some ⟨bl, o, none⟩) 3 c', .slice A m cA]) rfl ?_); intro g3 c3 w5 hown hgrow hbel hat; have HB5 : Hid (Below W0.heap.size W0 w5) := Below.trans (by repeat (first | exact HB4.out | refine up_drew ?_ | refine up_alloc ?_ _)) hbel; have HO5 := Lib.hid hown; obtain ⟨h0, h1, h2, h3, h4, h5⟩ := HS.out w5 HB5.out; obtain ⟨rc0, rc1, fr0, fr1, lr⟩ := HRES.out w5 HB5.out; clear hown hgrow hbel hat))
 all_goals go_wp2
 all_goals refine bodyPost_ret (v := .tuple #[.agg #[.string (St y), .slice A4 n4 c4], .slice (some ⟨g3, 0, none⟩) (m + 1) c3]) (by simp [results, Tryz.results141, go_sem, rc0, rc1, lr]) rfl ?_
 all_goals exact HFIN2.out _ _ _ _ _ HB5.out HO5.out
theorem l2Find_some (s x : List UInt8) (P0 P A' : Option Addr) (m0 c0 p c m c' : Nat) (g n k cA : Nat) (cs : Array Value) (fr : Nat × Nat) (w : World) (hk : k < n) (hn : n <= 100000) (hb : w.heap[g]? = some (.cells cs 208 fr))
 (k0 : cs[4 * k]? = some (.string (St s))) (k1 : cs[4 * k + 1]? = some (.string (St x))) (k2 : cs[4 * k + 2]? = some (.slice P p c)) (k3 : cs[4 * k + 3]? = some (.slice A' m c')) (hno : ∀ j, k < j -> j < n -> ∃ s', cs[4 * j]? = some (.string (St s')) /\ s' ≠ s) :
 Calls Tryz.prog 140 #[.agg #[.string (St s), .slice P0 m0 c0], .slice (some ⟨g, 0, none⟩) n cA] w fun e w' => e = .returned (.tuple #[.agg #[.string (St x), .slice P p c], .slice A' m c']) /\ Below w.heap.size w w' := by
 obtain ⟨n, rfl⟩ : ∃ n', n = n' + 1 := ⟨n - 1, by omega⟩
 have HB := Lib.hid hb
 have HNO := Lib.hid hno
 have hw0 : IntKind.i64.wrap (((n + 1 : Nat) : Int) - 1) = (n : Int) := by rw [IntKind.wrap_i64]; omega
 have hw1 : IntKind.i64.wrap ((n : Int) + 1 - 1) = (n : Int) := by rw [IntKind.wrap_i64]; omega
 have hkn : k <= n := by omega
 have C0 := Lib.hid k0
 have C1 := Lib.hid k1
 have C2 := Lib.hid k2
 have C3 := Lib.hid k3
 have HN := Lib.hid hn
 clear hb hno hk k0 k1 k2 k3 hn
 go_enter Tryz.func140, Tryz.ntmps140
 go_wp2_with fail
 have HW : Hid (Below w.heap.size w ((w.alloc (.cells #[.string (St s), .slice P0 m0 c0] 59)).alloc (.cells #[.string ⟨#[]⟩, .slice none 0 0] 59))) := up_alloc (up1 w _) _
 have K0 := old2 w (.cells #[.string (St s), .slice P0 m0 c0] 59) (.cells #[.string ⟨#[]⟩, .slice none 0 0] 59)
 have K1 := new2 w (.cells #[.string (St s), .slice P0 m0 c0] 59) (.cells #[.string ⟨#[]⟩, .slice none 0 0] 59)
 generalize ((w.alloc (.cells #[.string (St s), .slice P0 m0 c0] 59)).alloc (.cells #[.string ⟨#[]⟩, .slice none 0 0] 59)) = W0 at *
 have HS : Hid (∀ w', Below W0.heap.size W0 w' -> w'.cell? ⟨w.heap.size, 0, none⟩ = some (.string (St s)) /\ w'.cell? ⟨w.heap.size + 1, 0, none⟩ = some (.string ⟨#[]⟩) /\ w'.cell? ⟨w.heap.size + 1, 1, none⟩ = some (.slice none 0 0) /\ w'.frozen? ⟨w.heap.size + 1, 0, none⟩ = false /\ w'.frozen? ⟨w.heap.size + 1, 1, none⟩ = false /\ w.heap.size + 1 < w'.heap.size) := fun w' h =>
  ⟨cell_up h (block_cell K0 0), cell_up h (block_cell K1 0), cell_up h (block_cell K1 1), block_free (block_up h K1) 0, block_free (block_up h K1) 1, lt_of_block (block_up h K1)⟩
 have HG : Hid (∀ w' j, Below W0.heap.size W0 w' -> w'.cell? ⟨g, j, none⟩ = cs[j]?) := fun w' j h => block_cell (block_up (up_trans HW.out h) HB.out) j
 clear K0 K1
 go_loopw [6] (fun i wr => ∃ j : Nat, i = .int .i64 (j : Nat) /\ k <= j /\ j <= n /\ Hid (Below W0.heap.size W0 wr)) (fun i _ => (intOf i).toNat)
 case atStart => exact ⟨n, by first | rfl | (congr 1; first | rfl | exact hw0 | exact hw1 | simp [hw0] | (have := HN.out; rw [wrap64]; omega)), hkn, Nat.le_refl _, Below.refl _ _⟩
 case round =>
  obtain ⟨j, rfl, hkj, hjn, HR⟩ := hrel
  obtain ⟨d0, d1, d2, f0, f1, lr⟩ := HS.out wr HR.out
  have hge : decide ((0 : Int) <= (j : Int)) = true := by simp
  have hge2 : decide ((j : Int) >= 0) = true := by simp
  have hj1 : j < n + 1 := by omega
  by_cases hjk : j = k
  · subst hjk
    have e0 : wr.cell? ⟨g, 4 * j, none⟩ = some (.string (St s)) := (HG.out wr _ HR.out).trans C0.out
    have e1 : wr.cell? ⟨g, 4 * j + 1, none⟩ = some (.string (St x)) := (HG.out wr _ HR.out).trans C1.out
    have e2 : wr.cell? ⟨g, 4 * j + 2, none⟩ = some (.slice P p c) := (HG.out wr _ HR.out).trans C2.out
    have e3 : wr.cell? ⟨g, 4 * j + 3, none⟩ = some (.slice A' m c') := (HG.out wr _ HR.out).trans C3.out
    have e0' : wr.cell? ⟨g, j * 4, none⟩ = some (.string (St s)) := by rw [Nat.mul_comm]; exact e0
    have e1' : wr.cell? ⟨g, j * 4 + 1, none⟩ = some (.string (St x)) := by rw [Nat.mul_comm]; exact e1
    have e2' : wr.cell? ⟨g, j * 4 + 2, none⟩ = some (.slice P p c) := by rw [Nat.mul_comm]; exact e2
    have e3' : wr.cell? ⟨g, j * 4 + 3, none⟩ = some (.slice A' m c') := by rw [Nat.mul_comm]; exact e3
    go_wp2
    go_quiet (fail)
    go_wp2
    go_region
    all_goals go_wp2
    all_goals refine bodyPost_ret (v := .tuple #[.agg #[.string (St x), .slice P p c], .slice A' m c']) (by simp [results, Tryz.results140, go_sem, d1, d2, lr]) rfl ?_
    all_goals exact ⟨rfl, by repeat (first | exact up_trans HW.out HR.out | exact up_trans (up_trans HW.out HR.out) (up_drewN _ _) | refine up_drew ?_ | refine up_alloc ?_ _ | refine set0 ?_ (by omega))⟩
  · obtain ⟨s', hs', hne⟩ := HNO.out j (by omega) (by omega)
    have e0 : wr.cell? ⟨g, 4 * j, none⟩ = some (.string (St s')) := (HG.out wr _ HR.out).trans hs'
    have q : (s' == s) = false := St_ne hne
    have hw2 : IntKind.i64.wrap ((j : Int) - 1) = ((j - 1 : Nat) : Int) := by have := HN.out; rw [IntKind.wrap_i64]; omega
    have hk1 : k <= j - 1 := by omega
    have hj2 : j - 1 <= n := by omega
    have e0' : wr.cell? ⟨g, j * 4, none⟩ = some (.string (St s')) := by rw [Nat.mul_comm]; exact e0
    clear hne hs'
    go_wp2
    go_quiet (fail)
    go_wp2
    go_roundw
    case rel => exact ⟨j - 1, by first | rfl | simp [hw2], hk1, hj2, by show Below _ _ _; exact up_trans HR.out (up_drewN _ _)⟩
    case measure => simp [intOf]; omega
theorem l2Find_none (s : List UInt8) (P0 A : Option Addr) (m0 c0 n cA : Nat) (w : World) (hn : n <= 100000)
 (hno : ∀ j, j < n -> ∃ g s', A = some ⟨g, 0, none⟩ /\ w.cell? ⟨g, 4 * j, none⟩ = some (.string (St s')) /\ s' ≠ s) :
 Calls Tryz.prog 140 #[.agg #[.string (St s), .slice P0 m0 c0], .slice A n cA] w fun e w' => e = .returned (.tuple #[.agg #[.string (St s), .slice P0 m0 c0], .slice A n cA]) /\ Below w.heap.size w w' := by
 have HNO := Lib.hid hno
 have hw0 : IntKind.i64.wrap ((n : Int) - 1) = (n : Int) - 1 := by rw [IntKind.wrap_i64]; omega
 have HN := Lib.hid hn
 clear hno hn
 go_enter Tryz.func140, Tryz.ntmps140
 go_wp2_with fail
 have HW : Hid (Below w.heap.size w ((w.alloc (.cells #[.string (St s), .slice P0 m0 c0] 59)).alloc (.cells #[.string ⟨#[]⟩, .slice none 0 0] 59))) := up_alloc (up1 w _) _
 have K0 := old2 w (.cells #[.string (St s), .slice P0 m0 c0] 59) (.cells #[.string ⟨#[]⟩, .slice none 0 0] 59)
 have K1 := new2 w (.cells #[.string (St s), .slice P0 m0 c0] 59) (.cells #[.string ⟨#[]⟩, .slice none 0 0] 59)
 generalize ((w.alloc (.cells #[.string (St s), .slice P0 m0 c0] 59)).alloc (.cells #[.string ⟨#[]⟩, .slice none 0 0] 59)) = W0 at *
 have HS : Hid (∀ w', Below W0.heap.size W0 w' -> w'.cell? ⟨w.heap.size, 0, none⟩ = some (.string (St s)) /\ w'.cell? ⟨w.heap.size, 1, none⟩ = some (.slice P0 m0 c0) /\ w'.cell? ⟨w.heap.size + 1, 0, none⟩ = some (.string ⟨#[]⟩) /\ w'.cell? ⟨w.heap.size + 1, 1, none⟩ = some (.slice none 0 0) /\ w'.frozen? ⟨w.heap.size + 1, 0, none⟩ = false /\ w'.frozen? ⟨w.heap.size + 1, 1, none⟩ = false /\ w.heap.size + 1 < w'.heap.size) := fun w' h =>
  ⟨cell_up h (block_cell K0 0), cell_up h (block_cell K0 1), cell_up h (block_cell K1 0), cell_up h (block_cell K1 1), block_free (block_up h K1) 0, block_free (block_up h K1) 1, lt_of_block (block_up h K1)⟩
 clear K0 K1
 go_loopw [6] (fun i wr => ∃ j : Nat, i = .int .i64 ((j : Int) - 1) /\ j <= n /\ Hid (Below W0.heap.size W0 wr)) (fun i _ => (intOf i + 1).toNat)
 case atStart => exact ⟨n, by first | rfl | simp [hw0], Nat.le_refl _, Below.refl _ _⟩
 case round =>
  obtain ⟨j, rfl, hjn, HR⟩ := hrel
  obtain ⟨d0, d00, d1, d2, f0, f1, lr⟩ := HS.out wr HR.out
  cases j with
  | zero =>
   have hge : decide ((0 : Int) <= ((0 : Nat) : Int) - 1) = false := by decide
   go_wp2
   refine bodyPost_ret (v := .tuple #[.agg #[.string (St s), .slice P0 m0 c0], .slice A n cA]) (by simp [results, Tryz.results140, go_sem, d1, d2, lr]) rfl ?_
   exact ⟨rfl, by repeat (first | exact up_trans HW.out HR.out | exact up_trans (up_trans HW.out HR.out) (up_drewN _ _) | refine up_drew ?_ | refine up_alloc ?_ _ | refine set0 ?_ (by omega))⟩
  | succ j =>
   obtain ⟨g, s', rfl, hs', hne⟩ := HNO.out j (by omega)
   have hi : (((j + 1 : Nat) : Int) - 1) = (j : Int) := by omega
   have hge : decide ((0 : Int) <= (j : Int)) = true := by simp
   have hge2 : decide ((j : Int) >= 0) = true := by simp
   have hj1 : j < n := by omega
   have e0 : wr.cell? ⟨g, 4 * j, none⟩ = some (.string (St s')) := cell_up (up_trans HW.out HR.out) hs'
   have q : (s' == s) = false := St_ne hne
   have hw2 : IntKind.i64.wrap ((j : Int) - 1) = (j : Int) - 1 := by have := HN.out; rw [IntKind.wrap_i64]; omega
   have hj2 : j <= n := by omega
   rw [hi]
   have e0' : wr.cell? ⟨g, j * 4, none⟩ = some (.string (St s')) := by rw [Nat.mul_comm]; exact e0
   clear hne hs'
   go_wp2
   go_quiet (fail)
   go_wp2
   go_roundw
   case rel => exact ⟨j, by first | rfl | simp [hw2], hj2, by show Below _ _ _; exact up_trans HR.out (up_drewN _ _)⟩
   case measure => simp [intOf]
theorem EnvAt.look {w : World} {s : List UInt8} : ∀ {env : List (List UInt8 × NT)} {A : Option Addr}, EnvAt w env A -> ∀ {L : NT} {e : List UInt8 × NT} {r : List (List UInt8 × NT)}, lookN s env = some (L, e :: r) ->
 ∃ g cs fr P p c A' c', A = some ⟨g, 0, none⟩ /\ w.heap[g]? = some (.cells cs 208 fr) /\ r.length < env.length /\ cs[4 * r.length]? = some (.string (St s)) /\ cs[4 * r.length + 1]? = some (.string (St L.toTr.atom)) /\ cs[4 * r.length + 2]? = some (.slice P p c) /\ cs[4 * r.length + 3]? = some (.slice A' r.length c') /\
  (∀ j, r.length < j -> j < env.length -> ∃ s', cs[4 * j]? = some (.string (St s')) /\ s' ≠ s) /\ TAt w (fun _ => True) L.toTr (.agg #[.string (St L.toTr.atom), .slice P p c]) /\ EnvAt w r A'
 | [], _, _, _, _, _, h => by cases h
 | e0 :: es, A, ⟨g, cs, fr, P, p, c, A', c', hA, hb, k0, k1, k2, k3, ht, h4, h5⟩, L, e, r, h => by
  simp only [lookN] at h
  split at h
  · rename_i he
    cases h
    refine ⟨g, cs, fr, P, p, c, A', c', hA, hb, by simp, by rw [k0, he], k1, k2, k3, fun j h1 h2 => ?_, ht, h4⟩
    simp at h2
    omega
  · rename_i he
    obtain ⟨g', cs', fr', P', p', c2, A2, c3, hA', hb', hl, m0, m1, m2, m3, hno, ht', hr⟩ := EnvAt.look h5 h
    rw [hA] at hA'
    cases hA'
    rw [hb] at hb'
    cases hb'
    refine ⟨g, cs, fr, P', p', c2, A2, c3, hA, hb, by simp; omega, m0, m1, m2, m3, fun j h1 h2 => ?_, ht', hr⟩
    by_cases hj : j < es.length
    · exact hno j h1 hj
    · have : j = es.length := by simp at h2; omega
      subst this
      exact ⟨_, k0, he⟩
theorem EnvAt.names {w : World} {s : List UInt8} : ∀ {env : List (List UInt8 × NT)} {A : Option Addr}, EnvAt w env A -> lookN s env = none -> ∀ j, j < env.length -> ∃ g s', A = some ⟨g, 0, none⟩ /\ w.cell? ⟨g, 4 * j, none⟩ = some (.string (St s')) /\ s' ≠ s
 | [], _, _, _, j, hj => by simp at hj
 | e0 :: es, A, ⟨g, cs, fr, P, p, c, A', c', hA, hb, k0, k1, k2, k3, ht, h4, h5⟩, h, j, hj => by
  simp only [lookN] at h
  split at h
  · cases h
  · rename_i he
    by_cases hj' : j < es.length
    · exact EnvAt.names h5 h j hj'
    · have : j = es.length := by simp at hj; omega
      subst this
      exact ⟨g, _, hA, (block_cell hb _).trans k0, he⟩
theorem EnvB.len {env : List (List UInt8 × NT)} (h : EnvB env) : env.length <= 100000 := by
 cases env with
 | nil => simp
 | cons e r =>
  obtain ⟨⟨a, ha⟩, _, h3, _⟩ := h
  rw [ha] at h3
  simp only [NT.atoms] at h3
  simp
  omega
theorem l2Find_at (t : NT) (env : List (List UInt8 × NT)) (A : Option Addr) (cA : Nat) (vt : Value) (w : World) (hT : TAt w (fun _ => True) t.toTr vt) (hE : EnvAt w env A) (hB : EnvB env) (ht3 : t.ok3) :
 ∃ P m cc A' c'', TAt w (fun _ => True) (fnd env t).1.toTr (.agg #[.string (St (fnd env t).1.toTr.atom), .slice P m cc]) /\ EnvAt w (fnd env t).2 A' /\
  Hid (∀ w1, Below w.heap.size w w1 -> Calls Tryz.prog 140 #[vt, .slice A env.length cA] w1 fun e w' => e = .returned (.tuple #[.agg #[.string (St (fnd env t).1.toTr.atom), .slice P m cc], .slice A' (fnd env t).2.length c'']) /\ Below w1.heap.size w1 w') := by
 have hva : ∃ Av nv cv, vt = .agg #[.string (St t.toTr.atom), .slice Av nv cv] := by
  generalize t.toTr = tv at hT
  obtain ⟨sv, psv⟩ := tv
  obtain ⟨A, c, rfl, _⟩ := hT.parts
  exact ⟨_, _, _, rfl⟩
 obtain ⟨Av, nv, cv, rfl⟩ := hva
 rcases look_atom hB t ht3 with ⟨hn, hf⟩ | ⟨L, e, r, hs, hf⟩
 · rw [hf]
   exact ⟨Av, nv, cv, A, cA, hT, hE, fun w1 hb => l2Find_none _ _ _ _ _ _ _ _ hB.len (EnvAt.names (hE.up hb) hn)⟩
 · rw [hf]
   obtain ⟨g, cs, fr, P, p, c, A', c', rfl, hb, hl, k0, k1, k2, k3, hno, ht, hr⟩ := hE.look hs
   exact ⟨P, p, c, A', c', ht, hr, fun w1 hb1 => l2Find_some _ _ _ _ _ _ _ _ _ _ _ g env.length r.length cA cs fr w1 hl hB.len (block_up hb1 hb) k0 k1 k2 k3 hno⟩
end Go.Proofs.YtpokompplapkhaaGreatDoor

