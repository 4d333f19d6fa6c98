/- The program's closures: frames in memory, left, right, inside, bound; isOf. -/
import Derived.Test.YtpokompplapkhaaGreatDoorNB
namespace Go.Proofs.YtpokompplapkhaaGreatDoor
set_option maxHeartbeats 2000000
set_option maxRecDepth 100000
open Go.RowKit
set_option linter.unusedVariables false
set_option linter.unusedSimpArgs false
def FAt (w : World) : List (Ty × Nat) -> Option Addr -> Prop
 | [], p => p = none
 | e :: rest, p => ∃ g q pr, p = some ⟨g, 0, none⟩ /\ w.heap[g]? = some (.cells #[.pointer (some ⟨e.2, 0, none⟩), .pointer q] 190 (0, 0)) /\ w.heap[e.2]? = some (.cells #[.pointer pr, .pointer q] 155 (0, 0)) /\ TyAt w e.1 pr /\ FAt w rest q
theorem FAt.up {w w1 : World} (hb : Below w.heap.size w w1) : ∀ {env : List (Ty × Nat)} {p : Option Addr}, FAt w env p -> FAt w1 env p
 | [], _, h => h
 | _ :: _, _, ⟨g, q, pr, h1, h2, h3, h4, h5⟩ => ⟨g, q, pr, h1, block_up hb h2, block_up hb h3, h4.up hb, FAt.up hb h5⟩
theorem FAt.new {w : World} {t : Ty} {env : List (Ty × Nat)} {p q : Option Addr} (ht : TyAt w t p) (he : FAt w env q) :
 FAt ((w.alloc (.cells #[.pointer p, .pointer q] 155)).alloc (.cells #[.pointer (some ⟨w.heap.size, 0, none⟩), .pointer q] 190)) ((t, w.heap.size) :: env) (some ⟨w.heap.size + 1, 0, none⟩) := by
 have hb : Below w.heap.size w ((w.alloc (.cells #[.pointer p, .pointer q] 155)).alloc (.cells #[.pointer (some ⟨w.heap.size, 0, none⟩), .pointer q] 190)) := up_alloc (up1 w _) _
 exact ⟨w.heap.size + 1, q, p, rfl, new2 w _ _, old2 w _ _, ht.up hb, he.up hb⟩
theorem FAt.lt {w : World} : ∀ {env : List (Ty × Nat)} {p : Option Addr}, FAt w env p -> ∀ e ∈ env, e.2 < w.heap.size
 | _ :: _, _, ⟨g, q, pr, h1, h2, h3, h4, h5⟩, e, hm => by
  rcases List.mem_cons.1 hm with rfl | hm
  · exact lt_of_block h3
  · exact FAt.lt h5 e hm
theorem FAt.drop {w : World} : ∀ {env : List (Ty × Nat)} {p : Option Addr}, FAt w env p -> ∀ k, k < env.length -> ∃ g q e rest pr, env.drop k = e :: rest /\ e ∈ env /\ w.heap[e.2]? = some (.cells #[.pointer pr, .pointer q] 155 (0, 0)) /\ TyAt w e.1 pr /\ FAt w rest q /\ FAt w (env.drop k) (some ⟨g, 0, none⟩)
 | [], _, _, k, hk => absurd hk (Nat.not_lt_zero _)
 | e :: rest, p, h, 0, _ => by
  obtain ⟨g, q, pr, h1, h2, h3, h4, h5⟩ := h
  exact ⟨g, q, e, rest, pr, rfl, List.mem_cons_self .., h3, h4, h5, g, q, pr, rfl, h2, h3, h4, h5⟩
 | e :: rest, p, ⟨g, q, pr, h1, h2, h3, h4, h5⟩, k + 1, hk => by
  obtain ⟨g', q', e', rest', pr', h6, hm, h7⟩ := FAt.drop h5 k (by simpa using hk)
  exact ⟨g', q', e', rest', pr', h6, List.mem_cons_of_mem _ hm, h7⟩
theorem left_any (g : Nat) (sg : Int) (nm : List UInt8) (up : Int) (pa pb q : Option Addr) (w : World) (hb : w.heap[g]? = some (.cells #[.int .u8 sg, .string (St nm), .int .i64 up, .pointer pa, .pointer pb] 124 (0, 0))) :
 Calls Tryz.prog 111 #[.agg #[.pointer (some ⟨g, 0, none⟩), .pointer q]] w fun e w' => e = .returned (.agg #[.pointer pa, .pointer q]) /\ Below w.heap.size w w' := by
 have c3 : w.cell? ⟨g, 3, none⟩ = some (.pointer pa) := block_cell hb 3
 have lg := lt_of_block hb
 clear hb
 go_enter Tryz.func111, Tryz.ntmps111
 go_wp2
 go_region
 all_goals go_wp2
 all_goals refine bodyPost_ret (v := .agg #[.pointer pa, .pointer q]) (by simp [results, Tryz.results111, go_sem]) rfl ?_
 all_goals exact ⟨rfl, by repeat (first | exact Below.refl _ _ | refine up_drew ?_ | refine up_alloc ?_ _ | refine set0 ?_ (by simp))⟩
theorem right_any (g : Nat) (sg : Int) (nm : List UInt8) (up : Int) (pa pb q : Option Addr) (w : World) (hb : w.heap[g]? = some (.cells #[.int .u8 sg, .string (St nm), .int .i64 up, .pointer pa, .pointer pb] 124 (0, 0))) :
 Calls Tryz.prog 112 #[.agg #[.pointer (some ⟨g, 0, none⟩), .pointer q]] w fun e w' => e = .returned (.agg #[.pointer pb, .pointer q]) /\ Below w.heap.size w w' := by
 have c3 : w.cell? ⟨g, 4, none⟩ = some (.pointer pb) := block_cell hb 4
 have lg := lt_of_block hb
 clear hb
 go_enter Tryz.func112, Tryz.ntmps112
 go_wp2
 go_region
 all_goals go_wp2
 all_goals refine bodyPost_ret (v := .agg #[.pointer pb, .pointer q]) (by simp [results, Tryz.results112, go_sem]) rfl ?_
 all_goals exact ⟨rfl, by repeat (first | exact Below.refl _ _ | refine up_drew ?_ | refine up_alloc ?_ _ | refine set0 ?_ (by simp))⟩
def InPost (w : World) (t : Ty) (pa : Option Addr) (env : List (Ty × Nat)) (e : Ending) (w' : World) : Prop :=
 ∃ f g, e = .returned (.tuple #[.agg #[.pointer pa, .pointer (some ⟨g, 0, none⟩)], .pointer (some ⟨f, 0, none⟩)]) /\ w.heap.size <= f /\ f < w'.heap.size /\ FAt w' ((t, f) :: env) (some ⟨g, 0, none⟩) /\ Below w.heap.size w w'
theorem inside_any (g : Nat) (sg : Int) (nm : List UInt8) (up : Int) (pa pb q : Option Addr) (w : World) (t : Ty) (env : List (Ty × Nat)) (hb : w.heap[g]? = some (.cells #[.int .u8 sg, .string (St nm), .int .i64 up, .pointer pa, .pointer pb] 124 (0, 0)))
 (ht : TyAt w t (some ⟨g, 0, none⟩)) (he : FAt w env q) :
 Calls Tryz.prog 118 #[.agg #[.pointer (some ⟨g, 0, none⟩), .pointer q]] w (InPost w t pa env) := by
 have HC : Hid (∀ w1, Below w.heap.size w w1 -> w1.cell? ⟨g, 3, none⟩ = some (.pointer pa)) := fun w1 h => block_cell (block_up h hb) 3
 have c3 := HC.out w (Below.refl _ _)
 have lg := lt_of_block hb
 have HF : Hid (∀ (w' : World) (f g' : Nat), Below w.heap.size w w' -> w.heap.size <= f -> w'.heap[f]? = some (.cells #[.pointer (some ⟨g, 0, none⟩), .pointer q] 155 (0, 0)) -> w'.heap[g']? = some (.cells #[.pointer (some ⟨f, 0, none⟩), .pointer q] 190 (0, 0)) -> InPost w t pa env (.returned (.tuple #[.agg #[.pointer pa, .pointer (some ⟨g', 0, none⟩)], .pointer (some ⟨f, 0, none⟩)])) w') := fun w' f g' hw hf h1 h2 =>
  ⟨f, g', rfl, hf, lt_of_block h1, ⟨g', q, some ⟨g, 0, none⟩, rfl, h2, h1, ht.up hw, he.up hw⟩, hw⟩
 clear hb ht he
 go_enter Tryz.func118, Tryz.ntmps118
 go_wp2
 have hup : Below w.heap.size w (((w.alloc (.cells #[.pointer (some ⟨g, 0, none⟩), .pointer q] 71)).alloc (.cells #[.pointer none, .pointer none] 71)).alloc (.cells #[.pointer (some ⟨g, 0, none⟩), .pointer q] 155)) := up_alloc (up_alloc (up1 w _) _) _
 have b0 := block_alloc (old2 w (.cells #[.pointer (some ⟨g, 0, none⟩), .pointer q] 71) (.cells #[.pointer none, .pointer none] 71)) (.cells #[.pointer (some ⟨g, 0, none⟩), .pointer q] 155)
 have b1 := block_alloc (new2 w (.cells #[.pointer (some ⟨g, 0, none⟩), .pointer q] 71) (.cells #[.pointer none, .pointer none] 71)) (.cells #[.pointer (some ⟨g, 0, none⟩), .pointer q] 155)
 have b2 := new2 (w.alloc (.cells #[.pointer (some ⟨g, 0, none⟩), .pointer q] 71)) (.cells #[.pointer none, .pointer none] 71) (.cells #[.pointer (some ⟨g, 0, none⟩), .pointer q] 155)
 rw [show (w.alloc (.cells #[.pointer (some ⟨g, 0, none⟩), .pointer q] 71)).heap.size + 1 = w.heap.size + 1 + 1 by simp] at b2
 generalize (((w.alloc (.cells #[.pointer (some ⟨g, 0, none⟩), .pointer q] 71)).alloc (.cells #[.pointer none, .pointer none] 71)).alloc (.cells #[.pointer (some ⟨g, 0, none⟩), .pointer q] 155)) = W3 at *
 have d3 := HC.out W3 hup
 have q3 : ∀ o, (W3.alloc o).cell? ⟨g, 3, none⟩ = some (.pointer pa) := fun o => HC.out _ (up_alloc hup o)
 have q3' := q3 (.cells #[.pointer (some ⟨w.heap.size + 1 + 1, 0, none⟩), .pointer q] 190)
 have k0 : W3.cell? ⟨w.heap.size, 0, none⟩ = some (.pointer (some ⟨g, 0, none⟩)) := block_cell b0 0
 have k1 : W3.cell? ⟨w.heap.size, 1, none⟩ = some (.pointer q) := block_cell b0 1
 have r0 : W3.cell? ⟨w.heap.size + 1, 0, none⟩ = some (.pointer none) := block_cell b1 0
 have r1 : W3.cell? ⟨w.heap.size + 1, 1, none⟩ = some (.pointer none) := block_cell b1 1
 have f0 := block_free b1 0
 have f1 := block_free b1 1
 have l0 := lt_of_block b0
 have l1 := lt_of_block b1
 have lg3 : g < W3.heap.size := by have := hup.size; omega
 have HUP := Lib.hid hup
 have B2 := Lib.hid b2
 clear hup b0 b1 b2 c3 lg
 go_region
 all_goals go_wp2
 all_goals refine bodyPost_ret (v := .tuple #[.agg #[.pointer pa, .pointer (some ⟨W3.heap.size, 0, none⟩)], .pointer (some ⟨w.heap.size + 1 + 1, 0, none⟩)]) (by simp [results, Tryz.results118, go_sem, r0, r1, l1]) rfl ?_
 all_goals refine HF.out _ _ _ (by repeat (first | exact HUP.out | refine up_drew ?_ | refine up_alloc ?_ _ | refine set0 ?_ (by omega))) (by omega) ?_ ?_
 · exact block_alloc ((Below.heap_setCell _ ⟨w.heap.size + 1, 1, none⟩ _ _ (by simp)).trans ((Below.heap_setCell _ ⟨w.heap.size + 1, 0, none⟩ _ _ (by simp)).trans B2.out)) _
 · have := block_new ((W3.setCell ⟨w.heap.size + 1, 0, none⟩ (.pointer pa)).setCell ⟨w.heap.size + 1, 1, none⟩ (.pointer (some ⟨W3.heap.size, 0, none⟩))) (.cells #[.pointer (some ⟨w.heap.size + 1 + 1, 0, none⟩), .pointer q] 190)
   have hs : ((W3.setCell ⟨w.heap.size + 1, 0, none⟩ (.pointer pa)).setCell ⟨w.heap.size + 1, 1, none⟩ (.pointer (some ⟨W3.heap.size, 0, none⟩))).heap.size = W3.heap.size := by simp [World.setCell]
   rw [hs] at this
   exact this
theorem bound_any (g : Nat) (sg : Int) (nm : List UInt8) (k : Nat) (pa pb : Option Addr) (env : List (Ty × Nat)) (pe : Option Addr) (w : World) (hb : w.heap[g]? = some (.cells #[.int .u8 sg, .string (St nm), .int .i64 k, .pointer pa, .pointer pb] 124 (0, 0)))
 (he : FAt w env pe) (hk : k < env.length) (hkb : k <= 1000000) (f : Nat) (hf : ∃ e rest, env.drop k = e :: rest /\ e.2 = f) :
 Calls Tryz.prog 133 #[.agg #[.pointer (some ⟨g, 0, none⟩), .pointer pe]] w fun e w' => e = .returned (.pointer (some ⟨f, 0, none⟩)) /\ Below w.heap.size w w' := by
 have c2 : w.cell? ⟨g, 2, none⟩ = some (.int .i64 k) := block_cell hb 2
 have lg := lt_of_block hb
 have HE := Lib.hid he
 have HK := Lib.hid hk
 have HFF := Lib.hid hf
 clear hb he hk hf
 go_enter Tryz.func133, Tryz.ntmps133
 go_wp2_with fail
 go_loopw [3, 11] (fun v i wr => ∃ j q, j <= k /\ i = .int .i64 (j : Nat) /\ v = .pointer q /\ wr = w.alloc (.cells #[.pointer (some ⟨g, 0, none⟩), .pointer pe] 71) /\ Hid (FAt w (env.drop j) q)) (fun _ i _ => k - (intOf i).toNat)
 case atStart => exact ⟨0, pe, Nat.zero_le _, rfl, rfl, rfl, HE⟩
 case round =>
  obtain ⟨j, q, hj, rfl, rfl, rfl, hq⟩ := hrel
  by_cases hjk : j = k
  · subst hjk
    obtain ⟨g0, q0, e, rest, pr, hd, _, hfb, _, _, hq2⟩ := HE.out.drop j HK.out
    obtain ⟨e', rest', hd', rfl⟩ := HFF.out
    have hq := hq.out
    rw [hd] at hq hd'
    cases hd'
    obtain ⟨g1, q1, pr1, rfl, k1, _⟩ := hq
    have k0 : w.cell? ⟨g1, 0, none⟩ = some (.pointer (some ⟨e.2, 0, none⟩)) := block_cell k1 0
    have l1 := lt_of_block k1
    have hlt : decide ((j : Int) < (j : Int)) = false := by simp
    clear hq2 hfb k1 hq hd
    go_wp2
    go_ret
    exact ⟨by first | rfl | trivial, up1 w _⟩
  · obtain ⟨g0, q0, e, rest, pr, hd, _, hfb, _, hre, _⟩ := HE.out.drop j (Nat.lt_of_le_of_lt hj HK.out)
    have hd2 : env.drop (j + 1) = rest := by rw [<- List.drop_drop, hd]; rfl
    have hq := hq.out
    rw [hd] at hq
    obtain ⟨g1, q1, pr1, rfl, k1, _, _, hr1⟩ := hq
    have HR : Hid (FAt w (env.drop (j + 1)) q1) := by rw [hd2]; exact hr1
    have k0 : w.cell? ⟨g1, 1, none⟩ = some (.pointer q1) := block_cell k1 1
    have l1 := lt_of_block k1
    have hlt : decide ((j : Int) < (k : Int)) = true := by simp; omega
    have hw : IntKind.i64.wrap ((j : Int) + 1) = ((j + 1 : Nat) : Int) := by rw [IntKind.wrap_i64]; omega
    have hjk2 : j + 1 <= k := by omega
    clear hre hfb k1 hr1 hd hd2
    go_wp2
    go_roundw
    case rel => refine ⟨j + 1, q1, hjk2, ?_, ?_, ?_, HR⟩ <;> first | rfl | trivial | simp [hw]
    case measure => simp [intOf]; omega
end Go.Proofs.YtpokompplapkhaaGreatDoor

