/- The program's names, isClosed. -/
import Derived.Test.YtkciljcligohnaaDoorDP
import Derived.Test.YtkciljcligohnaaDoorSFree2
import Derived.Deep.RegionLaw
import Derived.Lib.SlicesS
namespace Go.Proofs.YtkciljcligohnaaDoor
open Go.RowKit
set_option linter.unusedVariables false
set_option linter.unusedSimpArgs false

theorem row_heap {W W' : World} {A : Option Addr} {ls : List Value} (h : W.heap = W'.heap) (hr : RCells W A ls) : RCells W' A ls := by
  rcases hr with hr | ⟨g, o, rfl, hr⟩
  · exact .inl hr
  · refine .inr ⟨g, o, rfl, fun j u hu => ?_⟩
    rw [← hr j u hu]
    simp only [World.cell?, h]
theorem pre_pos : ∀ t : Ty, 1 ≤ t.pre.length
  | .sum a b => by simp [Ty.pre]
  | .prod a b => by simp [Ty.pre]
  | .loop a => by simp [Ty.pre]
  | .zero => by simp [Ty.pre]
  | .one => by simp [Ty.pre]
  | .name _ => by simp [Ty.pre]
  | .bound _ => by simp [Ty.pre]
theorem fold_m {α : Type} (m : α → Nat) (step : α → Ty → α) (hm : ∀ acc u, m (step acc u) ≤ m acc + 1) : ∀ (l : List Ty) (acc : α), m (l.foldl step acc) ≤ m acc + l.length
  | [], acc => by simp
  | u :: l, acc => by
    have h1 := hm acc u
    have h2 := fold_m m step hm l (step acc u)
    simp only [List.foldl_cons, List.length_cons]
    omega

set_option maxHeartbeats 4000000 in
set_option maxRecDepth 100000 in
theorem visit_NM {α : Type} (I : α → World → Prop) (step : α → Ty → α) (q1 : Addr)
    (m : α → Nat) (M : Nat) (hm : ∀ acc u, m (step acc u) ≤ m acc + 1)
    (hK : ∀ (u : Ty) (p : Option Addr) (w : World) (acc : α), m acc < M → I acc w → TyAt w u p → Calls Tryd.prog 91 #[.pointer p, .pointer (some q1)] w fun e w' => e = .returned (.tuple #[]) ∧ I (step acc u) w' ∧ Keeps 56 w w')
    (t : Ty) : ∀ (w : World) (p : Option Addr) (acc : α), m acc + t.pre.length ≤ M → I acc w → TyAt w t p →
      Calls Tryd.prog 90 #[.pointer p, .func (.func 91) #[] #[.pointer (some q1)]] w fun e w' => e = .returned (.tuple #[]) ∧ I (t.pre.foldl step acc) w' ∧ Keeps 56 w w' := by
  have HK := Lib.hid hK
  clear hK
  induction t with
  | sum a b iha ihb =>
    intro w p acc hM hI hp
    have hM1 := hm acc (.sum a b)
    have hM2 := fold_m m step hm a.pre (step acc (.sum a b))
    have hl1 := pre_pos (Ty.sum a b)
    have hlen : (Ty.sum a b).pre.length = 1 + a.pre.length + b.pre.length := by simp [Ty.pre]; omega
    have IHA := Lib.hid (fun w p h1 h2 => iha w p (step acc (.sum a b)) (by omega) h1 h2)
    have IHB := Lib.hid (fun w p h1 h2 => ihb w p (a.pre.foldl step (step acc (.sum a b))) (by omega) h1 h2)
    have HKM : Hid (m acc < M) := by show m acc < M; omega
    have HP := Lib.hid hp
    have HI := Lib.hid hI
    obtain ⟨pa, pb, ⟨g, rfl, hb⟩, ha, hb'⟩ := hp
    obtain ⟨ga, rfl⟩ := ha.some_
    obtain ⟨gb, rfl⟩ := hb'.some_
    have HC : Hid (∀ w1, Keeps 56 w w1 → w1.cell? ⟨g, 3, none⟩ = some (.pointer (some ⟨ga, 0, none⟩)) ∧ w1.cell? ⟨g, 4, none⟩ = some (.pointer (some ⟨gb, 0, none⟩)) ∧ Hid (TyAt w1 a (some ⟨ga, 0, none⟩)) ∧ Hid (TyAt w1 b (some ⟨gb, 0, none⟩))) := fun w1 hk => ⟨block_cell (hk _ _ _ hb) 3, block_cell (hk _ _ _ hb) 4, ha.keep hk, hb'.keep hk⟩
    simp only [Ty.pre, List.foldl_cons, List.foldl_append]
    clear iha ihb hb ha hb' hI hM hM1 hM2 hl1 hlen
    go_enter Tryd.func90, Tryd.ntmps90
    go_wp2_with (first
      | (go_at_call 91; refine (HK.out _ _ _ _ HKM.out HI.out HP.out).mono ?_; rintro e w1 ⟨rfl, hi1, hk1⟩; obtain ⟨c3, c4, ha1, _⟩ := HC.out w1 hk1; have HI1 := Lib.hid hi1; have HK1 := Lib.hid hk1; clear hi1 hk1)
      | (go_at_call 90; first
          | ((with_reducible refine (IHB.out _ _ HI2.out hb2.out).mono ?_); rintro e w3 ⟨rfl, hi3, hk3⟩; have HI3 := Lib.hid hi3; have HK3 := Lib.hid (HK2.out.trans hk3); clear hi3 hk3)
          | ((with_reducible refine (IHA.out _ _ HI1.out ha1.out).mono ?_); rintro e w2 ⟨rfl, hi2, hk2⟩; obtain ⟨d3, d4, _, hb2⟩ := HC.out w2 (HK1.out.trans hk2); have HI2 := Lib.hid hi2; have HK2 := Lib.hid (HK1.out.trans hk2); clear hi2 hk2)))
    go_end0
    exact ⟨rfl, HI3.out, HK3.out⟩
  | prod a b iha ihb =>
    intro w p acc hM hI hp
    have hM1 := hm acc (.prod a b)
    have hM2 := fold_m m step hm a.pre (step acc (.prod a b))
    have hl1 := pre_pos (Ty.prod a b)
    have hlen : (Ty.prod a b).pre.length = 1 + a.pre.length + b.pre.length := by simp [Ty.pre]; omega
    have IHA := Lib.hid (fun w p h1 h2 => iha w p (step acc (.prod a b)) (by omega) h1 h2)
    have IHB := Lib.hid (fun w p h1 h2 => ihb w p (a.pre.foldl step (step acc (.prod a b))) (by omega) h1 h2)
    have HKM : Hid (m acc < M) := by show m acc < M; omega
    have HP := Lib.hid hp
    have HI := Lib.hid hI
    obtain ⟨pa, pb, ⟨g, rfl, hb⟩, ha, hb'⟩ := hp
    obtain ⟨ga, rfl⟩ := ha.some_
    obtain ⟨gb, rfl⟩ := hb'.some_
    have HC : Hid (∀ w1, Keeps 56 w w1 → w1.cell? ⟨g, 3, none⟩ = some (.pointer (some ⟨ga, 0, none⟩)) ∧ w1.cell? ⟨g, 4, none⟩ = some (.pointer (some ⟨gb, 0, none⟩)) ∧ Hid (TyAt w1 a (some ⟨ga, 0, none⟩)) ∧ Hid (TyAt w1 b (some ⟨gb, 0, none⟩))) := fun w1 hk => ⟨block_cell (hk _ _ _ hb) 3, block_cell (hk _ _ _ hb) 4, ha.keep hk, hb'.keep hk⟩
    simp only [Ty.pre, List.foldl_cons, List.foldl_append]
    clear iha ihb hb ha hb' hI hM hM1 hM2 hl1 hlen
    go_enter Tryd.func90, Tryd.ntmps90
    go_wp2_with (first
      | (go_at_call 91; refine (HK.out _ _ _ _ HKM.out HI.out HP.out).mono ?_; rintro e w1 ⟨rfl, hi1, hk1⟩; obtain ⟨c3, c4, ha1, _⟩ := HC.out w1 hk1; have HI1 := Lib.hid hi1; have HK1 := Lib.hid hk1; clear hi1 hk1)
      | (go_at_call 90; first
          | ((with_reducible refine (IHB.out _ _ HI2.out hb2.out).mono ?_); rintro e w3 ⟨rfl, hi3, hk3⟩; have HI3 := Lib.hid hi3; have HK3 := Lib.hid (HK2.out.trans hk3); clear hi3 hk3)
          | ((with_reducible refine (IHA.out _ _ HI1.out ha1.out).mono ?_); rintro e w2 ⟨rfl, hi2, hk2⟩; obtain ⟨d3, d4, _, hb2⟩ := HC.out w2 (HK1.out.trans hk2); have HI2 := Lib.hid hi2; have HK2 := Lib.hid (HK1.out.trans hk2); clear hi2 hk2)))
    go_end0
    exact ⟨rfl, HI3.out, HK3.out⟩
  | loop a iha =>
    intro w p acc hM hI hp
    have hM1 := hm acc (.loop a)
    have hl1 := pre_pos (Ty.loop a)
    have hlen : (Ty.loop a).pre.length = 1 + a.pre.length := by simp [Ty.pre]; omega
    have IHA := Lib.hid (fun w p h1 h2 => iha w p (step acc (.loop a)) (by omega) h1 h2)
    have HKM : Hid (m acc < M) := by show m acc < M; omega
    have HP := Lib.hid hp
    have HI := Lib.hid hI
    obtain ⟨pa, ⟨g, rfl, hb⟩, ha⟩ := hp
    obtain ⟨ga, rfl⟩ := ha.some_
    have HC : Hid (∀ w1, Keeps 56 w w1 → w1.cell? ⟨g, 3, none⟩ = some (.pointer (some ⟨ga, 0, none⟩)) ∧ w1.cell? ⟨g, 4, none⟩ = some (.pointer none) ∧ Hid (TyAt w1 a (some ⟨ga, 0, none⟩))) := fun w1 hk => ⟨block_cell (hk _ _ _ hb) 3, block_cell (hk _ _ _ hb) 4, ha.keep hk⟩
    rw [show (Ty.loop a).pre.foldl step acc = a.pre.foldl step (step acc (.loop a)) from rfl]
    clear iha hb ha hI hM hM1 hl1 hlen
    go_enter Tryd.func90, Tryd.ntmps90
    go_wp2_with (first
      | (go_at_call 91; refine (HK.out _ _ _ _ HKM.out HI.out HP.out).mono ?_; rintro e w1 ⟨rfl, hi1, hk1⟩; obtain ⟨c3, c4, ha1⟩ := HC.out w1 hk1; have HI1 := Lib.hid hi1; have HK1 := Lib.hid hk1; clear hi1 hk1)
      | (go_at_call 90; (with_reducible refine (IHA.out _ _ HI1.out ha1.out).mono ?_); rintro e w2 ⟨rfl, hi2, hk2⟩; obtain ⟨d3, d4, ha2⟩ := HC.out w2 (HK1.out.trans hk2); have HI2 := Lib.hid hi2; have HK2 := Lib.hid (HK1.out.trans hk2); clear hi2 hk2))
    go_end0
    exact ⟨rfl, HI2.out, HK2.out⟩
  | _ =>
    intro w p acc hM hI hp
    have HKM : Hid (m acc < M) := by show m acc < M; simp [Ty.pre] at hM; omega
    have HP := Lib.hid hp
    have HI := Lib.hid hI
    obtain ⟨g, rfl, hb⟩ := hp
    have HC : Hid (∀ w1, Keeps 56 w w1 → w1.cell? ⟨g, 3, none⟩ = some (.pointer none) ∧ w1.cell? ⟨g, 4, none⟩ = some (.pointer none)) := fun w1 hk => ⟨block_cell (hk _ _ _ hb) 3, block_cell (hk _ _ _ hb) 4⟩
    clear hb hI hM
    go_enter Tryd.func90, Tryd.ntmps90
    go_wp2_with (go_at_call 91; refine (HK.out _ _ _ _ HKM.out HI.out HP.out).mono ?_; rintro e w1 ⟨rfl, hi1, hk1⟩; obtain ⟨c3, c4⟩ := HC.out w1 hk1; have HI1 := Lib.hid hi1; have HK1 := Lib.hid hk1; clear hi1 hk1)
    go_end0
    exact ⟨rfl, HI1.out, HK1.out⟩

/-- How the free names go on. -/
def nstep (ls : List (List UInt8)) : Ty → List (List UInt8)
  | .name s => if s ∈ ls then ls else ls ++ [s]
  | _ => ls
theorem nstep_len (ls : List (List UInt8)) (u : Ty) : (nstep ls u).length ≤ ls.length + 1 := by
  cases u with
  | name s =>
    simp only [nstep]
    split
    · omega
    · simp
  | _ => simp only [nstep]; omega
/-- Where the names stand: in a variable, in a row. -/
def NI (w0 : World) (b : Nat) (ls : List (List UInt8)) (w : World) : Prop :=
  Below w0.heap.size w0 w ∧ w0.heap.size ≤ b ∧ ∃ g c, w.heap[b]? = some (.cells #[.slice (some ⟨g, 0, none⟩) ls.length c] 33 (0, 0)) ∧ SOwn w w0.heap.size ls g c

theorem contains_q (ls : List (List UInt8)) (g c : Nat) (s : List UInt8) (w : World) (B : Nat) (hl : ls.length ≤ 1000000) (ho : SOwn w B ls g c) (n : Nat) :
    Calls Tryd.prog 92 #[.slice (some ⟨g, 0, none⟩) ls.length c, .string (St s)] (w.drewN n) fun e w' => e = .returned (.bool (decide (s ∈ ls))) ∧ ∃ m, w' = w.drewN m := by
  have ho' : SOwn (w.drewN n) B ls g c := ho.up (up_drewN w n)
  refine (Tryd.slices_Contains_string g 0 ls.length c (ls.map St) (St s) (w.drewN n) (by simp) (by omega) (fun j hj => ?_)).mono ?_
  · have hj' : j < ls.length := by simpa using hj
    rw [Nat.zero_add, ho'.cell j ls[j] (List.getElem?_eq_getElem hj')]
    simp [List.getD, hj']
  · rintro e w' ⟨he, hw⟩
    refine ⟨?_, n, hw⟩
    rw [he]
    congr 2
    rw [Bool.eq_iff_iff, Lib.containsS_iff, decide_eq_true_iff]
    rw [List.take_of_length_le (by simp)]
    constructor
    · intro h
      obtain ⟨x, hx, hxe⟩ := List.mem_map.1 h
      rwa [← St_inj.1 hxe]
    · intro h
      exact List.mem_map.2 ⟨s, h, rfl⟩

set_option maxHeartbeats 4000000 in
theorem names_clo (w0 : World) (b : Nat) (ls : List (List UInt8)) (hl : ls.length < 1000) (u : Ty) (p : Option Addr) (w : World) (hi : NI w0 b ls w) (hp : TyAt w u p) :
    Calls Tryd.prog 91 #[.pointer p, .pointer (some ⟨b, 0, none⟩)] w fun e w' => e = .returned (.tuple #[]) ∧ NI w0 b (nstep ls u) w' ∧ Keeps 56 w w' := by
  obtain ⟨i0, hi0, hz0, hz1, hz2⟩ := info_parts Tryd.infoStr
  obtain ⟨h1, h2, g, c, h3, h4⟩ := hi
  have d2 : w.cell? ⟨b, 0, none⟩ = some (.slice (some ⟨g, 0, none⟩) ls.length c) := block_cell h3 0
  have d3 := block_free h3 0
  have l2 := lt_of_block h3
  have HS : Hid (∀ m, NI w0 b ls (w.drewN m) ∧ Keeps 56 w (w.drewN m)) := fun m => ⟨⟨up_trans h1 (up_drewN _ _), h2, g, c, h3, h4.up (up_drewN _ _)⟩, .up (up_drewN _ _)⟩
  have hgb : g ≠ b := by
    rintro rfl
    rcases h4.2 with ⟨h5, _⟩ | ⟨g', cap, cur, h5, _, hh, _⟩
    · cases h5
    · cases h5
      rw [h3] at hh
      simp at hh
  cases u with
  | name s =>
    obtain ⟨gu, rfl, hb⟩ := hp
    have c0 : w.cell? ⟨gu, 0, none⟩ = some (.int .u8 110) := block_cell hb 0
    have c1 : w.cell? ⟨gu, 1, none⟩ = some (.string (St s)) := block_cell hb 1
    have HCT := Lib.hid (contains_q ls g c s w w0.heap.size (by omega) h4)
    by_cases hs : s ∈ ls
    · rw [decide_eq_true hs] at HCT
      rw [show nstep ls (.name s) = ls from by simp only [nstep]; rw [if_pos hs]]
      clear h1 h2 h3 h4 hb hs hgb
      generalize ls.length = n at *
      go_enter Tryd.func91, Tryd.ntmps91
      go_wp2
      go_quiet ((go_at_call 92; with_reducible exact HCT.out _))
      go_wp2
      go_end0
      exact ⟨rfl, HS.out _⟩
    · rw [decide_eq_false hs] at HCT
      rw [show nstep ls (.name s) = ls ++ [s] from by simp only [nstep]; rw [if_neg hs]]
      have HO : Hid (∀ w', Below w.heap.size w w' → w'.ownsRow w0.heap.size 9 1 (.slice (some ⟨g, 0, none⟩) ls.length c) ls.length (strs ls) ∧ w0.heap.size ≤ w'.heap.size) := fun w' hb => ⟨own_up h4 hb, Nat.le_trans h1.size hb.size⟩
      have HAF : Hid (∀ w1 w2, Below w.heap.size w w1 → w1.grownBy w2 (some g) → w2.cell? ⟨b, 0, none⟩ = some (.slice (some ⟨g, 0, none⟩) ls.length c) ∧ w2.frozen? ⟨b, 0, none⟩ = false ∧ b < w2.heap.size) := fun w1 w2 hb hg => by
        have hb1 := block_up hb h3
        have hlt1 := lt_of_block hb1
        have hb2 : w2.heap[b]? = some (.cells #[.slice (some ⟨g, 0, none⟩) ls.length c] 33 (0, 0)) := (hg.block b hlt1 (by simp; exact fun h => hgb h.symm)).trans hb1
        exact ⟨block_cell hb2 0, block_free hb2 0, lt_of_block hb2⟩
      have HFIN : Hid (∀ w1 w2 g2 c2, Below w.heap.size w w1 → w1.grownBy w2 (some g) → (g2 = g ∨ w1.heap.size ≤ g2) → w2.ownsRow w0.heap.size 9 1 (.slice (some ⟨g2, 0, none⟩) (ls.length + 1) c2) (ls.length + 1) (strs ls ++ [.string (St s)]) → NI w0 b (ls ++ [s]) (w2.setCell ⟨b, 0, none⟩ (.slice (some ⟨g2, 0, none⟩) (ls.length + 1) c2)) ∧ Keeps 56 w (w2.setCell ⟨b, 0, none⟩ (.slice (some ⟨g2, 0, none⟩) (ls.length + 1) c2))) := fun w1 w2 g2 c2 hb hg hat ho => by
        have hb1 := block_up hb h3
        have hlt1 := lt_of_block hb1
        have hb2 : w2.heap[b]? = some (.cells #[.slice (some ⟨g, 0, none⟩) ls.length c] 33 (0, 0)) := (hg.block b hlt1 (by simp; exact fun h => hgb h.symm)).trans hb1
        have hg2 : g2 ≠ b := by omega
        have hgg := h4.lt.1
        have hbel : Below w0.heap.size w0 w2 := (up_trans h1 hb).grown hg (up_trans h1 hb).size (fun k hk => by cases hk; exact hgg)
        have hso : SOwn w2 w0.heap.size (ls ++ [s]) g2 c2 := SOwn.of ho (by simp) (by simp [strs])
        refine ⟨⟨set0 hbel h2, h2, g2, c2, ?_, ?_⟩, ?_⟩
        · have := one_setCell hb2 (u := .slice (some ⟨g2, 0, none⟩) (ls.length + 1) c2)
          simpa using this
        · exact ownsRow_setCell_other hso (by simp [Value.ownBlock]; exact hg2) _
        · exact ((Keeps.up hb).trans (Keeps.grown (own_up h4 hb) hg (by decide))).trans (Keeps.set_ (a := ⟨b, 0, none⟩) hb2 (by decide) _)
      have da : ∀ (k : Nat) (o : Obj), ((w.drewN k).alloc o).cell? ⟨b, 0, none⟩ = some (.slice (some ⟨g, 0, none⟩) ls.length c) := fun k o => cell_up (up_alloc (up_drewN w k) o) d2
      clear h1 h2 h3 h4 hb hs hgb HS
      have HLS : Hid (ls.length < 1000) := hl
      have HLN : Hid ((strs ls).length = ls.length) := by show _ = _; simp [strs]
      generalize strs ls = es at *
      generalize hnn : ls.length = n at *
      go_enter Tryd.func91, Tryd.ntmps91
      go_wp2
      go_quiet ((go_at_call 92; with_reducible exact HCT.out _))
      go_wp2
      go_region_law ((refine step_append_row _ (by rfl) _ _ 33 (by rfl) w0.heap.size 9 i0 (.string ⟨#[]⟩) 16 Tryd.underlying33 hi0 hz0 hz1 hz2 rfl g n c es (by rfl) (own_heap (W := w.alloc (.cells #[.string (St s)] 9)) rfl (HO.out _ (up1 w _)).1) (some ⟨w.heap.size, 0, none⟩) 1 1 [.string (St s)] (by rfl) rfl (row_heap (W := w.alloc (.cells #[.string (St s)] 9)) rfl (row_one (block_cell (block_new w _) 0))) (by simp [Value.oneCell']) (by have := HLS.out; omega) (by decide) (Nat.le_trans (HO.out w (Below.refl _ _)).2 (Below.size (by repeat (first | exact up_drewN _ _ | exact Below.refl _ _ | refine up_drew ?_ | refine up_alloc ?_ _)))) (n + 1) rfl (es ++ [.string (St s)]) rfl ?_; intro g2 c2 w5 hown hgrow hbel hat; obtain ⟨d5, f5, l5⟩ := HAF.out _ w5 (by repeat (first | exact up_drewN _ _ | exact Below.refl _ _ | refine up_drew ?_ | refine up_alloc ?_ _)) hgrow; have HF := Lib.hid (HFIN.out _ w5 g2 c2 (by repeat (first | exact up_drewN _ _ | exact Below.refl _ _ | refine up_drew ?_ | refine up_alloc ?_ _)) hgrow hat hown); clear hown hgrow hbel hat))
      all_goals go_wp2
      all_goals go_end0
      all_goals exact ⟨rfl, HF.out⟩
  | _ =>
    have hp' : ∃ g sg nm up pa pb, p = some ⟨g, 0, none⟩ ∧ (∃ s2 : Int, sg = s2 ∧ (s2 == 110) = false) ∧ w.heap[g]? = some (.cells #[.int .u8 sg, .string (St nm), .int .i64 up, .pointer pa, .pointer pb] 56 (0, 0)) := by
      first
        | (obtain ⟨g, rfl, hb⟩ := hp; exact ⟨g, _, _, _, _, _, rfl, ⟨_, rfl, rfl⟩, hb⟩)
        | (obtain ⟨pa, ⟨g, rfl, hb⟩, ha⟩ := hp; exact ⟨g, _, _, _, _, _, rfl, ⟨_, rfl, rfl⟩, hb⟩)
        | (obtain ⟨pa, pb, ⟨g, rfl, hb⟩, ha, hb'⟩ := hp; exact ⟨g, _, _, _, _, _, rfl, ⟨_, rfl, rfl⟩, hb⟩)
    obtain ⟨gu, sg, nm', up, pa, pb, rfl, ⟨_, rfl, hsg⟩, hb⟩ := hp'
    have hsg2 : decide (sg = 110) = false := by simpa using hsg
    have c0 := block_cell hb 0
    rw [show nstep ls _ = ls from rfl]
    clear h1 h2 h3 h4 hb hgb
    generalize ls.length = n at *
    go_enter Tryd.func91, Tryd.ntmps91
    go_wp2
    go_quiet (fail)
    go_wp2
    go_end0
    exact ⟨rfl, HS.out _⟩

set_option maxHeartbeats 2000000 in
/-- names of a type, from any place. -/
theorem names_any (t : Ty) (w : World) (p : Option Addr) (hp : TyAt w t p) (hn : t.atoms ≤ 900) :
    Calls Tryd.prog 62 #[.pointer p] w (LPost w (t.pre.foldl nstep [])) := by
  have hl := pre_len t
  have HV : Hid (∀ (w1 : World) (b : Nat), NI w b [] w1 → TyAt w1 t p → Calls Tryd.prog 90 #[.pointer p, .func (.func 91) #[] #[.pointer (some ⟨b, 0, none⟩)]] w1 fun e w' => e = .returned (.tuple #[]) ∧ NI w b (t.pre.foldl nstep []) w' ∧ Keeps 56 w1 w') := fun w1 b hi ht =>
    visit_NM (NI w b) nstep ⟨b, 0, none⟩ List.length 999 (fun acc u => nstep_len acc u) (fun u p w2 acc ha hi hp => names_clo w b acc (by omega) u p w2 hi hp) t w1 p [] (by simp; omega) hi ht
  have HI : Hid (NI w (w.heap.size + 1) [] ((w.alloc (.cells #[] 9)).alloc (.cells #[.slice (some ⟨w.heap.size, 0, none⟩) 0 0] 33)) ∧ TyAt ((w.alloc (.cells #[] 9)).alloc (.cells #[.slice (some ⟨w.heap.size, 0, none⟩) 0 0] 33)) t p) :=
    ⟨⟨up_alloc (up1 w _) _, by omega, w.heap.size, 0, new2 w _ _, (SOwn.new w _ (Nat.le_refl _) [] (by simp)).up (up1 _ _)⟩, (hp.up (up1 _ _)).up (up1 _ _)⟩
  clear hp hl
  generalize t.pre.foldl nstep [] = ls at *
  go_enter Tryd.func62, Tryd.ntmps62
  go_wp2_with (go_at_call 90; refine (HV.out _ _ HI.out.1 HI.out.2).mono ?_; rintro e w3 ⟨rfl, ⟨hb, _, g, c, hbl, ho⟩, _⟩; have d3 := block_cell hbl 0; have HB := Lib.hid hb; have HO := Lib.hid ho; clear hb hbl ho)
  go_ret
  exact ⟨HB.out, g, c, rfl, HO.out⟩

/-! ### the two name lists are one -/
theorem look_none {s : List UInt8} : ∀ {env : List (List UInt8)}, look s env = none ↔ s ∉ env
  | [] => by simp [look]
  | e :: r => by
    rw [look]
    by_cases h : e = s
    · subst h; simp
    · rw [if_neg h]
      simp only [Option.map_eq_none_iff, look_none (env := r), List.mem_cons, not_or]
      exact ⟨fun h1 => ⟨fun h2 => h h2.symm, h1⟩, fun h1 => h1.2⟩
theorem names_fr3 : ∀ (n : NT) (env ls : List (List UInt8)), n.ok3 → (∀ e ∈ env, paramB e = false) → (n.db env).pre.foldl nstep ls = n.fr env.reverse ls
  | .zero, _, _, _, _ => rfl
  | .one, _, _, _, _ => rfl
  | .name s, env, ls, h, he => by
    simp only [NT.db, NT.fr]
    by_cases hs : paramB s = true
    · rw [if_pos hs]
      have hn : s ∉ env := fun hm => by rw [he s hm] at hs; cases hs
      simp only [Ty.pre, List.foldl_cons, List.foldl_nil, nstep, List.mem_reverse]
      by_cases hm : s ∈ ls
      · rw [if_pos hm, if_pos (.inr hm)]
      · rw [if_neg hm, if_neg (fun h => by rcases h with h | h; exact hn h; exact hm h)]
    · rw [if_neg hs]
      cases hl : look s env with
      | none =>
        have hn := look_none.1 hl
        simp only [Ty.pre, List.foldl_cons, List.foldl_nil, nstep, List.mem_reverse]
        by_cases hm : s ∈ ls
        · rw [if_pos hm, if_pos (.inr hm)]
        · rw [if_neg hm, if_neg (fun h => by rcases h with h | h; exact hn h; exact hm h)]
      | some k =>
        have hn : s ∈ env := Classical.byContradiction fun h => by rw [look_none.2 h] at hl; cases hl
        simp only [Ty.pre, List.foldl_cons, List.foldl_nil, nstep, List.mem_reverse]
        rw [if_pos (.inl hn)]
  | .sum a b, env, ls, h, he => by
    simp only [NT.db, NT.fr, Ty.pre, List.foldl_cons, List.foldl_append, nstep]
    rw [names_fr3 a env ls h.1 he, names_fr3 b env _ h.2 he]
  | .prod a b, env, ls, h, he => by
    simp only [NT.db, NT.fr, Ty.pre, List.foldl_cons, List.foldl_append, nstep]
    rw [names_fr3 a env ls h.1 he, names_fr3 b env _ h.2 he]
  | .loop s a, env, ls, h, he => by
    simp only [NT.db, NT.fr, Ty.pre, List.foldl_cons, nstep]
    rw [names_fr3 a (s :: env) ls h.2 (by intro e hm; rcases List.mem_cons.1 hm with rfl | hm; exact h.1.2; exact he e hm)]
    simp
theorem names_fr (n : NT) (env ls : List (List UInt8)) (h : n.ok) (he : ∀ e ∈ env, loopB e = true) : (n.db env).pre.foldl nstep ls = n.fr env.reverse ls := names_fr3 n env ls (ok_ok3 h) fun e hm => loop_noparam (he e hm)

end Go.Proofs.YtkciljcligohnaaDoor
