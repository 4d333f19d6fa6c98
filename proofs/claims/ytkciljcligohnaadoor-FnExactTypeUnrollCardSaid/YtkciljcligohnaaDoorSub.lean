/- The reference's l1Sub. -/
import Derived.Test.YtkciljcligohnaaDoorPut2
import Derived.Test.YtkciljcligohnaaDoorCanP
namespace Go.Proofs.YtkciljcligohnaaDoor
open Go.RowKit
set_option linter.unusedVariables false
set_option linter.unusedSimpArgs false

theorem new4 (w : World) (o1 o2 o3 o4 : Obj) : ((((w.alloc o1).alloc o2).alloc o3).alloc o4).heap[w.heap.size + 3]? = some o4 := by
  have := block_new (((w.alloc o1).alloc o2).alloc o3) o4
  rw [show (((w.alloc o1).alloc o2).alloc o3).heap.size = w.heap.size + 3 by simp] at this
  exact this
theorem size4 {w : World} {o1 o2 o3 o4 : Obj} {n : Nat} (h : ((((w.alloc o1).alloc o2).alloc o3).alloc o4).heap.size ≤ n) : w.heap.size + 4 ≤ n := by
  simp at h
  omega
theorem ok3_ok' : ∀ {n : NT}, n.ok3 → n.ok'
  | .zero, _ => trivial
  | .one, _ => trivial
  | .name s, h => ⟨h.1, h.2.1⟩
  | .sum a b, h => ⟨ok3_ok' h.1, ok3_ok' h.2⟩
  | .prod a b, h => ⟨ok3_ok' h.1, ok3_ok' h.2⟩
  | .loop s a, h => (show a.ok' from ok3_ok' h.2)
theorem PPost.less {w w1 : World} {ok ok' : Nat → Prop} {n : NT} {e : Ending} {w' : World} (hb : Below w.heap.size w w1) (h : ∀ k, ok k → ok' k ∨ w.heap.size ≤ k) (hp : PPost w1 ok n e w') : PPost w ok' n e w' := by
  obtain ⟨⟨x, A, m, c, he, ht⟩, hb2⟩ := hp
  refine ⟨⟨x, A, m, c, he, ht.weak fun k hk => ?_⟩, up_trans hb hb2⟩
  have := hb.size
  rcases hk with hk | hk
  · exact h k hk
  · exact .inr (by omega)

set_option maxHeartbeats 8000000 in
set_option maxRecDepth 100000 in
theorem l1Sub_any (nm : List UInt8) (hnm : paramB nm = true ∨ loopB nm = true) (u n : NT) (hn : n.ok3) (hna : n.atoms ≤ 400) (hu3 : u.ok3) (hua : u.atoms ≤ 400) (v vu : Value) (w : World) (okv ok : Nat → Prop) (hok : ∀ k, ok k → k < w.heap.size) (hp : TAt w okv n.toTr v) (hu : TAt w ok u.toTr vu) :
    Calls Tryd.prog 51 #[v, .string (St nm), vu] w (PPost w ok (subN nm u n)) := by
  obtain ⟨x, A, n', c, rfl⟩ := hp.form
  obtain ⟨y, By, ny, cy, rfl⟩ := hu.form
  have hfl : (frees [u, .name nm]).length ≤ 500 := by
    rw [frees_two, List.length_append]
    have := names_len u
    simp
    omega
  have hat3 : (n.ren (n.names ++ frees [u, .name nm]) [] 0).1.ok3 := ren_ok3 _ n [] 0 hn (by simp) (by
    have h1 : n.atoms * ((n.names ++ frees [u, .name nm]).length + 1) ≤ 400 * 901 := Nat.mul_le_mul hna (by
      have := names_len n
      rw [List.length_append]
      omega)
    omega)
  have HAP : Hid (∀ w1 : World, Below w.heap.size w w1 → w1.heap[w.heap.size + 3]? = some (.cells #[.string y, .slice By ny cy, .string (St nm), .slice none 0 0] 43 (0, 0)) → Calls Tryd.prog 79 #[.agg #[.string x, .slice A n' c], .slice (some ⟨w.heap.size + 1 + 1 + 1, 0, none⟩) 2 2] w1 fun e w' => (∃ x A n' c, e = .returned (.agg #[.string x, .slice A n' c]) ∧ Hid (TAt w' (fun k => w1.heap.size ≤ k) (n.ren (n.names ++ frees [u, .name nm]) [] 0).1.toTr (.agg #[.string x, .slice A n' c]))) ∧ Below w1.heap.size w1 w') := fun w1 hb hrow => by
    have hoth : Oth w1 (some ⟨w.heap.size + 3, 0, none⟩) [u, .name nm] := by
      refine .inr ⟨_, _, rfl, fun i t ht => ?_⟩
      match i, ht with
      | 0, ht =>
        simp at ht
        subst ht
        exact ⟨y, By, ny, cy, block_cell hrow 0, block_cell hrow 1, (hu.up hb).weak fun _ _ => trivial⟩
      | 1, ht =>
        simp at ht
        subst ht
        exact ⟨St nm, none, 0, 0, block_cell hrow 2, block_cell hrow 3, none, 0, rfl, Nat.le_refl _, .nil _⟩
      | i + 2, ht => simp at ht
    exact l1Apart_with n [u, .name nm] hn hna (by
      intro t ht
      simp at ht
      rcases ht with rfl | rfl
      · exact ⟨hu3, hua⟩
      · exact ⟨name_ok hnm, by simp [NT.atoms]⟩) (by simp) hfl _ _ w1 okv 2 (hp.up hb) hoth
  have HPU : Hid (∀ (w5 : World) v, Below w.heap.size w w5 → w.heap.size + 4 ≤ w5.heap.size → Hid (TAt w5 (fun k => w.heap.size + 4 ≤ k) (n.ren (n.names ++ frees [u, .name nm]) [] 0).1.toTr v) → Calls Tryd.prog 85 #[v, .string (St nm), .agg #[.string y, .slice By ny cy]] w5 (PPost w5 (fun k => (ok k ∨ w.heap.size + 4 ≤ k) ∧ k < w5.heap.size) (subN nm u n))) := fun w5 v hb hs ht =>
    l1Put_any nm hnm u _ (ok3_ok' hat3) v _ w5 (fun k => (ok k ∨ w.heap.size + 4 ≤ k) ∧ k < w5.heap.size) (fun k hk => hk.2) (ht.out.move fun k hk ho => ⟨⟨.inr ho, hk⟩, rfl⟩) (hu.move fun k hk ho => ⟨⟨.inl ho, Nat.lt_of_lt_of_le hk hb.size⟩, hb.block k hk⟩)
  have HOK : Hid (∀ k, ok k → k < w.heap.size) := hok
  clear hp hu hok hn hna hu3 hua hfl hat3 hnm
  generalize (n.ren (n.names ++ frees [u, .name nm]) [] 0).1.toTr = tr at *
  generalize subN nm u n = res at *
  have X4 : Hid (((((w.alloc (.cells #[.string x, .slice A n' c] 43)).alloc (.cells #[.string y, .slice By ny cy] 43)).alloc (.cells #[.string (St []), .slice none 0 0] 43)).alloc (.cells #[.string y, .slice By ny cy, .string (St nm), .slice none 0 0] 43)).heap[w.heap.size]? = some (.cells #[.string x, .slice A n' c] 43 (0, 0))) := block_alloc (block_alloc (old2 w (.cells #[.string x, .slice A n' c] 43) (.cells #[.string y, .slice By ny cy] 43)) (.cells #[.string (St []), .slice none 0 0] 43)) (.cells #[.string y, .slice By ny cy, .string (St nm), .slice none 0 0] 43)
  have Y4 : Hid (((((w.alloc (.cells #[.string x, .slice A n' c] 43)).alloc (.cells #[.string y, .slice By ny cy] 43)).alloc (.cells #[.string (St []), .slice none 0 0] 43)).alloc (.cells #[.string y, .slice By ny cy, .string (St nm), .slice none 0 0] 43)).heap[w.heap.size + 1]? = some (.cells #[.string y, .slice By ny cy] 43 (0, 0))) := block_alloc (block_alloc (new2 w (.cells #[.string x, .slice A n' c] 43) (.cells #[.string y, .slice By ny cy] 43)) (.cells #[.string (St []), .slice none 0 0] 43)) (.cells #[.string y, .slice By ny cy, .string (St nm), .slice none 0 0] 43)
  have R4 : Hid (((((w.alloc (.cells #[.string x, .slice A n' c] 43)).alloc (.cells #[.string y, .slice By ny cy] 43)).alloc (.cells #[.string (St []), .slice none 0 0] 43)).alloc (.cells #[.string y, .slice By ny cy, .string (St nm), .slice none 0 0] 43)).heap[w.heap.size + 2]? = some (.cells #[.string (St []), .slice none 0 0] 43 (0, 0))) := block_alloc (new3 w (.cells #[.string x, .slice A n' c] 43) (.cells #[.string y, .slice By ny cy] 43) (.cells #[.string (St []), .slice none 0 0] 43)) (.cells #[.string y, .slice By ny cy, .string (St nm), .slice none 0 0] 43)
  have s4 : ((((w.alloc (.cells #[.string x, .slice A n' c] 43)).alloc (.cells #[.string y, .slice By ny cy] 43)).alloc (.cells #[.string (St []), .slice none 0 0] 43)).alloc (.cells #[.string y, .slice By ny cy, .string (St nm), .slice none 0 0] 43)).cell? ⟨w.heap.size, 0, none⟩ = some (.string x) ∧ ((((w.alloc (.cells #[.string x, .slice A n' c] 43)).alloc (.cells #[.string y, .slice By ny cy] 43)).alloc (.cells #[.string (St []), .slice none 0 0] 43)).alloc (.cells #[.string y, .slice By ny cy, .string (St nm), .slice none 0 0] 43)).cell? ⟨w.heap.size, 1, none⟩ = some (.slice A n' c) ∧ ((((w.alloc (.cells #[.string x, .slice A n' c] 43)).alloc (.cells #[.string y, .slice By ny cy] 43)).alloc (.cells #[.string (St []), .slice none 0 0] 43)).alloc (.cells #[.string y, .slice By ny cy, .string (St nm), .slice none 0 0] 43)).cell? ⟨w.heap.size + 1, 0, none⟩ = some (.string y) ∧ ((((w.alloc (.cells #[.string x, .slice A n' c] 43)).alloc (.cells #[.string y, .slice By ny cy] 43)).alloc (.cells #[.string (St []), .slice none 0 0] 43)).alloc (.cells #[.string y, .slice By ny cy, .string (St nm), .slice none 0 0] 43)).cell? ⟨w.heap.size + 1, 1, none⟩ = some (.slice By ny cy) := ⟨block_cell X4.out 0, block_cell X4.out 1, block_cell Y4.out 0, block_cell Y4.out 1⟩
  have X3 : Hid ((((w.alloc (.cells #[.string x, .slice A n' c] 43)).alloc (.cells #[.string y, .slice By ny cy] 43)).alloc (.cells #[.string (St []), .slice none 0 0] 43)).heap[w.heap.size]? = some (.cells #[.string x, .slice A n' c] 43 (0, 0))) := block_alloc (old2 w (.cells #[.string x, .slice A n' c] 43) (.cells #[.string y, .slice By ny cy] 43)) (.cells #[.string (St []), .slice none 0 0] 43)
  have Y3 : Hid ((((w.alloc (.cells #[.string x, .slice A n' c] 43)).alloc (.cells #[.string y, .slice By ny cy] 43)).alloc (.cells #[.string (St []), .slice none 0 0] 43)).heap[w.heap.size + 1]? = some (.cells #[.string y, .slice By ny cy] 43 (0, 0))) := block_alloc (new2 w (.cells #[.string x, .slice A n' c] 43) (.cells #[.string y, .slice By ny cy] 43)) (.cells #[.string (St []), .slice none 0 0] 43)
  have s3 : (((w.alloc (.cells #[.string x, .slice A n' c] 43)).alloc (.cells #[.string y, .slice By ny cy] 43)).alloc (.cells #[.string (St []), .slice none 0 0] 43)).cell? ⟨w.heap.size, 0, none⟩ = some (.string x) ∧ (((w.alloc (.cells #[.string x, .slice A n' c] 43)).alloc (.cells #[.string y, .slice By ny cy] 43)).alloc (.cells #[.string (St []), .slice none 0 0] 43)).cell? ⟨w.heap.size, 1, none⟩ = some (.slice A n' c) ∧ (((w.alloc (.cells #[.string x, .slice A n' c] 43)).alloc (.cells #[.string y, .slice By ny cy] 43)).alloc (.cells #[.string (St []), .slice none 0 0] 43)).cell? ⟨w.heap.size + 1, 0, none⟩ = some (.string y) ∧ (((w.alloc (.cells #[.string x, .slice A n' c] 43)).alloc (.cells #[.string y, .slice By ny cy] 43)).alloc (.cells #[.string (St []), .slice none 0 0] 43)).cell? ⟨w.heap.size + 1, 1, none⟩ = some (.slice By ny cy) := ⟨block_cell X3.out 0, block_cell X3.out 1, block_cell Y3.out 0, block_cell Y3.out 1⟩
  go_enter Tryd.func51, Tryd.ntmps51
  go_wp2
  go_region_held3 (fun w' => w'.cell? ⟨w.heap.size, 0, none⟩ = some (.string x) ∧ w'.cell? ⟨w.heap.size, 1, none⟩ = some (.slice A n' c) ∧ w'.cell? ⟨w.heap.size + 1, 0, none⟩ = some (.string y) ∧ w'.cell? ⟨w.heap.size + 1, 1, none⟩ = some (.slice By ny cy))
    (first | exact s7 | exact s6 | exact s5 | exact s4 | exact s3 | go_keep)
    (first
      | (go_at_call 79; (refine (HAP.out _ (by repeat (first | exact Below.refl _ _ | refine up_drew ?_ | refine up_alloc ?_ _)) (by exact new4 w (.cells #[.string x, .slice A n' c] 43) (.cells #[.string y, .slice By ny cy] 43) (.cells #[.string (St []), .slice none 0 0] 43) (.cells #[.string y, .slice By ny cy, .string (St nm), .slice none 0 0] 43))).mono ?_); rintro e w5 ⟨⟨x5, B5, m5, q5, rfl, HT5⟩, hb5⟩; have X5 := Lib.hid (block_up hb5 X4.out); have Y5 := Lib.hid (block_up hb5 Y4.out); have R5 := Lib.hid (block_up hb5 R4.out); have HB5 : Hid (Below w.heap.size w w5) := up_trans (by repeat (first | exact Below.refl _ _ | refine up_drew ?_ | refine up_alloc ?_ _)) hb5; have HS5 : Hid (w.heap.size + 4 ≤ w5.heap.size) := size4 (w := w) hb5.size; have HT5' : Hid (TAt w5 (fun k => w.heap.size + 4 ≤ k) tr (.agg #[.string x5, .slice B5 m5 q5])) := HT5.out.weak (fun k hk => by simpa using hk); have s5 : w5.cell? ⟨w.heap.size, 0, none⟩ = some (.string x) ∧ w5.cell? ⟨w.heap.size, 1, none⟩ = some (.slice A n' c) ∧ w5.cell? ⟨w.heap.size + 1, 0, none⟩ = some (.string y) ∧ w5.cell? ⟨w.heap.size + 1, 1, none⟩ = some (.slice By ny cy) := ⟨block_cell X5.out 0, block_cell X5.out 1, block_cell Y5.out 0, block_cell Y5.out 1⟩; clear hb5)
      | (go_at_call 85; (with_reducible refine (HPU.out _ _ HB5.out HS5.out HT5').mono ?_); rintro e w6 ⟨⟨x6, B6, m6, q6, rfl, ht6⟩, hb6⟩; have X6 := Lib.hid (block_up hb6 X5.out); have Y6 := Lib.hid (block_up hb6 Y5.out); have R6 := Lib.hid (block_up hb6 R5.out); have HB6 := Lib.hid (up_trans HB5.out hb6); have s6 : w6.cell? ⟨w.heap.size, 0, none⟩ = some (.string x) ∧ w6.cell? ⟨w.heap.size, 1, none⟩ = some (.slice A n' c) ∧ w6.cell? ⟨w.heap.size + 1, 0, none⟩ = some (.string y) ∧ w6.cell? ⟨w.heap.size + 1, 1, none⟩ = some (.slice By ny cy) := ⟨block_cell X6.out 0, block_cell X6.out 1, block_cell Y6.out 0, block_cell Y6.out 1⟩; have rc0 : w6.cell? ⟨w.heap.size + 2, 0, none⟩ = some (.string (St [])) := block_cell R6.out 0; have rc1 : w6.cell? ⟨w.heap.size + 2, 1, none⟩ = some (.slice none 0 0) := block_cell R6.out 1; have fr0 := block_free R6.out 0; have fr1 := block_free R6.out 1; have lr6 := lt_of_block R6.out; have HB7 : Hid (Below w.heap.size w ((w6.setCell ⟨w.heap.size + 2, 0, none⟩ (.string x6)).setCell ⟨w.heap.size + 2, 1, none⟩ (.slice B6 m6 q6))) := set0 (set0 HB6.out (by omega)) (by omega); have X7 : Hid (((w6.setCell ⟨w.heap.size + 2, 0, none⟩ (.string x6)).setCell ⟨w.heap.size + 2, 1, none⟩ (.slice B6 m6 q6)).heap[w.heap.size]? = some (.cells #[.string x, .slice A n' c] 43 (0, 0))) := (set2_block w6 _ _ (by omega)).trans X6.out; have Y7 : Hid (((w6.setCell ⟨w.heap.size + 2, 0, none⟩ (.string x6)).setCell ⟨w.heap.size + 2, 1, none⟩ (.slice B6 m6 q6)).heap[w.heap.size + 1]? = some (.cells #[.string y, .slice By ny cy] 43 (0, 0))) := (set2_block w6 _ _ (by omega)).trans Y6.out; have s7 : ((w6.setCell ⟨w.heap.size + 2, 0, none⟩ (.string x6)).setCell ⟨w.heap.size + 2, 1, none⟩ (.slice B6 m6 q6)).cell? ⟨w.heap.size, 0, none⟩ = some (.string x) ∧ ((w6.setCell ⟨w.heap.size + 2, 0, none⟩ (.string x6)).setCell ⟨w.heap.size + 2, 1, none⟩ (.slice B6 m6 q6)).cell? ⟨w.heap.size, 1, none⟩ = some (.slice A n' c) ∧ ((w6.setCell ⟨w.heap.size + 2, 0, none⟩ (.string x6)).setCell ⟨w.heap.size + 2, 1, none⟩ (.slice B6 m6 q6)).cell? ⟨w.heap.size + 1, 0, none⟩ = some (.string y) ∧ ((w6.setCell ⟨w.heap.size + 2, 0, none⟩ (.string x6)).setCell ⟨w.heap.size + 2, 1, none⟩ (.slice B6 m6 q6)).cell? ⟨w.heap.size + 1, 1, none⟩ = some (.slice By ny cy) := ⟨block_cell X7.out 0, block_cell X7.out 1, block_cell Y7.out 0, block_cell Y7.out 1⟩; have HFIN : Hid (PPost w ok res (.returned (.agg #[.string x6, .slice B6 m6 q6])) ((w6.setCell ⟨w.heap.size + 2, 0, none⟩ (.string x6)).setCell ⟨w.heap.size + 2, 1, none⟩ (.slice B6 m6 q6))) := ⟨⟨x6, B6, m6, q6, rfl, ht6.move (fun k hk ho => ⟨(by have h5 := HS5.out; rcases ho with ⟨ho | ho, _⟩ | ho; exact .inl ho; exact .inr (by omega); exact .inr (by omega)), set2_block w6 _ _ (by have h5 := HS5.out; rcases ho with ⟨ho | ho, _⟩ | ho; (have := HOK.out k ho; omega); omega; omega)⟩)⟩, HB7.out⟩; clear ht6 hb6))
  all_goals go_wp2
  all_goals refine bodyPost_ret (v := .agg #[.string x6, .slice B6 m6 q6]) (by simp [results, Tryd.results51, go_sem, rc0, rc1, lr6]) rfl ?_
  all_goals exact HFIN.out

end Go.Proofs.YtkciljcligohnaaDoor
