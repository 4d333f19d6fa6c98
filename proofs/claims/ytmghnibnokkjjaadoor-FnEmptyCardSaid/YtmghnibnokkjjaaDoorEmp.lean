/- The program's isEmpty. -/
import Derived.Test.YtmghnibnokkjjaaDoorTy4
import Derived.Test.YtmghnibnokkjjaaDoorRow
namespace Go.Proofs.YtmghnibnokkjjaaDoor
open Go.RowKit
set_option linter.unusedVariables false
set_option linter.unusedSimpArgs false

def Ty.emp : Ty → Bool
  | .zero => true
  | .one => false
  | .name _ => false
  | .bound _ => true
  | .sum a b => a.emp && b.emp
  | .prod a b => a.emp || b.emp
  | .loop a => a.emp
/-- Bound names are ones of the recs around. -/
def Ty.scoped : Ty → Nat → Prop
  | .bound j, k => j < k
  | .sum a b, k => a.scoped k ∧ b.scoped k
  | .prod a b, k => a.scoped k ∧ b.scoped k
  | .loop a, k => a.scoped (k + 1)
  | _, _ => True
theorem look_lt {s : List UInt8} : ∀ {env : List (List UInt8)} {k : Nat}, look s env = some k → k < env.length
  | [], k, h => by simp [look] at h
  | e :: r, k, h => by
    rw [look] at h
    split at h
    · cases h; simp
    · cases hl : look s r with
      | none => rw [hl] at h; simp at h
      | some j =>
        rw [hl] at h
        simp at h
        have := look_lt hl
        simp
        omega
theorem db_scoped : ∀ (n : NT) (env : List (List UInt8)), (n.db env).scoped env.length
  | .zero, _ => trivial
  | .one, _ => trivial
  | .name s, env => by
    simp only [NT.db]
    split
    · trivial
    · cases hl : look s env with
      | none => trivial
      | some k => exact look_lt hl
  | .sum a b, env => ⟨db_scoped a env, db_scoped b env⟩
  | .prod a b, env => ⟨db_scoped a env, db_scoped b env⟩
  | .loop s a, env => db_scoped a (s :: env)

theorem Tryd.infoBool : (Tryd.prog.info? 4).map (fun i => (i.zero, i.size, i.bytes)) = some (some (.bool false), 1, 1) := by kernel_rfl

def trues (k : Nat) : List Value := List.replicate k (.bool true)
set_option maxHeartbeats 8000000 in
set_option maxRecDepth 100000 in
theorem isEmpty_any (t : Ty) : ∀ (w : World) (p A : Option Addr) (k c : Nat), TyAt w t p → t.scoped k → RCells w A (trues k) → k + t.atoms ≤ 100000 →
    Calls Tryd.prog 57 #[.pointer p, .slice A k c] w fun e w' => e = .returned (.bool t.emp) ∧ Below w.heap.size w w' := by
  obtain ⟨i0, hi0, hz0, hz1, hz2⟩ := info_parts Tryd.infoBool
  induction t with
  | sum a b iha ihb =>
    intro w p A k c hp hs hA hk
    obtain ⟨pa, pb, ⟨g, rfl, hb⟩, ha, hb'⟩ := hp
    obtain ⟨ga, rfl⟩ := ha.some_
    obtain ⟨gb, rfl⟩ := hb'.some_
    simp only [Ty.atoms] at hk
    have c0 : w.cell? ⟨g, 0, none⟩ = some (.int .u8 43) := block_cell hb 0
    have c3 : w.cell? ⟨g, 3, none⟩ = some (.pointer (some ⟨ga, 0, none⟩)) := block_cell hb 3
    have c4 : Hid (∀ w1, Below w.heap.size w w1 → w1.cell? ⟨g, 4, none⟩ = some (.pointer (some ⟨gb, 0, none⟩))) := fun w1 hb1 => block_cell (block_up hb1 hb) 4
    have H1 := Lib.hid (iha w _ A k c ha hs.1 hA (by omega))
    have H2 : Hid (∀ w1, Below w.heap.size w w1 → Calls Tryd.prog 57 #[.pointer (some ⟨gb, 0, none⟩), .slice A k c] w1 fun e w' => e = .returned (.bool b.emp) ∧ Below w1.heap.size w1 w') := fun w1 hb1 => ihb w1 _ A k c (hb'.up hb1) hs.2 (hA.up hb1) (by omega)
    simp only [Ty.emp]
    clear hb ha hb' hs hA iha ihb
    generalize a.emp = x at *
    generalize b.emp = y at *
    cases x with
    | false =>
      go_enter Tryd.func57, Tryd.ntmps57
      go_wp2_with (go_at_call 57; (with_reducible refine H1.out.mono ?_); rintro e w1 ⟨rfl, hb1⟩; have HB1 := Lib.hid hb1; clear hb1)
      go_ret
      exact ⟨rfl, HB1.out⟩
    | true =>
      go_enter Tryd.func57, Tryd.ntmps57
      go_wp2_with (go_at_call 57; first
        | ((with_reducible refine H1.out.mono ?_); rintro e w1 ⟨rfl, hb1⟩; have d4 := c4.out w1 hb1; have HB1 := Lib.hid hb1; clear hb1)
        | ((with_reducible refine (H2.out _ HB1.out).mono ?_); rintro e w2 ⟨rfl, hb2⟩; have HB2 := Lib.hid (up_trans HB1.out hb2); clear hb2))
      go_ret
      exact ⟨by simp, HB2.out⟩
  | prod a b iha ihb =>
    intro w p A k c hp hs hA hk
    obtain ⟨pa, pb, ⟨g, rfl, hb⟩, ha, hb'⟩ := hp
    obtain ⟨ga, rfl⟩ := ha.some_
    obtain ⟨gb, rfl⟩ := hb'.some_
    simp only [Ty.atoms] at hk
    have c0 : w.cell? ⟨g, 0, none⟩ = some (.int .u8 42) := block_cell hb 0
    have c3 : w.cell? ⟨g, 3, none⟩ = some (.pointer (some ⟨ga, 0, none⟩)) := block_cell hb 3
    have c4 : Hid (∀ w1, Below w.heap.size w w1 → w1.cell? ⟨g, 4, none⟩ = some (.pointer (some ⟨gb, 0, none⟩))) := fun w1 hb1 => block_cell (block_up hb1 hb) 4
    have H1 := Lib.hid (iha w _ A k c ha hs.1 hA (by omega))
    have H2 : Hid (∀ w1, Below w.heap.size w w1 → Calls Tryd.prog 57 #[.pointer (some ⟨gb, 0, none⟩), .slice A k c] w1 fun e w' => e = .returned (.bool b.emp) ∧ Below w1.heap.size w1 w') := fun w1 hb1 => ihb w1 _ A k c (hb'.up hb1) hs.2 (hA.up hb1) (by omega)
    simp only [Ty.emp]
    clear hb ha hb' hs hA iha ihb
    generalize a.emp = x at *
    generalize b.emp = y at *
    cases x with
    | true =>
      go_enter Tryd.func57, Tryd.ntmps57
      go_wp2_with (go_at_call 57; (with_reducible refine H1.out.mono ?_); rintro e w1 ⟨rfl, hb1⟩; have HB1 := Lib.hid hb1; clear hb1)
      go_ret
      exact ⟨rfl, HB1.out⟩
    | false =>
      go_enter Tryd.func57, Tryd.ntmps57
      go_wp2_with (go_at_call 57; first
        | ((with_reducible refine H1.out.mono ?_); rintro e w1 ⟨rfl, hb1⟩; have d4 := c4.out w1 hb1; have HB1 := Lib.hid hb1; clear hb1)
        | ((with_reducible refine (H2.out _ HB1.out).mono ?_); rintro e w2 ⟨rfl, hb2⟩; have HB2 := Lib.hid (up_trans HB1.out hb2); clear hb2))
      go_ret
      exact ⟨by simp, HB2.out⟩
  | loop a iha =>
    intro w p A k c hp hs hA hk
    obtain ⟨pa, ⟨g, rfl, hb⟩, ha⟩ := hp
    obtain ⟨ga, rfl⟩ := ha.some_
    simp only [Ty.atoms] at hk
    have c0 : w.cell? ⟨g, 0, none⟩ = some (.int .u8 114) := block_cell hb 0
    have HC : Hid (∀ w1, Below w.heap.size w w1 → w1.cell? ⟨g, 3, none⟩ = some (.pointer (some ⟨ga, 0, none⟩))) := fun w1 hb1 => block_cell (block_up hb1 hb) 3
    have c3 := HC.out w (Below.refl _ _)
    have hs' : a.scoped (k + 1) := hs
    have HR : Hid (∀ w1, Below w.heap.size w w1 → RCells w1 A (trues k)) := fun w1 hb => hA.up hb
    have HCA : Hid (∀ w1 g' c, Below w.heap.size w w1 → w1.ownsRow w.heap.size 4 1 (.slice (some ⟨g', 0, none⟩) (k + 1) c) (k + 1) (trues (k + 1)) → Calls Tryd.prog 57 #[.pointer (some ⟨ga, 0, none⟩), .slice (some ⟨g', 0, none⟩) (k + 1) c] w1 fun e w' => e = .returned (.bool a.emp) ∧ Below w1.heap.size w1 w') := fun w1 g' c hb1 ho => by
      refine iha w1 _ _ (k + 1) c (ha.up hb1) hs' ?_ (by omega)
      refine .inr ⟨g', 0, rfl, fun j u hu => ?_⟩
      have hj : j < k + 1 := by have := (List.getElem?_eq_some_iff.1 hu).1; simpa [trues] using this
      rw [Nat.zero_add, World.ownsRow.cellAt ho j (by omega)]
      simpa using hu
    have HLEN : Hid ((trues k).length = k) := by show _ = _; simp [trues]
    have HREV : Hid (trues k ++ [.bool true] = trues (k + 1)) := by
      show _ = _
      simp [trues, List.replicate_succ']
    have HONE : Hid (∀ u ∈ trues k, u.oneCell' = true) := by
      intro u hu
      rw [List.eq_of_mem_replicate hu]
      rfl
    have HNE : Hid (k ≤ 100000) := by show k ≤ 100000; omega
    simp only [Ty.emp]
    clear hb ha hs hs' hA iha hk
    generalize trues k = es at *
    generalize trues (k + 1) = es2 at *
    generalize a.emp = x at *
    go_enter Tryd.func57, Tryd.ntmps57
    go_wp2
    go_region_held3 (fun w' => w'.cell? ⟨g, 3, none⟩ = some (.pointer (some ⟨ga, 0, none⟩)))
      (first | exact d6 | exact d5 | exact d4 | exact c3 | exact HC.out _ (up1 _ _) | exact HC.out _ (up_drew (up1 _ _)) | exact HC.out _ (up_alloc (up1 _ _) _) | exact HC.out _ (up_drew (up_alloc (up1 _ _) _)) | exact HC.out _ (up_alloc (up_drew (up1 _ _)) _) | exact HC.out _ (up_alloc HB4.out _) | exact HC.out _ (up_drew (up_alloc HB4.out _)) | go_keep)
      (first
        | (go_at_call 57; (with_reducible refine (HCA.out _ _ _ HB5.out HO5.out).mono ?_); rintro e w6 ⟨rfl, hb6⟩; have HB6 := Lib.hid (up_trans HB5.out hb6); have d6 := HC.out w6 HB6.out; clear hb6)
        | ((refine step_append_row _ rfl _ _ 84 rfl w.heap.size 4 i0 (.bool false) 1 Tryd.underlying84 hi0 hz0 hz1 hz2 rfl _ 0 0 [] rfl (own_heap (W := w.alloc (.cells #[] 4)) rfl (own_nil w _ (Nat.le_refl _) 4)) A k c es rfl HLEN.out (HR.out _ (by repeat (first | exact Below.refl _ _ | refine up_drew ?_ | refine up_alloc ?_ _))) HONE.out (by have := HNE.out; omega) (by decide) (Below.size (by repeat (first | exact Below.refl _ _ | refine up_drew ?_ | refine up_alloc ?_ _))) k (by omega) es (by simp) ?_); intro g2 c2 w4 hown hgrow hbel hat; have HB4 : Hid (Below w.heap.size w w4) := Below.trans (by repeat (first | exact Below.refl _ _ | refine up_drew ?_ | refine up_alloc ?_ _)) hbel; have HO4 := Lib.hid hown; have d4 := HC.out w4 HB4.out; clear hown hgrow hbel hat)
        | ((refine step_append_row _ rfl _ _ 84 rfl w.heap.size 4 i0 (.bool false) 1 Tryd.underlying84 hi0 hz0 hz1 hz2 rfl _ 0 0 [] rfl (own_heap (W := (w.alloc (.cells #[] 4)).alloc (.cells #[.bool true] 4)) rfl (World.ownsRow.alloc (own_nil w _ (Nat.le_refl _) 4) _)) A k c es rfl HLEN.out (HR.out _ (by repeat (first | exact Below.refl _ _ | refine up_drew ?_ | refine up_alloc ?_ _))) HONE.out (by have := HNE.out; omega) (by decide) (Below.size (by repeat (first | exact Below.refl _ _ | refine up_drew ?_ | refine up_alloc ?_ _))) k (by omega) es (by simp) ?_); intro g2 c2 w4 hown hgrow hbel hat; have HB4 : Hid (Below w.heap.size w w4) := Below.trans (by repeat (first | exact Below.refl _ _ | refine up_drew ?_ | refine up_alloc ?_ _)) hbel; have HO4 := Lib.hid hown; have d4 := HC.out w4 HB4.out; have kc : w4.cell? ⟨w.heap.size + 1, 0, none⟩ = some (.bool true) := block_cell (cs := #[.bool true]) (t := 4) (fr := (0, 0)) ((hgrow.block (w.heap.size + 1) (by simp <;> omega) (by simp <;> omega)).trans (new2 w (.cells #[] 4) (.cells #[.bool true] 4))) 0; clear hown hgrow hbel hat)
        | ((refine step_append_row _ rfl _ _ 84 rfl w.heap.size 4 i0 (.bool false) 1 Tryd.underlying84 hi0 hz0 hz1 hz2 rfl _ k c2 es rfl (own_heap (W := w4.alloc (.cells #[.bool true] 4)) rfl (World.ownsRow.alloc HO4.out _)) (some ⟨_, 0, none⟩) 1 1 [.bool true] rfl rfl (row_one (block_cell (block_new w4 _) 0)) (by simp [Value.oneCell']) (by have := HNE.out; omega) (by decide) (Below.size (by repeat (first | exact HB4.out | refine up_drew ?_ | refine up_alloc ?_ _))) (k + 1) rfl es2 HREV.out ?_); intro g3 c3 w5 hown hgrow hbel hat; have HB5 : Hid (Below w.heap.size w w5) := Below.trans (by repeat (first | exact HB4.out | refine up_drew ?_ | refine up_alloc ?_ _)) hbel; have HO5 := Lib.hid hown; have d5 := HC.out w5 HB5.out; clear hown hgrow hbel hat)
        | ((refine step_append_row _ rfl _ _ 84 rfl w.heap.size 4 i0 (.bool false) 1 Tryd.underlying84 hi0 hz0 hz1 hz2 rfl _ k c2 es rfl (own_heap (W := w4) rfl HO4.out) (some ⟨_, 0, none⟩) 1 1 [.bool true] rfl rfl (row_one kc) (by simp [Value.oneCell']) (by have := HNE.out; omega) (by decide) (Below.size (by repeat (first | exact HB4.out | refine up_drew ?_ | refine up_alloc ?_ _))) (k + 1) rfl es2 HREV.out ?_); intro g3 c3 w5 hown hgrow hbel hat; have HB5 : Hid (Below w.heap.size w w5) := Below.trans (by repeat (first | exact HB4.out | refine up_drew ?_ | refine up_alloc ?_ _)) hbel; have HO5 := Lib.hid hown; have d5 := HC.out w5 HB5.out; clear hown hgrow hbel hat)
        | ((refine step_append_row _ rfl _ _ 84 rfl w.heap.size 4 i0 (.bool false) 1 Tryd.underlying84 hi0 hz0 hz1 hz2 rfl _ 0 0 [] rfl (own_heap (W := (w.alloc (.cells #[.bool true] 4)).alloc (.cells #[] 4)) rfl (own_nilH (w.alloc (.cells #[.bool true] 4)) _ (by simp) 4 (w.heap.size + 1) (by simp))) A k c es rfl HLEN.out (HR.out _ (by repeat (first | exact Below.refl _ _ | refine up_drew ?_ | refine up_alloc ?_ _))) HONE.out (by have := HNE.out; omega) (by decide) (Below.size (by repeat (first | exact Below.refl _ _ | refine up_drew ?_ | refine up_alloc ?_ _))) k (by omega) es (by simp) ?_); intro g2 c2 w4 hown hgrow hbel hat; have HB4 : Hid (Below w.heap.size w w4) := Below.trans (by repeat (first | exact Below.refl _ _ | refine up_drew ?_ | refine up_alloc ?_ _)) hbel; have HO4 := Lib.hid hown; have d4 := HC.out w4 HB4.out; have kc : w4.cell? ⟨w.heap.size, 0, none⟩ = some (.bool true) := block_cell (cs := #[.bool true]) (t := 4) (fr := (0, 0)) ((hgrow.block w.heap.size (by simp <;> omega) (by simp <;> omega)).trans (old2 w (.cells #[.bool true] 4) (.cells #[] 4))) 0; clear hown hgrow hbel hat))
    all_goals go_wp2
    all_goals go_ret
    all_goals exact ⟨rfl, HB6.out⟩
  | bound j =>
    intro w p A k c hp hs hA hk
    obtain ⟨g, rfl, hb⟩ := hp
    have hj : j < k := hs
    have c0 : w.cell? ⟨g, 0, none⟩ = some (.int .u8 98) := block_cell hb 0
    have c2 : w.cell? ⟨g, 2, none⟩ = some (.int .i64 j) := block_cell hb 2
    rcases hA with hA | ⟨gA, oA, rfl, hA⟩
    · simp [trues, List.replicate_eq_nil_iff] at hA; omega
    obtain ⟨i, rfl⟩ : ∃ i, k = i + j + 1 := ⟨k - j - 1, by omega⟩
    have d1 : w.cell? ⟨gA, oA + i, none⟩ = some (.bool true) := hA i _ (by simp [trues, List.getElem?_replicate]; omega)
    have e1 : IntKind.i64.wrap (((i + j + 1 : Nat) : Int) - 1) = (i : Int) + (j : Int) := by rw [IntKind.wrap_i64]; omega
    have e2 : IntKind.i64.wrap ((i : Int) + (j : Int) - (j : Int)) = (i : Int) := by rw [IntKind.wrap_i64]; omega
    have hi : i < i + j + 1 := by omega
    clear hb hs hA hj
    go_enter Tryd.func57, Tryd.ntmps57
    go_wp2
    go_ret
    exact ⟨rfl, Below.refl _ _⟩
  | _ =>
    intro w p A k c hp hs hA hk
    obtain ⟨g, rfl, hb⟩ := hp
    have c0 := block_cell hb 0
    clear hb hs hA hk
    go_enter Tryd.func57, Tryd.ntmps57
    go_wp2_with fail
    go_ret
    exact ⟨rfl, Below.refl _ _⟩

end Go.Proofs.YtmghnibnokkjjaaDoor
