/- The law FnClosed, walked. -/
import Derived.Test.YtcfecmlfcjgdbaaGreatDoorWFnCanon
import Derived.Test.YtcfecmlfcjgdbaaGreatDoorMK
namespace Go.Proofs.YtcfecmlfcjgdbaaGreatDoor
open Go.RowKit
set_option linter.unusedVariables false
set_option linter.unusedSimpArgs false

theorem has_far (s : List UInt8) : ∀ (n : NT) (bd env : List (List UInt8)), (n.db (bd ++ env)).has s → (n.db bd).has s
  | .zero, _, _, h => h
  | .one, _, _, h => h
  | .name x, bd, env, h => by
    simp only [NT.db] at h ⊢
    split at h
    · rename_i hp
      rw [if_pos hp]
      exact h
    · rename_i hp
      rw [if_neg hp]
      cases hl : look x (bd ++ env) with
      | some k => rw [hl] at h; exact h.elim
      | none =>
        rw [hl] at h
        have := look_none.1 hl
        rw [look_none.2 (fun hm => this (by simp [hm]))]
        exact h
  | .sum a b, bd, env, h => h.imp (has_far s a bd env) (has_far s b bd env)
  | .prod a b, bd, env, h => h.imp (has_far s a bd env) (has_far s b bd env)
  | .loop x a, bd, env, h => has_far s a (x :: bd) env h
theorem closedOf_iff (n : NT) (hn : n.ok3) : closedOf (some n) = true ↔ ∀ s, loopB s = true → ¬ (n.db []).has s := by
  show (!(n.names.any loopB)) = true ↔ _
  rw [Bool.not_eq_true', List.any_eq_false]
  constructor
  · intro h s hs hh
    exact h s ((names_has s n hn).2 hh) hs
  · intro h s hs hl
    exact h s hl ((names_has s n hn).1 hs)
theorem closed_loop (x : List UInt8) (n : NT) (hn : (NT.loop x n).ok3) (h : closedOf (some n) = true) : closedOf (some (.loop x n)) = true := by
  rw [closedOf_iff _ hn]
  intro s hs hh
  exact (closedOf_iff n hn.2).1 h s hs (has_far s n [] [x] hh)
theorem rdTy_rec (x : List UInt8) (hx : loopB x = true) {l : List UInt8} {n : NT} (h : rdTy l = some n) :
    rdTy ([40, 114, 101, 99, 32] ++ x ++ [32] ++ l ++ [41]) = none ∨ rdTy ([40, 114, 101, 99, 32] ++ x ++ [32] ++ l ++ [41]) = some (.loop x n) := by
  obtain ⟨rfl, hw, _, _, hok, _⟩ := rdTy_tr h
  have hx3 := name_ok (.inr hx)
  have hok2 : (NT.loop x n).ok := ⟨hx, hok⟩
  have htx : [40, 114, 101, 99, 32] ++ x ++ [32] ++ n.toTr.txt ++ [41] = (NT.loop x n).toTr.txt := by
    simp only [NT.toTr]
    rw [txt_three [114, 101, 99] (by simp), txt_leaf hx3.1]
    simp
  rw [htx]
  unfold rdTy
  rw [rdText_txt (ok3_wf (ok_ok3 hok2))]
  split
  · exact .inl rfl
  · rename_i t ht
    split at ht
    · cases ht
      rw [tyOf_ok hok2]
      simp only
      split
      · exact .inl rfl
      · exact .inr rfl
    · cases ht
theorem rec9_data (s : ByteArray) : ((⟨#[40, 114, 101, 99, 32, 116, 57, 32]⟩ : ByteArray) ++ s ++ ⟨#[41]⟩).data.toList = [40, 114, 101, 99, 32] ++ [116, 57] ++ [32] ++ s.data.toList ++ [41] := by
  simp [ByteArray.data_append]
theorem rdTy_one : rdTy [49] = some .one := by
  have := rdTy_of (n := .one) trivial (by simp [NT.atoms]) (by simp [NT.toTr, Tr.dep]) (by simp [NT.toTr, Tr.txt])
  simpa [NT.toTr, Tr.txt] using this


end Go.Proofs.YtcfecmlfcjgdbaaGreatDoor
