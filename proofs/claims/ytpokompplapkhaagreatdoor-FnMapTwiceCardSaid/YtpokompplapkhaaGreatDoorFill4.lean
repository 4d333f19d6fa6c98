/- Values drawn: l91Fill, whole. -/
import Derived.Test.YtpokompplapkhaaGreatDoorFill3
namespace Go.Proofs.YtpokompplapkhaaGreatDoor
open Go.RowKit
set_option linter.unusedVariables false
set_option linter.unusedSimpArgs false

theorem fill_deep : ∀ (n : NT), n.ok3 → n.atoms ≤ 400 → ∀ d : Int, (n.atoms : Int) - 50000 ≤ d → d ≤ -13 → Fil n d (2 * n.atoms) (10 * n.atoms)
  | .zero, _, _, d, _, _ => (fill_leaf .zero [48] (by simp) rfl d).mono (by simp [NT.atoms]) (by simp [NT.atoms])
  | .one, _, _, d, _, _ => (fill_leaf .one [49] (by simp) rfl d).mono (by simp [NT.atoms]) (by simp [NT.atoms])
  | .name s, h, _, d, _, _ => (fill_leaf (.name s) s h.1 rfl d).mono (by simp [NT.atoms]) (by simp [NT.atoms])
  | .sum a b, h, ha, d, h1, h2 => by
    have ha' := ha
    simp only [NT.atoms] at ha' h1
    have k1 := fill_deep a h.1 (by omega) (d - 1) (by omega) (by omega)
    have k2 := fill_deep b h.2 (by omega) (d - 1) (by omega) (by omega)
    exact (fill_sum a b h ha d (by omega) (by omega) (2 * a.atoms + 2 * b.atoms) (10 * a.atoms + 10 * b.atoms) (k1.mono (by omega) (by omega)) (k2.mono (by omega) (by omega))).mono (by simp only [NT.atoms]; omega) (by simp only [NT.atoms]; omega)
  | .prod a b, h, ha, d, h1, h2 => by
    have ha' := ha
    simp only [NT.atoms] at ha' h1
    have k1 := fill_deep a h.1 (by omega) (d - 1) (by omega) (by omega)
    have k2 := fill_deep b h.2 (by omega) (d - 1) (by omega) (by omega)
    exact (fill_prod a b d (by omega) (by omega) _ _ _ _ k1 k2).mono (by simp only [NT.atoms]; omega) (by simp only [NT.atoms]; omega)
  | .loop s a, h, ha, d, h1, h2 => by
    simp only [NT.atoms] at h1
    exact (fill_rec s a h ha d (by omega) (by omega) 0 0 (fun hh => by omega)).mono (by omega) (by simp only [NT.atoms]; omega)
/-- How many picks, how long a text, by the depth that is left. -/
def NK : Nat → Nat
  | 0 => 800
  | m + 1 => 2 * NK m + 1
def NM : Nat → Nat
  | 0 => 4000
  | m + 1 => 2 * NM m + 5
theorem nk_pos (m : Nat) : 800 ≤ NK m ∧ 4000 ≤ NM m := by
  induction m with
  | zero => exact ⟨Nat.le_refl _, Nat.le_refl _⟩
  | succ m ih => simp only [NK, NM]; omega
theorem fill_lvl : ∀ (m : Nat), m ≤ 1000 → ∀ (n : NT), n.ok3 → n.atoms ≤ 400 → ∀ d : Int, d = (m : Int) - 13 → Fil n d (NK m) (NM m)
  | 0, _, n, h, ha, d, hd => (fill_deep n h ha d (by omega) (by omega)).mono (by simp only [NK]; omega) (by simp only [NM]; omega)
  | m + 1, hm, .zero, _, _, d, _ => (fill_leaf .zero [48] (by simp) rfl d).mono (by have := nk_pos (m + 1); omega) (by have := nk_pos (m + 1); omega)
  | m + 1, hm, .one, _, _, d, _ => (fill_leaf .one [49] (by simp) rfl d).mono (by have := nk_pos (m + 1); omega) (by have := nk_pos (m + 1); omega)
  | m + 1, hm, .name s, h, _, d, _ => (fill_leaf (.name s) s h.1 rfl d).mono (by have := nk_pos (m + 1); omega) (by have := nk_pos (m + 1); omega)
  | m + 1, hm, .sum a b, h, ha, d, hd => by
    have ha' := ha
    simp only [NT.atoms] at ha'
    have k1 := fill_lvl m (by omega) a h.1 (by omega) (d - 1) (by omega)
    have k2 := fill_lvl m (by omega) b h.2 (by omega) (d - 1) (by omega)
    exact (fill_sum a b h ha d (by omega) (by omega) _ _ k1 k2).mono (by simp only [NK]; omega) (by simp only [NM]; omega)
  | m + 1, hm, .prod a b, h, ha, d, hd => by
    have ha' := ha
    simp only [NT.atoms] at ha'
    have k1 := fill_lvl m (by omega) a h.1 (by omega) (d - 1) (by omega)
    have k2 := fill_lvl m (by omega) b h.2 (by omega) (d - 1) (by omega)
    exact (fill_prod a b d (by omega) (by omega) _ _ _ _ k1 k2).mono (by simp only [NK]; omega) (by simp only [NM]; omega)
  | m + 1, hm, .loop s a, h, ha, d, hd => by
    refine (fill_rec s a h ha d (by omega) (by omega) (NK m) (NM m) fun _ hf => ?_).mono (by simp only [NK]; omega) (by simp only [NM]; omega)
    have ha' := ha
    simp only [NT.atoms] at ha'
    have hfl : (frees [NT.loop s a, .name s]).length ≤ 500 := by
      rw [frees_two, List.length_append]
      have := names_len (NT.loop s a)
      simp
      omega
    have h3 := subN_ok3 s (.loop s a) a h.2 h (by omega) hfl
    have hdb := subN_db s (.loop s a) a h.2
    rw [fits_put s _ _ h.2, decide_eq_true_eq, ← hdb, NT.db_atoms] at hf
    exact fill_lvl m (by omega) _ h3 hf (d - 1) (by omega)
/-- What l91Fill draws, where it is called. -/
theorem l91Fill_any (n : NT) (h : n.ok3) (ha : n.atoms ≤ 400) (d : Int) (h0 : 0 ≤ d) (h1 : d ≤ 9) : Fil n d 4000000000 100000000000 := by
  obtain ⟨m, hm⟩ : ∃ m : Nat, d = (m : Int) - 13 := ⟨(d + 13).toNat, by omega⟩
  have hm2 : m ≤ 22 := by omega
  refine (fill_lvl m (by omega) n h ha d hm).mono ?_ ?_
  · have : ∀ m, m ≤ 22 → NK m ≤ NK 22 := fun m hm => by
      have mono : ∀ j, NK m ≤ NK (m + j) := fun j => by
        induction j with
        | zero => exact Nat.le_refl _
        | succ j ih => rw [← Nat.add_assoc]; simp only [NK]; omega
      have := mono (22 - m)
      rw [show m + (22 - m) = 22 by omega] at this
      exact this
    exact Nat.le_trans (this m hm2) (by decide)
  · have : ∀ m, m ≤ 22 → NM m ≤ NM 22 := fun m hm => by
      have mono : ∀ j, NM m ≤ NM (m + j) := fun j => by
        induction j with
        | zero => exact Nat.le_refl _
        | succ j ih => rw [← Nat.add_assoc]; simp only [NM]; omega
      have := mono (22 - m)
      rw [show m + (22 - m) = 22 by omega] at this
      exact this
    exact Nat.le_trans (this m hm2) (by decide)

end Go.Proofs.YtpokompplapkhaaGreatDoor
