/- Canonical texts, read back: the plain law. -/
import Derived.Test.YtkciljcligohnaaDoorCanP
namespace Go.Proofs.YtkciljcligohnaaDoor
open Go.RowKit
set_option linter.unusedVariables false
set_option linter.unusedSimpArgs false

mutual
theorem wf_okT : ∀ {t : Tr}, t.wf → OkT t
  | .mk s ps, h => by
    rcases h with ⟨_, _, rfl⟩ | ⟨rfl, _, h⟩
    · exact ⟨fun _ => rfl, trivial⟩
    · exact ⟨fun h => absurd rfl h, wfs_okT h⟩
theorem wfs_okT : ∀ {ts : List Tr}, Tr.wfs ts → OkTs ts
  | [], _ => trivial
  | _ :: _, h => ⟨wf_okT h.1, wfs_okT h.2⟩
end

theorem toTr_inj : ∀ {a b : NT}, a.ok3 → b.ok3 → a.toTr = b.toTr → a = b
  | .zero, b, _, hb, h => by
    cases b <;> simp [NT.toTr] at h ⊢
    exact absurd h.symm hb.2.1
  | .one, b, _, hb, h => by
    cases b <;> simp [NT.toTr] at h ⊢
    exact absurd h.symm hb.2.2.1
  | .name s, b, ha, hb, h => by
    cases b <;> simp [NT.toTr] at h ⊢
    · exact ha.2.1 h
    · exact ha.2.2.1 h
    · exact h
  | .sum x y, b, ha, hb, h => by
    cases b <;> simp [NT.toTr] at h ⊢
    exact ⟨toTr_inj ha.1 hb.1 h.1, toTr_inj ha.2 hb.2 h.2⟩
  | .prod x y, b, ha, hb, h => by
    cases b <;> simp [NT.toTr] at h ⊢
    exact ⟨toTr_inj ha.1 hb.1 h.1, toTr_inj ha.2 hb.2 h.2⟩
  | .loop s x, b, ha, hb, h => by
    cases b <;> simp [NT.toTr] at h ⊢
    exact ⟨h.1, toTr_inj ha.2 hb.2 h.2⟩

theorem tyOf_ok : ∀ {n : NT}, n.ok → tyOf n.toTr = some n
  | .zero, _ => tyOf_zero []
  | .one, _ => tyOf_one []
  | .name s, h => tyOf_name h []
  | .sum a b, h => by
    obtain ⟨h1, h2, h3, h4⟩ := nil_no
    rw [NT.toTr, tyOf_three h1 h2 h3 h4, tyOf_ok h.1, tyOf_ok h.2]
    rfl
  | .prod a b, h => by
    obtain ⟨h1, h2, h3, h4⟩ := nil_no
    rw [NT.toTr, tyOf_three h1 h2 h3 h4, tyOf_ok h.1, tyOf_ok h.2]
    rfl
  | .loop s a, h => by
    obtain ⟨h1, h2, h3, h4⟩ := nil_no
    rw [NT.toTr, tyOf_three h1 h2 h3 h4, tyOf_ok h.2]
    simp [tyThree, Tr.atom, h.1]

theorem rdTy_tr {l : List UInt8} {n : NT} (h : rdTy l = some n) : l = n.toTr.txt ∧ n.toTr.wf ∧ n.toTr.dep ≤ 300 ∧ l.length ≤ 8000 ∧ n.ok ∧ n.atoms ≤ 400 := by
  have h0 := rdTy_some h
  unfold rdTy at h
  split at h
  · cases h
  · rename_i t ht
    obtain ⟨h1, hw, hd, hl⟩ := rdText_inv ht
    split at h
    · cases h
    · rename_i m hm
      split at h
      · cases h
      · cases h
        obtain ⟨rfl, _⟩ := tyOf_toTr t n (wf_okT hw) hm
        exact ⟨h1, hw, hd, hl, h0.1, h0.2⟩
theorem rdTy_of {n : NT} (h : n.ok) (ha : n.atoms ≤ 400) (hd : n.toTr.dep ≤ 300) (hl : n.toTr.txt.length ≤ 8000) : rdTy n.toTr.txt = some n := by
  unfold rdTy
  rw [rdText_txt (ok3_wf (ok_ok3 h)), if_pos ⟨hl, hd⟩]
  simp only
  rw [tyOf_ok h]
  simp only
  rw [if_neg (by omega)]

theorem apart_db (n : NT) (hn : n.ok3) : n.apart.db [] = n.db [] :=
  ren_db n.names n [] 0 hn ⟨by simp, by simp⟩ (cov_own n _ fun s hs => hs)
theorem apart_ok3 (n : NT) (hn : n.ok3) (ha : n.atoms ≤ 400) : n.apart.ok3 := ren_ok3 n.names n [] 0 hn (by simp) (by
  have h1 : n.atoms * (n.names.length + 1) ≤ 400 * 401 := Nat.mul_le_mul (by omega) (by have := names_len n; omega)
  omega)
theorem apart_atoms (n : NT) : n.apart.atoms = n.atoms := ren_atoms n.names n [] 0

/-- What is told is a text, and read back it is the type with its names apart. -/
theorem told_rd {n : NT} (hn : n.ok3) {c : List UInt8} (h : (n.db []).told = some c) : rdTy c = some n.apart ∧ n.atoms ≤ 400 := by
  rw [← canonN_told n hn, canonN] at h
  split at h
  · cases h
  · rename_i ha
    split at h
    · cases h
    · rename_i hr
      injection h with h
      cases hm : rdTy n.apart.toTr.txt with
      | none => exact absurd hm hr
      | some m =>
        obtain ⟨h1, hw, _, _, hok, _⟩ := rdTy_tr hm
        have h2 := txt_inj (ok3_wf (apart_ok3 n hn (by omega))) hw h1
        have h3 := toTr_inj (apart_ok3 n hn (by omega)) (ok_ok3 hok) h2
        rw [← h, hm, ← h3]
        exact ⟨rfl, by omega⟩
/-- A canonical text's type is alike. -/
theorem told_db {n : NT} (hn : n.ok3) {c : List UInt8} (h : (n.db []).told = some c) : ∃ m, rdTy c = some m ∧ m.ok ∧ m.db [] = n.db [] ∧ m.atoms = n.atoms ∧ m.names = n.names ∧ (m.db []).told = some c := by
  obtain ⟨h1, h2⟩ := told_rd hn h
  have h3 := apart_db n hn
  have h4 := rdTy_some h1
  refine ⟨_, h1, h4.1, h3, apart_atoms n, ?_, by rw [h3]; exact h⟩
  rw [← fnames_db _ (ok_ok3 h4.1), h3, fnames_db n hn]

end Go.Proofs.YtkciljcligohnaaDoor
