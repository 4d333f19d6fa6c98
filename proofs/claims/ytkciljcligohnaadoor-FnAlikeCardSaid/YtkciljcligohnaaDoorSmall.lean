/- Small types have canonical texts: the plain law; and sums of alike types. -/
import Derived.Test.YtkciljcligohnaaDoorML
import Derived.Test.YtkciljcligohnaaDoorNam
namespace Go.Proofs.YtkciljcligohnaaDoor
open Go.RowKit
set_option linter.unusedVariables false
set_option linter.unusedSimpArgs false

/-! ### few names are used up -/
open Classical in
/-- How many of the free names are of the row, from k on. -/
noncomputable def phi (free : List (List UInt8)) (k : Nat) : Nat := (free.filter fun s => decide (∃ i, k ≤ i ∧ s = tN i)).length
theorem phi_succ (free : List (List UInt8)) (k : Nat) : phi free (k + 1) ≤ phi free k := by
  unfold phi
  induction free with
  | nil => simp
  | cons s r ih =>
    simp only [List.filter_cons]
    by_cases h : ∃ i, k + 1 ≤ i ∧ s = tN i
    · have h2 : ∃ i, k ≤ i ∧ s = tN i := by obtain ⟨i, hi, he⟩ := h; exact ⟨i, by omega, he⟩
      simp only [h, h2, decide_true, if_true, List.length_cons]
      omega
    · simp only [h, decide_false, Bool.false_eq_true, if_false]
      split
      · simp only [List.length_cons]
        omega
      · exact ih
theorem phi_hit {free : List (List UInt8)} {k : Nat} (h : tN k ∈ free) : phi free (k + 1) + 1 ≤ phi free k := by
  induction free with
  | nil => cases h
  | cons s r ih =>
    by_cases hs : s = tN k
    · have h1 : ¬ ∃ i, k + 1 ≤ i ∧ s = tN i := by
        rintro ⟨i, hi, he⟩
        have := tN_inj (hs.symm.trans he)
        omega
      have h2 : ∃ i, k ≤ i ∧ s = tN i := ⟨k, Nat.le_refl _, hs⟩
      have h3 := phi_succ r k
      unfold phi at h3 ⊢
      simp only [List.filter_cons, h1, h2, decide_true, decide_false, if_true, Bool.false_eq_true, if_false, List.length_cons]
      omega
    · have hm : tN k ∈ r := by
        rcases List.mem_cons.1 h with h | h
        · exact absurd h.symm hs
        · exact h
      have h3 := ih hm
      unfold phi at h3 ⊢
      simp only [List.filter_cons]
      by_cases h1 : ∃ i, k + 1 ≤ i ∧ s = tN i
      · have h2 : ∃ i, k ≤ i ∧ s = tN i := by obtain ⟨i, hi, he⟩ := h1; exact ⟨i, by omega, he⟩
        simp only [h1, h2, decide_true, if_true, List.length_cons]
        omega
      · simp only [h1, decide_false, Bool.false_eq_true, if_false]
        split
        · simp only [List.length_cons]
          omega
        · exact h3
theorem fresh_phi (free : List (List UInt8)) : ∀ (f k : Nat), fresh free f k + phi free (fresh free f k) ≤ k + phi free k
  | 0, k => by simp [fresh]
  | f + 1, k => by
    rw [fresh]
    split
    · rename_i h
      have h1 := fresh_phi free f (k + 1)
      have h2 := phi_hit h
      omega
    · exact Nat.le_refl _
theorem phi_zero (free : List (List UInt8)) : phi free 0 ≤ free.length := List.length_filter_le _ _
theorem tN_loop (j : Nat) (h : j < 100) : loopB (tN j) = true := by
  simp only [tN, namedB, Bool.and_eq_true, decide_eq_true_eq, List.contains_iff_mem, List.all_eq_true]
  exact ⟨⟨by simp, decL_len 1 j (by omega)⟩, fun b hb => decL_digit j b hb⟩
/-- How many recs. -/
def NT.recs : NT → Nat
  | .sum a b => a.recs + b.recs
  | .prod a b => a.recs + b.recs
  | .loop _ a => 1 + a.recs
  | _ => 0
/-- What renaming uses up, and that all its names are of the row's first hundred. -/
theorem ren_phi (free : List (List UInt8)) : ∀ (n : NT) (env : List (List UInt8 × List UInt8)) (k : Nat), n.ok → (∀ p ∈ env, loopB p.2 = true ∨ paramB p.2 = true) → k + phi free k + n.recs ≤ 100 →
    (n.ren free env k).1.ok ∧ (n.ren free env k).2 + phi free (n.ren free env k).2 ≤ k + phi free k + n.recs
  | .zero, _, k, _, _, _ => ⟨trivial, Nat.le_refl _⟩
  | .one, _, k, _, _, _ => ⟨trivial, Nat.le_refl _⟩
  | .name s, env, k, h, he, _ => by
    refine ⟨?_, Nat.le_refl _⟩
    show paramB (sub s env) = true ∨ loopB (sub s env) = true
    induction env with
    | nil => exact h
    | cons p r ih =>
      obtain ⟨a, b⟩ := p
      rw [sub]
      split
      · exact (he (a, b) (by simp)).symm
      · exact ih fun q hq => he q (by simp [hq])
  | .sum a b, env, k, h, he, hk => by
    simp only [NT.recs] at hk ⊢
    obtain ⟨h1, h2⟩ := ren_phi free a env k h.1 he (by omega)
    obtain ⟨h3, h4⟩ := ren_phi free b env (a.ren free env k).2 h.2 he (by omega)
    exact ⟨⟨h1, h3⟩, by simp only [NT.ren]; omega⟩
  | .prod a b, env, k, h, he, hk => by
    simp only [NT.recs] at hk ⊢
    obtain ⟨h1, h2⟩ := ren_phi free a env k h.1 he (by omega)
    obtain ⟨h3, h4⟩ := ren_phi free b env (a.ren free env k).2 h.2 he (by omega)
    exact ⟨⟨h1, h3⟩, by simp only [NT.ren]; omega⟩
  | .loop s a, env, k, h, he, hk => by
    simp only [NT.recs] at hk ⊢
    have hf : freshN free k + phi free (freshN free k) ≤ k + phi free k := fresh_phi free free.length k
    have hs := phi_succ free (freshN free k)
    have hl : loopB (tN (freshN free k)) = true := tN_loop _ (by omega)
    obtain ⟨h3, h4⟩ := ren_phi free a ((s, tN (freshN free k)) :: env) (freshN free k + 1) h.2 (by
      intro p hp
      rcases List.mem_cons.1 hp with rfl | hp
      · exact .inl hl
      · exact he p hp) (by omega)
    exact ⟨⟨hl, h3⟩, by simp only [NT.ren]; omega⟩
theorem fr_recs : ∀ (n : NT) (bd ls : List (List UInt8)), (n.fr bd ls).length + n.recs ≤ ls.length + n.atoms
  | .zero, bd, ls => by simp [NT.fr, NT.recs, NT.atoms]
  | .one, bd, ls => by simp [NT.fr, NT.recs, NT.atoms]
  | .name s, bd, ls => by
    simp only [NT.fr, NT.recs, NT.atoms]
    split
    · omega
    · simp
  | .sum a b, bd, ls => by
    have h1 := fr_recs a bd ls
    have h2 := fr_recs b bd (a.fr bd ls)
    simp only [NT.fr, NT.recs, NT.atoms]
    omega
  | .prod a b, bd, ls => by
    have h1 := fr_recs a bd ls
    have h2 := fr_recs b bd (a.fr bd ls)
    simp only [NT.fr, NT.recs, NT.atoms]
    omega
  | .loop s a, bd, ls => by
    have h1 := fr_recs a (bd ++ [s]) ls
    simp only [NT.fr, NT.recs, NT.atoms]
    omega
theorem toTr_dep : ∀ (n : NT), n.ok3 → n.toTr.dep ≤ n.atoms
  | .zero, _ => by simp [NT.toTr, Tr.dep]
  | .one, _ => by simp [NT.toTr, Tr.dep]
  | .name s, h => by simp [NT.toTr, Tr.dep, h.1]
  | .sum a b, h => by
    have h1 := toTr_dep a h.1
    have h2 := toTr_dep b h.2
    simp only [NT.toTr, Tr.dep, Tr.deps, NT.atoms, if_true]
    simp
    omega
  | .prod a b, h => by
    have h1 := toTr_dep a h.1
    have h2 := toTr_dep b h.2
    simp only [NT.toTr, Tr.dep, Tr.deps, NT.atoms, if_true]
    simp
    omega
  | .loop s a, h => by
    have h1 := toTr_dep a h.2
    simp only [NT.toTr, Tr.dep, Tr.deps, NT.atoms, if_true]
    simp [h.1.1.1]
    omega
/-- A small type has a canonical text. -/
theorem small_told (n : NT) (hn : n.ok) (ha : n.atoms ≤ 100) : ∃ c, (n.db []).told = some c := by
  have h3 := ok_ok3 hn
  have hfr : n.names.length + n.recs ≤ n.atoms := by have := fr_recs n [] []; simpa [NT.names] using this
  have hp := phi_zero n.names
  obtain ⟨hok, _⟩ := ren_phi n.names n [] 0 hn (by simp) (by omega)
  have hok : n.apart.ok := hok
  have hat : n.apart.atoms = n.atoms := apart_atoms n
  have hlen := ok3_len (ok_ok3 hok)
  have hdep := toTr_dep n.apart (ok_ok3 hok)
  have hrd := rdTy_of hok (by omega) (by omega) (by omega)
  refine ⟨n.apart.toTr.txt, ?_⟩
  rw [← canonN_told n h3, canonN, if_neg (by omega), hrd, if_neg (by simp)]

/-- A text has twice as many bytes as atoms, or nearly. -/
theorem txt_atoms : ∀ (n : NT), n.ok3 → 2 * n.atoms ≤ n.toTr.txt.length + 1
  | .zero, _ => by simp [NT.toTr, Tr.txt, NT.atoms]
  | .one, _ => by simp [NT.toTr, Tr.txt, NT.atoms]
  | .name s, h => by
    simp only [NT.toTr, NT.atoms]
    rw [txt_leaf h.1]
    have := List.length_pos_iff.2 h.1
    omega
  | .sum a b, h => by
    have h1 := txt_atoms a h.1
    have h2 := txt_atoms b h.2
    simp only [NT.toTr, NT.atoms]
    rw [txt_three [43] (by simp)]
    simp only [List.length_append, List.length_cons, List.length_nil]
    omega
  | .prod a b, h => by
    have h1 := txt_atoms a h.1
    have h2 := txt_atoms b h.2
    simp only [NT.toTr, NT.atoms]
    rw [txt_three [42] (by simp)]
    simp only [List.length_append, List.length_cons, List.length_nil]
    omega
  | .loop s a, h => by
    have h1 := txt_atoms a h.2
    simp only [NT.toTr, NT.atoms]
    rw [txt_three [114, 101, 99] (by simp)]
    simp only [List.length_append, List.length_cons, List.length_nil]
    omega
theorem short_atoms {l : List UInt8} {n : NT} (h : rdTy l = some n) (hl : l.length ≤ 200) : n.atoms ≤ 100 := by
  obtain ⟨rfl, _, _, _, hok, _⟩ := rdTy_tr h
  have := txt_atoms n (ok_ok3 hok)
  omega

end Go.Proofs.YtkciljcligohnaaDoor
