/- Renaming bound names, in plain Lean. -/
import Derived.Test.YtkciljcligohnaaDoorList
import Derived.Test.YtkciljcligohnaaDoorClosed
import Derived.Test.YtkciljcligohnaaDoorEmp
import Derived.Test.YtkciljcligohnaaDoorSEmp
namespace Go.Proofs.YtkciljcligohnaaDoor
open Go.RowKit
set_option linter.unusedVariables false
set_option linter.unusedSimpArgs false

def valL (l : List UInt8) : Nat := l.foldl (fun a b => a * 10 + (b.toNat - 48)) 0
theorem valL_dec (n : Nat) : valL (decL n) = n := by
  induction n using Nat.strongRecOn with
  | ind n ih =>
    rw [decL]
    split
    · have : (UInt8.ofNat (48 + n)).toNat = 48 + n := by simp [UInt8.toNat_ofNat']; omega
      simp only [valL, List.foldl_cons, List.foldl_nil, this]
      omega
    · have h1 : (UInt8.ofNat (48 + n % 10)).toNat = 48 + n % 10 := by simp [UInt8.toNat_ofNat']; omega
      have h2 := ih (n / 10) (by omega)
      simp only [valL, List.foldl_append, List.foldl_cons, List.foldl_nil, h1] at h2 ⊢
      rw [h2]
      omega
/-- The j-th name for a bound one. -/
def tN (j : Nat) : List UInt8 := 116 :: decL j
theorem tN_inj {i j : Nat} (h : tN i = tN j) : i = j := by
  have : decL i = decL j := by simpa [tN] using h
  rw [← valL_dec i, this, valL_dec]
theorem tN_param (j : Nat) : paramB (tN j) = false := by simp [tN, namedB]
theorem tN_ne (j : Nat) : tN j ≠ [] ∧ tN j ≠ [48] ∧ tN j ≠ [49] := by simp [tN]
theorem tN_len (j : Nat) (h : j < 10000) : (tN j).length ≤ 5 := by
  have := decL_len 3 j (by omega)
  simp only [tN, List.length_cons]
  omega

/-- The next name that is not free. -/
def fresh (free : List (List UInt8)) : Nat → Nat → Nat
  | 0, k => k
  | f + 1, k => if tN k ∈ free then fresh free f (k + 1) else k
theorem fresh_not (free : List (List UInt8)) : ∀ (f : Nat) (l : List (List UInt8)) (k : Nat), l.length ≤ f → (∀ s ∈ free, (∃ j, k ≤ j ∧ s = tN j) → s ∈ l) → tN (fresh free f k) ∉ free
  | 0, l, k, hl, h => by
    intro hm
    have := h _ hm ⟨k, Nat.le_refl _, rfl⟩
    rw [List.length_eq_zero_iff.1 (by omega : l.length = 0)] at this
    cases this
  | f + 1, l, k, hl, h => by
    rw [fresh]
    split
    · rename_i hk
      have hkl := h _ hk ⟨k, Nat.le_refl _, rfl⟩
      refine fresh_not free f (l.erase (tN k)) (k + 1) ?_ ?_
      · rw [List.length_erase_of_mem hkl]
        omega
      · rintro s hs ⟨j, hj, rfl⟩
        have hne : tN j ≠ tN k := fun he => by have := tN_inj he; omega
        exact (List.mem_erase_of_ne hne).2 (h _ hs ⟨j, by omega, rfl⟩)
    · assumption
theorem fresh_le (free : List (List UInt8)) : ∀ (f k : Nat), k ≤ fresh free f k ∧ fresh free f k ≤ k + f
  | 0, k => ⟨Nat.le_refl _, Nat.le_refl _⟩
  | f + 1, k => by
    rw [fresh]
    split
    · have := fresh_le free f (k + 1)
      omega
    · omega
def freshN (free : List (List UInt8)) (k : Nat) : Nat := fresh free free.length k
theorem freshN_not (free : List (List UInt8)) (k : Nat) : tN (freshN free k) ∉ free := fresh_not free free.length free k (Nat.le_refl _) fun s hs _ => hs

/-- What stands for a name. -/
def sub (s : List UInt8) : List (List UInt8 × List UInt8) → List UInt8
  | [] => s
  | (a, b) :: r => if a = s then b else sub s r
/-- A type with bound names renamed, and the next number. -/
def NT.ren (free : List (List UInt8)) : NT → List (List UInt8 × List UInt8) → Nat → NT × Nat
  | .zero, _, k => (.zero, k)
  | .one, _, k => (.one, k)
  | .name s, env, k => (.name (sub s env), k)
  | .sum a b, env, k => (.sum (a.ren free env k).1 (b.ren free env (a.ren free env k).2).1, (b.ren free env (a.ren free env k).2).2)
  | .prod a b, env, k => (.prod (a.ren free env k).1 (b.ren free env (a.ren free env k).2).1, (b.ren free env (a.ren free env k).2).2)
  | .loop s a, env, k => (.loop (tN (freshN free k)) (a.ren free ((s, tN (freshN free k)) :: env) (freshN free k + 1)).1, (a.ren free ((s, tN (freshN free k)) :: env) (freshN free k + 1)).2)

theorem ren_le (free : List (List UInt8)) : ∀ (n : NT) (env) (k : Nat), k ≤ (n.ren free env k).2 ∧ (n.ren free env k).2 ≤ k + n.atoms * (free.length + 1)
  | .zero, _, k => by simp [NT.ren]
  | .one, _, k => by simp [NT.ren]
  | .name s, _, k => by simp [NT.ren]
  | .sum a b, env, k => by
    have h1 := ren_le free a env k
    have h2 := ren_le free b env (a.ren free env k).2
    simp only [NT.ren, NT.atoms, Nat.add_mul]
    omega
  | .prod a b, env, k => by
    have h1 := ren_le free a env k
    have h2 := ren_le free b env (a.ren free env k).2
    simp only [NT.ren, NT.atoms, Nat.add_mul]
    omega
  | .loop s a, env, k => by
    have h0 := fresh_le free free.length k
    have h1 := ren_le free a ((s, tN (freshN free k)) :: env) (freshN free k + 1)
    simp only [NT.ren, NT.atoms, Nat.add_mul]
    simp only [freshN] at h1 ⊢
    omega
theorem ren_atoms (free : List (List UInt8)) : ∀ (n : NT) (env) (k : Nat), (n.ren free env k).1.atoms = n.atoms
  | .zero, _, _ => rfl
  | .one, _, _ => rfl
  | .name _, _, _ => rfl
  | .sum a b, env, k => by simp only [NT.ren, NT.atoms, ren_atoms free a, ren_atoms free b]
  | .prod a b, env, k => by simp only [NT.ren, NT.atoms, ren_atoms free a, ren_atoms free b]
  | .loop s a, env, k => by simp only [NT.ren, NT.atoms, ren_atoms free a]

/-- Free names of a type are among some. -/
def NT.cov (free : List (List UInt8)) : NT → List (List UInt8) → Prop
  | .name s, bd => s ∈ bd ∨ s ∈ free
  | .sum a b, bd => a.cov free bd ∧ b.cov free bd
  | .prod a b, bd => a.cov free bd ∧ b.cov free bd
  | .loop s a, bd => a.cov free (s :: bd)
  | _, _ => True
theorem fr_mono : ∀ (n : NT) (bd ls : List (List UInt8)), ∀ s ∈ ls, s ∈ n.fr bd ls
  | .zero, _, _, s, h => h
  | .one, _, _, s, h => h
  | .name x, bd, ls, s, h => by
    simp only [NT.fr]
    split
    · exact h
    · simp [h]
  | .sum a b, bd, ls, s, h => fr_mono b bd _ s (fr_mono a bd ls s h)
  | .prod a b, bd, ls, s, h => fr_mono b bd _ s (fr_mono a bd ls s h)
  | .loop x a, bd, ls, s, h => fr_mono a _ ls s h
theorem fr_cov (free : List (List UInt8)) : ∀ (n : NT) (bd bd' ls : List (List UInt8)), (∀ s, s ∈ bd → s ∈ bd') → (∀ s ∈ n.fr bd ls, s ∈ free) → n.cov free bd'
  | .zero, _, _, _, _, _ => trivial
  | .one, _, _, _, _, _ => trivial
  | .name x, bd, bd', ls, hb, h => by
    simp only [NT.fr] at h
    by_cases hx : x ∈ bd
    · exact .inl (hb x hx)
    · by_cases hl : x ∈ ls
      · rw [if_pos (.inr hl)] at h
        exact .inr (h x hl)
      · rw [if_neg (fun hh => by rcases hh with hh | hh; exact hx hh; exact hl hh)] at h
        exact .inr (h x (by simp))
  | .sum a b, bd, bd', ls, hb, h => ⟨fr_cov free a bd bd' ls hb fun s hs => h s (fr_mono b bd _ s hs), fr_cov free b bd bd' _ hb h⟩
  | .prod a b, bd, bd', ls, hb, h => ⟨fr_cov free a bd bd' ls hb fun s hs => h s (fr_mono b bd _ s hs), fr_cov free b bd bd' _ hb h⟩
  | .loop x a, bd, bd', ls, hb, h => fr_cov free a (bd ++ [x]) (x :: bd') ls (fun s hs => by
      rcases List.mem_append.1 hs with hs | hs
      · exact List.mem_cons_of_mem _ (hb s hs)
      · simp at hs; simp [hs]) h

/-- Names that were given out stand apart. -/
def Env (free : List (List UInt8)) (env : List (List UInt8 × List UInt8)) (k : Nat) : Prop :=
  (∀ p ∈ env, paramB p.1 = false ∧ ∃ j, j < k ∧ p.2 = tN j ∧ tN j ∉ free) ∧ (env.map (·.2)).Pairwise (· ≠ ·)
theorem Env.le {free : List (List UInt8)} {env : List (List UInt8 × List UInt8)} {k k' : Nat} (h : Env free env k) (hk : k ≤ k') : Env free env k' :=
  ⟨fun p hp => by obtain ⟨h1, j, h2, h3⟩ := h.1 p hp; exact ⟨h1, j, by omega, h3⟩, h.2⟩
theorem Env.cons {free : List (List UInt8)} {env : List (List UInt8 × List UInt8)} {k : Nat} (h : Env free env k) {s : List UInt8} (hs : paramB s = false) : Env free ((s, tN (freshN free k)) :: env) (freshN free k + 1) := by
  have hf := (fresh_le free free.length k).1
  refine ⟨fun p hp => ?_, ?_⟩
  · rcases List.mem_cons.1 hp with rfl | hp
    · exact ⟨hs, freshN free k, by omega, rfl, freshN_not free k⟩
    · obtain ⟨h1, j, h2, h3⟩ := h.1 p hp
      exact ⟨h1, j, by simp only [freshN]; omega, h3⟩
  · rw [List.map_cons, List.pairwise_cons]
    refine ⟨fun b hb => ?_, h.2⟩
    obtain ⟨p, hp, rfl⟩ := List.mem_map.1 hb
    obtain ⟨_, j, h2, h3, _⟩ := h.1 p hp
    rw [h3]
    intro he
    have := tN_inj he
    simp only [freshN] at this
    omega

theorem sub_mem {s : List UInt8} : ∀ {env : List (List UInt8 × List UInt8)} {i : Nat}, look s (env.map (·.1)) = some i → sub s env ∈ env.map (·.2)
  | [], i, h => by simp [look] at h
  | (a, b) :: r, i, h => by
    simp only [List.map_cons, look] at h
    rw [sub]
    by_cases ha : a = s
    · rw [if_pos ha]; simp
    · rw [if_neg ha] at h ⊢
      cases hl : look s (r.map (·.1)) with
      | none => rw [hl] at h; simp at h
      | some j => exact List.mem_cons_of_mem _ (sub_mem hl)
theorem sub_look {s : List UInt8} : ∀ {env : List (List UInt8 × List UInt8)} {i : Nat}, (env.map (·.2)).Pairwise (· ≠ ·) → look s (env.map (·.1)) = some i → look (sub s env) (env.map (·.2)) = some i
  | [], i, _, h => by simp [look] at h
  | (a, b) :: r, i, hp, h => by
    simp only [List.map_cons, look] at h
    rw [List.map_cons, List.pairwise_cons] at hp
    rw [sub, List.map_cons, look]
    by_cases ha : a = s
    · rw [if_pos ha] at h ⊢
      rw [if_pos rfl]
      exact h
    · rw [if_neg ha] at h ⊢
      cases hl : look s (r.map (·.1)) with
      | none => rw [hl] at h; simp at h
      | some j =>
        rw [hl] at h
        rw [if_neg (hp.1 _ (sub_mem hl)), sub_look hp.2 hl]
        exact h
theorem sub_none {s : List UInt8} : ∀ {env : List (List UInt8 × List UInt8)}, s ∉ env.map (·.1) → sub s env = s
  | [], _ => rfl
  | (a, b) :: r, h => by
    simp only [List.map_cons, List.mem_cons, not_or] at h
    rw [sub, if_neg (fun he => h.1 he.symm), sub_none h.2]

/-- Renaming changes nothing but bound names. -/
theorem ren_db (free : List (List UInt8)) : ∀ (n : NT) (env) (k : Nat), n.ok3 → Env free env k → n.cov free (env.map (·.1)) → (n.ren free env k).1.db (env.map (·.2)) = n.db (env.map (·.1))
  | .zero, _, _, _, _, _ => rfl
  | .one, _, _, _, _, _ => rfl
  | .name s, env, k, hok, he, hc => by
    simp only [NT.ren, NT.db]
    by_cases hp : paramB s = true
    · have hn : s ∉ env.map (·.1) := fun hm => by
        obtain ⟨p, hpm, rfl⟩ := List.mem_map.1 hm
        rw [(he.1 p hpm).1] at hp
        cases hp
      rw [sub_none hn, if_pos hp, if_pos hp]
    · rw [if_neg hp]
      cases hl : look s (env.map (·.1)) with
      | none =>
        have hn := look_none.1 hl
        have hf : s ∈ free := by rcases hc with hc | hc; exact absurd hc hn; exact hc
        rw [sub_none hn, if_neg hp]
        have : s ∉ env.map (·.2) := fun hm => by
          obtain ⟨p, hpm, hpe⟩ := List.mem_map.1 hm
          obtain ⟨_, j, _, h3, h4⟩ := he.1 p hpm
          rw [← hpe, h3] at hf
          exact h4 hf
        rw [look_none.2 this]
      | some i =>
        have hm := sub_mem hl
        obtain ⟨p, hpm, hpe⟩ := List.mem_map.1 hm
        obtain ⟨_, j, _, h3, h4⟩ := he.1 p hpm
        rw [sub_look he.2 hl]
        rw [if_neg (by rw [← hpe, h3, tN_param]; simp)]
  | .sum a b, env, k, hok, he, hc => by
    simp only [NT.ren, NT.db]
    rw [ren_db free a env k hok.1 he hc.1, ren_db free b env _ hok.2 (he.le (ren_le free a env k).1) hc.2]
  | .prod a b, env, k, hok, he, hc => by
    simp only [NT.ren, NT.db]
    rw [ren_db free a env k hok.1 he hc.1, ren_db free b env _ hok.2 (he.le (ren_le free a env k).1) hc.2]
  | .loop s a, env, k, hok, he, hc => by
    simp only [NT.ren, NT.db]
    have := ren_db free a ((s, tN (freshN free k)) :: env) (freshN free k + 1) hok.2 (he.cons hok.1.2) hc
    simp only [List.map_cons] at this
    rw [this]

/-- Bound names are no parameters and no digit. -/
def NT.lok : NT → Prop
  | .sum a b => a.lok ∧ b.lok
  | .prod a b => a.lok ∧ b.lok
  | .loop s a => (paramB s = false ∧ s ≠ [49]) ∧ a.lok
  | _ => True
theorem ren_lok (free : List (List UInt8)) : ∀ (n : NT) (env) (k : Nat), (n.ren free env k).1.lok
  | .zero, _, _ => trivial
  | .one, _, _ => trivial
  | .name _, _, _ => trivial
  | .sum a b, env, k => ⟨ren_lok free a _ _, ren_lok free b _ _⟩
  | .prod a b, env, k => ⟨ren_lok free a _ _, ren_lok free b _ _⟩
  | .loop s a, env, k => ⟨⟨tN_param _, (tN_ne _).2.2⟩, ren_lok free a _ _⟩
theorem sub_ok' {s : List UInt8} (hs : s ≠ [] ∧ s ≠ [48]) : ∀ {env : List (List UInt8 × List UInt8)}, (∀ p ∈ env, p.2 ≠ [] ∧ p.2 ≠ [48]) → sub s env ≠ [] ∧ sub s env ≠ [48]
  | [], _ => hs
  | (a, b) :: r, h => by
    rw [sub]
    split
    · exact h (a, b) (by simp)
    · exact sub_ok' hs fun p hp => h p (by simp [hp])
theorem ren_ok' (free : List (List UInt8)) : ∀ (n : NT) (env) (k : Nat), n.ok' → (∀ p ∈ env, p.2 ≠ [] ∧ p.2 ≠ [48]) → (n.ren free env k).1.ok'
  | .zero, _, _, _, _ => trivial
  | .one, _, _, _, _ => trivial
  | .name s, env, k, h, he => sub_ok' h he
  | .sum a b, env, k, h, he => ⟨ren_ok' free a _ _ h.1 he, ren_ok' free b _ _ h.2 he⟩
  | .prod a b, env, k, h, he => ⟨ren_ok' free a _ _ h.1 he, ren_ok' free b _ _ h.2 he⟩
  | .loop s a, env, k, h, he => (show ((a.ren free ((s, tN (freshN free k)) :: env) (freshN free k + 1)).1).ok' from ren_ok' free a _ _ h fun p hp => by
      rcases List.mem_cons.1 hp with rfl | hp
      · exact ⟨(tN_ne _).1, (tN_ne _).2.1⟩
      · exact he p hp)
theorem empS_db : ∀ (n : NT) (env : List (List UInt8)), n.lok → (∀ e ∈ env, paramB e = false ∧ e ≠ [49]) → n.empS env.reverse = (n.db env).emp
  | .zero, _, _, _ => rfl
  | .one, env, _, he => by
    simp only [NT.empS, NT.db, Ty.emp, List.mem_reverse]
    exact decide_eq_false fun h => (he _ h).2 rfl
  | .name s, env, _, he => by
    simp only [NT.empS, NT.db, List.mem_reverse]
    by_cases hp : paramB s = true
    · rw [if_pos hp]
      exact decide_eq_false fun h => by rw [(he _ h).1] at hp; cases hp
    · rw [if_neg hp]
      cases hl : look s env with
      | none => exact decide_eq_false (look_none.1 hl)
      | some k => exact decide_eq_true (Classical.byContradiction fun h => by rw [look_none.2 h] at hl; cases hl)
  | .sum a b, env, h, he => by simp only [NT.empS, NT.db, Ty.emp, empS_db a env h.1 he, empS_db b env h.2 he]
  | .prod a b, env, h, he => by simp only [NT.empS, NT.db, Ty.emp, empS_db a env h.1 he, empS_db b env h.2 he]
  | .loop s a, env, h, he => by
    simp only [NT.empS, NT.db, Ty.emp]
    have := empS_db a (s :: env) h.2 (by intro e hm; rcases List.mem_cons.1 hm with rfl | hm; exact h.1; exact he e hm)
    rw [← this]
    simp

/-- What the reference's TypeEmpty tells of a type is what the program's tells. -/
theorem apart_emp (n : NT) (hok : n.ok) : (n.ren n.names [] 0).1.empS [] = (n.db []).emp := by
  have h1 := empS_db (n.ren n.names [] 0).1 [] (ren_lok _ _ _ _) (by simp)
  have h2 := ren_db n.names n [] 0 (ok_ok3 hok) ⟨by simp, by simp⟩ (fr_cov n.names n [] [] [] (fun s h => h) (fun s h => h))
  simp only [List.map_nil] at h2
  rw [h2] at h1
  exact h1

end Go.Proofs.YtkciljcligohnaaDoor
