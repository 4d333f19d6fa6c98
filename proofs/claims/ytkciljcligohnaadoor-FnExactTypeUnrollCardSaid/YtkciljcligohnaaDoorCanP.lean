/- The canonical text, in plain Lean: of a type with names it is that of its nameless form. -/
import Derived.Test.YtkciljcligohnaaDoorPut
import Derived.Test.YtkciljcligohnaaDoorNm
import Derived.Test.YtkciljcligohnaaDoorTxt
namespace Go.Proofs.YtkciljcligohnaaDoor
open Go.RowKit
set_option linter.unusedVariables false
set_option linter.unusedSimpArgs false

/-- What canon's write gives, and the next number; the names around, the innermost first. -/
def Ty.cw (free : List (List UInt8)) : Ty → List (List UInt8) → Nat → List UInt8 × Nat
  | .zero, _, k => ([48], k)
  | .one, _, k => ([49], k)
  | .name s, _, k => (s, k)
  | .bound i, ar, k => ((ar[i]?).getD [], k)
  | .sum a b, ar, k => ([40, 43, 32] ++ (a.cw free ar k).1 ++ [32] ++ (b.cw free ar (a.cw free ar k).2).1 ++ [41], (b.cw free ar (a.cw free ar k).2).2)
  | .prod a b, ar, k => ([40, 42, 32] ++ (a.cw free ar k).1 ++ [32] ++ (b.cw free ar (a.cw free ar k).2).1 ++ [41], (b.cw free ar (a.cw free ar k).2).2)
  | .loop a, ar, k => ([40, 114, 101, 99, 32] ++ tN (freshN free k) ++ [32] ++ (a.cw free (tN (freshN free k) :: ar) (freshN free k + 1)).1 ++ [41], (a.cw free (tN (freshN free k) :: ar) (freshN free k + 1)).2)
/-- The free names of a nameless form. -/
def Ty.fnames (t : Ty) : List (List UInt8) := t.pre.foldl nstep []
def Ty.canonL (t : Ty) : List UInt8 := (t.cw t.fnames [] 0).1
/-- What told gives. -/
def Ty.told (t : Ty) : Option (List UInt8) := if 400 < t.atoms then none else if rdTy t.canonL = none then none else some t.canonL

theorem txt_leaf {s : List UInt8} (h : s ≠ []) (ps : List Tr) : (Tr.mk s ps).txt = s := by rw [Tr.txt, if_neg h]
theorem txt_three (h : List UInt8) (hh : h ≠ []) (a b : Tr) : (Tr.mk [] [.mk h [], a, b]).txt = [40] ++ h ++ [32] ++ a.txt ++ [32] ++ b.txt ++ [41] := by
  simp [Tr.txt, Tr.txts, hh]

theorem sub_at {s : List UInt8} : ∀ {env : List (List UInt8 × List UInt8)} {i : Nat}, look s (env.map (·.1)) = some i → (env.map (·.2))[i]? = some (sub s env)
  | [], i, h => by simp [look] at h
  | (a, b) :: r, i, h => by
    simp only [List.map_cons, look] at h
    rw [sub]
    by_cases ha : a = s
    · rw [if_pos ha] at h ⊢
      simp at h
      subst h
      simp
    · rw [if_neg ha] at h ⊢
      cases hl : look s (r.map (·.1)) with
      | none => rw [hl] at h; simp at h
      | some j =>
        rw [hl] at h
        simp at h
        subst h
        simpa using sub_at hl

theorem ren_cw (free : List (List UInt8)) : ∀ (n : NT) (env : List (List UInt8 × List UInt8)) (k : Nat), n.ok3 → (∀ p ∈ env, paramB p.1 = false ∧ p.2 ≠ []) →
    (n.db (env.map (·.1))).cw free (env.map (·.2)) k = ((n.ren free env k).1.toTr.txt, (n.ren free env k).2)
  | .zero, _, _, _, _ => rfl
  | .one, _, _, _, _ => rfl
  | .name s, env, k, hok, he => by
    simp only [NT.ren, NT.db, NT.toTr]
    by_cases hp : paramB s = true
    · have hn : s ∉ env.map (·.1) := fun hm => by
        obtain ⟨p, hpm, rfl⟩ := List.mem_map.1 hm
        rw [(he p hpm).1] at hp
        cases hp
      rw [sub_none hn, if_pos hp, txt_leaf hok.1]
      rfl
    · rw [if_neg hp]
      cases hl : look s (env.map (·.1)) with
      | none => rw [sub_none (look_none.1 hl), txt_leaf hok.1]; rfl
      | some i =>
        obtain ⟨p, hpm, hpe⟩ := List.mem_map.1 (sub_mem hl)
        rw [txt_leaf (by rw [← hpe]; exact (he p hpm).2)]
        simp only [Ty.cw, sub_at hl, Option.getD_some]
  | .sum a b, env, k, hok, he => by
    simp only [NT.ren, NT.db, NT.toTr, Ty.cw, ren_cw free a env k hok.1 he, ren_cw free b env _ hok.2 he]
    rw [txt_three [43] (by simp)]
    rfl
  | .prod a b, env, k, hok, he => by
    simp only [NT.ren, NT.db, NT.toTr, Ty.cw, ren_cw free a env k hok.1 he, ren_cw free b env _ hok.2 he]
    rw [txt_three [42] (by simp)]
    rfl
  | .loop s a, env, k, hok, he => by
    have := ren_cw free a ((s, tN (freshN free k)) :: env) (freshN free k + 1) hok.2 (by
      intro p hp
      rcases List.mem_cons.1 hp with rfl | hp
      · exact ⟨hok.1.2, (tN_ne _).1⟩
      · exact he p hp)
    simp only [List.map_cons] at this
    simp only [NT.ren, NT.db, NT.toTr, Ty.cw, this]
    rw [txt_three [114, 101, 99] (by simp), txt_leaf (tN_ne _).1]
    simp

theorem apart_txt (n : NT) (hok : n.ok3) : n.apart.toTr.txt = (n.db []).canonL := by
  have h1 := ren_cw n.names n [] 0 hok (by simp)
  have h2 : (n.db []).fnames = n.names := by
    exact names_fr3 n [] [] hok (by simp)
  simp only [List.map_nil] at h1
  rw [Ty.canonL, h2, h1]
  rfl
theorem fnames_db (n : NT) (hok : n.ok3) : (n.db []).fnames = n.names := by
  exact names_fr3 n [] [] hok (by simp)

/-! ### renaming keeps names good -/
theorem decL_digit : ∀ (n : Nat), ∀ b ∈ decL n, digitB b = true := by
  intro n
  induction n using Nat.strongRecOn with
  | ind n ih =>
    have hd : ∀ m, m < 10 → digitB (UInt8.ofNat (48 + m)) = true := by
      intro m hm
      have : m = 0 ∨ m = 1 ∨ m = 2 ∨ m = 3 ∨ m = 4 ∨ m = 5 ∨ m = 6 ∨ m = 7 ∨ m = 8 ∨ m = 9 := by omega
      rcases this with rfl | rfl | rfl | rfl | rfl | rfl | rfl | rfl | rfl | rfl <;> decide
    rw [decL]
    split
    · intro b hb
      simp only [List.mem_singleton] at hb
      subst hb
      exact hd n (by assumption)
    · intro b hb
      rcases List.mem_append.1 hb with hb | hb
      · exact ih (n / 10) (by omega) b hb
      · simp only [List.mem_singleton] at hb
        subst hb
        exact hd _ (by omega)
theorem tN_ok (j : Nat) (h : j < 100000000) : nmOk (tN j) := by
  have hl := decL_len 8 j (by omega)
  refine ⟨(tN_ne j).1, (tN_ne j).2.1, (tN_ne j).2.2, fun b hb => ?_, by simp only [tN, List.length_cons]; omega⟩
  simp only [tN] at hb
  rcases List.mem_cons.1 hb with rfl | hb
  · decide
  · exact digit_atom (decL_digit j b hb)
theorem sub_ok3 {s : List UInt8} (hs : nmOk s) : ∀ {env : List (List UInt8 × List UInt8)}, (∀ p ∈ env, nmOk p.2) → nmOk (sub s env)
  | [], _ => hs
  | (a, b) :: r, h => by
    rw [sub]
    split
    · exact h (a, b) (by simp)
    · exact sub_ok3 hs fun p hp => h p (by simp [hp])
theorem ren_ok3 (free : List (List UInt8)) : ∀ (n : NT) (env) (k : Nat), n.ok3 → (∀ p ∈ env, nmOk p.2) → k + n.atoms * (free.length + 1) < 100000000 → (n.ren free env k).1.ok3
  | .zero, _, _, _, _, _ => trivial
  | .one, _, _, _, _, _ => trivial
  | .name s, env, k, h, he, hk => sub_ok3 h he
  | .sum a b, env, k, h, he, hk => by
    simp only [NT.atoms, Nat.add_mul] at hk
    have hle := ren_le free a env k
    exact ⟨ren_ok3 free a _ _ h.1 he (by omega), ren_ok3 free b _ _ h.2 he (by omega)⟩
  | .prod a b, env, k, h, he, hk => by
    simp only [NT.atoms, Nat.add_mul] at hk
    have hle := ren_le free a env k
    exact ⟨ren_ok3 free a _ _ h.1 he (by omega), ren_ok3 free b _ _ h.2 he (by omega)⟩
  | .loop s a, env, k, h, he, hk => by
    simp only [NT.atoms, Nat.add_mul] at hk
    have hle := fresh_le free free.length k
    have hfr : freshN free k ≤ k + free.length := hle.2
    have hn := tN_ok (freshN free k) (by omega)
    refine ⟨⟨hn, tN_param _⟩, ren_ok3 free a _ _ h.2 (fun p hp => ?_) (by omega)⟩
    rcases List.mem_cons.1 hp with rfl | hp
    · exact hn
    · exact he p hp
/-- A type with good names has a text. -/
theorem ok3_wf : ∀ {n : NT}, n.ok3 → n.toTr.wf
  | .zero, _ => .inl ⟨by simp, by decide, rfl⟩
  | .one, _ => .inl ⟨by simp, by decide, rfl⟩
  | .name s, h => .inl ⟨h.1, h.2.2.2.1, rfl⟩
  | .sum a b, h => .inr ⟨rfl, by simp, .inl ⟨by simp, by decide, rfl⟩, ok3_wf h.1, ok3_wf h.2, trivial⟩
  | .prod a b, h => .inr ⟨rfl, by simp, .inl ⟨by simp, by decide, rfl⟩, ok3_wf h.1, ok3_wf h.2, trivial⟩
  | .loop s a, h => .inr ⟨rfl, by simp, .inl ⟨by simp, by decide, rfl⟩, .inl ⟨h.1.1.1, h.1.1.2.2.2.1, rfl⟩, ok3_wf h.2, trivial⟩
theorem ok3_len : ∀ {n : NT}, n.ok3 → n.toTr.txt.length ≤ 12 * n.atoms
  | .zero, _ => by simp [NT.toTr, Tr.txt, NT.atoms]
  | .one, _ => by simp [NT.toTr, Tr.txt, NT.atoms]
  | .name s, h => by
    have := h.2.2.2.2
    simp only [NT.toTr, NT.atoms]
    rw [txt_leaf h.1]
    omega
  | .sum a b, h => by
    have h1 := ok3_len h.1
    have h2 := ok3_len h.2
    simp only [NT.toTr, NT.atoms]
    rw [txt_three [43] (by simp)]
    simp only [List.length_append, List.length_cons, List.length_nil]
    omega
  | .prod a b, h => by
    have h1 := ok3_len h.1
    have h2 := ok3_len h.2
    simp only [NT.toTr, NT.atoms]
    rw [txt_three [42] (by simp)]
    simp only [List.length_append, List.length_cons, List.length_nil]
    omega
  | .loop s a, h => by
    have h1 := ok3_len h.2
    have h2 := h.1.1.2.2.2.2
    simp only [NT.toTr, NT.atoms]
    rw [txt_three [114, 101, 99] (by simp), txt_leaf h.1.1.1]
    simp only [List.length_append, List.length_cons, List.length_nil]
    omega

/-! ### a type put for a name -/
/-- A type, in which no name is bound from around, put for a free name. -/
def Ty.put : Ty → List UInt8 → Ty → Ty
  | .name s, nm, u => if s = nm then u else .name s
  | .sum a b, nm, u => .sum (a.put nm u) (b.put nm u)
  | .prod a b, nm, u => .prod (a.put nm u) (b.put nm u)
  | .loop a, nm, u => .loop (a.put nm u)
  | t, _, _ => t
/-- What is in a rec, so many ones further inside, with a type put for its name. -/
def Ty.opened : Ty → Ty → Nat → Ty
  | .bound k, u, up => if k = up then u else .bound k
  | .sum a b, u, up => .sum (a.opened u up) (b.opened u up)
  | .prod a b, u, up => .prod (a.opened u up) (b.opened u up)
  | .loop a, u, up => .loop (a.opened u (up + 1))
  | t, _, _ => t

/-- Names that are bound are no free ones of another type, and not one name. -/
def NT.bnd (P : List UInt8 → Prop) : NT → Prop
  | .sum a b => a.bnd P ∧ b.bnd P
  | .prod a b => a.bnd P ∧ b.bnd P
  | .loop s a => P s ∧ a.bnd P
  | _ => True
theorem ren_bnd (free : List (List UInt8)) : ∀ (n : NT) (env) (k : Nat), (n.ren free env k).1.bnd fun s => s ∉ free ∧ paramB s = false
  | .zero, _, _ => trivial
  | .one, _, _ => trivial
  | .name s, _, _ => trivial
  | .sum a b, env, k => ⟨ren_bnd free a _ _, ren_bnd free b _ _⟩
  | .prod a b, env, k => ⟨ren_bnd free a _ _, ren_bnd free b _ _⟩
  | .loop s a, env, k => ⟨⟨freshN_not free k, tN_param _⟩, ren_bnd free a _ _⟩

theorem look_app {s : List UInt8} : ∀ {bd env : List (List UInt8)}, s ∉ env → look s (bd ++ env) = look s bd
  | [], env, h => by simpa [look] using look_none.2 h
  | e :: r, env, h => by
    simp only [List.cons_append, look, look_app (bd := r) h]
/-- Names around that are not free in a type do not matter. -/
theorem look_in {s : List UInt8} : ∀ {bd : List (List UInt8)} (env : List (List UInt8)), s ∈ bd → look s (bd ++ env) = look s bd
  | [], env, h => by cases h
  | e :: r, env, h => by
    simp only [List.cons_append, look]
    by_cases he : e = s
    · rw [if_pos he, if_pos he]
    · rw [if_neg he, if_neg he, look_in env (by rcases List.mem_cons.1 h with rfl | h; exact absurd rfl he; exact h)]
theorem db_far (F : List (List UInt8)) : ∀ (u : NT) (bd env : List (List UInt8)), u.cov F bd → (∀ e ∈ env, e ∉ F) → u.db (bd ++ env) = u.db bd
  | .zero, _, _, _, _ => rfl
  | .one, _, _, _, _ => rfl
  | .name s, bd, env, hc, he => by
    simp only [NT.db]
    split
    · rfl
    · by_cases hb : s ∈ bd
      · rw [look_in env hb]
      · have hF : s ∈ F := by rcases hc with hc | hc; exact absurd hc hb; exact hc
        rw [look_app fun hm => he s hm hF]
  | .sum a b, bd, env, hc, he => by simp only [NT.db, db_far F a bd env hc.1 he, db_far F b bd env hc.2 he]
  | .prod a b, bd, env, hc, he => by simp only [NT.db, db_far F a bd env hc.1 he, db_far F b bd env hc.2 he]
  | .loop s a, bd, env, hc, he => by
    have := db_far F a (s :: bd) env hc he
    simp only [List.cons_append] at this
    simp only [NT.db, this]

theorem put_db (F : List (List UInt8)) (nm : List UInt8) (u : NT) (hu : u.cov F []) : ∀ (m : NT) (env : List (List UInt8)), (m.bnd fun s => s ∉ F ∧ s ≠ nm) → (∀ e ∈ env, e ∉ F ∧ e ≠ nm) → (putT nm u m).db env = (m.db env).put nm (u.db [])
  | .zero, _, _, _ => rfl
  | .one, _, _, _ => rfl
  | .name s, env, _, he => by
    simp only [putT]
    by_cases hs : s = nm
    · subst hs
      rw [if_pos rfl]
      have h1 : u.db env = u.db [] := by
        have := db_far F u [] env hu fun e hm => (he e hm).1
        simpa using this
      have h2 : look s env = none := look_none.2 fun hm => (he s hm).2 rfl
      rw [h1]
      simp [NT.db, h2, Ty.put]
    · rw [if_neg hs]
      simp only [NT.db]
      split
      · simp [Ty.put, hs]
      · split
        · simp [Ty.put]
        · simp [Ty.put, hs]
  | .sum a b, env, hb, he => by simp only [putT, NT.db, Ty.put, put_db F nm u hu a env hb.1 he, put_db F nm u hu b env hb.2 he]
  | .prod a b, env, hb, he => by simp only [putT, NT.db, Ty.put, put_db F nm u hu a env hb.1 he, put_db F nm u hu b env hb.2 he]
  | .loop s a, env, hb, he => by
    have := put_db F nm u hu a (s :: env) hb.2 (by
      intro e hm
      rcases List.mem_cons.1 hm with rfl | hm
      · exact hb.1
      · exact he e hm)
    simp only [putT]
    rw [if_neg hb.1.2]
    simp only [NT.db, Ty.put, this]

theorem opened_db (s : List UInt8) (hs : paramB s = false) (T : Ty) : ∀ (a : NT) (env : List (List UInt8)), (a.db env).put s T = (a.db (env ++ [s])).opened T env.length
  | .zero, _ => rfl
  | .one, _ => rfl
  | .name x, env => by
    simp only [NT.db]
    by_cases hp : paramB x = true
    · rw [if_pos hp, if_pos hp]
      have : x ≠ s := by rintro rfl; rw [hs] at hp; cases hp
      simp [Ty.put, Ty.opened, this]
    · rw [if_neg hp, if_neg hp]
      by_cases hx : x ∈ env
      · rw [look_in [s] hx]
        cases hl : look x env with
        | none => exact absurd hx (look_none.1 hl)
        | some i =>
          have := look_lt hl
          simp only [Ty.put, Ty.opened]
          rw [if_neg (by omega)]
      · rw [look_none.2 hx]
        by_cases he : x = s
        · subst he
          have : ∀ (env : List (List UInt8)), x ∉ env → look x (env ++ [x]) = some env.length := by
            intro env
            induction env with
            | nil => intro _; simp [look]
            | cons e r ih =>
              intro h
              simp only [List.mem_cons, not_or] at h
              simp only [List.cons_append, look]
              rw [if_neg (fun h2 => h.1 h2.symm), ih h.2]
              rfl
          rw [this env hx]
          simp [Ty.put, Ty.opened]
        · have : look x (env ++ [s]) = none := look_none.2 (by simp [hx, he])
          rw [this]
          simp [Ty.put, Ty.opened, he]
  | .sum a b, env => by simp only [NT.db, Ty.put, Ty.opened, opened_db s hs T a env, opened_db s hs T b env]
  | .prod a b, env => by simp only [NT.db, Ty.put, Ty.opened, opened_db s hs T a env, opened_db s hs T b env]
  | .loop x a, env => by
    have := opened_db s hs T a (x :: env)
    simp only [List.cons_append, List.length_cons] at this
    simp only [NT.db, Ty.put, Ty.opened, this]

/-- What l1Sub makes. -/
def subN (nm : List UInt8) (u n : NT) : NT := putT nm u (n.ren (n.names ++ frees [u, .name nm]) [] 0).1
theorem bnd_mono {P Q : List UInt8 → Prop} (h : ∀ s, P s → Q s) : ∀ {n : NT}, n.bnd P → n.bnd Q
  | .zero, _ => trivial
  | .one, _ => trivial
  | .name _, _ => trivial
  | .sum a b, hb => ⟨bnd_mono h hb.1, bnd_mono h hb.2⟩
  | .prod a b, hb => ⟨bnd_mono h hb.1, bnd_mono h hb.2⟩
  | .loop s a, hb => ⟨h s hb.1, bnd_mono h hb.2⟩
theorem frees_two (u : NT) (nm : List UInt8) : frees [u, .name nm] = u.names ++ [nm] := by simp [frees, NT.names, NT.fr]
theorem cov_own (n : NT) (F : List (List UInt8)) (h : ∀ s ∈ n.names, s ∈ F) : n.cov F [] := fr_cov F n [] [] [] (fun s h => h) h
theorem subN_db (nm : List UInt8) (u n : NT) (hn : n.ok3) : (subN nm u n).db [] = (n.db []).put nm (u.db []) := by
  have h1 := ren_db (n.names ++ frees [u, .name nm]) n [] 0 hn ⟨by simp, by simp⟩ (cov_own n _ fun s hs => by simp [hs])
  simp only [List.map_nil] at h1
  rw [← h1]
  refine put_db u.names nm u (cov_own u _ fun s h => h) _ [] (bnd_mono ?_ (ren_bnd (n.names ++ frees [u, .name nm]) n [] 0)) (by simp)
  rintro s ⟨hs, _⟩
  rw [frees_two] at hs
  simp only [List.mem_append, List.mem_singleton, not_or] at hs
  exact ⟨hs.2.1, hs.2.2⟩
theorem putT_ok3 (nm : List UInt8) (u : NT) (hu : u.ok3) : ∀ {m : NT}, m.ok3 → (putT nm u m).ok3
  | .zero, _ => trivial
  | .one, _ => trivial
  | .name s, h => by
    simp only [putT]
    split
    · exact hu
    · exact h
  | .sum a b, h => ⟨putT_ok3 nm u hu h.1, putT_ok3 nm u hu h.2⟩
  | .prod a b, h => ⟨putT_ok3 nm u hu h.1, putT_ok3 nm u hu h.2⟩
  | .loop s a, h => by
    simp only [putT]
    split
    · exact h
    · exact ⟨h.1, putT_ok3 nm u hu h.2⟩
theorem subN_ok3 (nm : List UInt8) (u n : NT) (hn : n.ok3) (hu : u.ok3) (ha : n.atoms ≤ 400) (hf : (frees [u, .name nm]).length ≤ 500) : (subN nm u n).ok3 := by
  refine putT_ok3 nm u hu (ren_ok3 _ n [] 0 hn (by simp) ?_)
  have h1 : n.atoms * ((n.names ++ frees [u, .name nm]).length + 1) ≤ 400 * 901 := Nat.mul_le_mul ha (by
    have := names_len n
    rw [List.length_append]
    omega)
  omega

/-! ### how often a name stands -/
def Ty.usesT (nm : List UInt8) : Ty → Nat
  | .name s => if s = nm then 1 else 0
  | .sum a b => a.usesT nm + b.usesT nm
  | .prod a b => a.usesT nm + b.usesT nm
  | .loop a => a.usesT nm
  | _ => 0
theorem put_atoms (nm : List UInt8) (u : Ty) : ∀ (t : Ty), (t.put nm u).atoms + t.usesT nm = t.atoms + t.usesT nm * u.atoms
  | .zero => by simp [Ty.put, Ty.usesT]
  | .one => by simp [Ty.put, Ty.usesT]
  | .bound _ => by simp [Ty.put, Ty.usesT]
  | .name s => by
    simp only [Ty.put, Ty.usesT]
    split
    · simp [Ty.atoms]; omega
    · simp [Ty.atoms]
  | .sum a b => by
    have h1 := put_atoms nm u a
    have h2 := put_atoms nm u b
    simp only [Ty.put, Ty.usesT, Ty.atoms, Nat.add_mul]
    omega
  | .prod a b => by
    have h1 := put_atoms nm u a
    have h2 := put_atoms nm u b
    simp only [Ty.put, Ty.usesT, Ty.atoms, Nat.add_mul]
    omega
  | .loop a => by
    have h1 := put_atoms nm u a
    simp only [Ty.put, Ty.usesT, Ty.atoms]
    omega
theorem usesT_in (nm : List UInt8) (hp : paramB nm = false) : ∀ (n : NT) (env : List (List UInt8)), nm ∈ env → (n.db env).usesT nm = 0
  | .zero, _, _ => rfl
  | .one, _, _ => rfl
  | .name s, env, h => by
    simp only [NT.db]
    split
    · rename_i hs
      have : s ≠ nm := by rintro rfl; rw [hp] at hs; cases hs
      simp [Ty.usesT, this]
    · cases hl : look s env with
      | some k => rfl
      | none =>
        have : s ≠ nm := by rintro rfl; exact look_none.1 hl h
        simp [Ty.usesT, this]
  | .sum a b, env, h => by simp only [NT.db, Ty.usesT, usesT_in nm hp a env h, usesT_in nm hp b env h]
  | .prod a b, env, h => by simp only [NT.db, Ty.usesT, usesT_in nm hp a env h, usesT_in nm hp b env h]
  | .loop s a, env, h => by simp only [NT.db, Ty.usesT, usesT_in nm hp a (s :: env) (by simp [h])]
theorem usesT_out (nm : List UInt8) : ∀ (n : NT) (env : List (List UInt8)), n.ok3 → nm ∉ env → (∀ e ∈ env, paramB e = false) → (n.db env).usesT nm = n.uses nm
  | .zero, _, _, _, _ => rfl
  | .one, _, _, _, _ => rfl
  | .name s, env, _, h, _ => by
    simp only [NT.db, NT.uses]
    split
    · rfl
    · cases hl : look s env with
      | none => rfl
      | some k =>
        have : s ≠ nm := by rintro rfl; rw [look_none.2 h] at hl; cases hl
        simp [Ty.usesT, this]
  | .sum a b, env, hok, h, he => by simp only [NT.db, Ty.usesT, NT.uses, usesT_out nm a env hok.1 h he, usesT_out nm b env hok.2 h he]
  | .prod a b, env, hok, h, he => by simp only [NT.db, Ty.usesT, NT.uses, usesT_out nm a env hok.1 h he, usesT_out nm b env hok.2 h he]
  | .loop s a, env, hok, h, he => by
    simp only [NT.db, Ty.usesT, NT.uses]
    split
    · rename_i hs
      exact usesT_in nm (by rw [← hs]; exact hok.1.2) a (s :: env) (by simp [hs])
    · rename_i hs
      exact usesT_out nm a (s :: env) hok.2 (by simp only [List.mem_cons, not_or]; exact ⟨fun h2 => hs h2.symm, h⟩) (by
        intro e hm
        rcases List.mem_cons.1 hm with rfl | hm
        · exact hok.1.2
        · exact he e hm)
theorem atoms_pos : ∀ (n : NT), 1 ≤ n.atoms
  | .zero => by simp [NT.atoms]
  | .one => by simp [NT.atoms]
  | .name _ => by simp [NT.atoms]
  | .sum a b => by simp only [NT.atoms]; omega
  | .prod a b => by simp only [NT.atoms]; omega
  | .loop s a => by simp only [NT.atoms]; omega
/-- What l1Fits tells. -/
def fitsN (nm : List UInt8) (u n : NT) : Bool := decide ((n.atoms : Int) + (n.uses nm : Int) * ((u.atoms : Int) - 1) ≤ 400)
theorem fits_put (nm : List UInt8) (u n : NT) (hn : n.ok3) : fitsN nm u n = decide (((n.db []).put nm (u.db [])).atoms ≤ 400) := by
  have h1 := put_atoms nm (u.db []) (n.db [])
  rw [usesT_out nm n [] hn (by simp) (by simp), NT.db_atoms, NT.db_atoms] at h1
  have h2 : (n.uses nm : Int) * ((u.atoms : Int) - 1) = ((n.uses nm * u.atoms : Nat) : Int) - (n.uses nm : Int) := by
    rw [Int.mul_sub, Int.mul_one]
    simp
  rw [fitsN, h2]
  exact decide_eq_decide.2 (by omega)
theorem told_big {t : Ty} (h : ¬ t.atoms ≤ 400) : t.told = none := by rw [Ty.told, if_pos (by omega)]
/-- What l1Canon gives. -/
def canonN (n : NT) : Option (List UInt8) := if 400 < n.atoms then none else if rdTy n.apart.toTr.txt = none then none else some n.apart.toTr.txt
theorem canonN_told (n : NT) (hn : n.ok3) : canonN n = (n.db []).told := by rw [canonN, Ty.told, apart_txt n hn, NT.db_atoms]

end Go.Proofs.YtkciljcligohnaaDoor
